/- Part 13 of what the proof of the law FnMadeSystems rests on: contracts of functions of the program, for every argument that each names; no statement of the seat is proved here. -/
import Derived.Test.YtfnegaedkomcgaaGreatFnMadeSystemsPart12

set_option linter.all false
set_option maxRecDepth 20000
set_option maxHeartbeats 8000000
section
namespace Go.Proofs.YtfnegaedkomcgaaGreat
open Go.Ab Go.Sort

theorem prodEnd {H4 H : Heap} {k6 k7 k8 g1 g2 : Nat} {w : Int} {gs hs : List Int} (hp : H4 <+: H) (a6 : H[k6]? = some ⟨[.int .i64 0], true, true⟩) (a7 : H[k7]? = some ⟨[.pointer none], true, true⟩) (a8 : H[k8]? = some ⟨[.pointer none], true, true⟩)
  (b6 : H4.length <= k6) (b7 : H4.length <= k7) (b8 : H4.length <= k8) (hg1 : GridAt H g1 gs) (hg2 : GridAt H g2 hs) (n1 : k6 ≠ k7) (n2 : k6 ≠ k8) (n3 : k7 ≠ k8) (m1 : g1 ≠ k6 /\ g1 ≠ k7 /\ g1 ≠ k8) (m2 : g2 ≠ k6 /\ g2 ≠ k7 /\ g2 ≠ k8) :
  ∃ HA HB HC, storeAt H k6 0 [.int .i64 w] = some HA /\ storeAt HA k7 0 [.pointer (some ⟨g1, 0, none⟩)] = some HB /\ storeAt HB k8 0 [.pointer (some ⟨g2, 0, none⟩)] = some HC /\ H4 <+: HC /\
   Holds HC k6 [.int .i64 w] /\ Holds HC k7 [.pointer (some ⟨g1, 0, none⟩)] /\ Holds HC k8 [.pointer (some ⟨g2, 0, none⟩)] /\ GridAt HC g1 gs /\ GridAt HC g2 hs := by
 obtain ⟨s6, o6, e6, _⟩ := boxLate (cs := [.int .i64 w]) a6 (List.prefix_refl _) rfl rfl
 generalize H.set k6 ⟨[.int .i64 w], true, true⟩ = HA at s6 o6 e6
 have a7' := e6.get a7 (fun e => n1 e.symm)
 have a8' := e6.get a8 (fun e => n2 e.symm)
 obtain ⟨s7, o7, e7, _⟩ := boxLate (cs := [.pointer (some ⟨g1, 0, none⟩)]) a7' (List.prefix_refl _) rfl rfl
 generalize HA.set k7 ⟨[.pointer (some ⟨g1, 0, none⟩)], true, true⟩ = HB at s7 o7 e7
 have a8'' := e7.get a8' (fun e => n3 e.symm)
 obtain ⟨s8, o8, e8, _⟩ := boxLate (cs := [.pointer (some ⟨g2, 0, none⟩)]) a8'' (List.prefix_refl _) rfl rfl
 generalize HB.set k8 ⟨[.pointer (some ⟨g2, 0, none⟩)], true, true⟩ = HC at s8 o8 e8
 have p1 : H4 <+: HA := ((Same.of_prefix hp).trans e6).prefix (by rintro j hj rfl; omega)
 have p2 : H4 <+: HB := ((Same.of_prefix p1).trans e7).prefix (by rintro j hj rfl; omega)
 have p3 : H4 <+: HC := ((Same.of_prefix p2).trans e8).prefix (by rintro j hj rfl; omega)
 exact ⟨HA, HB, HC, s6, s7, s8, p3, (o6.keepS e7 n1).keepS e8 n2, o7.keepS e8 n3, o8,
  ⟨e8.get (e7.get (e6.get hg1.1 m1.1) m1.2.1) m1.2.2, hg1.2⟩, ⟨e8.get (e7.get (e6.get hg2.1 m2.1) m2.2.1) m2.2.2, hg2.2⟩⟩
theorem prodEnd2 {H4 H : Heap} {k6 k7 k8 g1 g2 : Nat} {w : Int} {gs hs : List Int} (hp : H4 <+: H) (a6 : H[k6]? = some ⟨[.int .i64 w], true, true⟩) (a7 : H[k7]? = some ⟨[.pointer none], true, true⟩) (a8 : H[k8]? = some ⟨[.pointer none], true, true⟩)
  (b6 : H4.length <= k6) (b7 : H4.length <= k7) (b8 : H4.length <= k8) (hg1 : GridAt H g1 gs) (hg2 : GridAt H g2 hs) (n1 : k6 ≠ k7) (n2 : k6 ≠ k8) (n3 : k7 ≠ k8) (m1 : g1 ≠ k6 /\ g1 ≠ k7 /\ g1 ≠ k8) (m2 : g2 ≠ k6 /\ g2 ≠ k7 /\ g2 ≠ k8) :
  ∃ HB HC, storeAt H k7 0 [.pointer (some ⟨g1, 0, none⟩)] = some HB /\ storeAt HB k8 0 [.pointer (some ⟨g2, 0, none⟩)] = some HC /\ H4 <+: HC /\
   Holds HC k6 [.int .i64 w] /\ Holds HC k7 [.pointer (some ⟨g1, 0, none⟩)] /\ Holds HC k8 [.pointer (some ⟨g2, 0, none⟩)] /\ GridAt HC g1 gs /\ GridAt HC g2 hs := by
 obtain ⟨s7, o7, e7, _⟩ := boxLate (cs := [.pointer (some ⟨g1, 0, none⟩)]) a7 (List.prefix_refl _) rfl rfl
 generalize H.set k7 ⟨[.pointer (some ⟨g1, 0, none⟩)], true, true⟩ = HB at s7 o7 e7
 have a8'' := e7.get a8 (fun e => n3 e.symm)
 obtain ⟨s8, o8, e8, _⟩ := boxLate (cs := [.pointer (some ⟨g2, 0, none⟩)]) a8'' (List.prefix_refl _) rfl rfl
 generalize HB.set k8 ⟨[.pointer (some ⟨g2, 0, none⟩)], true, true⟩ = HC at s8 o8 e8
 have p2 : H4 <+: HB := ((Same.of_prefix hp).trans e7).prefix (by rintro j hj rfl; omega)
 have p3 : H4 <+: HC := ((Same.of_prefix p2).trans e8).prefix (by rintro j hj rfl; omega)
 exact ⟨HB, HC, s7, s8, p3, ⟨true, e8.get (e7.get a6 n1) n2⟩, o7.keepS e8 n3, o8,
  ⟨e8.get (e7.get hg1.1 m1.2.1) m1.2.2, hg1.2⟩, ⟨e8.get (e7.get hg2.1 m2.2.1) m2.2.2, hg2.2⟩⟩
theorem prodEnd1 {H4 H : Heap} {k6 k7 k8 g1 g2 : Nat} {w : Int} {gs hs : List Int} (hp : H4 <+: H) (a6 : H[k6]? = some ⟨[.int .i64 w], true, true⟩) (a7 : H[k7]? = some ⟨[.pointer (some ⟨g1, 0, none⟩)], true, true⟩) (a8 : H[k8]? = some ⟨[.pointer none], true, true⟩)
  (b6 : H4.length <= k6) (b7 : H4.length <= k7) (b8 : H4.length <= k8) (hg1 : GridAt H g1 gs) (hg2 : GridAt H g2 hs) (n1 : k6 ≠ k7) (n2 : k6 ≠ k8) (n3 : k7 ≠ k8) (m1 : g1 ≠ k6 /\ g1 ≠ k7 /\ g1 ≠ k8) (m2 : g2 ≠ k6 /\ g2 ≠ k7 /\ g2 ≠ k8) :
  ∃ HC, storeAt H k8 0 [.pointer (some ⟨g2, 0, none⟩)] = some HC /\ H4 <+: HC /\
   Holds HC k6 [.int .i64 w] /\ Holds HC k7 [.pointer (some ⟨g1, 0, none⟩)] /\ Holds HC k8 [.pointer (some ⟨g2, 0, none⟩)] /\ GridAt HC g1 gs /\ GridAt HC g2 hs := by
 obtain ⟨s8, o8, e8, _⟩ := boxLate (cs := [.pointer (some ⟨g2, 0, none⟩)]) a8 (List.prefix_refl _) rfl rfl
 generalize H.set k8 ⟨[.pointer (some ⟨g2, 0, none⟩)], true, true⟩ = HC at s8 o8 e8
 have p3 : H4 <+: HC := ((Same.of_prefix hp).trans e8).prefix (by rintro j hj rfl; omega)
 exact ⟨HC, s8, p3, ⟨true, e8.get a6 n2⟩, ⟨true, e8.get a7 n3⟩, o8, ⟨e8.get hg1.1 m1.2.2, hg1.2⟩, ⟨e8.get hg2.1 m2.2.2, hg2.2⟩⟩
theorem GridAt.lt {H : Heap} {id : Nat} {gs : List Int} (h : GridAt H id gs) : id < H.length := (List.getElem?_eq_some_iff.1 h.1).1

theorem implProd_ok {H : Heap} {u v : Value} {p q : Int} {bs cs : List Bk} (hu : BlocksAt H u bs) (hl : bs.length <= 1048576) (hv : BlocksAt H v cs) (hl' : cs.length <= 1048576) (Post : Value -> Heap -> Prop)
  (h : ∀ H' z, H <+: H' -> BlocksIn H.length H'.length H' z (rProd p bs q cs).1.2 -> Post (.tuple #[sysV (rProd p bs q cs).1.1 z, .int .i64 (rProd p bs q cs).2]) H') :
  ACalls Tryz.prog 12 [sysV p u, sysV q v] H Post := by
 have ou := hu.one
 have ov := hv.one
 refine ACalls.res ?_
 refine acalls_vc (rs := [.cell 4 26, .tmp 5]) Tryz.func12 rfl rfl Tryz.ntmps12 rfl rfl ?_
 simp (maxSteps := 1000000) [go_sem, sysV, ou, ov]
 have hp0 : H <+: H ++ [⟨[.int .i64 p, u], true, true⟩, ⟨[.int .i64 q, v], true, true⟩, ⟨[.int .i64 0, .slice none 0 0], true, true⟩] := List.prefix_append _ _
 have hx0 : Holds (H ++ [⟨[.int .i64 p, u], true, true⟩, ⟨[.int .i64 q, v], true, true⟩, ⟨[.int .i64 0, .slice none 0 0], true, true⟩]) H.length [.int .i64 p, u] := ⟨true, by simp⟩
 have hy0 : Holds (H ++ [⟨[.int .i64 p, u], true, true⟩, ⟨[.int .i64 q, v], true, true⟩, ⟨[.int .i64 0, .slice none 0 0], true, true⟩]) (H.length + 1) [.int .i64 q, v] := ⟨true, by simp⟩
 have hb0 : (H ++ [(⟨[.int .i64 p, u], true, true⟩ : Blk), ⟨[.int .i64 q, v], true, true⟩, ⟨[.int .i64 0, .slice none 0 0], true, true⟩])[H.length + 2]? = some ⟨[.int .i64 0, .slice none 0 0], true, true⟩ := by simp
 have hlen0 : (H ++ [(⟨[.int .i64 p, u], true, true⟩ : Blk), ⟨[.int .i64 q, v], true, true⟩, ⟨[.int .i64 0, .slice none 0 0], true, true⟩]).length = H.length + 3 := by simp
 generalize H ++ [(⟨[.int .i64 p, u], true, true⟩ : Blk), ⟨[.int .i64 q, v], true, true⟩, ⟨[.int .i64 0, .slice none 0 0], true, true⟩] = H0 at hp0 hx0 hy0 hb0 hlen0 ⊢
 have bad := bad_sys hp0 (show H.length <= H.length + 2 by omega) hb0 h
 refine implIsSys (hu.pre hp0) _ ?_
 intro H1 hp1
 cases hs : sysB p bs with
 | false =>
  obtain ⟨H9, q1, q2, fin⟩ := bad H1 1 hp1 (by rw [rProd, hs]; simp)
  simp (maxSteps := 1000000) [go_sem, undef, q1, q2]
  exact fin
 | true =>
 obtain ⟨e0, e1, e2⟩ := (hy0.pre hp1).sys
 simp (maxSteps := 1000000) [go_sem, undef, e0, e1, e2]
 refine implIsSys (hv.pre (hp0.trans hp1)) _ ?_
 intro H2 hp2
 have hp02 := hp1.trans hp2
 cases hs' : sysB q cs with
 | false =>
  obtain ⟨H9, q1, q2, fin⟩ := bad H2 1 hp02 (by rw [rProd, hs, hs']; simp)
  simp (maxSteps := 1000000) [go_sem, undef, q1, q2]
  exact fin
 | true =>
 obtain ⟨d0, d1, d2⟩ := (hx0.pre hp02).sys
 have hS := sysB_iff.1 hs
 have hS' := sysB_iff.1 hs'
 have hpx := hS.1
 have hqx := hS'.1
 simp (maxSteps := 1000000) [go_sem, undef, d0, d1, d2]
 refine isFull_ok (hu.pre (hp0.trans hp02)) hpx hl _ ?_
 intro H3 hp3
 have hp03 := hp02.trans hp3
 cases hf : fullB p bs with
 | false =>
  obtain ⟨H9, q1, q2, fin⟩ := bad H3 5 hp03 (by rw [rProd, hs, hs', hf]; simp)
  simp (maxSteps := 1000000) [go_sem, undef, q1, q2]
  exact fin
 | true =>
 obtain ⟨e0, e1, e2⟩ := (hy0.pre hp03).sys
 simp (maxSteps := 1000000) [go_sem, undef, e0, e1, e2]
 refine isFull_ok (hv.pre (hp0.trans hp03)) hqx hl' _ ?_
 intro H4 hp4
 have hp04 := hp03.trans hp4
 cases hf' : fullB q cs with
 | false =>
  obtain ⟨H9, q1, q2, fin⟩ := bad H4 5 hp04 (by rw [rProd, hs, hs', hf, hf']; simp)
  simp (maxSteps := 1000000) [go_sem, undef, q1, q2]
  exact fin
 | true =>
 obtain ⟨d0, d1, d2⟩ := (hx0.pre hp04).sys
 obtain ⟨e0, e1, e2⟩ := (hy0.pre hp04).sys
 have hpq : p * q <= 15 * 15 := Int.mul_le_mul hpx.2 hqx.2 (by omega) (by omega)
 have hpq0 : 0 <= p * q := Int.mul_nonneg (by omega) (by omega)
 have wpq : IntKind.i64.wrap (p * q) = p * q := i64w (by omega) (by omega)
 by_cases hbig : p * q <= 15
 ·have hbn : ¬ (15 < p * q) := by omega
  have hr : rProd p bs q cs = ((p * q, (triples (p * q).toNat).filter (prodB bs cs q.toNat)), 0) := by rw [rProd, hs, hs', hf, hf']; simp [hbig]
  obtain ⟨n, hn⟩ : ∃ n : Nat, p * q = n := ⟨(p * q).toNat, by omega⟩
  obtain ⟨w, rfl⟩ : ∃ w : Nat, q = w := ⟨q.toNat, by omega⟩
  rw [hn] at hr wpq hbn hbig
  rw [Int.toNat_natCast, Int.toNat_natCast] at hr
  have w0 : (w : Int) ≠ 0 := by omega
  have w00 : w ≠ 0 := by omega
  have hn15 : n <= 15 := by omega
  simp (maxSteps := 1000000) [go_sem, undef, d0, d1, d2, e0, e1, e2, hn, wpq, hbn]
  have gx : ∀ x ∈ bs, good 15 x = true := hS.good15
  have gy : ∀ x ∈ cs, good 15 x = true := hS'.good15
  have hFx := hS.2.2.2
  have hFy := hS'.2.2.2
  refine AWp.regCut (St := Nat × Nat × Nat) (fun s => [(6, .pointer (some ⟨s.1, 0, none⟩)), (7, .pointer (some ⟨s.2.1, 0, none⟩)), (8, .pointer (some ⟨s.2.2, 0, none⟩))])
   (fun s H' => H4 <+: H' /\ ∃ (g1 g2 : Nat) (gs hs : List Int), Holds H' s.1 [.int .i64 w] /\ Holds H' s.2.1 [.pointer (some ⟨g1, 0, none⟩)] /\ Holds H' s.2.2 [.pointer (some ⟨g2, 0, none⟩)] /\ GridAt H' g1 gs /\ GridAt H' g2 hs /\ GridOf gs bs /\ GridOf hs cs) ?_ ?_
  ·intro Q' hQ'
   have hq0 : H4 <+: H4 := List.prefix_refl _
   have hx4 := hx0.pre hp04
   have hy4 := hy0.pre hp04
   refine AWp.drawG mixed [6, 7, 8] [(0, false), (1, false), (2, false), (4, false), (3, true), (5, true), (6, true), (7, true), (8, true), (9, false), (10, false), (11, false)] (.one 0 false (.one 1 false (.one 2 false (.one 4 false (.alt 6 (.alt 7 (.alt 8 (.one 3 true (.one 5 true (.one 9 false (.one 10 false (.one 11 false .nil))))) (.one 3 true (.alt 8 (.one 5 true (.one 9 false (.one 10 false (.one 11 false .nil)))) (.one 5 true (.one 8 true (.one 9 false (.one 10 false (.one 11 false .nil)))))))) (.alt 8 (.alt 7 (.one 3 true (.one 5 true (.one 9 false (.one 10 false (.one 11 false .nil))))) (.one 3 true (.alt 7 (.one 5 true (.one 9 false (.one 10 false (.one 11 false .nil)))) (.one 5 true (.one 7 true (.one 9 false (.one 10 false (.one 11 false .nil)))))))) (.one 3 true (.alt 7 (.alt 8 (.one 5 true (.one 9 false (.one 10 false (.one 11 false .nil)))) (.one 5 true (.one 8 true (.one 9 false (.one 10 false (.one 11 false .nil)))))) (.alt 8 (.alt 7 (.one 5 true (.one 9 false (.one 10 false (.one 11 false .nil)))) (.one 5 true (.one 7 true (.one 9 false (.one 10 false (.one 11 false .nil)))))) (.one 5 true (.alt 8 (.one 7 true (.one 9 false (.one 10 false (.one 11 false .nil)))) (.one 7 true (.one 8 true (.one 9 false (.one 10 false (.one 11 false .nil)))))))))))) (.alt 7 (.alt 6 (.alt 8 (.one 3 true (.one 5 true (.one 9 false (.one 10 false (.one 11 false .nil))))) (.one 3 true (.alt 8 (.one 5 true (.one 9 false (.one 10 false (.one 11 false .nil)))) (.one 5 true (.one 8 true (.one 9 false (.one 10 false (.one 11 false .nil)))))))) (.alt 8 (.alt 6 (.one 3 true (.one 5 true (.one 9 false (.one 10 false (.one 11 false .nil))))) (.one 3 true (.alt 6 (.one 5 true (.one 9 false (.one 10 false (.one 11 false .nil)))) (.one 5 true (.one 6 true (.one 9 false (.one 10 false (.one 11 false .nil)))))))) (.one 3 true (.alt 6 (.alt 8 (.one 5 true (.one 9 false (.one 10 false (.one 11 false .nil)))) (.one 5 true (.one 8 true (.one 9 false (.one 10 false (.one 11 false .nil)))))) (.alt 8 (.alt 6 (.one 5 true (.one 9 false (.one 10 false (.one 11 false .nil)))) (.one 5 true (.one 6 true (.one 9 false (.one 10 false (.one 11 false .nil)))))) (.one 5 true (.alt 8 (.one 6 true (.one 9 false (.one 10 false (.one 11 false .nil)))) (.one 6 true (.one 8 true (.one 9 false (.one 10 false (.one 11 false .nil)))))))))))) (.alt 8 (.alt 6 (.alt 7 (.one 3 true (.one 5 true (.one 9 false (.one 10 false (.one 11 false .nil))))) (.one 3 true (.alt 7 (.one 5 true (.one 9 false (.one 10 false (.one 11 false .nil)))) (.one 5 true (.one 7 true (.one 9 false (.one 10 false (.one 11 false .nil)))))))) (.alt 7 (.alt 6 (.one 3 true (.one 5 true (.one 9 false (.one 10 false (.one 11 false .nil))))) (.one 3 true (.alt 6 (.one 5 true (.one 9 false (.one 10 false (.one 11 false .nil)))) (.one 5 true (.one 6 true (.one 9 false (.one 10 false (.one 11 false .nil)))))))) (.one 3 true (.alt 6 (.alt 7 (.one 5 true (.one 9 false (.one 10 false (.one 11 false .nil)))) (.one 5 true (.one 7 true (.one 9 false (.one 10 false (.one 11 false .nil)))))) (.alt 7 (.alt 6 (.one 5 true (.one 9 false (.one 10 false (.one 11 false .nil)))) (.one 5 true (.one 6 true (.one 9 false (.one 10 false (.one 11 false .nil)))))) (.one 5 true (.alt 7 (.one 6 true (.one 9 false (.one 10 false (.one 11 false .nil)))) (.one 6 true (.one 7 true (.one 9 false (.one 10 false (.one 11 false .nil)))))))))))) (.one 3 true (.alt 6 (.alt 7 (.alt 8 (.one 5 true (.one 9 false (.one 10 false (.one 11 false .nil)))) (.one 5 true (.one 8 true (.one 9 false (.one 10 false (.one 11 false .nil)))))) (.alt 8 (.alt 7 (.one 5 true (.one 9 false (.one 10 false (.one 11 false .nil)))) (.one 5 true (.one 7 true (.one 9 false (.one 10 false (.one 11 false .nil)))))) (.one 5 true (.alt 8 (.one 7 true (.one 9 false (.one 10 false (.one 11 false .nil)))) (.one 7 true (.one 8 true (.one 9 false (.one 10 false (.one 11 false .nil))))))))) (.alt 7 (.alt 6 (.alt 8 (.one 5 true (.one 9 false (.one 10 false (.one 11 false .nil)))) (.one 5 true (.one 8 true (.one 9 false (.one 10 false (.one 11 false .nil)))))) (.alt 8 (.alt 6 (.one 5 true (.one 9 false (.one 10 false (.one 11 false .nil)))) (.one 5 true (.one 6 true (.one 9 false (.one 10 false (.one 11 false .nil)))))) (.one 5 true (.alt 8 (.one 6 true (.one 9 false (.one 10 false (.one 11 false .nil)))) (.one 6 true (.one 8 true (.one 9 false (.one 10 false (.one 11 false .nil))))))))) (.alt 8 (.alt 6 (.alt 7 (.one 5 true (.one 9 false (.one 10 false (.one 11 false .nil)))) (.one 5 true (.one 7 true (.one 9 false (.one 10 false (.one 11 false .nil)))))) (.alt 7 (.alt 6 (.one 5 true (.one 9 false (.one 10 false (.one 11 false .nil)))) (.one 5 true (.one 6 true (.one 9 false (.one 10 false (.one 11 false .nil)))))) (.one 5 true (.alt 7 (.one 6 true (.one 9 false (.one 10 false (.one 11 false .nil)))) (.one 6 true (.one 7 true (.one 9 false (.one 10 false (.one 11 false .nil))))))))) (.one 5 true (.alt 7 (.alt 8 (.one 6 true (.one 9 false (.one 10 false (.one 11 false .nil)))) (.one 6 true (.one 8 true (.one 9 false (.one 10 false (.one 11 false .nil)))))) (.alt 8 (.alt 7 (.one 6 true (.one 9 false (.one 10 false (.one 11 false .nil)))) (.one 6 true (.one 7 true (.one 9 false (.one 10 false (.one 11 false .nil)))))) (.one 6 true (.alt 8 (.one 7 true (.one 9 false (.one 10 false (.one 11 false .nil)))) (.one 7 true (.one 8 true (.one 9 false (.one 10 false (.one 11 false .nil))))))))))))))))))))) (by kernel_rfl) ?_
   try simp (maxSteps := 1000000) [go_sem, d0, d1, d2, e0, e1, e2]
   refine vG_alt ?_ ?_
   ·skip
    try simp (maxSteps := 1000000) [go_sem, d0, d1, d2, e0, e1, e2]
    have hp1 : H4 <+: H4 ++ [(⟨[.int .i64 0], true, true⟩ : Blk)] := List.prefix_append _ _
    have az1_6 : (H4 ++ [(⟨[.int .i64 0], true, true⟩ : Blk)])[H4.length]? = some ⟨[.int .i64 0], true, true⟩ := by simp
    have hl1 : (H4 ++ [(⟨[.int .i64 0], true, true⟩ : Blk)]).length = H4.length + 1 := by simp
    obtain ⟨b1, hb1e⟩ : ∃ b, H4.length = b := ⟨_, rfl⟩
    generalize H4 ++ [(⟨[.int .i64 0], true, true⟩ : Blk)] = Hg1 at hp1 hl1 az1_6 ⊢
    rw [hb1e] at hl1 az1_6
    try rw [hb1e]
    have hq1 := (hq0).trans hp1
    have hle1 := hp1.length_le
    obtain ⟨d0, d1, d2⟩ := (hx4.pre hq1).sys
    obtain ⟨e0, e1, e2⟩ := (hy4.pre hq1).sys
    refine vG_alt ?_ ?_
    ·skip
     try simp (maxSteps := 1000000) [go_sem, d0, d1, d2, e0, e1, e2]
     have hp2 : Hg1 <+: Hg1 ++ [(⟨[.pointer none], true, true⟩ : Blk)] := List.prefix_append _ _
     have az2_7 : (Hg1 ++ [(⟨[.pointer none], true, true⟩ : Blk)])[Hg1.length]? = some ⟨[.pointer none], true, true⟩ := by simp
     have hl2 : (Hg1 ++ [(⟨[.pointer none], true, true⟩ : Blk)]).length = Hg1.length + 1 := by simp
     obtain ⟨b2, hb2e⟩ : ∃ b, Hg1.length = b := ⟨_, rfl⟩
     generalize Hg1 ++ [(⟨[.pointer none], true, true⟩ : Blk)] = Hg2 at hp2 hl2 az2_7 ⊢
     rw [hb2e] at hl2 az2_7
     try rw [hb2e]
     have hq2 := (hq1).trans hp2
     have az2_6 := pget hp2 az1_6
     have hle2 := hp2.length_le
     obtain ⟨d0, d1, d2⟩ := (hx4.pre hq2).sys
     obtain ⟨e0, e1, e2⟩ := (hy4.pre hq2).sys
     refine vG_alt ?_ ?_
     ·skip
      try simp (maxSteps := 1000000) [go_sem, d0, d1, d2, e0, e1, e2]
      have hp3 : Hg2 <+: Hg2 ++ [(⟨[.pointer none], true, true⟩ : Blk)] := List.prefix_append _ _
      have az3_8 : (Hg2 ++ [(⟨[.pointer none], true, true⟩ : Blk)])[Hg2.length]? = some ⟨[.pointer none], true, true⟩ := by simp
      have hl3 : (Hg2 ++ [(⟨[.pointer none], true, true⟩ : Blk)]).length = Hg2.length + 1 := by simp
      obtain ⟨b3, hb3e⟩ : ∃ b, Hg2.length = b := ⟨_, rfl⟩
      generalize Hg2 ++ [(⟨[.pointer none], true, true⟩ : Blk)] = Hg3 at hp3 hl3 az3_8 ⊢
      rw [hb3e] at hl3 az3_8
      try rw [hb3e]
      have hq3 := (hq2).trans hp3
      have az3_6 := pget hp3 az2_6
      have az3_7 := pget hp3 az2_7
      have hle3 := hp3.length_le
      obtain ⟨d0, d1, d2⟩ := (hx4.pre hq3).sys
      obtain ⟨e0, e1, e2⟩ := (hy4.pre hq3).sys
      refine sysGrid_ok ((hu.pre (hp0.trans hp04)).pre hq3) gx hFx _ ?_
      intro Hg4 g4 gs4 hp4 hge4 hga4_1 hgo4
      have hq4 := (hq3).trans hp4
      have az4_6 := pget hp4 az3_6
      have az4_7 := pget hp4 az3_7
      have az4_8 := pget hp4 az3_8
      have hlt4 := GridAt.lt hga4_1
      have hle4 := hp4.length_le
      obtain ⟨d0, d1, d2⟩ := (hx4.pre hq4).sys
      obtain ⟨e0, e1, e2⟩ := (hy4.pre hq4).sys
      try simp (maxSteps := 1000000) [go_sem, d0, d1, d2, e0, e1, e2, hp4]
      refine sysGrid_ok ((hv.pre (hp0.trans hp04)).pre hq4) gy hFy _ ?_
      intro Hg5 g5 gs5 hp5 hge5 hga5_2 hgo5
      have hq5 := (hq4).trans hp5
      have az5_6 := pget hp5 az4_6
      have az5_7 := pget hp5 az4_7
      have az5_8 := pget hp5 az4_8
      have hga5_1 := hga4_1.keep hp5
      have hlt5 := GridAt.lt hga5_2
      have hle5 := hp5.length_le
      obtain ⟨d0, d1, d2⟩ := (hx4.pre hq5).sys
      obtain ⟨e0, e1, e2⟩ := (hy4.pre hq5).sys
      try simp (maxSteps := 1000000) [go_sem, d0, d1, d2, e0, e1, e2, hp5]
      have lt6 := (List.getElem?_eq_some_iff.1 az5_6).1
      have lt7 := (List.getElem?_eq_some_iff.1 az5_7).1
      have lt8 := (List.getElem?_eq_some_iff.1 az5_8).1
      have hl4 := (hq5).length_le
      obtain ⟨HA, HB, HC, s6, s7, s8, hpC, o6, o7, o8, G1, G2⟩ := prodEnd (w := w) hq5 az5_6 az5_7 az5_8 (by omega) (by omega) (by omega) hga5_1 hga5_2 (by omega) (by omega) (by omega) (by omega) (by omega)
      simp (maxSteps := 1000000) [go_sem, s6, s7, s8]
      exact hQ' ((b1), (b2), (b3)) _ _ (by simp [upF, Fr.get, Up.refl]) ⟨hpC, _, _, _, _, o6, o7, o8, G1, G2, hgo4, hgo5⟩
     ·skip
      try simp (maxSteps := 1000000) [go_sem, d0, d1, d2, e0, e1, e2]
      refine sysGrid_ok ((hu.pre (hp0.trans hp04)).pre hq2) gx hFx _ ?_
      intro Hg6 g6 gs6 hp6 hge6 hga6_1 hgo6
      have hq6 := (hq2).trans hp6
      have az6_6 := pget hp6 az2_6
      have az6_7 := pget hp6 az2_7
      have hlt6 := GridAt.lt hga6_1
      have hle6 := hp6.length_le
      obtain ⟨d0, d1, d2⟩ := (hx4.pre hq6).sys
      obtain ⟨e0, e1, e2⟩ := (hy4.pre hq6).sys
      try simp (maxSteps := 1000000) [go_sem, d0, d1, d2, e0, e1, e2, hp6]
      refine vG_alt ?_ ?_
      ·skip
       try simp (maxSteps := 1000000) [go_sem, d0, d1, d2, e0, e1, e2, hp6]
       have hp7 : Hg6 <+: Hg6 ++ [(⟨[.pointer none], true, true⟩ : Blk)] := List.prefix_append _ _
       have az7_8 : (Hg6 ++ [(⟨[.pointer none], true, true⟩ : Blk)])[Hg6.length]? = some ⟨[.pointer none], true, true⟩ := by simp
       have hl7 : (Hg6 ++ [(⟨[.pointer none], true, true⟩ : Blk)]).length = Hg6.length + 1 := by simp
       obtain ⟨b7, hb7e⟩ : ∃ b, Hg6.length = b := ⟨_, rfl⟩
       generalize Hg6 ++ [(⟨[.pointer none], true, true⟩ : Blk)] = Hg7 at hp7 hl7 az7_8 ⊢
       rw [hb7e] at hl7 az7_8
       try rw [hb7e]
       have hq7 := (hq6).trans hp7
       have az7_6 := pget hp7 az6_6
       have az7_7 := pget hp7 az6_7
       have hga7_1 := hga6_1.keep hp7
       have hle7 := hp7.length_le
       obtain ⟨d0, d1, d2⟩ := (hx4.pre hq7).sys
       obtain ⟨e0, e1, e2⟩ := (hy4.pre hq7).sys
       refine sysGrid_ok ((hv.pre (hp0.trans hp04)).pre hq7) gy hFy _ ?_
       intro Hg8 g8 gs8 hp8 hge8 hga8_2 hgo8
       have hq8 := (hq7).trans hp8
       have az8_6 := pget hp8 az7_6
       have az8_7 := pget hp8 az7_7
       have az8_8 := pget hp8 az7_8
       have hga8_1 := hga7_1.keep hp8
       have hlt8 := GridAt.lt hga8_2
       have hle8 := hp8.length_le
       obtain ⟨d0, d1, d2⟩ := (hx4.pre hq8).sys
       obtain ⟨e0, e1, e2⟩ := (hy4.pre hq8).sys
       try simp (maxSteps := 1000000) [go_sem, d0, d1, d2, e0, e1, e2, hp8]
       have lt6 := (List.getElem?_eq_some_iff.1 az8_6).1
       have lt7 := (List.getElem?_eq_some_iff.1 az8_7).1
       have lt8 := (List.getElem?_eq_some_iff.1 az8_8).1
       have hl4 := (hq8).length_le
       obtain ⟨HA, HB, HC, s6, s7, s8, hpC, o6, o7, o8, G1, G2⟩ := prodEnd (w := w) hq8 az8_6 az8_7 az8_8 (by omega) (by omega) (by omega) hga8_1 hga8_2 (by omega) (by omega) (by omega) (by omega) (by omega)
       simp (maxSteps := 1000000) [go_sem, s6, s7, s8]
       exact hQ' ((b1), (b2), (b7)) _ _ (by simp [upF, Fr.get, Up.refl]) ⟨hpC, _, _, _, _, o6, o7, o8, G1, G2, hgo6, hgo8⟩
      ·skip
       try simp (maxSteps := 1000000) [go_sem, d0, d1, d2, e0, e1, e2, hp6]
       refine sysGrid_ok ((hv.pre (hp0.trans hp04)).pre hq6) gy hFy _ ?_
       intro Hg9 g9 gs9 hp9 hge9 hga9_2 hgo9
       have hq9 := (hq6).trans hp9
       have az9_6 := pget hp9 az6_6
       have az9_7 := pget hp9 az6_7
       have hga9_1 := hga6_1.keep hp9
       have hlt9 := GridAt.lt hga9_2
       have hle9 := hp9.length_le
       obtain ⟨d0, d1, d2⟩ := (hx4.pre hq9).sys
       obtain ⟨e0, e1, e2⟩ := (hy4.pre hq9).sys
       try simp (maxSteps := 1000000) [go_sem, d0, d1, d2, e0, e1, e2, hp9]
       have hp10 : Hg9 <+: Hg9 ++ [(⟨[.pointer none], true, true⟩ : Blk)] := List.prefix_append _ _
       have az10_8 : (Hg9 ++ [(⟨[.pointer none], true, true⟩ : Blk)])[Hg9.length]? = some ⟨[.pointer none], true, true⟩ := by simp
       have hl10 : (Hg9 ++ [(⟨[.pointer none], true, true⟩ : Blk)]).length = Hg9.length + 1 := by simp
       obtain ⟨b10, hb10e⟩ : ∃ b, Hg9.length = b := ⟨_, rfl⟩
       generalize Hg9 ++ [(⟨[.pointer none], true, true⟩ : Blk)] = Hg10 at hp10 hl10 az10_8 ⊢
       rw [hb10e] at hl10 az10_8
       try rw [hb10e]
       have hq10 := (hq9).trans hp10
       have az10_6 := pget hp10 az9_6
       have az10_7 := pget hp10 az9_7
       have hga10_1 := hga9_1.keep hp10
       have hga10_2 := hga9_2.keep hp10
       have hle10 := hp10.length_le
       obtain ⟨d0, d1, d2⟩ := (hx4.pre hq10).sys
       obtain ⟨e0, e1, e2⟩ := (hy4.pre hq10).sys
       have lt6 := (List.getElem?_eq_some_iff.1 az10_6).1
       have lt7 := (List.getElem?_eq_some_iff.1 az10_7).1
       have lt8 := (List.getElem?_eq_some_iff.1 az10_8).1
       have hl4 := (hq10).length_le
       obtain ⟨HA, HB, HC, s6, s7, s8, hpC, o6, o7, o8, G1, G2⟩ := prodEnd (w := w) hq10 az10_6 az10_7 az10_8 (by omega) (by omega) (by omega) hga10_1 hga10_2 (by omega) (by omega) (by omega) (by omega) (by omega)
       simp (maxSteps := 1000000) [go_sem, s6, s7, s8]
       exact hQ' ((b1), (b2), (b10)) _ _ (by simp [upF, Fr.get, Up.refl]) ⟨hpC, _, _, _, _, o6, o7, o8, G1, G2, hgo6, hgo9⟩
    ·skip
     refine vG_alt ?_ ?_
     ·skip
      try simp (maxSteps := 1000000) [go_sem, d0, d1, d2, e0, e1, e2]
      have hp11 : Hg1 <+: Hg1 ++ [(⟨[.pointer none], true, true⟩ : Blk)] := List.prefix_append _ _
      have az11_8 : (Hg1 ++ [(⟨[.pointer none], true, true⟩ : Blk)])[Hg1.length]? = some ⟨[.pointer none], true, true⟩ := by simp
      have hl11 : (Hg1 ++ [(⟨[.pointer none], true, true⟩ : Blk)]).length = Hg1.length + 1 := by simp
      obtain ⟨b11, hb11e⟩ : ∃ b, Hg1.length = b := ⟨_, rfl⟩
      generalize Hg1 ++ [(⟨[.pointer none], true, true⟩ : Blk)] = Hg11 at hp11 hl11 az11_8 ⊢
      rw [hb11e] at hl11 az11_8
      try rw [hb11e]
      have hq11 := (hq1).trans hp11
      have az11_6 := pget hp11 az1_6
      have hle11 := hp11.length_le
      obtain ⟨d0, d1, d2⟩ := (hx4.pre hq11).sys
      obtain ⟨e0, e1, e2⟩ := (hy4.pre hq11).sys
      refine vG_alt ?_ ?_
      ·skip
       try simp (maxSteps := 1000000) [go_sem, d0, d1, d2, e0, e1, e2]
       have hp12 : Hg11 <+: Hg11 ++ [(⟨[.pointer none], true, true⟩ : Blk)] := List.prefix_append _ _
       have az12_7 : (Hg11 ++ [(⟨[.pointer none], true, true⟩ : Blk)])[Hg11.length]? = some ⟨[.pointer none], true, true⟩ := by simp
       have hl12 : (Hg11 ++ [(⟨[.pointer none], true, true⟩ : Blk)]).length = Hg11.length + 1 := by simp
       obtain ⟨b12, hb12e⟩ : ∃ b, Hg11.length = b := ⟨_, rfl⟩
       generalize Hg11 ++ [(⟨[.pointer none], true, true⟩ : Blk)] = Hg12 at hp12 hl12 az12_7 ⊢
       rw [hb12e] at hl12 az12_7
       try rw [hb12e]
       have hq12 := (hq11).trans hp12
       have az12_6 := pget hp12 az11_6
       have az12_8 := pget hp12 az11_8
       have hle12 := hp12.length_le
       obtain ⟨d0, d1, d2⟩ := (hx4.pre hq12).sys
       obtain ⟨e0, e1, e2⟩ := (hy4.pre hq12).sys
       refine sysGrid_ok ((hu.pre (hp0.trans hp04)).pre hq12) gx hFx _ ?_
       intro Hg13 g13 gs13 hp13 hge13 hga13_1 hgo13
       have hq13 := (hq12).trans hp13
       have az13_6 := pget hp13 az12_6
       have az13_8 := pget hp13 az12_8
       have az13_7 := pget hp13 az12_7
       have hlt13 := GridAt.lt hga13_1
       have hle13 := hp13.length_le
       obtain ⟨d0, d1, d2⟩ := (hx4.pre hq13).sys
       obtain ⟨e0, e1, e2⟩ := (hy4.pre hq13).sys
       try simp (maxSteps := 1000000) [go_sem, d0, d1, d2, e0, e1, e2, hp13]
       refine sysGrid_ok ((hv.pre (hp0.trans hp04)).pre hq13) gy hFy _ ?_
       intro Hg14 g14 gs14 hp14 hge14 hga14_2 hgo14
       have hq14 := (hq13).trans hp14
       have az14_6 := pget hp14 az13_6
       have az14_8 := pget hp14 az13_8
       have az14_7 := pget hp14 az13_7
       have hga14_1 := hga13_1.keep hp14
       have hlt14 := GridAt.lt hga14_2
       have hle14 := hp14.length_le
       obtain ⟨d0, d1, d2⟩ := (hx4.pre hq14).sys
       obtain ⟨e0, e1, e2⟩ := (hy4.pre hq14).sys
       try simp (maxSteps := 1000000) [go_sem, d0, d1, d2, e0, e1, e2, hp14]
       have lt6 := (List.getElem?_eq_some_iff.1 az14_6).1
       have lt7 := (List.getElem?_eq_some_iff.1 az14_7).1
       have lt8 := (List.getElem?_eq_some_iff.1 az14_8).1
       have hl4 := (hq14).length_le
       obtain ⟨HA, HB, HC, s6, s7, s8, hpC, o6, o7, o8, G1, G2⟩ := prodEnd (w := w) hq14 az14_6 az14_7 az14_8 (by omega) (by omega) (by omega) hga14_1 hga14_2 (by omega) (by omega) (by omega) (by omega) (by omega)
       simp (maxSteps := 1000000) [go_sem, s6, s7, s8]
       exact hQ' ((b1), (b12), (b11)) _ _ (by simp [upF, Fr.get, Up.refl]) ⟨hpC, _, _, _, _, o6, o7, o8, G1, G2, hgo13, hgo14⟩
      ·skip
       try simp (maxSteps := 1000000) [go_sem, d0, d1, d2, e0, e1, e2]
       refine sysGrid_ok ((hu.pre (hp0.trans hp04)).pre hq11) gx hFx _ ?_
       intro Hg15 g15 gs15 hp15 hge15 hga15_1 hgo15
       have hq15 := (hq11).trans hp15
       have az15_6 := pget hp15 az11_6
       have az15_8 := pget hp15 az11_8
       have hlt15 := GridAt.lt hga15_1
       have hle15 := hp15.length_le
       obtain ⟨d0, d1, d2⟩ := (hx4.pre hq15).sys
       obtain ⟨e0, e1, e2⟩ := (hy4.pre hq15).sys
       try simp (maxSteps := 1000000) [go_sem, d0, d1, d2, e0, e1, e2, hp15]
       refine vG_alt ?_ ?_
       ·skip
        try simp (maxSteps := 1000000) [go_sem, d0, d1, d2, e0, e1, e2, hp15]
        have hp16 : Hg15 <+: Hg15 ++ [(⟨[.pointer none], true, true⟩ : Blk)] := List.prefix_append _ _
        have az16_7 : (Hg15 ++ [(⟨[.pointer none], true, true⟩ : Blk)])[Hg15.length]? = some ⟨[.pointer none], true, true⟩ := by simp
        have hl16 : (Hg15 ++ [(⟨[.pointer none], true, true⟩ : Blk)]).length = Hg15.length + 1 := by simp
        obtain ⟨b16, hb16e⟩ : ∃ b, Hg15.length = b := ⟨_, rfl⟩
        generalize Hg15 ++ [(⟨[.pointer none], true, true⟩ : Blk)] = Hg16 at hp16 hl16 az16_7 ⊢
        rw [hb16e] at hl16 az16_7
        try rw [hb16e]
        have hq16 := (hq15).trans hp16
        have az16_6 := pget hp16 az15_6
        have az16_8 := pget hp16 az15_8
        have hga16_1 := hga15_1.keep hp16
        have hle16 := hp16.length_le
        obtain ⟨d0, d1, d2⟩ := (hx4.pre hq16).sys
        obtain ⟨e0, e1, e2⟩ := (hy4.pre hq16).sys
        refine sysGrid_ok ((hv.pre (hp0.trans hp04)).pre hq16) gy hFy _ ?_
        intro Hg17 g17 gs17 hp17 hge17 hga17_2 hgo17
        have hq17 := (hq16).trans hp17
        have az17_6 := pget hp17 az16_6
        have az17_8 := pget hp17 az16_8
        have az17_7 := pget hp17 az16_7
        have hga17_1 := hga16_1.keep hp17
        have hlt17 := GridAt.lt hga17_2
        have hle17 := hp17.length_le
        obtain ⟨d0, d1, d2⟩ := (hx4.pre hq17).sys
        obtain ⟨e0, e1, e2⟩ := (hy4.pre hq17).sys
        try simp (maxSteps := 1000000) [go_sem, d0, d1, d2, e0, e1, e2, hp17]
        have lt6 := (List.getElem?_eq_some_iff.1 az17_6).1
        have lt7 := (List.getElem?_eq_some_iff.1 az17_7).1
        have lt8 := (List.getElem?_eq_some_iff.1 az17_8).1
        have hl4 := (hq17).length_le
        obtain ⟨HA, HB, HC, s6, s7, s8, hpC, o6, o7, o8, G1, G2⟩ := prodEnd (w := w) hq17 az17_6 az17_7 az17_8 (by omega) (by omega) (by omega) hga17_1 hga17_2 (by omega) (by omega) (by omega) (by omega) (by omega)
        simp (maxSteps := 1000000) [go_sem, s6, s7, s8]
        exact hQ' ((b1), (b16), (b11)) _ _ (by simp [upF, Fr.get, Up.refl]) ⟨hpC, _, _, _, _, o6, o7, o8, G1, G2, hgo15, hgo17⟩
       ·skip
        try simp (maxSteps := 1000000) [go_sem, d0, d1, d2, e0, e1, e2, hp15]
        refine sysGrid_ok ((hv.pre (hp0.trans hp04)).pre hq15) gy hFy _ ?_
        intro Hg18 g18 gs18 hp18 hge18 hga18_2 hgo18
        have hq18 := (hq15).trans hp18
        have az18_6 := pget hp18 az15_6
        have az18_8 := pget hp18 az15_8
        have hga18_1 := hga15_1.keep hp18
        have hlt18 := GridAt.lt hga18_2
        have hle18 := hp18.length_le
        obtain ⟨d0, d1, d2⟩ := (hx4.pre hq18).sys
        obtain ⟨e0, e1, e2⟩ := (hy4.pre hq18).sys
        try simp (maxSteps := 1000000) [go_sem, d0, d1, d2, e0, e1, e2, hp18]
        have hp19 : Hg18 <+: Hg18 ++ [(⟨[.pointer none], true, true⟩ : Blk)] := List.prefix_append _ _
        have az19_7 : (Hg18 ++ [(⟨[.pointer none], true, true⟩ : Blk)])[Hg18.length]? = some ⟨[.pointer none], true, true⟩ := by simp
        have hl19 : (Hg18 ++ [(⟨[.pointer none], true, true⟩ : Blk)]).length = Hg18.length + 1 := by simp
        obtain ⟨b19, hb19e⟩ : ∃ b, Hg18.length = b := ⟨_, rfl⟩
        generalize Hg18 ++ [(⟨[.pointer none], true, true⟩ : Blk)] = Hg19 at hp19 hl19 az19_7 ⊢
        rw [hb19e] at hl19 az19_7
        try rw [hb19e]
        have hq19 := (hq18).trans hp19
        have az19_6 := pget hp19 az18_6
        have az19_8 := pget hp19 az18_8
        have hga19_1 := hga18_1.keep hp19
        have hga19_2 := hga18_2.keep hp19
        have hle19 := hp19.length_le
        obtain ⟨d0, d1, d2⟩ := (hx4.pre hq19).sys
        obtain ⟨e0, e1, e2⟩ := (hy4.pre hq19).sys
        have lt6 := (List.getElem?_eq_some_iff.1 az19_6).1
        have lt7 := (List.getElem?_eq_some_iff.1 az19_7).1
        have lt8 := (List.getElem?_eq_some_iff.1 az19_8).1
        have hl4 := (hq19).length_le
        obtain ⟨HA, HB, HC, s6, s7, s8, hpC, o6, o7, o8, G1, G2⟩ := prodEnd (w := w) hq19 az19_6 az19_7 az19_8 (by omega) (by omega) (by omega) hga19_1 hga19_2 (by omega) (by omega) (by omega) (by omega) (by omega)
        simp (maxSteps := 1000000) [go_sem, s6, s7, s8]
        exact hQ' ((b1), (b19), (b11)) _ _ (by simp [upF, Fr.get, Up.refl]) ⟨hpC, _, _, _, _, o6, o7, o8, G1, G2, hgo15, hgo18⟩
     ·skip
      try simp (maxSteps := 1000000) [go_sem, d0, d1, d2, e0, e1, e2]
      refine sysGrid_ok ((hu.pre (hp0.trans hp04)).pre hq1) gx hFx _ ?_
      intro Hg20 g20 gs20 hp20 hge20 hga20_1 hgo20
      have hq20 := (hq1).trans hp20
      have az20_6 := pget hp20 az1_6
      have hlt20 := GridAt.lt hga20_1
      have hle20 := hp20.length_le
      obtain ⟨d0, d1, d2⟩ := (hx4.pre hq20).sys
      obtain ⟨e0, e1, e2⟩ := (hy4.pre hq20).sys
      try simp (maxSteps := 1000000) [go_sem, d0, d1, d2, e0, e1, e2, hp20]
      refine vG_alt ?_ ?_
      ·skip
       try simp (maxSteps := 1000000) [go_sem, d0, d1, d2, e0, e1, e2, hp20]
       have hp21 : Hg20 <+: Hg20 ++ [(⟨[.pointer none], true, true⟩ : Blk)] := List.prefix_append _ _
       have az21_7 : (Hg20 ++ [(⟨[.pointer none], true, true⟩ : Blk)])[Hg20.length]? = some ⟨[.pointer none], true, true⟩ := by simp
       have hl21 : (Hg20 ++ [(⟨[.pointer none], true, true⟩ : Blk)]).length = Hg20.length + 1 := by simp
       obtain ⟨b21, hb21e⟩ : ∃ b, Hg20.length = b := ⟨_, rfl⟩
       generalize Hg20 ++ [(⟨[.pointer none], true, true⟩ : Blk)] = Hg21 at hp21 hl21 az21_7 ⊢
       rw [hb21e] at hl21 az21_7
       try rw [hb21e]
       have hq21 := (hq20).trans hp21
       have az21_6 := pget hp21 az20_6
       have hga21_1 := hga20_1.keep hp21
       have hle21 := hp21.length_le
       obtain ⟨d0, d1, d2⟩ := (hx4.pre hq21).sys
       obtain ⟨e0, e1, e2⟩ := (hy4.pre hq21).sys
       refine vG_alt ?_ ?_
       ·skip
        try simp (maxSteps := 1000000) [go_sem, d0, d1, d2, e0, e1, e2]
        have hp22 : Hg21 <+: Hg21 ++ [(⟨[.pointer none], true, true⟩ : Blk)] := List.prefix_append _ _
        have az22_8 : (Hg21 ++ [(⟨[.pointer none], true, true⟩ : Blk)])[Hg21.length]? = some ⟨[.pointer none], true, true⟩ := by simp
        have hl22 : (Hg21 ++ [(⟨[.pointer none], true, true⟩ : Blk)]).length = Hg21.length + 1 := by simp
        obtain ⟨b22, hb22e⟩ : ∃ b, Hg21.length = b := ⟨_, rfl⟩
        generalize Hg21 ++ [(⟨[.pointer none], true, true⟩ : Blk)] = Hg22 at hp22 hl22 az22_8 ⊢
        rw [hb22e] at hl22 az22_8
        try rw [hb22e]
        have hq22 := (hq21).trans hp22
        have az22_6 := pget hp22 az21_6
        have az22_7 := pget hp22 az21_7
        have hga22_1 := hga21_1.keep hp22
        have hle22 := hp22.length_le
        obtain ⟨d0, d1, d2⟩ := (hx4.pre hq22).sys
        obtain ⟨e0, e1, e2⟩ := (hy4.pre hq22).sys
        refine sysGrid_ok ((hv.pre (hp0.trans hp04)).pre hq22) gy hFy _ ?_
        intro Hg23 g23 gs23 hp23 hge23 hga23_2 hgo23
        have hq23 := (hq22).trans hp23
        have az23_6 := pget hp23 az22_6
        have az23_7 := pget hp23 az22_7
        have az23_8 := pget hp23 az22_8
        have hga23_1 := hga22_1.keep hp23
        have hlt23 := GridAt.lt hga23_2
        have hle23 := hp23.length_le
        obtain ⟨d0, d1, d2⟩ := (hx4.pre hq23).sys
        obtain ⟨e0, e1, e2⟩ := (hy4.pre hq23).sys
        try simp (maxSteps := 1000000) [go_sem, d0, d1, d2, e0, e1, e2, hp23]
        have lt6 := (List.getElem?_eq_some_iff.1 az23_6).1
        have lt7 := (List.getElem?_eq_some_iff.1 az23_7).1
        have lt8 := (List.getElem?_eq_some_iff.1 az23_8).1
        have hl4 := (hq23).length_le
        obtain ⟨HA, HB, HC, s6, s7, s8, hpC, o6, o7, o8, G1, G2⟩ := prodEnd (w := w) hq23 az23_6 az23_7 az23_8 (by omega) (by omega) (by omega) hga23_1 hga23_2 (by omega) (by omega) (by omega) (by omega) (by omega)
        simp (maxSteps := 1000000) [go_sem, s6, s7, s8]
        exact hQ' ((b1), (b21), (b22)) _ _ (by simp [upF, Fr.get, Up.refl]) ⟨hpC, _, _, _, _, o6, o7, o8, G1, G2, hgo20, hgo23⟩
       ·skip
        try simp (maxSteps := 1000000) [go_sem, d0, d1, d2, e0, e1, e2]
        refine sysGrid_ok ((hv.pre (hp0.trans hp04)).pre hq21) gy hFy _ ?_
        intro Hg24 g24 gs24 hp24 hge24 hga24_2 hgo24
        have hq24 := (hq21).trans hp24
        have az24_6 := pget hp24 az21_6
        have az24_7 := pget hp24 az21_7
        have hga24_1 := hga21_1.keep hp24
        have hlt24 := GridAt.lt hga24_2
        have hle24 := hp24.length_le
        obtain ⟨d0, d1, d2⟩ := (hx4.pre hq24).sys
        obtain ⟨e0, e1, e2⟩ := (hy4.pre hq24).sys
        try simp (maxSteps := 1000000) [go_sem, d0, d1, d2, e0, e1, e2, hp24]
        have hp25 : Hg24 <+: Hg24 ++ [(⟨[.pointer none], true, true⟩ : Blk)] := List.prefix_append _ _
        have az25_8 : (Hg24 ++ [(⟨[.pointer none], true, true⟩ : Blk)])[Hg24.length]? = some ⟨[.pointer none], true, true⟩ := by simp
        have hl25 : (Hg24 ++ [(⟨[.pointer none], true, true⟩ : Blk)]).length = Hg24.length + 1 := by simp
        obtain ⟨b25, hb25e⟩ : ∃ b, Hg24.length = b := ⟨_, rfl⟩
        generalize Hg24 ++ [(⟨[.pointer none], true, true⟩ : Blk)] = Hg25 at hp25 hl25 az25_8 ⊢
        rw [hb25e] at hl25 az25_8
        try rw [hb25e]
        have hq25 := (hq24).trans hp25
        have az25_6 := pget hp25 az24_6
        have az25_7 := pget hp25 az24_7
        have hga25_1 := hga24_1.keep hp25
        have hga25_2 := hga24_2.keep hp25
        have hle25 := hp25.length_le
        obtain ⟨d0, d1, d2⟩ := (hx4.pre hq25).sys
        obtain ⟨e0, e1, e2⟩ := (hy4.pre hq25).sys
        have lt6 := (List.getElem?_eq_some_iff.1 az25_6).1
        have lt7 := (List.getElem?_eq_some_iff.1 az25_7).1
        have lt8 := (List.getElem?_eq_some_iff.1 az25_8).1
        have hl4 := (hq25).length_le
        obtain ⟨HA, HB, HC, s6, s7, s8, hpC, o6, o7, o8, G1, G2⟩ := prodEnd (w := w) hq25 az25_6 az25_7 az25_8 (by omega) (by omega) (by omega) hga25_1 hga25_2 (by omega) (by omega) (by omega) (by omega) (by omega)
        simp (maxSteps := 1000000) [go_sem, s6, s7, s8]
        exact hQ' ((b1), (b21), (b25)) _ _ (by simp [upF, Fr.get, Up.refl]) ⟨hpC, _, _, _, _, o6, o7, o8, G1, G2, hgo20, hgo24⟩
      ·skip
       refine vG_alt ?_ ?_
       ·skip
        try simp (maxSteps := 1000000) [go_sem, d0, d1, d2, e0, e1, e2, hp20]
        have hp26 : Hg20 <+: Hg20 ++ [(⟨[.pointer none], true, true⟩ : Blk)] := List.prefix_append _ _
        have az26_8 : (Hg20 ++ [(⟨[.pointer none], true, true⟩ : Blk)])[Hg20.length]? = some ⟨[.pointer none], true, true⟩ := by simp
        have hl26 : (Hg20 ++ [(⟨[.pointer none], true, true⟩ : Blk)]).length = Hg20.length + 1 := by simp
        obtain ⟨b26, hb26e⟩ : ∃ b, Hg20.length = b := ⟨_, rfl⟩
        generalize Hg20 ++ [(⟨[.pointer none], true, true⟩ : Blk)] = Hg26 at hp26 hl26 az26_8 ⊢
        rw [hb26e] at hl26 az26_8
        try rw [hb26e]
        have hq26 := (hq20).trans hp26
        have az26_6 := pget hp26 az20_6
        have hga26_1 := hga20_1.keep hp26
        have hle26 := hp26.length_le
        obtain ⟨d0, d1, d2⟩ := (hx4.pre hq26).sys
        obtain ⟨e0, e1, e2⟩ := (hy4.pre hq26).sys
        refine vG_alt ?_ ?_
        ·skip
         try simp (maxSteps := 1000000) [go_sem, d0, d1, d2, e0, e1, e2]
         have hp27 : Hg26 <+: Hg26 ++ [(⟨[.pointer none], true, true⟩ : Blk)] := List.prefix_append _ _
         have az27_7 : (Hg26 ++ [(⟨[.pointer none], true, true⟩ : Blk)])[Hg26.length]? = some ⟨[.pointer none], true, true⟩ := by simp
         have hl27 : (Hg26 ++ [(⟨[.pointer none], true, true⟩ : Blk)]).length = Hg26.length + 1 := by simp
         obtain ⟨b27, hb27e⟩ : ∃ b, Hg26.length = b := ⟨_, rfl⟩
         generalize Hg26 ++ [(⟨[.pointer none], true, true⟩ : Blk)] = Hg27 at hp27 hl27 az27_7 ⊢
         rw [hb27e] at hl27 az27_7
         try rw [hb27e]
         have hq27 := (hq26).trans hp27
         have az27_6 := pget hp27 az26_6
         have az27_8 := pget hp27 az26_8
         have hga27_1 := hga26_1.keep hp27
         have hle27 := hp27.length_le
         obtain ⟨d0, d1, d2⟩ := (hx4.pre hq27).sys
         obtain ⟨e0, e1, e2⟩ := (hy4.pre hq27).sys
         refine sysGrid_ok ((hv.pre (hp0.trans hp04)).pre hq27) gy hFy _ ?_
         intro Hg28 g28 gs28 hp28 hge28 hga28_2 hgo28
         have hq28 := (hq27).trans hp28
         have az28_6 := pget hp28 az27_6
         have az28_8 := pget hp28 az27_8
         have az28_7 := pget hp28 az27_7
         have hga28_1 := hga27_1.keep hp28
         have hlt28 := GridAt.lt hga28_2
         have hle28 := hp28.length_le
         obtain ⟨d0, d1, d2⟩ := (hx4.pre hq28).sys
         obtain ⟨e0, e1, e2⟩ := (hy4.pre hq28).sys
         try simp (maxSteps := 1000000) [go_sem, d0, d1, d2, e0, e1, e2, hp28]
         have lt6 := (List.getElem?_eq_some_iff.1 az28_6).1
         have lt7 := (List.getElem?_eq_some_iff.1 az28_7).1
         have lt8 := (List.getElem?_eq_some_iff.1 az28_8).1
         have hl4 := (hq28).length_le
         obtain ⟨HA, HB, HC, s6, s7, s8, hpC, o6, o7, o8, G1, G2⟩ := prodEnd (w := w) hq28 az28_6 az28_7 az28_8 (by omega) (by omega) (by omega) hga28_1 hga28_2 (by omega) (by omega) (by omega) (by omega) (by omega)
         simp (maxSteps := 1000000) [go_sem, s6, s7, s8]
         exact hQ' ((b1), (b27), (b26)) _ _ (by simp [upF, Fr.get, Up.refl]) ⟨hpC, _, _, _, _, o6, o7, o8, G1, G2, hgo20, hgo28⟩
        ·skip
         try simp (maxSteps := 1000000) [go_sem, d0, d1, d2, e0, e1, e2]
         refine sysGrid_ok ((hv.pre (hp0.trans hp04)).pre hq26) gy hFy _ ?_
         intro Hg29 g29 gs29 hp29 hge29 hga29_2 hgo29
         have hq29 := (hq26).trans hp29
         have az29_6 := pget hp29 az26_6
         have az29_8 := pget hp29 az26_8
         have hga29_1 := hga26_1.keep hp29
         have hlt29 := GridAt.lt hga29_2
         have hle29 := hp29.length_le
         obtain ⟨d0, d1, d2⟩ := (hx4.pre hq29).sys
         obtain ⟨e0, e1, e2⟩ := (hy4.pre hq29).sys
         try simp (maxSteps := 1000000) [go_sem, d0, d1, d2, e0, e1, e2, hp29]
         have hp30 : Hg29 <+: Hg29 ++ [(⟨[.pointer none], true, true⟩ : Blk)] := List.prefix_append _ _
         have az30_7 : (Hg29 ++ [(⟨[.pointer none], true, true⟩ : Blk)])[Hg29.length]? = some ⟨[.pointer none], true, true⟩ := by simp
         have hl30 : (Hg29 ++ [(⟨[.pointer none], true, true⟩ : Blk)]).length = Hg29.length + 1 := by simp
         obtain ⟨b30, hb30e⟩ : ∃ b, Hg29.length = b := ⟨_, rfl⟩
         generalize Hg29 ++ [(⟨[.pointer none], true, true⟩ : Blk)] = Hg30 at hp30 hl30 az30_7 ⊢
         rw [hb30e] at hl30 az30_7
         try rw [hb30e]
         have hq30 := (hq29).trans hp30
         have az30_6 := pget hp30 az29_6
         have az30_8 := pget hp30 az29_8
         have hga30_1 := hga29_1.keep hp30
         have hga30_2 := hga29_2.keep hp30
         have hle30 := hp30.length_le
         obtain ⟨d0, d1, d2⟩ := (hx4.pre hq30).sys
         obtain ⟨e0, e1, e2⟩ := (hy4.pre hq30).sys
         have lt6 := (List.getElem?_eq_some_iff.1 az30_6).1
         have lt7 := (List.getElem?_eq_some_iff.1 az30_7).1
         have lt8 := (List.getElem?_eq_some_iff.1 az30_8).1
         have hl4 := (hq30).length_le
         obtain ⟨HA, HB, HC, s6, s7, s8, hpC, o6, o7, o8, G1, G2⟩ := prodEnd (w := w) hq30 az30_6 az30_7 az30_8 (by omega) (by omega) (by omega) hga30_1 hga30_2 (by omega) (by omega) (by omega) (by omega) (by omega)
         simp (maxSteps := 1000000) [go_sem, s6, s7, s8]
         exact hQ' ((b1), (b30), (b26)) _ _ (by simp [upF, Fr.get, Up.refl]) ⟨hpC, _, _, _, _, o6, o7, o8, G1, G2, hgo20, hgo29⟩
       ·skip
        try simp (maxSteps := 1000000) [go_sem, d0, d1, d2, e0, e1, e2, hp20]
        refine sysGrid_ok ((hv.pre (hp0.trans hp04)).pre hq20) gy hFy _ ?_
        intro Hg31 g31 gs31 hp31 hge31 hga31_2 hgo31
        have hq31 := (hq20).trans hp31
        have az31_6 := pget hp31 az20_6
        have hga31_1 := hga20_1.keep hp31
        have hlt31 := GridAt.lt hga31_2
        have hle31 := hp31.length_le
        obtain ⟨d0, d1, d2⟩ := (hx4.pre hq31).sys
        obtain ⟨e0, e1, e2⟩ := (hy4.pre hq31).sys
        try simp (maxSteps := 1000000) [go_sem, d0, d1, d2, e0, e1, e2, hp31]
        refine vG_alt ?_ ?_
        ·skip
         try simp (maxSteps := 1000000) [go_sem, d0, d1, d2, e0, e1, e2, hp31]
         have hp32 : Hg31 <+: Hg31 ++ [(⟨[.pointer none], true, true⟩ : Blk), ⟨[.pointer none], true, true⟩] := List.prefix_append _ _
         have az32_8 : (Hg31 ++ [(⟨[.pointer none], true, true⟩ : Blk), ⟨[.pointer none], true, true⟩])[Hg31.length]? = some ⟨[.pointer none], true, true⟩ := by simp
         have az32_7 : (Hg31 ++ [(⟨[.pointer none], true, true⟩ : Blk), ⟨[.pointer none], true, true⟩])[Hg31.length + 1]? = some ⟨[.pointer none], true, true⟩ := by simp
         have hl32 : (Hg31 ++ [(⟨[.pointer none], true, true⟩ : Blk), ⟨[.pointer none], true, true⟩]).length = Hg31.length + 2 := by simp
         obtain ⟨b32, hb32e⟩ : ∃ b, Hg31.length = b := ⟨_, rfl⟩
         generalize Hg31 ++ [(⟨[.pointer none], true, true⟩ : Blk), ⟨[.pointer none], true, true⟩] = Hg32 at hp32 hl32 az32_8 az32_7 ⊢
         rw [hb32e] at hl32 az32_8 az32_7
         try rw [hb32e]
         have hq32 := (hq31).trans hp32
         have az32_6 := pget hp32 az31_6
         have hga32_1 := hga31_1.keep hp32
         have hga32_2 := hga31_2.keep hp32
         have hle32 := hp32.length_le
         obtain ⟨d0, d1, d2⟩ := (hx4.pre hq32).sys
         obtain ⟨e0, e1, e2⟩ := (hy4.pre hq32).sys
         have lt6 := (List.getElem?_eq_some_iff.1 az32_6).1
         have lt7 := (List.getElem?_eq_some_iff.1 az32_7).1
         have lt8 := (List.getElem?_eq_some_iff.1 az32_8).1
         have hl4 := (hq32).length_le
         obtain ⟨HA, HB, HC, s6, s7, s8, hpC, o6, o7, o8, G1, G2⟩ := prodEnd (w := w) hq32 az32_6 az32_7 az32_8 (by omega) (by omega) (by omega) hga32_1 hga32_2 (by omega) (by omega) (by omega) (by omega) (by omega)
         simp (maxSteps := 1000000) [go_sem, s6, s7, s8]
         exact hQ' ((b1), (b32 + 1), (b32)) _ _ (by simp [upF, Fr.get, Up.refl]) ⟨hpC, _, _, _, _, o6, o7, o8, G1, G2, hgo20, hgo31⟩
        ·skip
         try simp (maxSteps := 1000000) [go_sem, d0, d1, d2, e0, e1, e2, hp31]
         have hp33 : Hg31 <+: Hg31 ++ [(⟨[.pointer none], true, true⟩ : Blk), ⟨[.pointer none], true, true⟩] := List.prefix_append _ _
         have az33_7 : (Hg31 ++ [(⟨[.pointer none], true, true⟩ : Blk), ⟨[.pointer none], true, true⟩])[Hg31.length]? = some ⟨[.pointer none], true, true⟩ := by simp
         have az33_8 : (Hg31 ++ [(⟨[.pointer none], true, true⟩ : Blk), ⟨[.pointer none], true, true⟩])[Hg31.length + 1]? = some ⟨[.pointer none], true, true⟩ := by simp
         have hl33 : (Hg31 ++ [(⟨[.pointer none], true, true⟩ : Blk), ⟨[.pointer none], true, true⟩]).length = Hg31.length + 2 := by simp
         obtain ⟨b33, hb33e⟩ : ∃ b, Hg31.length = b := ⟨_, rfl⟩
         generalize Hg31 ++ [(⟨[.pointer none], true, true⟩ : Blk), ⟨[.pointer none], true, true⟩] = Hg33 at hp33 hl33 az33_7 az33_8 ⊢
         rw [hb33e] at hl33 az33_7 az33_8
         try rw [hb33e]
         have hq33 := (hq31).trans hp33
         have az33_6 := pget hp33 az31_6
         have hga33_1 := hga31_1.keep hp33
         have hga33_2 := hga31_2.keep hp33
         have hle33 := hp33.length_le
         obtain ⟨d0, d1, d2⟩ := (hx4.pre hq33).sys
         obtain ⟨e0, e1, e2⟩ := (hy4.pre hq33).sys
         have lt6 := (List.getElem?_eq_some_iff.1 az33_6).1
         have lt7 := (List.getElem?_eq_some_iff.1 az33_7).1
         have lt8 := (List.getElem?_eq_some_iff.1 az33_8).1
         have hl4 := (hq33).length_le
         obtain ⟨HA, HB, HC, s6, s7, s8, hpC, o6, o7, o8, G1, G2⟩ := prodEnd (w := w) hq33 az33_6 az33_7 az33_8 (by omega) (by omega) (by omega) hga33_1 hga33_2 (by omega) (by omega) (by omega) (by omega) (by omega)
         simp (maxSteps := 1000000) [go_sem, s6, s7, s8]
         exact hQ' ((b1), (b33), (b33 + 1)) _ _ (by simp [upF, Fr.get, Up.refl]) ⟨hpC, _, _, _, _, o6, o7, o8, G1, G2, hgo20, hgo31⟩
   ·skip
    refine vG_alt ?_ ?_
    ·skip
     try simp (maxSteps := 1000000) [go_sem, d0, d1, d2, e0, e1, e2]
     have hp34 : H4 <+: H4 ++ [(⟨[.pointer none], true, true⟩ : Blk)] := List.prefix_append _ _
     have az34_7 : (H4 ++ [(⟨[.pointer none], true, true⟩ : Blk)])[H4.length]? = some ⟨[.pointer none], true, true⟩ := by simp
     have hl34 : (H4 ++ [(⟨[.pointer none], true, true⟩ : Blk)]).length = H4.length + 1 := by simp
     obtain ⟨b34, hb34e⟩ : ∃ b, H4.length = b := ⟨_, rfl⟩
     generalize H4 ++ [(⟨[.pointer none], true, true⟩ : Blk)] = Hg34 at hp34 hl34 az34_7 ⊢
     rw [hb34e] at hl34 az34_7
     try rw [hb34e]
     have hq34 := (hq0).trans hp34
     have hle34 := hp34.length_le
     obtain ⟨d0, d1, d2⟩ := (hx4.pre hq34).sys
     obtain ⟨e0, e1, e2⟩ := (hy4.pre hq34).sys
     refine vG_alt ?_ ?_
     ·skip
      try simp (maxSteps := 1000000) [go_sem, d0, d1, d2, e0, e1, e2]
      have hp35 : Hg34 <+: Hg34 ++ [(⟨[.int .i64 0], true, true⟩ : Blk)] := List.prefix_append _ _
      have az35_6 : (Hg34 ++ [(⟨[.int .i64 0], true, true⟩ : Blk)])[Hg34.length]? = some ⟨[.int .i64 0], true, true⟩ := by simp
      have hl35 : (Hg34 ++ [(⟨[.int .i64 0], true, true⟩ : Blk)]).length = Hg34.length + 1 := by simp
      obtain ⟨b35, hb35e⟩ : ∃ b, Hg34.length = b := ⟨_, rfl⟩
      generalize Hg34 ++ [(⟨[.int .i64 0], true, true⟩ : Blk)] = Hg35 at hp35 hl35 az35_6 ⊢
      rw [hb35e] at hl35 az35_6
      try rw [hb35e]
      have hq35 := (hq34).trans hp35
      have az35_7 := pget hp35 az34_7
      have hle35 := hp35.length_le
      obtain ⟨d0, d1, d2⟩ := (hx4.pre hq35).sys
      obtain ⟨e0, e1, e2⟩ := (hy4.pre hq35).sys
      refine vG_alt ?_ ?_
      ·skip
       try simp (maxSteps := 1000000) [go_sem, d0, d1, d2, e0, e1, e2]
       have hp36 : Hg35 <+: Hg35 ++ [(⟨[.pointer none], true, true⟩ : Blk)] := List.prefix_append _ _
       have az36_8 : (Hg35 ++ [(⟨[.pointer none], true, true⟩ : Blk)])[Hg35.length]? = some ⟨[.pointer none], true, true⟩ := by simp
       have hl36 : (Hg35 ++ [(⟨[.pointer none], true, true⟩ : Blk)]).length = Hg35.length + 1 := by simp
       obtain ⟨b36, hb36e⟩ : ∃ b, Hg35.length = b := ⟨_, rfl⟩
       generalize Hg35 ++ [(⟨[.pointer none], true, true⟩ : Blk)] = Hg36 at hp36 hl36 az36_8 ⊢
       rw [hb36e] at hl36 az36_8
       try rw [hb36e]
       have hq36 := (hq35).trans hp36
       have az36_7 := pget hp36 az35_7
       have az36_6 := pget hp36 az35_6
       have hle36 := hp36.length_le
       obtain ⟨d0, d1, d2⟩ := (hx4.pre hq36).sys
       obtain ⟨e0, e1, e2⟩ := (hy4.pre hq36).sys
       refine sysGrid_ok ((hu.pre (hp0.trans hp04)).pre hq36) gx hFx _ ?_
       intro Hg37 g37 gs37 hp37 hge37 hga37_1 hgo37
       have hq37 := (hq36).trans hp37
       have az37_7 := pget hp37 az36_7
       have az37_6 := pget hp37 az36_6
       have az37_8 := pget hp37 az36_8
       have hlt37 := GridAt.lt hga37_1
       have hle37 := hp37.length_le
       obtain ⟨d0, d1, d2⟩ := (hx4.pre hq37).sys
       obtain ⟨e0, e1, e2⟩ := (hy4.pre hq37).sys
       try simp (maxSteps := 1000000) [go_sem, d0, d1, d2, e0, e1, e2, hp37]
       refine sysGrid_ok ((hv.pre (hp0.trans hp04)).pre hq37) gy hFy _ ?_
       intro Hg38 g38 gs38 hp38 hge38 hga38_2 hgo38
       have hq38 := (hq37).trans hp38
       have az38_7 := pget hp38 az37_7
       have az38_6 := pget hp38 az37_6
       have az38_8 := pget hp38 az37_8
       have hga38_1 := hga37_1.keep hp38
       have hlt38 := GridAt.lt hga38_2
       have hle38 := hp38.length_le
       obtain ⟨d0, d1, d2⟩ := (hx4.pre hq38).sys
       obtain ⟨e0, e1, e2⟩ := (hy4.pre hq38).sys
       try simp (maxSteps := 1000000) [go_sem, d0, d1, d2, e0, e1, e2, hp38]
       have lt6 := (List.getElem?_eq_some_iff.1 az38_6).1
       have lt7 := (List.getElem?_eq_some_iff.1 az38_7).1
       have lt8 := (List.getElem?_eq_some_iff.1 az38_8).1
       have hl4 := (hq38).length_le
       obtain ⟨HA, HB, HC, s6, s7, s8, hpC, o6, o7, o8, G1, G2⟩ := prodEnd (w := w) hq38 az38_6 az38_7 az38_8 (by omega) (by omega) (by omega) hga38_1 hga38_2 (by omega) (by omega) (by omega) (by omega) (by omega)
       simp (maxSteps := 1000000) [go_sem, s6, s7, s8]
       exact hQ' ((b35), (b34), (b36)) _ _ (by simp [upF, Fr.get, Up.refl]) ⟨hpC, _, _, _, _, o6, o7, o8, G1, G2, hgo37, hgo38⟩
      ·skip
       try simp (maxSteps := 1000000) [go_sem, d0, d1, d2, e0, e1, e2]
       refine sysGrid_ok ((hu.pre (hp0.trans hp04)).pre hq35) gx hFx _ ?_
       intro Hg39 g39 gs39 hp39 hge39 hga39_1 hgo39
       have hq39 := (hq35).trans hp39
       have az39_7 := pget hp39 az35_7
       have az39_6 := pget hp39 az35_6
       have hlt39 := GridAt.lt hga39_1
       have hle39 := hp39.length_le
       obtain ⟨d0, d1, d2⟩ := (hx4.pre hq39).sys
       obtain ⟨e0, e1, e2⟩ := (hy4.pre hq39).sys
       try simp (maxSteps := 1000000) [go_sem, d0, d1, d2, e0, e1, e2, hp39]
       refine vG_alt ?_ ?_
       ·skip
        try simp (maxSteps := 1000000) [go_sem, d0, d1, d2, e0, e1, e2, hp39]
        have hp40 : Hg39 <+: Hg39 ++ [(⟨[.pointer none], true, true⟩ : Blk)] := List.prefix_append _ _
        have az40_8 : (Hg39 ++ [(⟨[.pointer none], true, true⟩ : Blk)])[Hg39.length]? = some ⟨[.pointer none], true, true⟩ := by simp
        have hl40 : (Hg39 ++ [(⟨[.pointer none], true, true⟩ : Blk)]).length = Hg39.length + 1 := by simp
        obtain ⟨b40, hb40e⟩ : ∃ b, Hg39.length = b := ⟨_, rfl⟩
        generalize Hg39 ++ [(⟨[.pointer none], true, true⟩ : Blk)] = Hg40 at hp40 hl40 az40_8 ⊢
        rw [hb40e] at hl40 az40_8
        try rw [hb40e]
        have hq40 := (hq39).trans hp40
        have az40_7 := pget hp40 az39_7
        have az40_6 := pget hp40 az39_6
        have hga40_1 := hga39_1.keep hp40
        have hle40 := hp40.length_le
        obtain ⟨d0, d1, d2⟩ := (hx4.pre hq40).sys
        obtain ⟨e0, e1, e2⟩ := (hy4.pre hq40).sys
        refine sysGrid_ok ((hv.pre (hp0.trans hp04)).pre hq40) gy hFy _ ?_
        intro Hg41 g41 gs41 hp41 hge41 hga41_2 hgo41
        have hq41 := (hq40).trans hp41
        have az41_7 := pget hp41 az40_7
        have az41_6 := pget hp41 az40_6
        have az41_8 := pget hp41 az40_8
        have hga41_1 := hga40_1.keep hp41
        have hlt41 := GridAt.lt hga41_2
        have hle41 := hp41.length_le
        obtain ⟨d0, d1, d2⟩ := (hx4.pre hq41).sys
        obtain ⟨e0, e1, e2⟩ := (hy4.pre hq41).sys
        try simp (maxSteps := 1000000) [go_sem, d0, d1, d2, e0, e1, e2, hp41]
        have lt6 := (List.getElem?_eq_some_iff.1 az41_6).1
        have lt7 := (List.getElem?_eq_some_iff.1 az41_7).1
        have lt8 := (List.getElem?_eq_some_iff.1 az41_8).1
        have hl4 := (hq41).length_le
        obtain ⟨HA, HB, HC, s6, s7, s8, hpC, o6, o7, o8, G1, G2⟩ := prodEnd (w := w) hq41 az41_6 az41_7 az41_8 (by omega) (by omega) (by omega) hga41_1 hga41_2 (by omega) (by omega) (by omega) (by omega) (by omega)
        simp (maxSteps := 1000000) [go_sem, s6, s7, s8]
        exact hQ' ((b35), (b34), (b40)) _ _ (by simp [upF, Fr.get, Up.refl]) ⟨hpC, _, _, _, _, o6, o7, o8, G1, G2, hgo39, hgo41⟩
       ·skip
        try simp (maxSteps := 1000000) [go_sem, d0, d1, d2, e0, e1, e2, hp39]
        refine sysGrid_ok ((hv.pre (hp0.trans hp04)).pre hq39) gy hFy _ ?_
        intro Hg42 g42 gs42 hp42 hge42 hga42_2 hgo42
        have hq42 := (hq39).trans hp42
        have az42_7 := pget hp42 az39_7
        have az42_6 := pget hp42 az39_6
        have hga42_1 := hga39_1.keep hp42
        have hlt42 := GridAt.lt hga42_2
        have hle42 := hp42.length_le
        obtain ⟨d0, d1, d2⟩ := (hx4.pre hq42).sys
        obtain ⟨e0, e1, e2⟩ := (hy4.pre hq42).sys
        try simp (maxSteps := 1000000) [go_sem, d0, d1, d2, e0, e1, e2, hp42]
        have hp43 : Hg42 <+: Hg42 ++ [(⟨[.pointer none], true, true⟩ : Blk)] := List.prefix_append _ _
        have az43_8 : (Hg42 ++ [(⟨[.pointer none], true, true⟩ : Blk)])[Hg42.length]? = some ⟨[.pointer none], true, true⟩ := by simp
        have hl43 : (Hg42 ++ [(⟨[.pointer none], true, true⟩ : Blk)]).length = Hg42.length + 1 := by simp
        obtain ⟨b43, hb43e⟩ : ∃ b, Hg42.length = b := ⟨_, rfl⟩
        generalize Hg42 ++ [(⟨[.pointer none], true, true⟩ : Blk)] = Hg43 at hp43 hl43 az43_8 ⊢
        rw [hb43e] at hl43 az43_8
        try rw [hb43e]
        have hq43 := (hq42).trans hp43
        have az43_7 := pget hp43 az42_7
        have az43_6 := pget hp43 az42_6
        have hga43_1 := hga42_1.keep hp43
        have hga43_2 := hga42_2.keep hp43
        have hle43 := hp43.length_le
        obtain ⟨d0, d1, d2⟩ := (hx4.pre hq43).sys
        obtain ⟨e0, e1, e2⟩ := (hy4.pre hq43).sys
        have lt6 := (List.getElem?_eq_some_iff.1 az43_6).1
        have lt7 := (List.getElem?_eq_some_iff.1 az43_7).1
        have lt8 := (List.getElem?_eq_some_iff.1 az43_8).1
        have hl4 := (hq43).length_le
        obtain ⟨HA, HB, HC, s6, s7, s8, hpC, o6, o7, o8, G1, G2⟩ := prodEnd (w := w) hq43 az43_6 az43_7 az43_8 (by omega) (by omega) (by omega) hga43_1 hga43_2 (by omega) (by omega) (by omega) (by omega) (by omega)
        simp (maxSteps := 1000000) [go_sem, s6, s7, s8]
        exact hQ' ((b35), (b34), (b43)) _ _ (by simp [upF, Fr.get, Up.refl]) ⟨hpC, _, _, _, _, o6, o7, o8, G1, G2, hgo39, hgo42⟩
     ·skip
      refine vG_alt ?_ ?_
      ·skip
       try simp (maxSteps := 1000000) [go_sem, d0, d1, d2, e0, e1, e2]
       have hp44 : Hg34 <+: Hg34 ++ [(⟨[.pointer none], true, true⟩ : Blk)] := List.prefix_append _ _
       have az44_8 : (Hg34 ++ [(⟨[.pointer none], true, true⟩ : Blk)])[Hg34.length]? = some ⟨[.pointer none], true, true⟩ := by simp
       have hl44 : (Hg34 ++ [(⟨[.pointer none], true, true⟩ : Blk)]).length = Hg34.length + 1 := by simp
       obtain ⟨b44, hb44e⟩ : ∃ b, Hg34.length = b := ⟨_, rfl⟩
       generalize Hg34 ++ [(⟨[.pointer none], true, true⟩ : Blk)] = Hg44 at hp44 hl44 az44_8 ⊢
       rw [hb44e] at hl44 az44_8
       try rw [hb44e]
       have hq44 := (hq34).trans hp44
       have az44_7 := pget hp44 az34_7
       have hle44 := hp44.length_le
       obtain ⟨d0, d1, d2⟩ := (hx4.pre hq44).sys
       obtain ⟨e0, e1, e2⟩ := (hy4.pre hq44).sys
       refine vG_alt ?_ ?_
       ·skip
        try simp (maxSteps := 1000000) [go_sem, d0, d1, d2, e0, e1, e2]
        have hp45 : Hg44 <+: Hg44 ++ [(⟨[.int .i64 0], true, true⟩ : Blk)] := List.prefix_append _ _
        have az45_6 : (Hg44 ++ [(⟨[.int .i64 0], true, true⟩ : Blk)])[Hg44.length]? = some ⟨[.int .i64 0], true, true⟩ := by simp
        have hl45 : (Hg44 ++ [(⟨[.int .i64 0], true, true⟩ : Blk)]).length = Hg44.length + 1 := by simp
        obtain ⟨b45, hb45e⟩ : ∃ b, Hg44.length = b := ⟨_, rfl⟩
        generalize Hg44 ++ [(⟨[.int .i64 0], true, true⟩ : Blk)] = Hg45 at hp45 hl45 az45_6 ⊢
        rw [hb45e] at hl45 az45_6
        try rw [hb45e]
        have hq45 := (hq44).trans hp45
        have az45_7 := pget hp45 az44_7
        have az45_8 := pget hp45 az44_8
        have hle45 := hp45.length_le
        obtain ⟨d0, d1, d2⟩ := (hx4.pre hq45).sys
        obtain ⟨e0, e1, e2⟩ := (hy4.pre hq45).sys
        refine sysGrid_ok ((hu.pre (hp0.trans hp04)).pre hq45) gx hFx _ ?_
        intro Hg46 g46 gs46 hp46 hge46 hga46_1 hgo46
        have hq46 := (hq45).trans hp46
        have az46_7 := pget hp46 az45_7
        have az46_8 := pget hp46 az45_8
        have az46_6 := pget hp46 az45_6
        have hlt46 := GridAt.lt hga46_1
        have hle46 := hp46.length_le
        obtain ⟨d0, d1, d2⟩ := (hx4.pre hq46).sys
        obtain ⟨e0, e1, e2⟩ := (hy4.pre hq46).sys
        try simp (maxSteps := 1000000) [go_sem, d0, d1, d2, e0, e1, e2, hp46]
        refine sysGrid_ok ((hv.pre (hp0.trans hp04)).pre hq46) gy hFy _ ?_
        intro Hg47 g47 gs47 hp47 hge47 hga47_2 hgo47
        have hq47 := (hq46).trans hp47
        have az47_7 := pget hp47 az46_7
        have az47_8 := pget hp47 az46_8
        have az47_6 := pget hp47 az46_6
        have hga47_1 := hga46_1.keep hp47
        have hlt47 := GridAt.lt hga47_2
        have hle47 := hp47.length_le
        obtain ⟨d0, d1, d2⟩ := (hx4.pre hq47).sys
        obtain ⟨e0, e1, e2⟩ := (hy4.pre hq47).sys
        try simp (maxSteps := 1000000) [go_sem, d0, d1, d2, e0, e1, e2, hp47]
        have lt6 := (List.getElem?_eq_some_iff.1 az47_6).1
        have lt7 := (List.getElem?_eq_some_iff.1 az47_7).1
        have lt8 := (List.getElem?_eq_some_iff.1 az47_8).1
        have hl4 := (hq47).length_le
        obtain ⟨HA, HB, HC, s6, s7, s8, hpC, o6, o7, o8, G1, G2⟩ := prodEnd (w := w) hq47 az47_6 az47_7 az47_8 (by omega) (by omega) (by omega) hga47_1 hga47_2 (by omega) (by omega) (by omega) (by omega) (by omega)
        simp (maxSteps := 1000000) [go_sem, s6, s7, s8]
        exact hQ' ((b45), (b34), (b44)) _ _ (by simp [upF, Fr.get, Up.refl]) ⟨hpC, _, _, _, _, o6, o7, o8, G1, G2, hgo46, hgo47⟩
       ·skip
        try simp (maxSteps := 1000000) [go_sem, d0, d1, d2, e0, e1, e2]
        refine sysGrid_ok ((hu.pre (hp0.trans hp04)).pre hq44) gx hFx _ ?_
        intro Hg48 g48 gs48 hp48 hge48 hga48_1 hgo48
        have hq48 := (hq44).trans hp48
        have az48_7 := pget hp48 az44_7
        have az48_8 := pget hp48 az44_8
        have hlt48 := GridAt.lt hga48_1
        have hle48 := hp48.length_le
        obtain ⟨d0, d1, d2⟩ := (hx4.pre hq48).sys
        obtain ⟨e0, e1, e2⟩ := (hy4.pre hq48).sys
        try simp (maxSteps := 1000000) [go_sem, d0, d1, d2, e0, e1, e2, hp48]
        refine vG_alt ?_ ?_
        ·skip
         try simp (maxSteps := 1000000) [go_sem, d0, d1, d2, e0, e1, e2, hp48]
         have hp49 : Hg48 <+: Hg48 ++ [(⟨[.int .i64 0], true, true⟩ : Blk)] := List.prefix_append _ _
         have az49_6 : (Hg48 ++ [(⟨[.int .i64 0], true, true⟩ : Blk)])[Hg48.length]? = some ⟨[.int .i64 0], true, true⟩ := by simp
         have hl49 : (Hg48 ++ [(⟨[.int .i64 0], true, true⟩ : Blk)]).length = Hg48.length + 1 := by simp
         obtain ⟨b49, hb49e⟩ : ∃ b, Hg48.length = b := ⟨_, rfl⟩
         generalize Hg48 ++ [(⟨[.int .i64 0], true, true⟩ : Blk)] = Hg49 at hp49 hl49 az49_6 ⊢
         rw [hb49e] at hl49 az49_6
         try rw [hb49e]
         have hq49 := (hq48).trans hp49
         have az49_7 := pget hp49 az48_7
         have az49_8 := pget hp49 az48_8
         have hga49_1 := hga48_1.keep hp49
         have hle49 := hp49.length_le
         obtain ⟨d0, d1, d2⟩ := (hx4.pre hq49).sys
         obtain ⟨e0, e1, e2⟩ := (hy4.pre hq49).sys
         refine sysGrid_ok ((hv.pre (hp0.trans hp04)).pre hq49) gy hFy _ ?_
         intro Hg50 g50 gs50 hp50 hge50 hga50_2 hgo50
         have hq50 := (hq49).trans hp50
         have az50_7 := pget hp50 az49_7
         have az50_8 := pget hp50 az49_8
         have az50_6 := pget hp50 az49_6
         have hga50_1 := hga49_1.keep hp50
         have hlt50 := GridAt.lt hga50_2
         have hle50 := hp50.length_le
         obtain ⟨d0, d1, d2⟩ := (hx4.pre hq50).sys
         obtain ⟨e0, e1, e2⟩ := (hy4.pre hq50).sys
         try simp (maxSteps := 1000000) [go_sem, d0, d1, d2, e0, e1, e2, hp50]
         have lt6 := (List.getElem?_eq_some_iff.1 az50_6).1
         have lt7 := (List.getElem?_eq_some_iff.1 az50_7).1
         have lt8 := (List.getElem?_eq_some_iff.1 az50_8).1
         have hl4 := (hq50).length_le
         obtain ⟨HA, HB, HC, s6, s7, s8, hpC, o6, o7, o8, G1, G2⟩ := prodEnd (w := w) hq50 az50_6 az50_7 az50_8 (by omega) (by omega) (by omega) hga50_1 hga50_2 (by omega) (by omega) (by omega) (by omega) (by omega)
         simp (maxSteps := 1000000) [go_sem, s6, s7, s8]
         exact hQ' ((b49), (b34), (b44)) _ _ (by simp [upF, Fr.get, Up.refl]) ⟨hpC, _, _, _, _, o6, o7, o8, G1, G2, hgo48, hgo50⟩
        ·skip
         try simp (maxSteps := 1000000) [go_sem, d0, d1, d2, e0, e1, e2, hp48]
         refine sysGrid_ok ((hv.pre (hp0.trans hp04)).pre hq48) gy hFy _ ?_
         intro Hg51 g51 gs51 hp51 hge51 hga51_2 hgo51
         have hq51 := (hq48).trans hp51
         have az51_7 := pget hp51 az48_7
         have az51_8 := pget hp51 az48_8
         have hga51_1 := hga48_1.keep hp51
         have hlt51 := GridAt.lt hga51_2
         have hle51 := hp51.length_le
         obtain ⟨d0, d1, d2⟩ := (hx4.pre hq51).sys
         obtain ⟨e0, e1, e2⟩ := (hy4.pre hq51).sys
         try simp (maxSteps := 1000000) [go_sem, d0, d1, d2, e0, e1, e2, hp51]
         have hp52 : Hg51 <+: Hg51 ++ [(⟨[.int .i64 w], true, true⟩ : Blk)] := List.prefix_append _ _
         have az52_6 : (Hg51 ++ [(⟨[.int .i64 w], true, true⟩ : Blk)])[Hg51.length]? = some ⟨[.int .i64 w], true, true⟩ := by simp
         have hl52 : (Hg51 ++ [(⟨[.int .i64 w], true, true⟩ : Blk)]).length = Hg51.length + 1 := by simp
         obtain ⟨b52, hb52e⟩ : ∃ b, Hg51.length = b := ⟨_, rfl⟩
         generalize Hg51 ++ [(⟨[.int .i64 w], true, true⟩ : Blk)] = Hg52 at hp52 hl52 az52_6 ⊢
         rw [hb52e] at hl52 az52_6
         try rw [hb52e]
         have hq52 := (hq51).trans hp52
         have az52_7 := pget hp52 az51_7
         have az52_8 := pget hp52 az51_8
         have hga52_1 := hga51_1.keep hp52
         have hga52_2 := hga51_2.keep hp52
         have hle52 := hp52.length_le
         obtain ⟨d0, d1, d2⟩ := (hx4.pre hq52).sys
         obtain ⟨e0, e1, e2⟩ := (hy4.pre hq52).sys
         have lt6 := (List.getElem?_eq_some_iff.1 az52_6).1
         have lt7 := (List.getElem?_eq_some_iff.1 az52_7).1
         have lt8 := (List.getElem?_eq_some_iff.1 az52_8).1
         have hl4 := (hq52).length_le
         obtain ⟨HB, HC, s7, s8, hpC, o6, o7, o8, G1, G2⟩ := prodEnd2 (w := w) hq52 az52_6 az52_7 az52_8 (by omega) (by omega) (by omega) hga52_1 hga52_2 (by omega) (by omega) (by omega) (by omega) (by omega)
         simp (maxSteps := 1000000) [go_sem, s7, s8]
         exact hQ' ((b52), (b34), (b44)) _ _ (by simp [upF, Fr.get, Up.refl]) ⟨hpC, _, _, _, _, o6, o7, o8, G1, G2, hgo48, hgo51⟩
      ·skip
       try simp (maxSteps := 1000000) [go_sem, d0, d1, d2, e0, e1, e2]
       refine sysGrid_ok ((hu.pre (hp0.trans hp04)).pre hq34) gx hFx _ ?_
       intro Hg53 g53 gs53 hp53 hge53 hga53_1 hgo53
       have hq53 := (hq34).trans hp53
       have az53_7 := pget hp53 az34_7
       have hlt53 := GridAt.lt hga53_1
       have hle53 := hp53.length_le
       obtain ⟨d0, d1, d2⟩ := (hx4.pre hq53).sys
       obtain ⟨e0, e1, e2⟩ := (hy4.pre hq53).sys
       try simp (maxSteps := 1000000) [go_sem, d0, d1, d2, e0, e1, e2, hp53]
       refine vG_alt ?_ ?_
       ·skip
        try simp (maxSteps := 1000000) [go_sem, d0, d1, d2, e0, e1, e2, hp53]
        have hp54 : Hg53 <+: Hg53 ++ [(⟨[.int .i64 0], true, true⟩ : Blk)] := List.prefix_append _ _
        have az54_6 : (Hg53 ++ [(⟨[.int .i64 0], true, true⟩ : Blk)])[Hg53.length]? = some ⟨[.int .i64 0], true, true⟩ := by simp
        have hl54 : (Hg53 ++ [(⟨[.int .i64 0], true, true⟩ : Blk)]).length = Hg53.length + 1 := by simp
        obtain ⟨b54, hb54e⟩ : ∃ b, Hg53.length = b := ⟨_, rfl⟩
        generalize Hg53 ++ [(⟨[.int .i64 0], true, true⟩ : Blk)] = Hg54 at hp54 hl54 az54_6 ⊢
        rw [hb54e] at hl54 az54_6
        try rw [hb54e]
        have hq54 := (hq53).trans hp54
        have az54_7 := pget hp54 az53_7
        have hga54_1 := hga53_1.keep hp54
        have hle54 := hp54.length_le
        obtain ⟨d0, d1, d2⟩ := (hx4.pre hq54).sys
        obtain ⟨e0, e1, e2⟩ := (hy4.pre hq54).sys
        refine vG_alt ?_ ?_
        ·skip
         try simp (maxSteps := 1000000) [go_sem, d0, d1, d2, e0, e1, e2]
         have hp55 : Hg54 <+: Hg54 ++ [(⟨[.pointer none], true, true⟩ : Blk)] := List.prefix_append _ _
         have az55_8 : (Hg54 ++ [(⟨[.pointer none], true, true⟩ : Blk)])[Hg54.length]? = some ⟨[.pointer none], true, true⟩ := by simp
         have hl55 : (Hg54 ++ [(⟨[.pointer none], true, true⟩ : Blk)]).length = Hg54.length + 1 := by simp
         obtain ⟨b55, hb55e⟩ : ∃ b, Hg54.length = b := ⟨_, rfl⟩
         generalize Hg54 ++ [(⟨[.pointer none], true, true⟩ : Blk)] = Hg55 at hp55 hl55 az55_8 ⊢
         rw [hb55e] at hl55 az55_8
         try rw [hb55e]
         have hq55 := (hq54).trans hp55
         have az55_7 := pget hp55 az54_7
         have az55_6 := pget hp55 az54_6
         have hga55_1 := hga54_1.keep hp55
         have hle55 := hp55.length_le
         obtain ⟨d0, d1, d2⟩ := (hx4.pre hq55).sys
         obtain ⟨e0, e1, e2⟩ := (hy4.pre hq55).sys
         refine sysGrid_ok ((hv.pre (hp0.trans hp04)).pre hq55) gy hFy _ ?_
         intro Hg56 g56 gs56 hp56 hge56 hga56_2 hgo56
         have hq56 := (hq55).trans hp56
         have az56_7 := pget hp56 az55_7
         have az56_6 := pget hp56 az55_6
         have az56_8 := pget hp56 az55_8
         have hga56_1 := hga55_1.keep hp56
         have hlt56 := GridAt.lt hga56_2
         have hle56 := hp56.length_le
         obtain ⟨d0, d1, d2⟩ := (hx4.pre hq56).sys
         obtain ⟨e0, e1, e2⟩ := (hy4.pre hq56).sys
         try simp (maxSteps := 1000000) [go_sem, d0, d1, d2, e0, e1, e2, hp56]
         have lt6 := (List.getElem?_eq_some_iff.1 az56_6).1
         have lt7 := (List.getElem?_eq_some_iff.1 az56_7).1
         have lt8 := (List.getElem?_eq_some_iff.1 az56_8).1
         have hl4 := (hq56).length_le
         obtain ⟨HA, HB, HC, s6, s7, s8, hpC, o6, o7, o8, G1, G2⟩ := prodEnd (w := w) hq56 az56_6 az56_7 az56_8 (by omega) (by omega) (by omega) hga56_1 hga56_2 (by omega) (by omega) (by omega) (by omega) (by omega)
         simp (maxSteps := 1000000) [go_sem, s6, s7, s8]
         exact hQ' ((b54), (b34), (b55)) _ _ (by simp [upF, Fr.get, Up.refl]) ⟨hpC, _, _, _, _, o6, o7, o8, G1, G2, hgo53, hgo56⟩
        ·skip
         try simp (maxSteps := 1000000) [go_sem, d0, d1, d2, e0, e1, e2]
         refine sysGrid_ok ((hv.pre (hp0.trans hp04)).pre hq54) gy hFy _ ?_
         intro Hg57 g57 gs57 hp57 hge57 hga57_2 hgo57
         have hq57 := (hq54).trans hp57
         have az57_7 := pget hp57 az54_7
         have az57_6 := pget hp57 az54_6
         have hga57_1 := hga54_1.keep hp57
         have hlt57 := GridAt.lt hga57_2
         have hle57 := hp57.length_le
         obtain ⟨d0, d1, d2⟩ := (hx4.pre hq57).sys
         obtain ⟨e0, e1, e2⟩ := (hy4.pre hq57).sys
         try simp (maxSteps := 1000000) [go_sem, d0, d1, d2, e0, e1, e2, hp57]
         have hp58 : Hg57 <+: Hg57 ++ [(⟨[.pointer none], true, true⟩ : Blk)] := List.prefix_append _ _
         have az58_8 : (Hg57 ++ [(⟨[.pointer none], true, true⟩ : Blk)])[Hg57.length]? = some ⟨[.pointer none], true, true⟩ := by simp
         have hl58 : (Hg57 ++ [(⟨[.pointer none], true, true⟩ : Blk)]).length = Hg57.length + 1 := by simp
         obtain ⟨b58, hb58e⟩ : ∃ b, Hg57.length = b := ⟨_, rfl⟩
         generalize Hg57 ++ [(⟨[.pointer none], true, true⟩ : Blk)] = Hg58 at hp58 hl58 az58_8 ⊢
         rw [hb58e] at hl58 az58_8
         try rw [hb58e]
         have hq58 := (hq57).trans hp58
         have az58_7 := pget hp58 az57_7
         have az58_6 := pget hp58 az57_6
         have hga58_1 := hga57_1.keep hp58
         have hga58_2 := hga57_2.keep hp58
         have hle58 := hp58.length_le
         obtain ⟨d0, d1, d2⟩ := (hx4.pre hq58).sys
         obtain ⟨e0, e1, e2⟩ := (hy4.pre hq58).sys
         have lt6 := (List.getElem?_eq_some_iff.1 az58_6).1
         have lt7 := (List.getElem?_eq_some_iff.1 az58_7).1
         have lt8 := (List.getElem?_eq_some_iff.1 az58_8).1
         have hl4 := (hq58).length_le
         obtain ⟨HA, HB, HC, s6, s7, s8, hpC, o6, o7, o8, G1, G2⟩ := prodEnd (w := w) hq58 az58_6 az58_7 az58_8 (by omega) (by omega) (by omega) hga58_1 hga58_2 (by omega) (by omega) (by omega) (by omega) (by omega)
         simp (maxSteps := 1000000) [go_sem, s6, s7, s8]
         exact hQ' ((b54), (b34), (b58)) _ _ (by simp [upF, Fr.get, Up.refl]) ⟨hpC, _, _, _, _, o6, o7, o8, G1, G2, hgo53, hgo57⟩
       ·skip
        refine vG_alt ?_ ?_
        ·skip
         try simp (maxSteps := 1000000) [go_sem, d0, d1, d2, e0, e1, e2, hp53]
         have hp59 : Hg53 <+: Hg53 ++ [(⟨[.pointer none], true, true⟩ : Blk)] := List.prefix_append _ _
         have az59_8 : (Hg53 ++ [(⟨[.pointer none], true, true⟩ : Blk)])[Hg53.length]? = some ⟨[.pointer none], true, true⟩ := by simp
         have hl59 : (Hg53 ++ [(⟨[.pointer none], true, true⟩ : Blk)]).length = Hg53.length + 1 := by simp
         obtain ⟨b59, hb59e⟩ : ∃ b, Hg53.length = b := ⟨_, rfl⟩
         generalize Hg53 ++ [(⟨[.pointer none], true, true⟩ : Blk)] = Hg59 at hp59 hl59 az59_8 ⊢
         rw [hb59e] at hl59 az59_8
         try rw [hb59e]
         have hq59 := (hq53).trans hp59
         have az59_7 := pget hp59 az53_7
         have hga59_1 := hga53_1.keep hp59
         have hle59 := hp59.length_le
         obtain ⟨d0, d1, d2⟩ := (hx4.pre hq59).sys
         obtain ⟨e0, e1, e2⟩ := (hy4.pre hq59).sys
         refine vG_alt ?_ ?_
         ·skip
          try simp (maxSteps := 1000000) [go_sem, d0, d1, d2, e0, e1, e2]
          have hp60 : Hg59 <+: Hg59 ++ [(⟨[.int .i64 0], true, true⟩ : Blk)] := List.prefix_append _ _
          have az60_6 : (Hg59 ++ [(⟨[.int .i64 0], true, true⟩ : Blk)])[Hg59.length]? = some ⟨[.int .i64 0], true, true⟩ := by simp
          have hl60 : (Hg59 ++ [(⟨[.int .i64 0], true, true⟩ : Blk)]).length = Hg59.length + 1 := by simp
          obtain ⟨b60, hb60e⟩ : ∃ b, Hg59.length = b := ⟨_, rfl⟩
          generalize Hg59 ++ [(⟨[.int .i64 0], true, true⟩ : Blk)] = Hg60 at hp60 hl60 az60_6 ⊢
          rw [hb60e] at hl60 az60_6
          try rw [hb60e]
          have hq60 := (hq59).trans hp60
          have az60_7 := pget hp60 az59_7
          have az60_8 := pget hp60 az59_8
          have hga60_1 := hga59_1.keep hp60
          have hle60 := hp60.length_le
          obtain ⟨d0, d1, d2⟩ := (hx4.pre hq60).sys
          obtain ⟨e0, e1, e2⟩ := (hy4.pre hq60).sys
          refine sysGrid_ok ((hv.pre (hp0.trans hp04)).pre hq60) gy hFy _ ?_
          intro Hg61 g61 gs61 hp61 hge61 hga61_2 hgo61
          have hq61 := (hq60).trans hp61
          have az61_7 := pget hp61 az60_7
          have az61_8 := pget hp61 az60_8
          have az61_6 := pget hp61 az60_6
          have hga61_1 := hga60_1.keep hp61
          have hlt61 := GridAt.lt hga61_2
          have hle61 := hp61.length_le
          obtain ⟨d0, d1, d2⟩ := (hx4.pre hq61).sys
          obtain ⟨e0, e1, e2⟩ := (hy4.pre hq61).sys
          try simp (maxSteps := 1000000) [go_sem, d0, d1, d2, e0, e1, e2, hp61]
          have lt6 := (List.getElem?_eq_some_iff.1 az61_6).1
          have lt7 := (List.getElem?_eq_some_iff.1 az61_7).1
          have lt8 := (List.getElem?_eq_some_iff.1 az61_8).1
          have hl4 := (hq61).length_le
          obtain ⟨HA, HB, HC, s6, s7, s8, hpC, o6, o7, o8, G1, G2⟩ := prodEnd (w := w) hq61 az61_6 az61_7 az61_8 (by omega) (by omega) (by omega) hga61_1 hga61_2 (by omega) (by omega) (by omega) (by omega) (by omega)
          simp (maxSteps := 1000000) [go_sem, s6, s7, s8]
          exact hQ' ((b60), (b34), (b59)) _ _ (by simp [upF, Fr.get, Up.refl]) ⟨hpC, _, _, _, _, o6, o7, o8, G1, G2, hgo53, hgo61⟩
         ·skip
          try simp (maxSteps := 1000000) [go_sem, d0, d1, d2, e0, e1, e2]
          refine sysGrid_ok ((hv.pre (hp0.trans hp04)).pre hq59) gy hFy _ ?_
          intro Hg62 g62 gs62 hp62 hge62 hga62_2 hgo62
          have hq62 := (hq59).trans hp62
          have az62_7 := pget hp62 az59_7
          have az62_8 := pget hp62 az59_8
          have hga62_1 := hga59_1.keep hp62
          have hlt62 := GridAt.lt hga62_2
          have hle62 := hp62.length_le
          obtain ⟨d0, d1, d2⟩ := (hx4.pre hq62).sys
          obtain ⟨e0, e1, e2⟩ := (hy4.pre hq62).sys
          try simp (maxSteps := 1000000) [go_sem, d0, d1, d2, e0, e1, e2, hp62]
          have hp63 : Hg62 <+: Hg62 ++ [(⟨[.int .i64 w], true, true⟩ : Blk)] := List.prefix_append _ _
          have az63_6 : (Hg62 ++ [(⟨[.int .i64 w], true, true⟩ : Blk)])[Hg62.length]? = some ⟨[.int .i64 w], true, true⟩ := by simp
          have hl63 : (Hg62 ++ [(⟨[.int .i64 w], true, true⟩ : Blk)]).length = Hg62.length + 1 := by simp
          obtain ⟨b63, hb63e⟩ : ∃ b, Hg62.length = b := ⟨_, rfl⟩
          generalize Hg62 ++ [(⟨[.int .i64 w], true, true⟩ : Blk)] = Hg63 at hp63 hl63 az63_6 ⊢
          rw [hb63e] at hl63 az63_6
          try rw [hb63e]
          have hq63 := (hq62).trans hp63
          have az63_7 := pget hp63 az62_7
          have az63_8 := pget hp63 az62_8
          have hga63_1 := hga62_1.keep hp63
          have hga63_2 := hga62_2.keep hp63
          have hle63 := hp63.length_le
          obtain ⟨d0, d1, d2⟩ := (hx4.pre hq63).sys
          obtain ⟨e0, e1, e2⟩ := (hy4.pre hq63).sys
          have lt6 := (List.getElem?_eq_some_iff.1 az63_6).1
          have lt7 := (List.getElem?_eq_some_iff.1 az63_7).1
          have lt8 := (List.getElem?_eq_some_iff.1 az63_8).1
          have hl4 := (hq63).length_le
          obtain ⟨HB, HC, s7, s8, hpC, o6, o7, o8, G1, G2⟩ := prodEnd2 (w := w) hq63 az63_6 az63_7 az63_8 (by omega) (by omega) (by omega) hga63_1 hga63_2 (by omega) (by omega) (by omega) (by omega) (by omega)
          simp (maxSteps := 1000000) [go_sem, s7, s8]
          exact hQ' ((b63), (b34), (b59)) _ _ (by simp [upF, Fr.get, Up.refl]) ⟨hpC, _, _, _, _, o6, o7, o8, G1, G2, hgo53, hgo62⟩
        ·skip
         try simp (maxSteps := 1000000) [go_sem, d0, d1, d2, e0, e1, e2, hp53]
         refine sysGrid_ok ((hv.pre (hp0.trans hp04)).pre hq53) gy hFy _ ?_
         intro Hg64 g64 gs64 hp64 hge64 hga64_2 hgo64
         have hq64 := (hq53).trans hp64
         have az64_7 := pget hp64 az53_7
         have hga64_1 := hga53_1.keep hp64
         have hlt64 := GridAt.lt hga64_2
         have hle64 := hp64.length_le
         obtain ⟨d0, d1, d2⟩ := (hx4.pre hq64).sys
         obtain ⟨e0, e1, e2⟩ := (hy4.pre hq64).sys
         try simp (maxSteps := 1000000) [go_sem, d0, d1, d2, e0, e1, e2, hp64]
         refine vG_alt ?_ ?_
         ·skip
          try simp (maxSteps := 1000000) [go_sem, d0, d1, d2, e0, e1, e2, hp64]
          have hp65 : Hg64 <+: Hg64 ++ [(⟨[.pointer none], true, true⟩ : Blk), ⟨[.int .i64 w], true, true⟩] := List.prefix_append _ _
          have az65_8 : (Hg64 ++ [(⟨[.pointer none], true, true⟩ : Blk), ⟨[.int .i64 w], true, true⟩])[Hg64.length]? = some ⟨[.pointer none], true, true⟩ := by simp
          have az65_6 : (Hg64 ++ [(⟨[.pointer none], true, true⟩ : Blk), ⟨[.int .i64 w], true, true⟩])[Hg64.length + 1]? = some ⟨[.int .i64 w], true, true⟩ := by simp
          have hl65 : (Hg64 ++ [(⟨[.pointer none], true, true⟩ : Blk), ⟨[.int .i64 w], true, true⟩]).length = Hg64.length + 2 := by simp
          obtain ⟨b65, hb65e⟩ : ∃ b, Hg64.length = b := ⟨_, rfl⟩
          generalize Hg64 ++ [(⟨[.pointer none], true, true⟩ : Blk), ⟨[.int .i64 w], true, true⟩] = Hg65 at hp65 hl65 az65_8 az65_6 ⊢
          rw [hb65e] at hl65 az65_8 az65_6
          try rw [hb65e]
          have hq65 := (hq64).trans hp65
          have az65_7 := pget hp65 az64_7
          have hga65_1 := hga64_1.keep hp65
          have hga65_2 := hga64_2.keep hp65
          have hle65 := hp65.length_le
          obtain ⟨d0, d1, d2⟩ := (hx4.pre hq65).sys
          obtain ⟨e0, e1, e2⟩ := (hy4.pre hq65).sys
          have lt6 := (List.getElem?_eq_some_iff.1 az65_6).1
          have lt7 := (List.getElem?_eq_some_iff.1 az65_7).1
          have lt8 := (List.getElem?_eq_some_iff.1 az65_8).1
          have hl4 := (hq65).length_le
          obtain ⟨HB, HC, s7, s8, hpC, o6, o7, o8, G1, G2⟩ := prodEnd2 (w := w) hq65 az65_6 az65_7 az65_8 (by omega) (by omega) (by omega) hga65_1 hga65_2 (by omega) (by omega) (by omega) (by omega) (by omega)
          simp (maxSteps := 1000000) [go_sem, s7, s8]
          exact hQ' ((b65 + 1), (b34), (b65)) _ _ (by simp [upF, Fr.get, Up.refl]) ⟨hpC, _, _, _, _, o6, o7, o8, G1, G2, hgo53, hgo64⟩
         ·skip
          try simp (maxSteps := 1000000) [go_sem, d0, d1, d2, e0, e1, e2, hp64]
          have hp66 : Hg64 <+: Hg64 ++ [(⟨[.int .i64 w], true, true⟩ : Blk), ⟨[.pointer none], true, true⟩] := List.prefix_append _ _
          have az66_6 : (Hg64 ++ [(⟨[.int .i64 w], true, true⟩ : Blk), ⟨[.pointer none], true, true⟩])[Hg64.length]? = some ⟨[.int .i64 w], true, true⟩ := by simp
          have az66_8 : (Hg64 ++ [(⟨[.int .i64 w], true, true⟩ : Blk), ⟨[.pointer none], true, true⟩])[Hg64.length + 1]? = some ⟨[.pointer none], true, true⟩ := by simp
          have hl66 : (Hg64 ++ [(⟨[.int .i64 w], true, true⟩ : Blk), ⟨[.pointer none], true, true⟩]).length = Hg64.length + 2 := by simp
          obtain ⟨b66, hb66e⟩ : ∃ b, Hg64.length = b := ⟨_, rfl⟩
          generalize Hg64 ++ [(⟨[.int .i64 w], true, true⟩ : Blk), ⟨[.pointer none], true, true⟩] = Hg66 at hp66 hl66 az66_6 az66_8 ⊢
          rw [hb66e] at hl66 az66_6 az66_8
          try rw [hb66e]
          have hq66 := (hq64).trans hp66
          have az66_7 := pget hp66 az64_7
          have hga66_1 := hga64_1.keep hp66
          have hga66_2 := hga64_2.keep hp66
          have hle66 := hp66.length_le
          obtain ⟨d0, d1, d2⟩ := (hx4.pre hq66).sys
          obtain ⟨e0, e1, e2⟩ := (hy4.pre hq66).sys
          have lt6 := (List.getElem?_eq_some_iff.1 az66_6).1
          have lt7 := (List.getElem?_eq_some_iff.1 az66_7).1
          have lt8 := (List.getElem?_eq_some_iff.1 az66_8).1
          have hl4 := (hq66).length_le
          obtain ⟨HB, HC, s7, s8, hpC, o6, o7, o8, G1, G2⟩ := prodEnd2 (w := w) hq66 az66_6 az66_7 az66_8 (by omega) (by omega) (by omega) hga66_1 hga66_2 (by omega) (by omega) (by omega) (by omega) (by omega)
          simp (maxSteps := 1000000) [go_sem, s7, s8]
          exact hQ' ((b66), (b34), (b66 + 1)) _ _ (by simp [upF, Fr.get, Up.refl]) ⟨hpC, _, _, _, _, o6, o7, o8, G1, G2, hgo53, hgo64⟩
    ·skip
     refine vG_alt ?_ ?_
     ·skip
      try simp (maxSteps := 1000000) [go_sem, d0, d1, d2, e0, e1, e2]
      have hp67 : H4 <+: H4 ++ [(⟨[.pointer none], true, true⟩ : Blk)] := List.prefix_append _ _
      have az67_8 : (H4 ++ [(⟨[.pointer none], true, true⟩ : Blk)])[H4.length]? = some ⟨[.pointer none], true, true⟩ := by simp
      have hl67 : (H4 ++ [(⟨[.pointer none], true, true⟩ : Blk)]).length = H4.length + 1 := by simp
      obtain ⟨b67, hb67e⟩ : ∃ b, H4.length = b := ⟨_, rfl⟩
      generalize H4 ++ [(⟨[.pointer none], true, true⟩ : Blk)] = Hg67 at hp67 hl67 az67_8 ⊢
      rw [hb67e] at hl67 az67_8
      try rw [hb67e]
      have hq67 := (hq0).trans hp67
      have hle67 := hp67.length_le
      obtain ⟨d0, d1, d2⟩ := (hx4.pre hq67).sys
      obtain ⟨e0, e1, e2⟩ := (hy4.pre hq67).sys
      refine vG_alt ?_ ?_
      ·skip
       try simp (maxSteps := 1000000) [go_sem, d0, d1, d2, e0, e1, e2]
       have hp68 : Hg67 <+: Hg67 ++ [(⟨[.int .i64 0], true, true⟩ : Blk)] := List.prefix_append _ _
       have az68_6 : (Hg67 ++ [(⟨[.int .i64 0], true, true⟩ : Blk)])[Hg67.length]? = some ⟨[.int .i64 0], true, true⟩ := by simp
       have hl68 : (Hg67 ++ [(⟨[.int .i64 0], true, true⟩ : Blk)]).length = Hg67.length + 1 := by simp
       obtain ⟨b68, hb68e⟩ : ∃ b, Hg67.length = b := ⟨_, rfl⟩
       generalize Hg67 ++ [(⟨[.int .i64 0], true, true⟩ : Blk)] = Hg68 at hp68 hl68 az68_6 ⊢
       rw [hb68e] at hl68 az68_6
       try rw [hb68e]
       have hq68 := (hq67).trans hp68
       have az68_8 := pget hp68 az67_8
       have hle68 := hp68.length_le
       obtain ⟨d0, d1, d2⟩ := (hx4.pre hq68).sys
       obtain ⟨e0, e1, e2⟩ := (hy4.pre hq68).sys
       refine vG_alt ?_ ?_
       ·skip
        try simp (maxSteps := 1000000) [go_sem, d0, d1, d2, e0, e1, e2]
        have hp69 : Hg68 <+: Hg68 ++ [(⟨[.pointer none], true, true⟩ : Blk)] := List.prefix_append _ _
        have az69_7 : (Hg68 ++ [(⟨[.pointer none], true, true⟩ : Blk)])[Hg68.length]? = some ⟨[.pointer none], true, true⟩ := by simp
        have hl69 : (Hg68 ++ [(⟨[.pointer none], true, true⟩ : Blk)]).length = Hg68.length + 1 := by simp
        obtain ⟨b69, hb69e⟩ : ∃ b, Hg68.length = b := ⟨_, rfl⟩
        generalize Hg68 ++ [(⟨[.pointer none], true, true⟩ : Blk)] = Hg69 at hp69 hl69 az69_7 ⊢
        rw [hb69e] at hl69 az69_7
        try rw [hb69e]
        have hq69 := (hq68).trans hp69
        have az69_8 := pget hp69 az68_8
        have az69_6 := pget hp69 az68_6
        have hle69 := hp69.length_le
        obtain ⟨d0, d1, d2⟩ := (hx4.pre hq69).sys
        obtain ⟨e0, e1, e2⟩ := (hy4.pre hq69).sys
        refine sysGrid_ok ((hu.pre (hp0.trans hp04)).pre hq69) gx hFx _ ?_
        intro Hg70 g70 gs70 hp70 hge70 hga70_1 hgo70
        have hq70 := (hq69).trans hp70
        have az70_8 := pget hp70 az69_8
        have az70_6 := pget hp70 az69_6
        have az70_7 := pget hp70 az69_7
        have hlt70 := GridAt.lt hga70_1
        have hle70 := hp70.length_le
        obtain ⟨d0, d1, d2⟩ := (hx4.pre hq70).sys
        obtain ⟨e0, e1, e2⟩ := (hy4.pre hq70).sys
        try simp (maxSteps := 1000000) [go_sem, d0, d1, d2, e0, e1, e2, hp70]
        refine sysGrid_ok ((hv.pre (hp0.trans hp04)).pre hq70) gy hFy _ ?_
        intro Hg71 g71 gs71 hp71 hge71 hga71_2 hgo71
        have hq71 := (hq70).trans hp71
        have az71_8 := pget hp71 az70_8
        have az71_6 := pget hp71 az70_6
        have az71_7 := pget hp71 az70_7
        have hga71_1 := hga70_1.keep hp71
        have hlt71 := GridAt.lt hga71_2
        have hle71 := hp71.length_le
        obtain ⟨d0, d1, d2⟩ := (hx4.pre hq71).sys
        obtain ⟨e0, e1, e2⟩ := (hy4.pre hq71).sys
        try simp (maxSteps := 1000000) [go_sem, d0, d1, d2, e0, e1, e2, hp71]
        have lt6 := (List.getElem?_eq_some_iff.1 az71_6).1
        have lt7 := (List.getElem?_eq_some_iff.1 az71_7).1
        have lt8 := (List.getElem?_eq_some_iff.1 az71_8).1
        have hl4 := (hq71).length_le
        obtain ⟨HA, HB, HC, s6, s7, s8, hpC, o6, o7, o8, G1, G2⟩ := prodEnd (w := w) hq71 az71_6 az71_7 az71_8 (by omega) (by omega) (by omega) hga71_1 hga71_2 (by omega) (by omega) (by omega) (by omega) (by omega)
        simp (maxSteps := 1000000) [go_sem, s6, s7, s8]
        exact hQ' ((b68), (b69), (b67)) _ _ (by simp [upF, Fr.get, Up.refl]) ⟨hpC, _, _, _, _, o6, o7, o8, G1, G2, hgo70, hgo71⟩
       ·skip
        try simp (maxSteps := 1000000) [go_sem, d0, d1, d2, e0, e1, e2]
        refine sysGrid_ok ((hu.pre (hp0.trans hp04)).pre hq68) gx hFx _ ?_
        intro Hg72 g72 gs72 hp72 hge72 hga72_1 hgo72
        have hq72 := (hq68).trans hp72
        have az72_8 := pget hp72 az68_8
        have az72_6 := pget hp72 az68_6
        have hlt72 := GridAt.lt hga72_1
        have hle72 := hp72.length_le
        obtain ⟨d0, d1, d2⟩ := (hx4.pre hq72).sys
        obtain ⟨e0, e1, e2⟩ := (hy4.pre hq72).sys
        try simp (maxSteps := 1000000) [go_sem, d0, d1, d2, e0, e1, e2, hp72]
        refine vG_alt ?_ ?_
        ·skip
         try simp (maxSteps := 1000000) [go_sem, d0, d1, d2, e0, e1, e2, hp72]
         have hp73 : Hg72 <+: Hg72 ++ [(⟨[.pointer none], true, true⟩ : Blk)] := List.prefix_append _ _
         have az73_7 : (Hg72 ++ [(⟨[.pointer none], true, true⟩ : Blk)])[Hg72.length]? = some ⟨[.pointer none], true, true⟩ := by simp
         have hl73 : (Hg72 ++ [(⟨[.pointer none], true, true⟩ : Blk)]).length = Hg72.length + 1 := by simp
         obtain ⟨b73, hb73e⟩ : ∃ b, Hg72.length = b := ⟨_, rfl⟩
         generalize Hg72 ++ [(⟨[.pointer none], true, true⟩ : Blk)] = Hg73 at hp73 hl73 az73_7 ⊢
         rw [hb73e] at hl73 az73_7
         try rw [hb73e]
         have hq73 := (hq72).trans hp73
         have az73_8 := pget hp73 az72_8
         have az73_6 := pget hp73 az72_6
         have hga73_1 := hga72_1.keep hp73
         have hle73 := hp73.length_le
         obtain ⟨d0, d1, d2⟩ := (hx4.pre hq73).sys
         obtain ⟨e0, e1, e2⟩ := (hy4.pre hq73).sys
         refine sysGrid_ok ((hv.pre (hp0.trans hp04)).pre hq73) gy hFy _ ?_
         intro Hg74 g74 gs74 hp74 hge74 hga74_2 hgo74
         have hq74 := (hq73).trans hp74
         have az74_8 := pget hp74 az73_8
         have az74_6 := pget hp74 az73_6
         have az74_7 := pget hp74 az73_7
         have hga74_1 := hga73_1.keep hp74
         have hlt74 := GridAt.lt hga74_2
         have hle74 := hp74.length_le
         obtain ⟨d0, d1, d2⟩ := (hx4.pre hq74).sys
         obtain ⟨e0, e1, e2⟩ := (hy4.pre hq74).sys
         try simp (maxSteps := 1000000) [go_sem, d0, d1, d2, e0, e1, e2, hp74]
         have lt6 := (List.getElem?_eq_some_iff.1 az74_6).1
         have lt7 := (List.getElem?_eq_some_iff.1 az74_7).1
         have lt8 := (List.getElem?_eq_some_iff.1 az74_8).1
         have hl4 := (hq74).length_le
         obtain ⟨HA, HB, HC, s6, s7, s8, hpC, o6, o7, o8, G1, G2⟩ := prodEnd (w := w) hq74 az74_6 az74_7 az74_8 (by omega) (by omega) (by omega) hga74_1 hga74_2 (by omega) (by omega) (by omega) (by omega) (by omega)
         simp (maxSteps := 1000000) [go_sem, s6, s7, s8]
         exact hQ' ((b68), (b73), (b67)) _ _ (by simp [upF, Fr.get, Up.refl]) ⟨hpC, _, _, _, _, o6, o7, o8, G1, G2, hgo72, hgo74⟩
        ·skip
         try simp (maxSteps := 1000000) [go_sem, d0, d1, d2, e0, e1, e2, hp72]
         refine sysGrid_ok ((hv.pre (hp0.trans hp04)).pre hq72) gy hFy _ ?_
         intro Hg75 g75 gs75 hp75 hge75 hga75_2 hgo75
         have hq75 := (hq72).trans hp75
         have az75_8 := pget hp75 az72_8
         have az75_6 := pget hp75 az72_6
         have hga75_1 := hga72_1.keep hp75
         have hlt75 := GridAt.lt hga75_2
         have hle75 := hp75.length_le
         obtain ⟨d0, d1, d2⟩ := (hx4.pre hq75).sys
         obtain ⟨e0, e1, e2⟩ := (hy4.pre hq75).sys
         try simp (maxSteps := 1000000) [go_sem, d0, d1, d2, e0, e1, e2, hp75]
         have hp76 : Hg75 <+: Hg75 ++ [(⟨[.pointer none], true, true⟩ : Blk)] := List.prefix_append _ _
         have az76_7 : (Hg75 ++ [(⟨[.pointer none], true, true⟩ : Blk)])[Hg75.length]? = some ⟨[.pointer none], true, true⟩ := by simp
         have hl76 : (Hg75 ++ [(⟨[.pointer none], true, true⟩ : Blk)]).length = Hg75.length + 1 := by simp
         obtain ⟨b76, hb76e⟩ : ∃ b, Hg75.length = b := ⟨_, rfl⟩
         generalize Hg75 ++ [(⟨[.pointer none], true, true⟩ : Blk)] = Hg76 at hp76 hl76 az76_7 ⊢
         rw [hb76e] at hl76 az76_7
         try rw [hb76e]
         have hq76 := (hq75).trans hp76
         have az76_8 := pget hp76 az75_8
         have az76_6 := pget hp76 az75_6
         have hga76_1 := hga75_1.keep hp76
         have hga76_2 := hga75_2.keep hp76
         have hle76 := hp76.length_le
         obtain ⟨d0, d1, d2⟩ := (hx4.pre hq76).sys
         obtain ⟨e0, e1, e2⟩ := (hy4.pre hq76).sys
         have lt6 := (List.getElem?_eq_some_iff.1 az76_6).1
         have lt7 := (List.getElem?_eq_some_iff.1 az76_7).1
         have lt8 := (List.getElem?_eq_some_iff.1 az76_8).1
         have hl4 := (hq76).length_le
         obtain ⟨HA, HB, HC, s6, s7, s8, hpC, o6, o7, o8, G1, G2⟩ := prodEnd (w := w) hq76 az76_6 az76_7 az76_8 (by omega) (by omega) (by omega) hga76_1 hga76_2 (by omega) (by omega) (by omega) (by omega) (by omega)
         simp (maxSteps := 1000000) [go_sem, s6, s7, s8]
         exact hQ' ((b68), (b76), (b67)) _ _ (by simp [upF, Fr.get, Up.refl]) ⟨hpC, _, _, _, _, o6, o7, o8, G1, G2, hgo72, hgo75⟩
      ·skip
       refine vG_alt ?_ ?_
       ·skip
        try simp (maxSteps := 1000000) [go_sem, d0, d1, d2, e0, e1, e2]
        have hp77 : Hg67 <+: Hg67 ++ [(⟨[.pointer none], true, true⟩ : Blk)] := List.prefix_append _ _
        have az77_7 : (Hg67 ++ [(⟨[.pointer none], true, true⟩ : Blk)])[Hg67.length]? = some ⟨[.pointer none], true, true⟩ := by simp
        have hl77 : (Hg67 ++ [(⟨[.pointer none], true, true⟩ : Blk)]).length = Hg67.length + 1 := by simp
        obtain ⟨b77, hb77e⟩ : ∃ b, Hg67.length = b := ⟨_, rfl⟩
        generalize Hg67 ++ [(⟨[.pointer none], true, true⟩ : Blk)] = Hg77 at hp77 hl77 az77_7 ⊢
        rw [hb77e] at hl77 az77_7
        try rw [hb77e]
        have hq77 := (hq67).trans hp77
        have az77_8 := pget hp77 az67_8
        have hle77 := hp77.length_le
        obtain ⟨d0, d1, d2⟩ := (hx4.pre hq77).sys
        obtain ⟨e0, e1, e2⟩ := (hy4.pre hq77).sys
        refine vG_alt ?_ ?_
        ·skip
         try simp (maxSteps := 1000000) [go_sem, d0, d1, d2, e0, e1, e2]
         have hp78 : Hg77 <+: Hg77 ++ [(⟨[.int .i64 0], true, true⟩ : Blk)] := List.prefix_append _ _
         have az78_6 : (Hg77 ++ [(⟨[.int .i64 0], true, true⟩ : Blk)])[Hg77.length]? = some ⟨[.int .i64 0], true, true⟩ := by simp
         have hl78 : (Hg77 ++ [(⟨[.int .i64 0], true, true⟩ : Blk)]).length = Hg77.length + 1 := by simp
         obtain ⟨b78, hb78e⟩ : ∃ b, Hg77.length = b := ⟨_, rfl⟩
         generalize Hg77 ++ [(⟨[.int .i64 0], true, true⟩ : Blk)] = Hg78 at hp78 hl78 az78_6 ⊢
         rw [hb78e] at hl78 az78_6
         try rw [hb78e]
         have hq78 := (hq77).trans hp78
         have az78_8 := pget hp78 az77_8
         have az78_7 := pget hp78 az77_7
         have hle78 := hp78.length_le
         obtain ⟨d0, d1, d2⟩ := (hx4.pre hq78).sys
         obtain ⟨e0, e1, e2⟩ := (hy4.pre hq78).sys
         refine sysGrid_ok ((hu.pre (hp0.trans hp04)).pre hq78) gx hFx _ ?_
         intro Hg79 g79 gs79 hp79 hge79 hga79_1 hgo79
         have hq79 := (hq78).trans hp79
         have az79_8 := pget hp79 az78_8
         have az79_7 := pget hp79 az78_7
         have az79_6 := pget hp79 az78_6
         have hlt79 := GridAt.lt hga79_1
         have hle79 := hp79.length_le
         obtain ⟨d0, d1, d2⟩ := (hx4.pre hq79).sys
         obtain ⟨e0, e1, e2⟩ := (hy4.pre hq79).sys
         try simp (maxSteps := 1000000) [go_sem, d0, d1, d2, e0, e1, e2, hp79]
         refine sysGrid_ok ((hv.pre (hp0.trans hp04)).pre hq79) gy hFy _ ?_
         intro Hg80 g80 gs80 hp80 hge80 hga80_2 hgo80
         have hq80 := (hq79).trans hp80
         have az80_8 := pget hp80 az79_8
         have az80_7 := pget hp80 az79_7
         have az80_6 := pget hp80 az79_6
         have hga80_1 := hga79_1.keep hp80
         have hlt80 := GridAt.lt hga80_2
         have hle80 := hp80.length_le
         obtain ⟨d0, d1, d2⟩ := (hx4.pre hq80).sys
         obtain ⟨e0, e1, e2⟩ := (hy4.pre hq80).sys
         try simp (maxSteps := 1000000) [go_sem, d0, d1, d2, e0, e1, e2, hp80]
         have lt6 := (List.getElem?_eq_some_iff.1 az80_6).1
         have lt7 := (List.getElem?_eq_some_iff.1 az80_7).1
         have lt8 := (List.getElem?_eq_some_iff.1 az80_8).1
         have hl4 := (hq80).length_le
         obtain ⟨HA, HB, HC, s6, s7, s8, hpC, o6, o7, o8, G1, G2⟩ := prodEnd (w := w) hq80 az80_6 az80_7 az80_8 (by omega) (by omega) (by omega) hga80_1 hga80_2 (by omega) (by omega) (by omega) (by omega) (by omega)
         simp (maxSteps := 1000000) [go_sem, s6, s7, s8]
         exact hQ' ((b78), (b77), (b67)) _ _ (by simp [upF, Fr.get, Up.refl]) ⟨hpC, _, _, _, _, o6, o7, o8, G1, G2, hgo79, hgo80⟩
        ·skip
         try simp (maxSteps := 1000000) [go_sem, d0, d1, d2, e0, e1, e2]
         refine sysGrid_ok ((hu.pre (hp0.trans hp04)).pre hq77) gx hFx _ ?_
         intro Hg81 g81 gs81 hp81 hge81 hga81_1 hgo81
         have hq81 := (hq77).trans hp81
         have az81_8 := pget hp81 az77_8
         have az81_7 := pget hp81 az77_7
         have hlt81 := GridAt.lt hga81_1
         have hle81 := hp81.length_le
         obtain ⟨d0, d1, d2⟩ := (hx4.pre hq81).sys
         obtain ⟨e0, e1, e2⟩ := (hy4.pre hq81).sys
         try simp (maxSteps := 1000000) [go_sem, d0, d1, d2, e0, e1, e2, hp81]
         refine vG_alt ?_ ?_
         ·skip
          try simp (maxSteps := 1000000) [go_sem, d0, d1, d2, e0, e1, e2, hp81]
          have hp82 : Hg81 <+: Hg81 ++ [(⟨[.int .i64 0], true, true⟩ : Blk)] := List.prefix_append _ _
          have az82_6 : (Hg81 ++ [(⟨[.int .i64 0], true, true⟩ : Blk)])[Hg81.length]? = some ⟨[.int .i64 0], true, true⟩ := by simp
          have hl82 : (Hg81 ++ [(⟨[.int .i64 0], true, true⟩ : Blk)]).length = Hg81.length + 1 := by simp
          obtain ⟨b82, hb82e⟩ : ∃ b, Hg81.length = b := ⟨_, rfl⟩
          generalize Hg81 ++ [(⟨[.int .i64 0], true, true⟩ : Blk)] = Hg82 at hp82 hl82 az82_6 ⊢
          rw [hb82e] at hl82 az82_6
          try rw [hb82e]
          have hq82 := (hq81).trans hp82
          have az82_8 := pget hp82 az81_8
          have az82_7 := pget hp82 az81_7
          have hga82_1 := hga81_1.keep hp82
          have hle82 := hp82.length_le
          obtain ⟨d0, d1, d2⟩ := (hx4.pre hq82).sys
          obtain ⟨e0, e1, e2⟩ := (hy4.pre hq82).sys
          refine sysGrid_ok ((hv.pre (hp0.trans hp04)).pre hq82) gy hFy _ ?_
          intro Hg83 g83 gs83 hp83 hge83 hga83_2 hgo83
          have hq83 := (hq82).trans hp83
          have az83_8 := pget hp83 az82_8
          have az83_7 := pget hp83 az82_7
          have az83_6 := pget hp83 az82_6
          have hga83_1 := hga82_1.keep hp83
          have hlt83 := GridAt.lt hga83_2
          have hle83 := hp83.length_le
          obtain ⟨d0, d1, d2⟩ := (hx4.pre hq83).sys
          obtain ⟨e0, e1, e2⟩ := (hy4.pre hq83).sys
          try simp (maxSteps := 1000000) [go_sem, d0, d1, d2, e0, e1, e2, hp83]
          have lt6 := (List.getElem?_eq_some_iff.1 az83_6).1
          have lt7 := (List.getElem?_eq_some_iff.1 az83_7).1
          have lt8 := (List.getElem?_eq_some_iff.1 az83_8).1
          have hl4 := (hq83).length_le
          obtain ⟨HA, HB, HC, s6, s7, s8, hpC, o6, o7, o8, G1, G2⟩ := prodEnd (w := w) hq83 az83_6 az83_7 az83_8 (by omega) (by omega) (by omega) hga83_1 hga83_2 (by omega) (by omega) (by omega) (by omega) (by omega)
          simp (maxSteps := 1000000) [go_sem, s6, s7, s8]
          exact hQ' ((b82), (b77), (b67)) _ _ (by simp [upF, Fr.get, Up.refl]) ⟨hpC, _, _, _, _, o6, o7, o8, G1, G2, hgo81, hgo83⟩
         ·skip
          try simp (maxSteps := 1000000) [go_sem, d0, d1, d2, e0, e1, e2, hp81]
          refine sysGrid_ok ((hv.pre (hp0.trans hp04)).pre hq81) gy hFy _ ?_
          intro Hg84 g84 gs84 hp84 hge84 hga84_2 hgo84
          have hq84 := (hq81).trans hp84
          have az84_8 := pget hp84 az81_8
          have az84_7 := pget hp84 az81_7
          have hga84_1 := hga81_1.keep hp84
          have hlt84 := GridAt.lt hga84_2
          have hle84 := hp84.length_le
          obtain ⟨d0, d1, d2⟩ := (hx4.pre hq84).sys
          obtain ⟨e0, e1, e2⟩ := (hy4.pre hq84).sys
          try simp (maxSteps := 1000000) [go_sem, d0, d1, d2, e0, e1, e2, hp84]
          have hp85 : Hg84 <+: Hg84 ++ [(⟨[.int .i64 w], true, true⟩ : Blk)] := List.prefix_append _ _
          have az85_6 : (Hg84 ++ [(⟨[.int .i64 w], true, true⟩ : Blk)])[Hg84.length]? = some ⟨[.int .i64 w], true, true⟩ := by simp
          have hl85 : (Hg84 ++ [(⟨[.int .i64 w], true, true⟩ : Blk)]).length = Hg84.length + 1 := by simp
          obtain ⟨b85, hb85e⟩ : ∃ b, Hg84.length = b := ⟨_, rfl⟩
          generalize Hg84 ++ [(⟨[.int .i64 w], true, true⟩ : Blk)] = Hg85 at hp85 hl85 az85_6 ⊢
          rw [hb85e] at hl85 az85_6
          try rw [hb85e]
          have hq85 := (hq84).trans hp85
          have az85_8 := pget hp85 az84_8
          have az85_7 := pget hp85 az84_7
          have hga85_1 := hga84_1.keep hp85
          have hga85_2 := hga84_2.keep hp85
          have hle85 := hp85.length_le
          obtain ⟨d0, d1, d2⟩ := (hx4.pre hq85).sys
          obtain ⟨e0, e1, e2⟩ := (hy4.pre hq85).sys
          have lt6 := (List.getElem?_eq_some_iff.1 az85_6).1
          have lt7 := (List.getElem?_eq_some_iff.1 az85_7).1
          have lt8 := (List.getElem?_eq_some_iff.1 az85_8).1
          have hl4 := (hq85).length_le
          obtain ⟨HB, HC, s7, s8, hpC, o6, o7, o8, G1, G2⟩ := prodEnd2 (w := w) hq85 az85_6 az85_7 az85_8 (by omega) (by omega) (by omega) hga85_1 hga85_2 (by omega) (by omega) (by omega) (by omega) (by omega)
          simp (maxSteps := 1000000) [go_sem, s7, s8]
          exact hQ' ((b85), (b77), (b67)) _ _ (by simp [upF, Fr.get, Up.refl]) ⟨hpC, _, _, _, _, o6, o7, o8, G1, G2, hgo81, hgo84⟩
       ·skip
        try simp (maxSteps := 1000000) [go_sem, d0, d1, d2, e0, e1, e2]
        refine sysGrid_ok ((hu.pre (hp0.trans hp04)).pre hq67) gx hFx _ ?_
        intro Hg86 g86 gs86 hp86 hge86 hga86_1 hgo86
        have hq86 := (hq67).trans hp86
        have az86_8 := pget hp86 az67_8
        have hlt86 := GridAt.lt hga86_1
        have hle86 := hp86.length_le
        obtain ⟨d0, d1, d2⟩ := (hx4.pre hq86).sys
        obtain ⟨e0, e1, e2⟩ := (hy4.pre hq86).sys
        try simp (maxSteps := 1000000) [go_sem, d0, d1, d2, e0, e1, e2, hp86]
        refine vG_alt ?_ ?_
        ·skip
         try simp (maxSteps := 1000000) [go_sem, d0, d1, d2, e0, e1, e2, hp86]
         have hp87 : Hg86 <+: Hg86 ++ [(⟨[.int .i64 0], true, true⟩ : Blk)] := List.prefix_append _ _
         have az87_6 : (Hg86 ++ [(⟨[.int .i64 0], true, true⟩ : Blk)])[Hg86.length]? = some ⟨[.int .i64 0], true, true⟩ := by simp
         have hl87 : (Hg86 ++ [(⟨[.int .i64 0], true, true⟩ : Blk)]).length = Hg86.length + 1 := by simp
         obtain ⟨b87, hb87e⟩ : ∃ b, Hg86.length = b := ⟨_, rfl⟩
         generalize Hg86 ++ [(⟨[.int .i64 0], true, true⟩ : Blk)] = Hg87 at hp87 hl87 az87_6 ⊢
         rw [hb87e] at hl87 az87_6
         try rw [hb87e]
         have hq87 := (hq86).trans hp87
         have az87_8 := pget hp87 az86_8
         have hga87_1 := hga86_1.keep hp87
         have hle87 := hp87.length_le
         obtain ⟨d0, d1, d2⟩ := (hx4.pre hq87).sys
         obtain ⟨e0, e1, e2⟩ := (hy4.pre hq87).sys
         refine vG_alt ?_ ?_
         ·skip
          try simp (maxSteps := 1000000) [go_sem, d0, d1, d2, e0, e1, e2]
          have hp88 : Hg87 <+: Hg87 ++ [(⟨[.pointer none], true, true⟩ : Blk)] := List.prefix_append _ _
          have az88_7 : (Hg87 ++ [(⟨[.pointer none], true, true⟩ : Blk)])[Hg87.length]? = some ⟨[.pointer none], true, true⟩ := by simp
          have hl88 : (Hg87 ++ [(⟨[.pointer none], true, true⟩ : Blk)]).length = Hg87.length + 1 := by simp
          obtain ⟨b88, hb88e⟩ : ∃ b, Hg87.length = b := ⟨_, rfl⟩
          generalize Hg87 ++ [(⟨[.pointer none], true, true⟩ : Blk)] = Hg88 at hp88 hl88 az88_7 ⊢
          rw [hb88e] at hl88 az88_7
          try rw [hb88e]
          have hq88 := (hq87).trans hp88
          have az88_8 := pget hp88 az87_8
          have az88_6 := pget hp88 az87_6
          have hga88_1 := hga87_1.keep hp88
          have hle88 := hp88.length_le
          obtain ⟨d0, d1, d2⟩ := (hx4.pre hq88).sys
          obtain ⟨e0, e1, e2⟩ := (hy4.pre hq88).sys
          refine sysGrid_ok ((hv.pre (hp0.trans hp04)).pre hq88) gy hFy _ ?_
          intro Hg89 g89 gs89 hp89 hge89 hga89_2 hgo89
          have hq89 := (hq88).trans hp89
          have az89_8 := pget hp89 az88_8
          have az89_6 := pget hp89 az88_6
          have az89_7 := pget hp89 az88_7
          have hga89_1 := hga88_1.keep hp89
          have hlt89 := GridAt.lt hga89_2
          have hle89 := hp89.length_le
          obtain ⟨d0, d1, d2⟩ := (hx4.pre hq89).sys
          obtain ⟨e0, e1, e2⟩ := (hy4.pre hq89).sys
          try simp (maxSteps := 1000000) [go_sem, d0, d1, d2, e0, e1, e2, hp89]
          have lt6 := (List.getElem?_eq_some_iff.1 az89_6).1
          have lt7 := (List.getElem?_eq_some_iff.1 az89_7).1
          have lt8 := (List.getElem?_eq_some_iff.1 az89_8).1
          have hl4 := (hq89).length_le
          obtain ⟨HA, HB, HC, s6, s7, s8, hpC, o6, o7, o8, G1, G2⟩ := prodEnd (w := w) hq89 az89_6 az89_7 az89_8 (by omega) (by omega) (by omega) hga89_1 hga89_2 (by omega) (by omega) (by omega) (by omega) (by omega)
          simp (maxSteps := 1000000) [go_sem, s6, s7, s8]
          exact hQ' ((b87), (b88), (b67)) _ _ (by simp [upF, Fr.get, Up.refl]) ⟨hpC, _, _, _, _, o6, o7, o8, G1, G2, hgo86, hgo89⟩
         ·skip
          try simp (maxSteps := 1000000) [go_sem, d0, d1, d2, e0, e1, e2]
          refine sysGrid_ok ((hv.pre (hp0.trans hp04)).pre hq87) gy hFy _ ?_
          intro Hg90 g90 gs90 hp90 hge90 hga90_2 hgo90
          have hq90 := (hq87).trans hp90
          have az90_8 := pget hp90 az87_8
          have az90_6 := pget hp90 az87_6
          have hga90_1 := hga87_1.keep hp90
          have hlt90 := GridAt.lt hga90_2
          have hle90 := hp90.length_le
          obtain ⟨d0, d1, d2⟩ := (hx4.pre hq90).sys
          obtain ⟨e0, e1, e2⟩ := (hy4.pre hq90).sys
          try simp (maxSteps := 1000000) [go_sem, d0, d1, d2, e0, e1, e2, hp90]
          have hp91 : Hg90 <+: Hg90 ++ [(⟨[.pointer none], true, true⟩ : Blk)] := List.prefix_append _ _
          have az91_7 : (Hg90 ++ [(⟨[.pointer none], true, true⟩ : Blk)])[Hg90.length]? = some ⟨[.pointer none], true, true⟩ := by simp
          have hl91 : (Hg90 ++ [(⟨[.pointer none], true, true⟩ : Blk)]).length = Hg90.length + 1 := by simp
          obtain ⟨b91, hb91e⟩ : ∃ b, Hg90.length = b := ⟨_, rfl⟩
          generalize Hg90 ++ [(⟨[.pointer none], true, true⟩ : Blk)] = Hg91 at hp91 hl91 az91_7 ⊢
          rw [hb91e] at hl91 az91_7
          try rw [hb91e]
          have hq91 := (hq90).trans hp91
          have az91_8 := pget hp91 az90_8
          have az91_6 := pget hp91 az90_6
          have hga91_1 := hga90_1.keep hp91
          have hga91_2 := hga90_2.keep hp91
          have hle91 := hp91.length_le
          obtain ⟨d0, d1, d2⟩ := (hx4.pre hq91).sys
          obtain ⟨e0, e1, e2⟩ := (hy4.pre hq91).sys
          have lt6 := (List.getElem?_eq_some_iff.1 az91_6).1
          have lt7 := (List.getElem?_eq_some_iff.1 az91_7).1
          have lt8 := (List.getElem?_eq_some_iff.1 az91_8).1
          have hl4 := (hq91).length_le
          obtain ⟨HA, HB, HC, s6, s7, s8, hpC, o6, o7, o8, G1, G2⟩ := prodEnd (w := w) hq91 az91_6 az91_7 az91_8 (by omega) (by omega) (by omega) hga91_1 hga91_2 (by omega) (by omega) (by omega) (by omega) (by omega)
          simp (maxSteps := 1000000) [go_sem, s6, s7, s8]
          exact hQ' ((b87), (b91), (b67)) _ _ (by simp [upF, Fr.get, Up.refl]) ⟨hpC, _, _, _, _, o6, o7, o8, G1, G2, hgo86, hgo90⟩
        ·skip
         refine vG_alt ?_ ?_
         ·skip
          try simp (maxSteps := 1000000) [go_sem, d0, d1, d2, e0, e1, e2, hp86]
          have hp92 : Hg86 <+: Hg86 ++ [(⟨[.pointer none], true, true⟩ : Blk)] := List.prefix_append _ _
          have az92_7 : (Hg86 ++ [(⟨[.pointer none], true, true⟩ : Blk)])[Hg86.length]? = some ⟨[.pointer none], true, true⟩ := by simp
          have hl92 : (Hg86 ++ [(⟨[.pointer none], true, true⟩ : Blk)]).length = Hg86.length + 1 := by simp
          obtain ⟨b92, hb92e⟩ : ∃ b, Hg86.length = b := ⟨_, rfl⟩
          generalize Hg86 ++ [(⟨[.pointer none], true, true⟩ : Blk)] = Hg92 at hp92 hl92 az92_7 ⊢
          rw [hb92e] at hl92 az92_7
          try rw [hb92e]
          have hq92 := (hq86).trans hp92
          have az92_8 := pget hp92 az86_8
          have hga92_1 := hga86_1.keep hp92
          have hle92 := hp92.length_le
          obtain ⟨d0, d1, d2⟩ := (hx4.pre hq92).sys
          obtain ⟨e0, e1, e2⟩ := (hy4.pre hq92).sys
          refine vG_alt ?_ ?_
          ·skip
           try simp (maxSteps := 1000000) [go_sem, d0, d1, d2, e0, e1, e2]
           have hp93 : Hg92 <+: Hg92 ++ [(⟨[.int .i64 0], true, true⟩ : Blk)] := List.prefix_append _ _
           have az93_6 : (Hg92 ++ [(⟨[.int .i64 0], true, true⟩ : Blk)])[Hg92.length]? = some ⟨[.int .i64 0], true, true⟩ := by simp
           have hl93 : (Hg92 ++ [(⟨[.int .i64 0], true, true⟩ : Blk)]).length = Hg92.length + 1 := by simp
           obtain ⟨b93, hb93e⟩ : ∃ b, Hg92.length = b := ⟨_, rfl⟩
           generalize Hg92 ++ [(⟨[.int .i64 0], true, true⟩ : Blk)] = Hg93 at hp93 hl93 az93_6 ⊢
           rw [hb93e] at hl93 az93_6
           try rw [hb93e]
           have hq93 := (hq92).trans hp93
           have az93_8 := pget hp93 az92_8
           have az93_7 := pget hp93 az92_7
           have hga93_1 := hga92_1.keep hp93
           have hle93 := hp93.length_le
           obtain ⟨d0, d1, d2⟩ := (hx4.pre hq93).sys
           obtain ⟨e0, e1, e2⟩ := (hy4.pre hq93).sys
           refine sysGrid_ok ((hv.pre (hp0.trans hp04)).pre hq93) gy hFy _ ?_
           intro Hg94 g94 gs94 hp94 hge94 hga94_2 hgo94
           have hq94 := (hq93).trans hp94
           have az94_8 := pget hp94 az93_8
           have az94_7 := pget hp94 az93_7
           have az94_6 := pget hp94 az93_6
           have hga94_1 := hga93_1.keep hp94
           have hlt94 := GridAt.lt hga94_2
           have hle94 := hp94.length_le
           obtain ⟨d0, d1, d2⟩ := (hx4.pre hq94).sys
           obtain ⟨e0, e1, e2⟩ := (hy4.pre hq94).sys
           try simp (maxSteps := 1000000) [go_sem, d0, d1, d2, e0, e1, e2, hp94]
           have lt6 := (List.getElem?_eq_some_iff.1 az94_6).1
           have lt7 := (List.getElem?_eq_some_iff.1 az94_7).1
           have lt8 := (List.getElem?_eq_some_iff.1 az94_8).1
           have hl4 := (hq94).length_le
           obtain ⟨HA, HB, HC, s6, s7, s8, hpC, o6, o7, o8, G1, G2⟩ := prodEnd (w := w) hq94 az94_6 az94_7 az94_8 (by omega) (by omega) (by omega) hga94_1 hga94_2 (by omega) (by omega) (by omega) (by omega) (by omega)
           simp (maxSteps := 1000000) [go_sem, s6, s7, s8]
           exact hQ' ((b93), (b92), (b67)) _ _ (by simp [upF, Fr.get, Up.refl]) ⟨hpC, _, _, _, _, o6, o7, o8, G1, G2, hgo86, hgo94⟩
          ·skip
           try simp (maxSteps := 1000000) [go_sem, d0, d1, d2, e0, e1, e2]
           refine sysGrid_ok ((hv.pre (hp0.trans hp04)).pre hq92) gy hFy _ ?_
           intro Hg95 g95 gs95 hp95 hge95 hga95_2 hgo95
           have hq95 := (hq92).trans hp95
           have az95_8 := pget hp95 az92_8
           have az95_7 := pget hp95 az92_7
           have hga95_1 := hga92_1.keep hp95
           have hlt95 := GridAt.lt hga95_2
           have hle95 := hp95.length_le
           obtain ⟨d0, d1, d2⟩ := (hx4.pre hq95).sys
           obtain ⟨e0, e1, e2⟩ := (hy4.pre hq95).sys
           try simp (maxSteps := 1000000) [go_sem, d0, d1, d2, e0, e1, e2, hp95]
           have hp96 : Hg95 <+: Hg95 ++ [(⟨[.int .i64 w], true, true⟩ : Blk)] := List.prefix_append _ _
           have az96_6 : (Hg95 ++ [(⟨[.int .i64 w], true, true⟩ : Blk)])[Hg95.length]? = some ⟨[.int .i64 w], true, true⟩ := by simp
           have hl96 : (Hg95 ++ [(⟨[.int .i64 w], true, true⟩ : Blk)]).length = Hg95.length + 1 := by simp
           obtain ⟨b96, hb96e⟩ : ∃ b, Hg95.length = b := ⟨_, rfl⟩
           generalize Hg95 ++ [(⟨[.int .i64 w], true, true⟩ : Blk)] = Hg96 at hp96 hl96 az96_6 ⊢
           rw [hb96e] at hl96 az96_6
           try rw [hb96e]
           have hq96 := (hq95).trans hp96
           have az96_8 := pget hp96 az95_8
           have az96_7 := pget hp96 az95_7
           have hga96_1 := hga95_1.keep hp96
           have hga96_2 := hga95_2.keep hp96
           have hle96 := hp96.length_le
           obtain ⟨d0, d1, d2⟩ := (hx4.pre hq96).sys
           obtain ⟨e0, e1, e2⟩ := (hy4.pre hq96).sys
           have lt6 := (List.getElem?_eq_some_iff.1 az96_6).1
           have lt7 := (List.getElem?_eq_some_iff.1 az96_7).1
           have lt8 := (List.getElem?_eq_some_iff.1 az96_8).1
           have hl4 := (hq96).length_le
           obtain ⟨HB, HC, s7, s8, hpC, o6, o7, o8, G1, G2⟩ := prodEnd2 (w := w) hq96 az96_6 az96_7 az96_8 (by omega) (by omega) (by omega) hga96_1 hga96_2 (by omega) (by omega) (by omega) (by omega) (by omega)
           simp (maxSteps := 1000000) [go_sem, s7, s8]
           exact hQ' ((b96), (b92), (b67)) _ _ (by simp [upF, Fr.get, Up.refl]) ⟨hpC, _, _, _, _, o6, o7, o8, G1, G2, hgo86, hgo95⟩
         ·skip
          try simp (maxSteps := 1000000) [go_sem, d0, d1, d2, e0, e1, e2, hp86]
          refine sysGrid_ok ((hv.pre (hp0.trans hp04)).pre hq86) gy hFy _ ?_
          intro Hg97 g97 gs97 hp97 hge97 hga97_2 hgo97
          have hq97 := (hq86).trans hp97
          have az97_8 := pget hp97 az86_8
          have hga97_1 := hga86_1.keep hp97
          have hlt97 := GridAt.lt hga97_2
          have hle97 := hp97.length_le
          obtain ⟨d0, d1, d2⟩ := (hx4.pre hq97).sys
          obtain ⟨e0, e1, e2⟩ := (hy4.pre hq97).sys
          try simp (maxSteps := 1000000) [go_sem, d0, d1, d2, e0, e1, e2, hp97]
          refine vG_alt ?_ ?_
          ·skip
           try simp (maxSteps := 1000000) [go_sem, d0, d1, d2, e0, e1, e2, hp97]
           have hp98 : Hg97 <+: Hg97 ++ [(⟨[(.pointer (some ⟨g86, 0, none⟩) : Value)], true, true⟩ : Blk), ⟨[.int .i64 w], true, true⟩] := List.prefix_append _ _
           have az98_7 : (Hg97 ++ [(⟨[(.pointer (some ⟨g86, 0, none⟩) : Value)], true, true⟩ : Blk), ⟨[.int .i64 w], true, true⟩])[Hg97.length]? = some ⟨[(.pointer (some ⟨g86, 0, none⟩) : Value)], true, true⟩ := by simp
           have az98_6 : (Hg97 ++ [(⟨[(.pointer (some ⟨g86, 0, none⟩) : Value)], true, true⟩ : Blk), ⟨[.int .i64 w], true, true⟩])[Hg97.length + 1]? = some ⟨[.int .i64 w], true, true⟩ := by simp
           have hl98 : (Hg97 ++ [(⟨[(.pointer (some ⟨g86, 0, none⟩) : Value)], true, true⟩ : Blk), ⟨[.int .i64 w], true, true⟩]).length = Hg97.length + 2 := by simp
           obtain ⟨b98, hb98e⟩ : ∃ b, Hg97.length = b := ⟨_, rfl⟩
           generalize Hg97 ++ [(⟨[(.pointer (some ⟨g86, 0, none⟩) : Value)], true, true⟩ : Blk), ⟨[.int .i64 w], true, true⟩] = Hg98 at hp98 hl98 az98_7 az98_6 ⊢
           rw [hb98e] at hl98 az98_7 az98_6
           try rw [hb98e]
           have hq98 := (hq97).trans hp98
           have az98_8 := pget hp98 az97_8
           have hga98_1 := hga97_1.keep hp98
           have hga98_2 := hga97_2.keep hp98
           have hle98 := hp98.length_le
           obtain ⟨d0, d1, d2⟩ := (hx4.pre hq98).sys
           obtain ⟨e0, e1, e2⟩ := (hy4.pre hq98).sys
           have lt6 := (List.getElem?_eq_some_iff.1 az98_6).1
           have lt7 := (List.getElem?_eq_some_iff.1 az98_7).1
           have lt8 := (List.getElem?_eq_some_iff.1 az98_8).1
           have hl4 := (hq98).length_le
           obtain ⟨HC, s8, hpC, o6, o7, o8, G1, G2⟩ := prodEnd1 (w := w) hq98 az98_6 az98_7 az98_8 (by omega) (by omega) (by omega) hga98_1 hga98_2 (by omega) (by omega) (by omega) (by omega) (by omega)
           simp (maxSteps := 1000000) [go_sem, s8]
           exact hQ' ((b98 + 1), (b98), (b67)) _ _ (by simp [upF, Fr.get, Up.refl]) ⟨hpC, _, _, _, _, o6, o7, o8, G1, G2, hgo86, hgo97⟩
          ·skip
           try simp (maxSteps := 1000000) [go_sem, d0, d1, d2, e0, e1, e2, hp97]
           have hp99 : Hg97 <+: Hg97 ++ [(⟨[.int .i64 w], true, true⟩ : Blk), ⟨[(.pointer (some ⟨g86, 0, none⟩) : Value)], true, true⟩] := List.prefix_append _ _
           have az99_6 : (Hg97 ++ [(⟨[.int .i64 w], true, true⟩ : Blk), ⟨[(.pointer (some ⟨g86, 0, none⟩) : Value)], true, true⟩])[Hg97.length]? = some ⟨[.int .i64 w], true, true⟩ := by simp
           have az99_7 : (Hg97 ++ [(⟨[.int .i64 w], true, true⟩ : Blk), ⟨[(.pointer (some ⟨g86, 0, none⟩) : Value)], true, true⟩])[Hg97.length + 1]? = some ⟨[(.pointer (some ⟨g86, 0, none⟩) : Value)], true, true⟩ := by simp
           have hl99 : (Hg97 ++ [(⟨[.int .i64 w], true, true⟩ : Blk), ⟨[(.pointer (some ⟨g86, 0, none⟩) : Value)], true, true⟩]).length = Hg97.length + 2 := by simp
           obtain ⟨b99, hb99e⟩ : ∃ b, Hg97.length = b := ⟨_, rfl⟩
           generalize Hg97 ++ [(⟨[.int .i64 w], true, true⟩ : Blk), ⟨[(.pointer (some ⟨g86, 0, none⟩) : Value)], true, true⟩] = Hg99 at hp99 hl99 az99_6 az99_7 ⊢
           rw [hb99e] at hl99 az99_6 az99_7
           try rw [hb99e]
           have hq99 := (hq97).trans hp99
           have az99_8 := pget hp99 az97_8
           have hga99_1 := hga97_1.keep hp99
           have hga99_2 := hga97_2.keep hp99
           have hle99 := hp99.length_le
           obtain ⟨d0, d1, d2⟩ := (hx4.pre hq99).sys
           obtain ⟨e0, e1, e2⟩ := (hy4.pre hq99).sys
           have lt6 := (List.getElem?_eq_some_iff.1 az99_6).1
           have lt7 := (List.getElem?_eq_some_iff.1 az99_7).1
           have lt8 := (List.getElem?_eq_some_iff.1 az99_8).1
           have hl4 := (hq99).length_le
           obtain ⟨HC, s8, hpC, o6, o7, o8, G1, G2⟩ := prodEnd1 (w := w) hq99 az99_6 az99_7 az99_8 (by omega) (by omega) (by omega) hga99_1 hga99_2 (by omega) (by omega) (by omega) (by omega) (by omega)
           simp (maxSteps := 1000000) [go_sem, s8]
           exact hQ' ((b99), (b99 + 1), (b67)) _ _ (by simp [upF, Fr.get, Up.refl]) ⟨hpC, _, _, _, _, o6, o7, o8, G1, G2, hgo86, hgo97⟩
     ·skip
      try simp (maxSteps := 1000000) [go_sem, d0, d1, d2, e0, e1, e2]
      refine sysGrid_ok ((hu.pre (hp0.trans hp04)).pre hq0) gx hFx _ ?_
      intro Hg100 g100 gs100 hp100 hge100 hga100_1 hgo100
      have hq100 := (hq0).trans hp100
      have hlt100 := GridAt.lt hga100_1
      have hle100 := hp100.length_le
      obtain ⟨d0, d1, d2⟩ := (hx4.pre hq100).sys
      obtain ⟨e0, e1, e2⟩ := (hy4.pre hq100).sys
      try simp (maxSteps := 1000000) [go_sem, d0, d1, d2, e0, e1, e2, hp100]
      refine vG_alt ?_ ?_
      ·skip
       try simp (maxSteps := 1000000) [go_sem, d0, d1, d2, e0, e1, e2, hp100]
       have hp101 : Hg100 <+: Hg100 ++ [(⟨[.int .i64 0], true, true⟩ : Blk)] := List.prefix_append _ _
       have az101_6 : (Hg100 ++ [(⟨[.int .i64 0], true, true⟩ : Blk)])[Hg100.length]? = some ⟨[.int .i64 0], true, true⟩ := by simp
       have hl101 : (Hg100 ++ [(⟨[.int .i64 0], true, true⟩ : Blk)]).length = Hg100.length + 1 := by simp
       obtain ⟨b101, hb101e⟩ : ∃ b, Hg100.length = b := ⟨_, rfl⟩
       generalize Hg100 ++ [(⟨[.int .i64 0], true, true⟩ : Blk)] = Hg101 at hp101 hl101 az101_6 ⊢
       rw [hb101e] at hl101 az101_6
       try rw [hb101e]
       have hq101 := (hq100).trans hp101
       have hga101_1 := hga100_1.keep hp101
       have hle101 := hp101.length_le
       obtain ⟨d0, d1, d2⟩ := (hx4.pre hq101).sys
       obtain ⟨e0, e1, e2⟩ := (hy4.pre hq101).sys
       refine vG_alt ?_ ?_
       ·skip
        try simp (maxSteps := 1000000) [go_sem, d0, d1, d2, e0, e1, e2]
        have hp102 : Hg101 <+: Hg101 ++ [(⟨[.pointer none], true, true⟩ : Blk)] := List.prefix_append _ _
        have az102_7 : (Hg101 ++ [(⟨[.pointer none], true, true⟩ : Blk)])[Hg101.length]? = some ⟨[.pointer none], true, true⟩ := by simp
        have hl102 : (Hg101 ++ [(⟨[.pointer none], true, true⟩ : Blk)]).length = Hg101.length + 1 := by simp
        obtain ⟨b102, hb102e⟩ : ∃ b, Hg101.length = b := ⟨_, rfl⟩
        generalize Hg101 ++ [(⟨[.pointer none], true, true⟩ : Blk)] = Hg102 at hp102 hl102 az102_7 ⊢
        rw [hb102e] at hl102 az102_7
        try rw [hb102e]
        have hq102 := (hq101).trans hp102
        have az102_6 := pget hp102 az101_6
        have hga102_1 := hga101_1.keep hp102
        have hle102 := hp102.length_le
        obtain ⟨d0, d1, d2⟩ := (hx4.pre hq102).sys
        obtain ⟨e0, e1, e2⟩ := (hy4.pre hq102).sys
        refine vG_alt ?_ ?_
        ·skip
         try simp (maxSteps := 1000000) [go_sem, d0, d1, d2, e0, e1, e2]
         have hp103 : Hg102 <+: Hg102 ++ [(⟨[.pointer none], true, true⟩ : Blk)] := List.prefix_append _ _
         have az103_8 : (Hg102 ++ [(⟨[.pointer none], true, true⟩ : Blk)])[Hg102.length]? = some ⟨[.pointer none], true, true⟩ := by simp
         have hl103 : (Hg102 ++ [(⟨[.pointer none], true, true⟩ : Blk)]).length = Hg102.length + 1 := by simp
         obtain ⟨b103, hb103e⟩ : ∃ b, Hg102.length = b := ⟨_, rfl⟩
         generalize Hg102 ++ [(⟨[.pointer none], true, true⟩ : Blk)] = Hg103 at hp103 hl103 az103_8 ⊢
         rw [hb103e] at hl103 az103_8
         try rw [hb103e]
         have hq103 := (hq102).trans hp103
         have az103_6 := pget hp103 az102_6
         have az103_7 := pget hp103 az102_7
         have hga103_1 := hga102_1.keep hp103
         have hle103 := hp103.length_le
         obtain ⟨d0, d1, d2⟩ := (hx4.pre hq103).sys
         obtain ⟨e0, e1, e2⟩ := (hy4.pre hq103).sys
         refine sysGrid_ok ((hv.pre (hp0.trans hp04)).pre hq103) gy hFy _ ?_
         intro Hg104 g104 gs104 hp104 hge104 hga104_2 hgo104
         have hq104 := (hq103).trans hp104
         have az104_6 := pget hp104 az103_6
         have az104_7 := pget hp104 az103_7
         have az104_8 := pget hp104 az103_8
         have hga104_1 := hga103_1.keep hp104
         have hlt104 := GridAt.lt hga104_2
         have hle104 := hp104.length_le
         obtain ⟨d0, d1, d2⟩ := (hx4.pre hq104).sys
         obtain ⟨e0, e1, e2⟩ := (hy4.pre hq104).sys
         try simp (maxSteps := 1000000) [go_sem, d0, d1, d2, e0, e1, e2, hp104]
         have lt6 := (List.getElem?_eq_some_iff.1 az104_6).1
         have lt7 := (List.getElem?_eq_some_iff.1 az104_7).1
         have lt8 := (List.getElem?_eq_some_iff.1 az104_8).1
         have hl4 := (hq104).length_le
         obtain ⟨HA, HB, HC, s6, s7, s8, hpC, o6, o7, o8, G1, G2⟩ := prodEnd (w := w) hq104 az104_6 az104_7 az104_8 (by omega) (by omega) (by omega) hga104_1 hga104_2 (by omega) (by omega) (by omega) (by omega) (by omega)
         simp (maxSteps := 1000000) [go_sem, s6, s7, s8]
         exact hQ' ((b101), (b102), (b103)) _ _ (by simp [upF, Fr.get, Up.refl]) ⟨hpC, _, _, _, _, o6, o7, o8, G1, G2, hgo100, hgo104⟩
        ·skip
         try simp (maxSteps := 1000000) [go_sem, d0, d1, d2, e0, e1, e2]
         refine sysGrid_ok ((hv.pre (hp0.trans hp04)).pre hq102) gy hFy _ ?_
         intro Hg105 g105 gs105 hp105 hge105 hga105_2 hgo105
         have hq105 := (hq102).trans hp105
         have az105_6 := pget hp105 az102_6
         have az105_7 := pget hp105 az102_7
         have hga105_1 := hga102_1.keep hp105
         have hlt105 := GridAt.lt hga105_2
         have hle105 := hp105.length_le
         obtain ⟨d0, d1, d2⟩ := (hx4.pre hq105).sys
         obtain ⟨e0, e1, e2⟩ := (hy4.pre hq105).sys
         try simp (maxSteps := 1000000) [go_sem, d0, d1, d2, e0, e1, e2, hp105]
         have hp106 : Hg105 <+: Hg105 ++ [(⟨[.pointer none], true, true⟩ : Blk)] := List.prefix_append _ _
         have az106_8 : (Hg105 ++ [(⟨[.pointer none], true, true⟩ : Blk)])[Hg105.length]? = some ⟨[.pointer none], true, true⟩ := by simp
         have hl106 : (Hg105 ++ [(⟨[.pointer none], true, true⟩ : Blk)]).length = Hg105.length + 1 := by simp
         obtain ⟨b106, hb106e⟩ : ∃ b, Hg105.length = b := ⟨_, rfl⟩
         generalize Hg105 ++ [(⟨[.pointer none], true, true⟩ : Blk)] = Hg106 at hp106 hl106 az106_8 ⊢
         rw [hb106e] at hl106 az106_8
         try rw [hb106e]
         have hq106 := (hq105).trans hp106
         have az106_6 := pget hp106 az105_6
         have az106_7 := pget hp106 az105_7
         have hga106_1 := hga105_1.keep hp106
         have hga106_2 := hga105_2.keep hp106
         have hle106 := hp106.length_le
         obtain ⟨d0, d1, d2⟩ := (hx4.pre hq106).sys
         obtain ⟨e0, e1, e2⟩ := (hy4.pre hq106).sys
         have lt6 := (List.getElem?_eq_some_iff.1 az106_6).1
         have lt7 := (List.getElem?_eq_some_iff.1 az106_7).1
         have lt8 := (List.getElem?_eq_some_iff.1 az106_8).1
         have hl4 := (hq106).length_le
         obtain ⟨HA, HB, HC, s6, s7, s8, hpC, o6, o7, o8, G1, G2⟩ := prodEnd (w := w) hq106 az106_6 az106_7 az106_8 (by omega) (by omega) (by omega) hga106_1 hga106_2 (by omega) (by omega) (by omega) (by omega) (by omega)
         simp (maxSteps := 1000000) [go_sem, s6, s7, s8]
         exact hQ' ((b101), (b102), (b106)) _ _ (by simp [upF, Fr.get, Up.refl]) ⟨hpC, _, _, _, _, o6, o7, o8, G1, G2, hgo100, hgo105⟩
       ·skip
        refine vG_alt ?_ ?_
        ·skip
         try simp (maxSteps := 1000000) [go_sem, d0, d1, d2, e0, e1, e2]
         have hp107 : Hg101 <+: Hg101 ++ [(⟨[.pointer none], true, true⟩ : Blk)] := List.prefix_append _ _
         have az107_8 : (Hg101 ++ [(⟨[.pointer none], true, true⟩ : Blk)])[Hg101.length]? = some ⟨[.pointer none], true, true⟩ := by simp
         have hl107 : (Hg101 ++ [(⟨[.pointer none], true, true⟩ : Blk)]).length = Hg101.length + 1 := by simp
         obtain ⟨b107, hb107e⟩ : ∃ b, Hg101.length = b := ⟨_, rfl⟩
         generalize Hg101 ++ [(⟨[.pointer none], true, true⟩ : Blk)] = Hg107 at hp107 hl107 az107_8 ⊢
         rw [hb107e] at hl107 az107_8
         try rw [hb107e]
         have hq107 := (hq101).trans hp107
         have az107_6 := pget hp107 az101_6
         have hga107_1 := hga101_1.keep hp107
         have hle107 := hp107.length_le
         obtain ⟨d0, d1, d2⟩ := (hx4.pre hq107).sys
         obtain ⟨e0, e1, e2⟩ := (hy4.pre hq107).sys
         refine vG_alt ?_ ?_
         ·skip
          try simp (maxSteps := 1000000) [go_sem, d0, d1, d2, e0, e1, e2]
          have hp108 : Hg107 <+: Hg107 ++ [(⟨[.pointer none], true, true⟩ : Blk)] := List.prefix_append _ _
          have az108_7 : (Hg107 ++ [(⟨[.pointer none], true, true⟩ : Blk)])[Hg107.length]? = some ⟨[.pointer none], true, true⟩ := by simp
          have hl108 : (Hg107 ++ [(⟨[.pointer none], true, true⟩ : Blk)]).length = Hg107.length + 1 := by simp
          obtain ⟨b108, hb108e⟩ : ∃ b, Hg107.length = b := ⟨_, rfl⟩
          generalize Hg107 ++ [(⟨[.pointer none], true, true⟩ : Blk)] = Hg108 at hp108 hl108 az108_7 ⊢
          rw [hb108e] at hl108 az108_7
          try rw [hb108e]
          have hq108 := (hq107).trans hp108
          have az108_6 := pget hp108 az107_6
          have az108_8 := pget hp108 az107_8
          have hga108_1 := hga107_1.keep hp108
          have hle108 := hp108.length_le
          obtain ⟨d0, d1, d2⟩ := (hx4.pre hq108).sys
          obtain ⟨e0, e1, e2⟩ := (hy4.pre hq108).sys
          refine sysGrid_ok ((hv.pre (hp0.trans hp04)).pre hq108) gy hFy _ ?_
          intro Hg109 g109 gs109 hp109 hge109 hga109_2 hgo109
          have hq109 := (hq108).trans hp109
          have az109_6 := pget hp109 az108_6
          have az109_8 := pget hp109 az108_8
          have az109_7 := pget hp109 az108_7
          have hga109_1 := hga108_1.keep hp109
          have hlt109 := GridAt.lt hga109_2
          have hle109 := hp109.length_le
          obtain ⟨d0, d1, d2⟩ := (hx4.pre hq109).sys
          obtain ⟨e0, e1, e2⟩ := (hy4.pre hq109).sys
          try simp (maxSteps := 1000000) [go_sem, d0, d1, d2, e0, e1, e2, hp109]
          have lt6 := (List.getElem?_eq_some_iff.1 az109_6).1
          have lt7 := (List.getElem?_eq_some_iff.1 az109_7).1
          have lt8 := (List.getElem?_eq_some_iff.1 az109_8).1
          have hl4 := (hq109).length_le
          obtain ⟨HA, HB, HC, s6, s7, s8, hpC, o6, o7, o8, G1, G2⟩ := prodEnd (w := w) hq109 az109_6 az109_7 az109_8 (by omega) (by omega) (by omega) hga109_1 hga109_2 (by omega) (by omega) (by omega) (by omega) (by omega)
          simp (maxSteps := 1000000) [go_sem, s6, s7, s8]
          exact hQ' ((b101), (b108), (b107)) _ _ (by simp [upF, Fr.get, Up.refl]) ⟨hpC, _, _, _, _, o6, o7, o8, G1, G2, hgo100, hgo109⟩
         ·skip
          try simp (maxSteps := 1000000) [go_sem, d0, d1, d2, e0, e1, e2]
          refine sysGrid_ok ((hv.pre (hp0.trans hp04)).pre hq107) gy hFy _ ?_
          intro Hg110 g110 gs110 hp110 hge110 hga110_2 hgo110
          have hq110 := (hq107).trans hp110
          have az110_6 := pget hp110 az107_6
          have az110_8 := pget hp110 az107_8
          have hga110_1 := hga107_1.keep hp110
          have hlt110 := GridAt.lt hga110_2
          have hle110 := hp110.length_le
          obtain ⟨d0, d1, d2⟩ := (hx4.pre hq110).sys
          obtain ⟨e0, e1, e2⟩ := (hy4.pre hq110).sys
          try simp (maxSteps := 1000000) [go_sem, d0, d1, d2, e0, e1, e2, hp110]
          have hp111 : Hg110 <+: Hg110 ++ [(⟨[.pointer none], true, true⟩ : Blk)] := List.prefix_append _ _
          have az111_7 : (Hg110 ++ [(⟨[.pointer none], true, true⟩ : Blk)])[Hg110.length]? = some ⟨[.pointer none], true, true⟩ := by simp
          have hl111 : (Hg110 ++ [(⟨[.pointer none], true, true⟩ : Blk)]).length = Hg110.length + 1 := by simp
          obtain ⟨b111, hb111e⟩ : ∃ b, Hg110.length = b := ⟨_, rfl⟩
          generalize Hg110 ++ [(⟨[.pointer none], true, true⟩ : Blk)] = Hg111 at hp111 hl111 az111_7 ⊢
          rw [hb111e] at hl111 az111_7
          try rw [hb111e]
          have hq111 := (hq110).trans hp111
          have az111_6 := pget hp111 az110_6
          have az111_8 := pget hp111 az110_8
          have hga111_1 := hga110_1.keep hp111
          have hga111_2 := hga110_2.keep hp111
          have hle111 := hp111.length_le
          obtain ⟨d0, d1, d2⟩ := (hx4.pre hq111).sys
          obtain ⟨e0, e1, e2⟩ := (hy4.pre hq111).sys
          have lt6 := (List.getElem?_eq_some_iff.1 az111_6).1
          have lt7 := (List.getElem?_eq_some_iff.1 az111_7).1
          have lt8 := (List.getElem?_eq_some_iff.1 az111_8).1
          have hl4 := (hq111).length_le
          obtain ⟨HA, HB, HC, s6, s7, s8, hpC, o6, o7, o8, G1, G2⟩ := prodEnd (w := w) hq111 az111_6 az111_7 az111_8 (by omega) (by omega) (by omega) hga111_1 hga111_2 (by omega) (by omega) (by omega) (by omega) (by omega)
          simp (maxSteps := 1000000) [go_sem, s6, s7, s8]
          exact hQ' ((b101), (b111), (b107)) _ _ (by simp [upF, Fr.get, Up.refl]) ⟨hpC, _, _, _, _, o6, o7, o8, G1, G2, hgo100, hgo110⟩
        ·skip
         try simp (maxSteps := 1000000) [go_sem, d0, d1, d2, e0, e1, e2]
         refine sysGrid_ok ((hv.pre (hp0.trans hp04)).pre hq101) gy hFy _ ?_
         intro Hg112 g112 gs112 hp112 hge112 hga112_2 hgo112
         have hq112 := (hq101).trans hp112
         have az112_6 := pget hp112 az101_6
         have hga112_1 := hga101_1.keep hp112
         have hlt112 := GridAt.lt hga112_2
         have hle112 := hp112.length_le
         obtain ⟨d0, d1, d2⟩ := (hx4.pre hq112).sys
         obtain ⟨e0, e1, e2⟩ := (hy4.pre hq112).sys
         try simp (maxSteps := 1000000) [go_sem, d0, d1, d2, e0, e1, e2, hp112]
         refine vG_alt ?_ ?_
         ·skip
          try simp (maxSteps := 1000000) [go_sem, d0, d1, d2, e0, e1, e2, hp112]
          have hp113 : Hg112 <+: Hg112 ++ [(⟨[.pointer none], true, true⟩ : Blk), ⟨[.pointer none], true, true⟩] := List.prefix_append _ _
          have az113_8 : (Hg112 ++ [(⟨[.pointer none], true, true⟩ : Blk), ⟨[.pointer none], true, true⟩])[Hg112.length]? = some ⟨[.pointer none], true, true⟩ := by simp
          have az113_7 : (Hg112 ++ [(⟨[.pointer none], true, true⟩ : Blk), ⟨[.pointer none], true, true⟩])[Hg112.length + 1]? = some ⟨[.pointer none], true, true⟩ := by simp
          have hl113 : (Hg112 ++ [(⟨[.pointer none], true, true⟩ : Blk), ⟨[.pointer none], true, true⟩]).length = Hg112.length + 2 := by simp
          obtain ⟨b113, hb113e⟩ : ∃ b, Hg112.length = b := ⟨_, rfl⟩
          generalize Hg112 ++ [(⟨[.pointer none], true, true⟩ : Blk), ⟨[.pointer none], true, true⟩] = Hg113 at hp113 hl113 az113_8 az113_7 ⊢
          rw [hb113e] at hl113 az113_8 az113_7
          try rw [hb113e]
          have hq113 := (hq112).trans hp113
          have az113_6 := pget hp113 az112_6
          have hga113_1 := hga112_1.keep hp113
          have hga113_2 := hga112_2.keep hp113
          have hle113 := hp113.length_le
          obtain ⟨d0, d1, d2⟩ := (hx4.pre hq113).sys
          obtain ⟨e0, e1, e2⟩ := (hy4.pre hq113).sys
          have lt6 := (List.getElem?_eq_some_iff.1 az113_6).1
          have lt7 := (List.getElem?_eq_some_iff.1 az113_7).1
          have lt8 := (List.getElem?_eq_some_iff.1 az113_8).1
          have hl4 := (hq113).length_le
          obtain ⟨HA, HB, HC, s6, s7, s8, hpC, o6, o7, o8, G1, G2⟩ := prodEnd (w := w) hq113 az113_6 az113_7 az113_8 (by omega) (by omega) (by omega) hga113_1 hga113_2 (by omega) (by omega) (by omega) (by omega) (by omega)
          simp (maxSteps := 1000000) [go_sem, s6, s7, s8]
          exact hQ' ((b101), (b113 + 1), (b113)) _ _ (by simp [upF, Fr.get, Up.refl]) ⟨hpC, _, _, _, _, o6, o7, o8, G1, G2, hgo100, hgo112⟩
         ·skip
          try simp (maxSteps := 1000000) [go_sem, d0, d1, d2, e0, e1, e2, hp112]
          have hp114 : Hg112 <+: Hg112 ++ [(⟨[.pointer none], true, true⟩ : Blk), ⟨[.pointer none], true, true⟩] := List.prefix_append _ _
          have az114_7 : (Hg112 ++ [(⟨[.pointer none], true, true⟩ : Blk), ⟨[.pointer none], true, true⟩])[Hg112.length]? = some ⟨[.pointer none], true, true⟩ := by simp
          have az114_8 : (Hg112 ++ [(⟨[.pointer none], true, true⟩ : Blk), ⟨[.pointer none], true, true⟩])[Hg112.length + 1]? = some ⟨[.pointer none], true, true⟩ := by simp
          have hl114 : (Hg112 ++ [(⟨[.pointer none], true, true⟩ : Blk), ⟨[.pointer none], true, true⟩]).length = Hg112.length + 2 := by simp
          obtain ⟨b114, hb114e⟩ : ∃ b, Hg112.length = b := ⟨_, rfl⟩
          generalize Hg112 ++ [(⟨[.pointer none], true, true⟩ : Blk), ⟨[.pointer none], true, true⟩] = Hg114 at hp114 hl114 az114_7 az114_8 ⊢
          rw [hb114e] at hl114 az114_7 az114_8
          try rw [hb114e]
          have hq114 := (hq112).trans hp114
          have az114_6 := pget hp114 az112_6
          have hga114_1 := hga112_1.keep hp114
          have hga114_2 := hga112_2.keep hp114
          have hle114 := hp114.length_le
          obtain ⟨d0, d1, d2⟩ := (hx4.pre hq114).sys
          obtain ⟨e0, e1, e2⟩ := (hy4.pre hq114).sys
          have lt6 := (List.getElem?_eq_some_iff.1 az114_6).1
          have lt7 := (List.getElem?_eq_some_iff.1 az114_7).1
          have lt8 := (List.getElem?_eq_some_iff.1 az114_8).1
          have hl4 := (hq114).length_le
          obtain ⟨HA, HB, HC, s6, s7, s8, hpC, o6, o7, o8, G1, G2⟩ := prodEnd (w := w) hq114 az114_6 az114_7 az114_8 (by omega) (by omega) (by omega) hga114_1 hga114_2 (by omega) (by omega) (by omega) (by omega) (by omega)
          simp (maxSteps := 1000000) [go_sem, s6, s7, s8]
          exact hQ' ((b101), (b114), (b114 + 1)) _ _ (by simp [upF, Fr.get, Up.refl]) ⟨hpC, _, _, _, _, o6, o7, o8, G1, G2, hgo100, hgo112⟩
      ·skip
       refine vG_alt ?_ ?_
       ·skip
        try simp (maxSteps := 1000000) [go_sem, d0, d1, d2, e0, e1, e2, hp100]
        have hp115 : Hg100 <+: Hg100 ++ [(⟨[.pointer none], true, true⟩ : Blk)] := List.prefix_append _ _
        have az115_7 : (Hg100 ++ [(⟨[.pointer none], true, true⟩ : Blk)])[Hg100.length]? = some ⟨[.pointer none], true, true⟩ := by simp
        have hl115 : (Hg100 ++ [(⟨[.pointer none], true, true⟩ : Blk)]).length = Hg100.length + 1 := by simp
        obtain ⟨b115, hb115e⟩ : ∃ b, Hg100.length = b := ⟨_, rfl⟩
        generalize Hg100 ++ [(⟨[.pointer none], true, true⟩ : Blk)] = Hg115 at hp115 hl115 az115_7 ⊢
        rw [hb115e] at hl115 az115_7
        try rw [hb115e]
        have hq115 := (hq100).trans hp115
        have hga115_1 := hga100_1.keep hp115
        have hle115 := hp115.length_le
        obtain ⟨d0, d1, d2⟩ := (hx4.pre hq115).sys
        obtain ⟨e0, e1, e2⟩ := (hy4.pre hq115).sys
        refine vG_alt ?_ ?_
        ·skip
         try simp (maxSteps := 1000000) [go_sem, d0, d1, d2, e0, e1, e2]
         have hp116 : Hg115 <+: Hg115 ++ [(⟨[.int .i64 0], true, true⟩ : Blk)] := List.prefix_append _ _
         have az116_6 : (Hg115 ++ [(⟨[.int .i64 0], true, true⟩ : Blk)])[Hg115.length]? = some ⟨[.int .i64 0], true, true⟩ := by simp
         have hl116 : (Hg115 ++ [(⟨[.int .i64 0], true, true⟩ : Blk)]).length = Hg115.length + 1 := by simp
         obtain ⟨b116, hb116e⟩ : ∃ b, Hg115.length = b := ⟨_, rfl⟩
         generalize Hg115 ++ [(⟨[.int .i64 0], true, true⟩ : Blk)] = Hg116 at hp116 hl116 az116_6 ⊢
         rw [hb116e] at hl116 az116_6
         try rw [hb116e]
         have hq116 := (hq115).trans hp116
         have az116_7 := pget hp116 az115_7
         have hga116_1 := hga115_1.keep hp116
         have hle116 := hp116.length_le
         obtain ⟨d0, d1, d2⟩ := (hx4.pre hq116).sys
         obtain ⟨e0, e1, e2⟩ := (hy4.pre hq116).sys
         refine vG_alt ?_ ?_
         ·skip
          try simp (maxSteps := 1000000) [go_sem, d0, d1, d2, e0, e1, e2]
          have hp117 : Hg116 <+: Hg116 ++ [(⟨[.pointer none], true, true⟩ : Blk)] := List.prefix_append _ _
          have az117_8 : (Hg116 ++ [(⟨[.pointer none], true, true⟩ : Blk)])[Hg116.length]? = some ⟨[.pointer none], true, true⟩ := by simp
          have hl117 : (Hg116 ++ [(⟨[.pointer none], true, true⟩ : Blk)]).length = Hg116.length + 1 := by simp
          obtain ⟨b117, hb117e⟩ : ∃ b, Hg116.length = b := ⟨_, rfl⟩
          generalize Hg116 ++ [(⟨[.pointer none], true, true⟩ : Blk)] = Hg117 at hp117 hl117 az117_8 ⊢
          rw [hb117e] at hl117 az117_8
          try rw [hb117e]
          have hq117 := (hq116).trans hp117
          have az117_7 := pget hp117 az116_7
          have az117_6 := pget hp117 az116_6
          have hga117_1 := hga116_1.keep hp117
          have hle117 := hp117.length_le
          obtain ⟨d0, d1, d2⟩ := (hx4.pre hq117).sys
          obtain ⟨e0, e1, e2⟩ := (hy4.pre hq117).sys
          refine sysGrid_ok ((hv.pre (hp0.trans hp04)).pre hq117) gy hFy _ ?_
          intro Hg118 g118 gs118 hp118 hge118 hga118_2 hgo118
          have hq118 := (hq117).trans hp118
          have az118_7 := pget hp118 az117_7
          have az118_6 := pget hp118 az117_6
          have az118_8 := pget hp118 az117_8
          have hga118_1 := hga117_1.keep hp118
          have hlt118 := GridAt.lt hga118_2
          have hle118 := hp118.length_le
          obtain ⟨d0, d1, d2⟩ := (hx4.pre hq118).sys
          obtain ⟨e0, e1, e2⟩ := (hy4.pre hq118).sys
          try simp (maxSteps := 1000000) [go_sem, d0, d1, d2, e0, e1, e2, hp118]
          have lt6 := (List.getElem?_eq_some_iff.1 az118_6).1
          have lt7 := (List.getElem?_eq_some_iff.1 az118_7).1
          have lt8 := (List.getElem?_eq_some_iff.1 az118_8).1
          have hl4 := (hq118).length_le
          obtain ⟨HA, HB, HC, s6, s7, s8, hpC, o6, o7, o8, G1, G2⟩ := prodEnd (w := w) hq118 az118_6 az118_7 az118_8 (by omega) (by omega) (by omega) hga118_1 hga118_2 (by omega) (by omega) (by omega) (by omega) (by omega)
          simp (maxSteps := 1000000) [go_sem, s6, s7, s8]
          exact hQ' ((b116), (b115), (b117)) _ _ (by simp [upF, Fr.get, Up.refl]) ⟨hpC, _, _, _, _, o6, o7, o8, G1, G2, hgo100, hgo118⟩
         ·skip
          try simp (maxSteps := 1000000) [go_sem, d0, d1, d2, e0, e1, e2]
          refine sysGrid_ok ((hv.pre (hp0.trans hp04)).pre hq116) gy hFy _ ?_
          intro Hg119 g119 gs119 hp119 hge119 hga119_2 hgo119
          have hq119 := (hq116).trans hp119
          have az119_7 := pget hp119 az116_7
          have az119_6 := pget hp119 az116_6
          have hga119_1 := hga116_1.keep hp119
          have hlt119 := GridAt.lt hga119_2
          have hle119 := hp119.length_le
          obtain ⟨d0, d1, d2⟩ := (hx4.pre hq119).sys
          obtain ⟨e0, e1, e2⟩ := (hy4.pre hq119).sys
          try simp (maxSteps := 1000000) [go_sem, d0, d1, d2, e0, e1, e2, hp119]
          have hp120 : Hg119 <+: Hg119 ++ [(⟨[.pointer none], true, true⟩ : Blk)] := List.prefix_append _ _
          have az120_8 : (Hg119 ++ [(⟨[.pointer none], true, true⟩ : Blk)])[Hg119.length]? = some ⟨[.pointer none], true, true⟩ := by simp
          have hl120 : (Hg119 ++ [(⟨[.pointer none], true, true⟩ : Blk)]).length = Hg119.length + 1 := by simp
          obtain ⟨b120, hb120e⟩ : ∃ b, Hg119.length = b := ⟨_, rfl⟩
          generalize Hg119 ++ [(⟨[.pointer none], true, true⟩ : Blk)] = Hg120 at hp120 hl120 az120_8 ⊢
          rw [hb120e] at hl120 az120_8
          try rw [hb120e]
          have hq120 := (hq119).trans hp120
          have az120_7 := pget hp120 az119_7
          have az120_6 := pget hp120 az119_6
          have hga120_1 := hga119_1.keep hp120
          have hga120_2 := hga119_2.keep hp120
          have hle120 := hp120.length_le
          obtain ⟨d0, d1, d2⟩ := (hx4.pre hq120).sys
          obtain ⟨e0, e1, e2⟩ := (hy4.pre hq120).sys
          have lt6 := (List.getElem?_eq_some_iff.1 az120_6).1
          have lt7 := (List.getElem?_eq_some_iff.1 az120_7).1
          have lt8 := (List.getElem?_eq_some_iff.1 az120_8).1
          have hl4 := (hq120).length_le
          obtain ⟨HA, HB, HC, s6, s7, s8, hpC, o6, o7, o8, G1, G2⟩ := prodEnd (w := w) hq120 az120_6 az120_7 az120_8 (by omega) (by omega) (by omega) hga120_1 hga120_2 (by omega) (by omega) (by omega) (by omega) (by omega)
          simp (maxSteps := 1000000) [go_sem, s6, s7, s8]
          exact hQ' ((b116), (b115), (b120)) _ _ (by simp [upF, Fr.get, Up.refl]) ⟨hpC, _, _, _, _, o6, o7, o8, G1, G2, hgo100, hgo119⟩
        ·skip
         refine vG_alt ?_ ?_
         ·skip
          try simp (maxSteps := 1000000) [go_sem, d0, d1, d2, e0, e1, e2]
          have hp121 : Hg115 <+: Hg115 ++ [(⟨[.pointer none], true, true⟩ : Blk)] := List.prefix_append _ _
          have az121_8 : (Hg115 ++ [(⟨[.pointer none], true, true⟩ : Blk)])[Hg115.length]? = some ⟨[.pointer none], true, true⟩ := by simp
          have hl121 : (Hg115 ++ [(⟨[.pointer none], true, true⟩ : Blk)]).length = Hg115.length + 1 := by simp
          obtain ⟨b121, hb121e⟩ : ∃ b, Hg115.length = b := ⟨_, rfl⟩
          generalize Hg115 ++ [(⟨[.pointer none], true, true⟩ : Blk)] = Hg121 at hp121 hl121 az121_8 ⊢
          rw [hb121e] at hl121 az121_8
          try rw [hb121e]
          have hq121 := (hq115).trans hp121
          have az121_7 := pget hp121 az115_7
          have hga121_1 := hga115_1.keep hp121
          have hle121 := hp121.length_le
          obtain ⟨d0, d1, d2⟩ := (hx4.pre hq121).sys
          obtain ⟨e0, e1, e2⟩ := (hy4.pre hq121).sys
          refine vG_alt ?_ ?_
          ·skip
           try simp (maxSteps := 1000000) [go_sem, d0, d1, d2, e0, e1, e2]
           have hp122 : Hg121 <+: Hg121 ++ [(⟨[.int .i64 0], true, true⟩ : Blk)] := List.prefix_append _ _
           have az122_6 : (Hg121 ++ [(⟨[.int .i64 0], true, true⟩ : Blk)])[Hg121.length]? = some ⟨[.int .i64 0], true, true⟩ := by simp
           have hl122 : (Hg121 ++ [(⟨[.int .i64 0], true, true⟩ : Blk)]).length = Hg121.length + 1 := by simp
           obtain ⟨b122, hb122e⟩ : ∃ b, Hg121.length = b := ⟨_, rfl⟩
           generalize Hg121 ++ [(⟨[.int .i64 0], true, true⟩ : Blk)] = Hg122 at hp122 hl122 az122_6 ⊢
           rw [hb122e] at hl122 az122_6
           try rw [hb122e]
           have hq122 := (hq121).trans hp122
           have az122_7 := pget hp122 az121_7
           have az122_8 := pget hp122 az121_8
           have hga122_1 := hga121_1.keep hp122
           have hle122 := hp122.length_le
           obtain ⟨d0, d1, d2⟩ := (hx4.pre hq122).sys
           obtain ⟨e0, e1, e2⟩ := (hy4.pre hq122).sys
           refine sysGrid_ok ((hv.pre (hp0.trans hp04)).pre hq122) gy hFy _ ?_
           intro Hg123 g123 gs123 hp123 hge123 hga123_2 hgo123
           have hq123 := (hq122).trans hp123
           have az123_7 := pget hp123 az122_7
           have az123_8 := pget hp123 az122_8
           have az123_6 := pget hp123 az122_6
           have hga123_1 := hga122_1.keep hp123
           have hlt123 := GridAt.lt hga123_2
           have hle123 := hp123.length_le
           obtain ⟨d0, d1, d2⟩ := (hx4.pre hq123).sys
           obtain ⟨e0, e1, e2⟩ := (hy4.pre hq123).sys
           try simp (maxSteps := 1000000) [go_sem, d0, d1, d2, e0, e1, e2, hp123]
           have lt6 := (List.getElem?_eq_some_iff.1 az123_6).1
           have lt7 := (List.getElem?_eq_some_iff.1 az123_7).1
           have lt8 := (List.getElem?_eq_some_iff.1 az123_8).1
           have hl4 := (hq123).length_le
           obtain ⟨HA, HB, HC, s6, s7, s8, hpC, o6, o7, o8, G1, G2⟩ := prodEnd (w := w) hq123 az123_6 az123_7 az123_8 (by omega) (by omega) (by omega) hga123_1 hga123_2 (by omega) (by omega) (by omega) (by omega) (by omega)
           simp (maxSteps := 1000000) [go_sem, s6, s7, s8]
           exact hQ' ((b122), (b115), (b121)) _ _ (by simp [upF, Fr.get, Up.refl]) ⟨hpC, _, _, _, _, o6, o7, o8, G1, G2, hgo100, hgo123⟩
          ·skip
           try simp (maxSteps := 1000000) [go_sem, d0, d1, d2, e0, e1, e2]
           refine sysGrid_ok ((hv.pre (hp0.trans hp04)).pre hq121) gy hFy _ ?_
           intro Hg124 g124 gs124 hp124 hge124 hga124_2 hgo124
           have hq124 := (hq121).trans hp124
           have az124_7 := pget hp124 az121_7
           have az124_8 := pget hp124 az121_8
           have hga124_1 := hga121_1.keep hp124
           have hlt124 := GridAt.lt hga124_2
           have hle124 := hp124.length_le
           obtain ⟨d0, d1, d2⟩ := (hx4.pre hq124).sys
           obtain ⟨e0, e1, e2⟩ := (hy4.pre hq124).sys
           try simp (maxSteps := 1000000) [go_sem, d0, d1, d2, e0, e1, e2, hp124]
           have hp125 : Hg124 <+: Hg124 ++ [(⟨[.int .i64 w], true, true⟩ : Blk)] := List.prefix_append _ _
           have az125_6 : (Hg124 ++ [(⟨[.int .i64 w], true, true⟩ : Blk)])[Hg124.length]? = some ⟨[.int .i64 w], true, true⟩ := by simp
           have hl125 : (Hg124 ++ [(⟨[.int .i64 w], true, true⟩ : Blk)]).length = Hg124.length + 1 := by simp
           obtain ⟨b125, hb125e⟩ : ∃ b, Hg124.length = b := ⟨_, rfl⟩
           generalize Hg124 ++ [(⟨[.int .i64 w], true, true⟩ : Blk)] = Hg125 at hp125 hl125 az125_6 ⊢
           rw [hb125e] at hl125 az125_6
           try rw [hb125e]
           have hq125 := (hq124).trans hp125
           have az125_7 := pget hp125 az124_7
           have az125_8 := pget hp125 az124_8
           have hga125_1 := hga124_1.keep hp125
           have hga125_2 := hga124_2.keep hp125
           have hle125 := hp125.length_le
           obtain ⟨d0, d1, d2⟩ := (hx4.pre hq125).sys
           obtain ⟨e0, e1, e2⟩ := (hy4.pre hq125).sys
           have lt6 := (List.getElem?_eq_some_iff.1 az125_6).1
           have lt7 := (List.getElem?_eq_some_iff.1 az125_7).1
           have lt8 := (List.getElem?_eq_some_iff.1 az125_8).1
           have hl4 := (hq125).length_le
           obtain ⟨HB, HC, s7, s8, hpC, o6, o7, o8, G1, G2⟩ := prodEnd2 (w := w) hq125 az125_6 az125_7 az125_8 (by omega) (by omega) (by omega) hga125_1 hga125_2 (by omega) (by omega) (by omega) (by omega) (by omega)
           simp (maxSteps := 1000000) [go_sem, s7, s8]
           exact hQ' ((b125), (b115), (b121)) _ _ (by simp [upF, Fr.get, Up.refl]) ⟨hpC, _, _, _, _, o6, o7, o8, G1, G2, hgo100, hgo124⟩
         ·skip
          try simp (maxSteps := 1000000) [go_sem, d0, d1, d2, e0, e1, e2]
          refine sysGrid_ok ((hv.pre (hp0.trans hp04)).pre hq115) gy hFy _ ?_
          intro Hg126 g126 gs126 hp126 hge126 hga126_2 hgo126
          have hq126 := (hq115).trans hp126
          have az126_7 := pget hp126 az115_7
          have hga126_1 := hga115_1.keep hp126
          have hlt126 := GridAt.lt hga126_2
          have hle126 := hp126.length_le
          obtain ⟨d0, d1, d2⟩ := (hx4.pre hq126).sys
          obtain ⟨e0, e1, e2⟩ := (hy4.pre hq126).sys
          try simp (maxSteps := 1000000) [go_sem, d0, d1, d2, e0, e1, e2, hp126]
          refine vG_alt ?_ ?_
          ·skip
           try simp (maxSteps := 1000000) [go_sem, d0, d1, d2, e0, e1, e2, hp126]
           have hp127 : Hg126 <+: Hg126 ++ [(⟨[.pointer none], true, true⟩ : Blk), ⟨[.int .i64 w], true, true⟩] := List.prefix_append _ _
           have az127_8 : (Hg126 ++ [(⟨[.pointer none], true, true⟩ : Blk), ⟨[.int .i64 w], true, true⟩])[Hg126.length]? = some ⟨[.pointer none], true, true⟩ := by simp
           have az127_6 : (Hg126 ++ [(⟨[.pointer none], true, true⟩ : Blk), ⟨[.int .i64 w], true, true⟩])[Hg126.length + 1]? = some ⟨[.int .i64 w], true, true⟩ := by simp
           have hl127 : (Hg126 ++ [(⟨[.pointer none], true, true⟩ : Blk), ⟨[.int .i64 w], true, true⟩]).length = Hg126.length + 2 := by simp
           obtain ⟨b127, hb127e⟩ : ∃ b, Hg126.length = b := ⟨_, rfl⟩
           generalize Hg126 ++ [(⟨[.pointer none], true, true⟩ : Blk), ⟨[.int .i64 w], true, true⟩] = Hg127 at hp127 hl127 az127_8 az127_6 ⊢
           rw [hb127e] at hl127 az127_8 az127_6
           try rw [hb127e]
           have hq127 := (hq126).trans hp127
           have az127_7 := pget hp127 az126_7
           have hga127_1 := hga126_1.keep hp127
           have hga127_2 := hga126_2.keep hp127
           have hle127 := hp127.length_le
           obtain ⟨d0, d1, d2⟩ := (hx4.pre hq127).sys
           obtain ⟨e0, e1, e2⟩ := (hy4.pre hq127).sys
           have lt6 := (List.getElem?_eq_some_iff.1 az127_6).1
           have lt7 := (List.getElem?_eq_some_iff.1 az127_7).1
           have lt8 := (List.getElem?_eq_some_iff.1 az127_8).1
           have hl4 := (hq127).length_le
           obtain ⟨HB, HC, s7, s8, hpC, o6, o7, o8, G1, G2⟩ := prodEnd2 (w := w) hq127 az127_6 az127_7 az127_8 (by omega) (by omega) (by omega) hga127_1 hga127_2 (by omega) (by omega) (by omega) (by omega) (by omega)
           simp (maxSteps := 1000000) [go_sem, s7, s8]
           exact hQ' ((b127 + 1), (b115), (b127)) _ _ (by simp [upF, Fr.get, Up.refl]) ⟨hpC, _, _, _, _, o6, o7, o8, G1, G2, hgo100, hgo126⟩
          ·skip
           try simp (maxSteps := 1000000) [go_sem, d0, d1, d2, e0, e1, e2, hp126]
           have hp128 : Hg126 <+: Hg126 ++ [(⟨[.int .i64 w], true, true⟩ : Blk), ⟨[.pointer none], true, true⟩] := List.prefix_append _ _
           have az128_6 : (Hg126 ++ [(⟨[.int .i64 w], true, true⟩ : Blk), ⟨[.pointer none], true, true⟩])[Hg126.length]? = some ⟨[.int .i64 w], true, true⟩ := by simp
           have az128_8 : (Hg126 ++ [(⟨[.int .i64 w], true, true⟩ : Blk), ⟨[.pointer none], true, true⟩])[Hg126.length + 1]? = some ⟨[.pointer none], true, true⟩ := by simp
           have hl128 : (Hg126 ++ [(⟨[.int .i64 w], true, true⟩ : Blk), ⟨[.pointer none], true, true⟩]).length = Hg126.length + 2 := by simp
           obtain ⟨b128, hb128e⟩ : ∃ b, Hg126.length = b := ⟨_, rfl⟩
           generalize Hg126 ++ [(⟨[.int .i64 w], true, true⟩ : Blk), ⟨[.pointer none], true, true⟩] = Hg128 at hp128 hl128 az128_6 az128_8 ⊢
           rw [hb128e] at hl128 az128_6 az128_8
           try rw [hb128e]
           have hq128 := (hq126).trans hp128
           have az128_7 := pget hp128 az126_7
           have hga128_1 := hga126_1.keep hp128
           have hga128_2 := hga126_2.keep hp128
           have hle128 := hp128.length_le
           obtain ⟨d0, d1, d2⟩ := (hx4.pre hq128).sys
           obtain ⟨e0, e1, e2⟩ := (hy4.pre hq128).sys
           have lt6 := (List.getElem?_eq_some_iff.1 az128_6).1
           have lt7 := (List.getElem?_eq_some_iff.1 az128_7).1
           have lt8 := (List.getElem?_eq_some_iff.1 az128_8).1
           have hl4 := (hq128).length_le
           obtain ⟨HB, HC, s7, s8, hpC, o6, o7, o8, G1, G2⟩ := prodEnd2 (w := w) hq128 az128_6 az128_7 az128_8 (by omega) (by omega) (by omega) hga128_1 hga128_2 (by omega) (by omega) (by omega) (by omega) (by omega)
           simp (maxSteps := 1000000) [go_sem, s7, s8]
           exact hQ' ((b128), (b115), (b128 + 1)) _ _ (by simp [upF, Fr.get, Up.refl]) ⟨hpC, _, _, _, _, o6, o7, o8, G1, G2, hgo100, hgo126⟩
       ·skip
        refine vG_alt ?_ ?_
        ·skip
         try simp (maxSteps := 1000000) [go_sem, d0, d1, d2, e0, e1, e2, hp100]
         have hp129 : Hg100 <+: Hg100 ++ [(⟨[.pointer none], true, true⟩ : Blk)] := List.prefix_append _ _
         have az129_8 : (Hg100 ++ [(⟨[.pointer none], true, true⟩ : Blk)])[Hg100.length]? = some ⟨[.pointer none], true, true⟩ := by simp
         have hl129 : (Hg100 ++ [(⟨[.pointer none], true, true⟩ : Blk)]).length = Hg100.length + 1 := by simp
         obtain ⟨b129, hb129e⟩ : ∃ b, Hg100.length = b := ⟨_, rfl⟩
         generalize Hg100 ++ [(⟨[.pointer none], true, true⟩ : Blk)] = Hg129 at hp129 hl129 az129_8 ⊢
         rw [hb129e] at hl129 az129_8
         try rw [hb129e]
         have hq129 := (hq100).trans hp129
         have hga129_1 := hga100_1.keep hp129
         have hle129 := hp129.length_le
         obtain ⟨d0, d1, d2⟩ := (hx4.pre hq129).sys
         obtain ⟨e0, e1, e2⟩ := (hy4.pre hq129).sys
         refine vG_alt ?_ ?_
         ·skip
          try simp (maxSteps := 1000000) [go_sem, d0, d1, d2, e0, e1, e2]
          have hp130 : Hg129 <+: Hg129 ++ [(⟨[.int .i64 0], true, true⟩ : Blk)] := List.prefix_append _ _
          have az130_6 : (Hg129 ++ [(⟨[.int .i64 0], true, true⟩ : Blk)])[Hg129.length]? = some ⟨[.int .i64 0], true, true⟩ := by simp
          have hl130 : (Hg129 ++ [(⟨[.int .i64 0], true, true⟩ : Blk)]).length = Hg129.length + 1 := by simp
          obtain ⟨b130, hb130e⟩ : ∃ b, Hg129.length = b := ⟨_, rfl⟩
          generalize Hg129 ++ [(⟨[.int .i64 0], true, true⟩ : Blk)] = Hg130 at hp130 hl130 az130_6 ⊢
          rw [hb130e] at hl130 az130_6
          try rw [hb130e]
          have hq130 := (hq129).trans hp130
          have az130_8 := pget hp130 az129_8
          have hga130_1 := hga129_1.keep hp130
          have hle130 := hp130.length_le
          obtain ⟨d0, d1, d2⟩ := (hx4.pre hq130).sys
          obtain ⟨e0, e1, e2⟩ := (hy4.pre hq130).sys
          refine vG_alt ?_ ?_
          ·skip
           try simp (maxSteps := 1000000) [go_sem, d0, d1, d2, e0, e1, e2]
           have hp131 : Hg130 <+: Hg130 ++ [(⟨[.pointer none], true, true⟩ : Blk)] := List.prefix_append _ _
           have az131_7 : (Hg130 ++ [(⟨[.pointer none], true, true⟩ : Blk)])[Hg130.length]? = some ⟨[.pointer none], true, true⟩ := by simp
           have hl131 : (Hg130 ++ [(⟨[.pointer none], true, true⟩ : Blk)]).length = Hg130.length + 1 := by simp
           obtain ⟨b131, hb131e⟩ : ∃ b, Hg130.length = b := ⟨_, rfl⟩
           generalize Hg130 ++ [(⟨[.pointer none], true, true⟩ : Blk)] = Hg131 at hp131 hl131 az131_7 ⊢
           rw [hb131e] at hl131 az131_7
           try rw [hb131e]
           have hq131 := (hq130).trans hp131
           have az131_8 := pget hp131 az130_8
           have az131_6 := pget hp131 az130_6
           have hga131_1 := hga130_1.keep hp131
           have hle131 := hp131.length_le
           obtain ⟨d0, d1, d2⟩ := (hx4.pre hq131).sys
           obtain ⟨e0, e1, e2⟩ := (hy4.pre hq131).sys
           refine sysGrid_ok ((hv.pre (hp0.trans hp04)).pre hq131) gy hFy _ ?_
           intro Hg132 g132 gs132 hp132 hge132 hga132_2 hgo132
           have hq132 := (hq131).trans hp132
           have az132_8 := pget hp132 az131_8
           have az132_6 := pget hp132 az131_6
           have az132_7 := pget hp132 az131_7
           have hga132_1 := hga131_1.keep hp132
           have hlt132 := GridAt.lt hga132_2
           have hle132 := hp132.length_le
           obtain ⟨d0, d1, d2⟩ := (hx4.pre hq132).sys
           obtain ⟨e0, e1, e2⟩ := (hy4.pre hq132).sys
           try simp (maxSteps := 1000000) [go_sem, d0, d1, d2, e0, e1, e2, hp132]
           have lt6 := (List.getElem?_eq_some_iff.1 az132_6).1
           have lt7 := (List.getElem?_eq_some_iff.1 az132_7).1
           have lt8 := (List.getElem?_eq_some_iff.1 az132_8).1
           have hl4 := (hq132).length_le
           obtain ⟨HA, HB, HC, s6, s7, s8, hpC, o6, o7, o8, G1, G2⟩ := prodEnd (w := w) hq132 az132_6 az132_7 az132_8 (by omega) (by omega) (by omega) hga132_1 hga132_2 (by omega) (by omega) (by omega) (by omega) (by omega)
           simp (maxSteps := 1000000) [go_sem, s6, s7, s8]
           exact hQ' ((b130), (b131), (b129)) _ _ (by simp [upF, Fr.get, Up.refl]) ⟨hpC, _, _, _, _, o6, o7, o8, G1, G2, hgo100, hgo132⟩
          ·skip
           try simp (maxSteps := 1000000) [go_sem, d0, d1, d2, e0, e1, e2]
           refine sysGrid_ok ((hv.pre (hp0.trans hp04)).pre hq130) gy hFy _ ?_
           intro Hg133 g133 gs133 hp133 hge133 hga133_2 hgo133
           have hq133 := (hq130).trans hp133
           have az133_8 := pget hp133 az130_8
           have az133_6 := pget hp133 az130_6
           have hga133_1 := hga130_1.keep hp133
           have hlt133 := GridAt.lt hga133_2
           have hle133 := hp133.length_le
           obtain ⟨d0, d1, d2⟩ := (hx4.pre hq133).sys
           obtain ⟨e0, e1, e2⟩ := (hy4.pre hq133).sys
           try simp (maxSteps := 1000000) [go_sem, d0, d1, d2, e0, e1, e2, hp133]
           have hp134 : Hg133 <+: Hg133 ++ [(⟨[.pointer none], true, true⟩ : Blk)] := List.prefix_append _ _
           have az134_7 : (Hg133 ++ [(⟨[.pointer none], true, true⟩ : Blk)])[Hg133.length]? = some ⟨[.pointer none], true, true⟩ := by simp
           have hl134 : (Hg133 ++ [(⟨[.pointer none], true, true⟩ : Blk)]).length = Hg133.length + 1 := by simp
           obtain ⟨b134, hb134e⟩ : ∃ b, Hg133.length = b := ⟨_, rfl⟩
           generalize Hg133 ++ [(⟨[.pointer none], true, true⟩ : Blk)] = Hg134 at hp134 hl134 az134_7 ⊢
           rw [hb134e] at hl134 az134_7
           try rw [hb134e]
           have hq134 := (hq133).trans hp134
           have az134_8 := pget hp134 az133_8
           have az134_6 := pget hp134 az133_6
           have hga134_1 := hga133_1.keep hp134
           have hga134_2 := hga133_2.keep hp134
           have hle134 := hp134.length_le
           obtain ⟨d0, d1, d2⟩ := (hx4.pre hq134).sys
           obtain ⟨e0, e1, e2⟩ := (hy4.pre hq134).sys
           have lt6 := (List.getElem?_eq_some_iff.1 az134_6).1
           have lt7 := (List.getElem?_eq_some_iff.1 az134_7).1
           have lt8 := (List.getElem?_eq_some_iff.1 az134_8).1
           have hl4 := (hq134).length_le
           obtain ⟨HA, HB, HC, s6, s7, s8, hpC, o6, o7, o8, G1, G2⟩ := prodEnd (w := w) hq134 az134_6 az134_7 az134_8 (by omega) (by omega) (by omega) hga134_1 hga134_2 (by omega) (by omega) (by omega) (by omega) (by omega)
           simp (maxSteps := 1000000) [go_sem, s6, s7, s8]
           exact hQ' ((b130), (b134), (b129)) _ _ (by simp [upF, Fr.get, Up.refl]) ⟨hpC, _, _, _, _, o6, o7, o8, G1, G2, hgo100, hgo133⟩
         ·skip
          refine vG_alt ?_ ?_
          ·skip
           try simp (maxSteps := 1000000) [go_sem, d0, d1, d2, e0, e1, e2]
           have hp135 : Hg129 <+: Hg129 ++ [(⟨[.pointer none], true, true⟩ : Blk)] := List.prefix_append _ _
           have az135_7 : (Hg129 ++ [(⟨[.pointer none], true, true⟩ : Blk)])[Hg129.length]? = some ⟨[.pointer none], true, true⟩ := by simp
           have hl135 : (Hg129 ++ [(⟨[.pointer none], true, true⟩ : Blk)]).length = Hg129.length + 1 := by simp
           obtain ⟨b135, hb135e⟩ : ∃ b, Hg129.length = b := ⟨_, rfl⟩
           generalize Hg129 ++ [(⟨[.pointer none], true, true⟩ : Blk)] = Hg135 at hp135 hl135 az135_7 ⊢
           rw [hb135e] at hl135 az135_7
           try rw [hb135e]
           have hq135 := (hq129).trans hp135
           have az135_8 := pget hp135 az129_8
           have hga135_1 := hga129_1.keep hp135
           have hle135 := hp135.length_le
           obtain ⟨d0, d1, d2⟩ := (hx4.pre hq135).sys
           obtain ⟨e0, e1, e2⟩ := (hy4.pre hq135).sys
           refine vG_alt ?_ ?_
           ·skip
            try simp (maxSteps := 1000000) [go_sem, d0, d1, d2, e0, e1, e2]
            have hp136 : Hg135 <+: Hg135 ++ [(⟨[.int .i64 0], true, true⟩ : Blk)] := List.prefix_append _ _
            have az136_6 : (Hg135 ++ [(⟨[.int .i64 0], true, true⟩ : Blk)])[Hg135.length]? = some ⟨[.int .i64 0], true, true⟩ := by simp
            have hl136 : (Hg135 ++ [(⟨[.int .i64 0], true, true⟩ : Blk)]).length = Hg135.length + 1 := by simp
            obtain ⟨b136, hb136e⟩ : ∃ b, Hg135.length = b := ⟨_, rfl⟩
            generalize Hg135 ++ [(⟨[.int .i64 0], true, true⟩ : Blk)] = Hg136 at hp136 hl136 az136_6 ⊢
            rw [hb136e] at hl136 az136_6
            try rw [hb136e]
            have hq136 := (hq135).trans hp136
            have az136_8 := pget hp136 az135_8
            have az136_7 := pget hp136 az135_7
            have hga136_1 := hga135_1.keep hp136
            have hle136 := hp136.length_le
            obtain ⟨d0, d1, d2⟩ := (hx4.pre hq136).sys
            obtain ⟨e0, e1, e2⟩ := (hy4.pre hq136).sys
            refine sysGrid_ok ((hv.pre (hp0.trans hp04)).pre hq136) gy hFy _ ?_
            intro Hg137 g137 gs137 hp137 hge137 hga137_2 hgo137
            have hq137 := (hq136).trans hp137
            have az137_8 := pget hp137 az136_8
            have az137_7 := pget hp137 az136_7
            have az137_6 := pget hp137 az136_6
            have hga137_1 := hga136_1.keep hp137
            have hlt137 := GridAt.lt hga137_2
            have hle137 := hp137.length_le
            obtain ⟨d0, d1, d2⟩ := (hx4.pre hq137).sys
            obtain ⟨e0, e1, e2⟩ := (hy4.pre hq137).sys
            try simp (maxSteps := 1000000) [go_sem, d0, d1, d2, e0, e1, e2, hp137]
            have lt6 := (List.getElem?_eq_some_iff.1 az137_6).1
            have lt7 := (List.getElem?_eq_some_iff.1 az137_7).1
            have lt8 := (List.getElem?_eq_some_iff.1 az137_8).1
            have hl4 := (hq137).length_le
            obtain ⟨HA, HB, HC, s6, s7, s8, hpC, o6, o7, o8, G1, G2⟩ := prodEnd (w := w) hq137 az137_6 az137_7 az137_8 (by omega) (by omega) (by omega) hga137_1 hga137_2 (by omega) (by omega) (by omega) (by omega) (by omega)
            simp (maxSteps := 1000000) [go_sem, s6, s7, s8]
            exact hQ' ((b136), (b135), (b129)) _ _ (by simp [upF, Fr.get, Up.refl]) ⟨hpC, _, _, _, _, o6, o7, o8, G1, G2, hgo100, hgo137⟩
           ·skip
            try simp (maxSteps := 1000000) [go_sem, d0, d1, d2, e0, e1, e2]
            refine sysGrid_ok ((hv.pre (hp0.trans hp04)).pre hq135) gy hFy _ ?_
            intro Hg138 g138 gs138 hp138 hge138 hga138_2 hgo138
            have hq138 := (hq135).trans hp138
            have az138_8 := pget hp138 az135_8
            have az138_7 := pget hp138 az135_7
            have hga138_1 := hga135_1.keep hp138
            have hlt138 := GridAt.lt hga138_2
            have hle138 := hp138.length_le
            obtain ⟨d0, d1, d2⟩ := (hx4.pre hq138).sys
            obtain ⟨e0, e1, e2⟩ := (hy4.pre hq138).sys
            try simp (maxSteps := 1000000) [go_sem, d0, d1, d2, e0, e1, e2, hp138]
            have hp139 : Hg138 <+: Hg138 ++ [(⟨[.int .i64 w], true, true⟩ : Blk)] := List.prefix_append _ _
            have az139_6 : (Hg138 ++ [(⟨[.int .i64 w], true, true⟩ : Blk)])[Hg138.length]? = some ⟨[.int .i64 w], true, true⟩ := by simp
            have hl139 : (Hg138 ++ [(⟨[.int .i64 w], true, true⟩ : Blk)]).length = Hg138.length + 1 := by simp
            obtain ⟨b139, hb139e⟩ : ∃ b, Hg138.length = b := ⟨_, rfl⟩
            generalize Hg138 ++ [(⟨[.int .i64 w], true, true⟩ : Blk)] = Hg139 at hp139 hl139 az139_6 ⊢
            rw [hb139e] at hl139 az139_6
            try rw [hb139e]
            have hq139 := (hq138).trans hp139
            have az139_8 := pget hp139 az138_8
            have az139_7 := pget hp139 az138_7
            have hga139_1 := hga138_1.keep hp139
            have hga139_2 := hga138_2.keep hp139
            have hle139 := hp139.length_le
            obtain ⟨d0, d1, d2⟩ := (hx4.pre hq139).sys
            obtain ⟨e0, e1, e2⟩ := (hy4.pre hq139).sys
            have lt6 := (List.getElem?_eq_some_iff.1 az139_6).1
            have lt7 := (List.getElem?_eq_some_iff.1 az139_7).1
            have lt8 := (List.getElem?_eq_some_iff.1 az139_8).1
            have hl4 := (hq139).length_le
            obtain ⟨HB, HC, s7, s8, hpC, o6, o7, o8, G1, G2⟩ := prodEnd2 (w := w) hq139 az139_6 az139_7 az139_8 (by omega) (by omega) (by omega) hga139_1 hga139_2 (by omega) (by omega) (by omega) (by omega) (by omega)
            simp (maxSteps := 1000000) [go_sem, s7, s8]
            exact hQ' ((b139), (b135), (b129)) _ _ (by simp [upF, Fr.get, Up.refl]) ⟨hpC, _, _, _, _, o6, o7, o8, G1, G2, hgo100, hgo138⟩
          ·skip
           try simp (maxSteps := 1000000) [go_sem, d0, d1, d2, e0, e1, e2]
           refine sysGrid_ok ((hv.pre (hp0.trans hp04)).pre hq129) gy hFy _ ?_
           intro Hg140 g140 gs140 hp140 hge140 hga140_2 hgo140
           have hq140 := (hq129).trans hp140
           have az140_8 := pget hp140 az129_8
           have hga140_1 := hga129_1.keep hp140
           have hlt140 := GridAt.lt hga140_2
           have hle140 := hp140.length_le
           obtain ⟨d0, d1, d2⟩ := (hx4.pre hq140).sys
           obtain ⟨e0, e1, e2⟩ := (hy4.pre hq140).sys
           try simp (maxSteps := 1000000) [go_sem, d0, d1, d2, e0, e1, e2, hp140]
           refine vG_alt ?_ ?_
           ·skip
            try simp (maxSteps := 1000000) [go_sem, d0, d1, d2, e0, e1, e2, hp140]
            have hp141 : Hg140 <+: Hg140 ++ [(⟨[(.pointer (some ⟨g100, 0, none⟩) : Value)], true, true⟩ : Blk), ⟨[.int .i64 w], true, true⟩] := List.prefix_append _ _
            have az141_7 : (Hg140 ++ [(⟨[(.pointer (some ⟨g100, 0, none⟩) : Value)], true, true⟩ : Blk), ⟨[.int .i64 w], true, true⟩])[Hg140.length]? = some ⟨[(.pointer (some ⟨g100, 0, none⟩) : Value)], true, true⟩ := by simp
            have az141_6 : (Hg140 ++ [(⟨[(.pointer (some ⟨g100, 0, none⟩) : Value)], true, true⟩ : Blk), ⟨[.int .i64 w], true, true⟩])[Hg140.length + 1]? = some ⟨[.int .i64 w], true, true⟩ := by simp
            have hl141 : (Hg140 ++ [(⟨[(.pointer (some ⟨g100, 0, none⟩) : Value)], true, true⟩ : Blk), ⟨[.int .i64 w], true, true⟩]).length = Hg140.length + 2 := by simp
            obtain ⟨b141, hb141e⟩ : ∃ b, Hg140.length = b := ⟨_, rfl⟩
            generalize Hg140 ++ [(⟨[(.pointer (some ⟨g100, 0, none⟩) : Value)], true, true⟩ : Blk), ⟨[.int .i64 w], true, true⟩] = Hg141 at hp141 hl141 az141_7 az141_6 ⊢
            rw [hb141e] at hl141 az141_7 az141_6
            try rw [hb141e]
            have hq141 := (hq140).trans hp141
            have az141_8 := pget hp141 az140_8
            have hga141_1 := hga140_1.keep hp141
            have hga141_2 := hga140_2.keep hp141
            have hle141 := hp141.length_le
            obtain ⟨d0, d1, d2⟩ := (hx4.pre hq141).sys
            obtain ⟨e0, e1, e2⟩ := (hy4.pre hq141).sys
            have lt6 := (List.getElem?_eq_some_iff.1 az141_6).1
            have lt7 := (List.getElem?_eq_some_iff.1 az141_7).1
            have lt8 := (List.getElem?_eq_some_iff.1 az141_8).1
            have hl4 := (hq141).length_le
            obtain ⟨HC, s8, hpC, o6, o7, o8, G1, G2⟩ := prodEnd1 (w := w) hq141 az141_6 az141_7 az141_8 (by omega) (by omega) (by omega) hga141_1 hga141_2 (by omega) (by omega) (by omega) (by omega) (by omega)
            simp (maxSteps := 1000000) [go_sem, s8]
            exact hQ' ((b141 + 1), (b141), (b129)) _ _ (by simp [upF, Fr.get, Up.refl]) ⟨hpC, _, _, _, _, o6, o7, o8, G1, G2, hgo100, hgo140⟩
           ·skip
            try simp (maxSteps := 1000000) [go_sem, d0, d1, d2, e0, e1, e2, hp140]
            have hp142 : Hg140 <+: Hg140 ++ [(⟨[.int .i64 w], true, true⟩ : Blk), ⟨[(.pointer (some ⟨g100, 0, none⟩) : Value)], true, true⟩] := List.prefix_append _ _
            have az142_6 : (Hg140 ++ [(⟨[.int .i64 w], true, true⟩ : Blk), ⟨[(.pointer (some ⟨g100, 0, none⟩) : Value)], true, true⟩])[Hg140.length]? = some ⟨[.int .i64 w], true, true⟩ := by simp
            have az142_7 : (Hg140 ++ [(⟨[.int .i64 w], true, true⟩ : Blk), ⟨[(.pointer (some ⟨g100, 0, none⟩) : Value)], true, true⟩])[Hg140.length + 1]? = some ⟨[(.pointer (some ⟨g100, 0, none⟩) : Value)], true, true⟩ := by simp
            have hl142 : (Hg140 ++ [(⟨[.int .i64 w], true, true⟩ : Blk), ⟨[(.pointer (some ⟨g100, 0, none⟩) : Value)], true, true⟩]).length = Hg140.length + 2 := by simp
            obtain ⟨b142, hb142e⟩ : ∃ b, Hg140.length = b := ⟨_, rfl⟩
            generalize Hg140 ++ [(⟨[.int .i64 w], true, true⟩ : Blk), ⟨[(.pointer (some ⟨g100, 0, none⟩) : Value)], true, true⟩] = Hg142 at hp142 hl142 az142_6 az142_7 ⊢
            rw [hb142e] at hl142 az142_6 az142_7
            try rw [hb142e]
            have hq142 := (hq140).trans hp142
            have az142_8 := pget hp142 az140_8
            have hga142_1 := hga140_1.keep hp142
            have hga142_2 := hga140_2.keep hp142
            have hle142 := hp142.length_le
            obtain ⟨d0, d1, d2⟩ := (hx4.pre hq142).sys
            obtain ⟨e0, e1, e2⟩ := (hy4.pre hq142).sys
            have lt6 := (List.getElem?_eq_some_iff.1 az142_6).1
            have lt7 := (List.getElem?_eq_some_iff.1 az142_7).1
            have lt8 := (List.getElem?_eq_some_iff.1 az142_8).1
            have hl4 := (hq142).length_le
            obtain ⟨HC, s8, hpC, o6, o7, o8, G1, G2⟩ := prodEnd1 (w := w) hq142 az142_6 az142_7 az142_8 (by omega) (by omega) (by omega) hga142_1 hga142_2 (by omega) (by omega) (by omega) (by omega) (by omega)
            simp (maxSteps := 1000000) [go_sem, s8]
            exact hQ' ((b142), (b142 + 1), (b129)) _ _ (by simp [upF, Fr.get, Up.refl]) ⟨hpC, _, _, _, _, o6, o7, o8, G1, G2, hgo100, hgo140⟩
        ·skip
         try simp (maxSteps := 1000000) [go_sem, d0, d1, d2, e0, e1, e2, hp100]
         refine sysGrid_ok ((hv.pre (hp0.trans hp04)).pre hq100) gy hFy _ ?_
         intro Hg143 g143 gs143 hp143 hge143 hga143_2 hgo143
         have hq143 := (hq100).trans hp143
         have hga143_1 := hga100_1.keep hp143
         have hlt143 := GridAt.lt hga143_2
         have hle143 := hp143.length_le
         obtain ⟨d0, d1, d2⟩ := (hx4.pre hq143).sys
         obtain ⟨e0, e1, e2⟩ := (hy4.pre hq143).sys
         try simp (maxSteps := 1000000) [go_sem, d0, d1, d2, e0, e1, e2, hp143]
         refine vG_alt ?_ ?_
         ·skip
          try simp (maxSteps := 1000000) [go_sem, d0, d1, d2, e0, e1, e2, hp143]
          have hp144 : Hg143 <+: Hg143 ++ [(⟨[.pointer none], true, true⟩ : Blk)] := List.prefix_append _ _
          have az144_7 : (Hg143 ++ [(⟨[.pointer none], true, true⟩ : Blk)])[Hg143.length]? = some ⟨[.pointer none], true, true⟩ := by simp
          have hl144 : (Hg143 ++ [(⟨[.pointer none], true, true⟩ : Blk)]).length = Hg143.length + 1 := by simp
          obtain ⟨b144, hb144e⟩ : ∃ b, Hg143.length = b := ⟨_, rfl⟩
          generalize Hg143 ++ [(⟨[.pointer none], true, true⟩ : Blk)] = Hg144 at hp144 hl144 az144_7 ⊢
          rw [hb144e] at hl144 az144_7
          try rw [hb144e]
          have hq144 := (hq143).trans hp144
          have hga144_1 := hga143_1.keep hp144
          have hga144_2 := hga143_2.keep hp144
          have hle144 := hp144.length_le
          obtain ⟨d0, d1, d2⟩ := (hx4.pre hq144).sys
          obtain ⟨e0, e1, e2⟩ := (hy4.pre hq144).sys
          refine vG_alt ?_ ?_
          ·skip
           try simp (maxSteps := 1000000) [go_sem, d0, d1, d2, e0, e1, e2]
           have hp145 : Hg144 <+: Hg144 ++ [(⟨[.pointer none], true, true⟩ : Blk), ⟨[.int .i64 w], true, true⟩] := List.prefix_append _ _
           have az145_8 : (Hg144 ++ [(⟨[.pointer none], true, true⟩ : Blk), ⟨[.int .i64 w], true, true⟩])[Hg144.length]? = some ⟨[.pointer none], true, true⟩ := by simp
           have az145_6 : (Hg144 ++ [(⟨[.pointer none], true, true⟩ : Blk), ⟨[.int .i64 w], true, true⟩])[Hg144.length + 1]? = some ⟨[.int .i64 w], true, true⟩ := by simp
           have hl145 : (Hg144 ++ [(⟨[.pointer none], true, true⟩ : Blk), ⟨[.int .i64 w], true, true⟩]).length = Hg144.length + 2 := by simp
           obtain ⟨b145, hb145e⟩ : ∃ b, Hg144.length = b := ⟨_, rfl⟩
           generalize Hg144 ++ [(⟨[.pointer none], true, true⟩ : Blk), ⟨[.int .i64 w], true, true⟩] = Hg145 at hp145 hl145 az145_8 az145_6 ⊢
           rw [hb145e] at hl145 az145_8 az145_6
           try rw [hb145e]
           have hq145 := (hq144).trans hp145
           have az145_7 := pget hp145 az144_7
           have hga145_1 := hga144_1.keep hp145
           have hga145_2 := hga144_2.keep hp145
           have hle145 := hp145.length_le
           obtain ⟨d0, d1, d2⟩ := (hx4.pre hq145).sys
           obtain ⟨e0, e1, e2⟩ := (hy4.pre hq145).sys
           have lt6 := (List.getElem?_eq_some_iff.1 az145_6).1
           have lt7 := (List.getElem?_eq_some_iff.1 az145_7).1
           have lt8 := (List.getElem?_eq_some_iff.1 az145_8).1
           have hl4 := (hq145).length_le
           obtain ⟨HB, HC, s7, s8, hpC, o6, o7, o8, G1, G2⟩ := prodEnd2 (w := w) hq145 az145_6 az145_7 az145_8 (by omega) (by omega) (by omega) hga145_1 hga145_2 (by omega) (by omega) (by omega) (by omega) (by omega)
           simp (maxSteps := 1000000) [go_sem, s7, s8]
           exact hQ' ((b145 + 1), (b144), (b145)) _ _ (by simp [upF, Fr.get, Up.refl]) ⟨hpC, _, _, _, _, o6, o7, o8, G1, G2, hgo100, hgo143⟩
          ·skip
           try simp (maxSteps := 1000000) [go_sem, d0, d1, d2, e0, e1, e2]
           have hp146 : Hg144 <+: Hg144 ++ [(⟨[.int .i64 w], true, true⟩ : Blk), ⟨[.pointer none], true, true⟩] := List.prefix_append _ _
           have az146_6 : (Hg144 ++ [(⟨[.int .i64 w], true, true⟩ : Blk), ⟨[.pointer none], true, true⟩])[Hg144.length]? = some ⟨[.int .i64 w], true, true⟩ := by simp
           have az146_8 : (Hg144 ++ [(⟨[.int .i64 w], true, true⟩ : Blk), ⟨[.pointer none], true, true⟩])[Hg144.length + 1]? = some ⟨[.pointer none], true, true⟩ := by simp
           have hl146 : (Hg144 ++ [(⟨[.int .i64 w], true, true⟩ : Blk), ⟨[.pointer none], true, true⟩]).length = Hg144.length + 2 := by simp
           obtain ⟨b146, hb146e⟩ : ∃ b, Hg144.length = b := ⟨_, rfl⟩
           generalize Hg144 ++ [(⟨[.int .i64 w], true, true⟩ : Blk), ⟨[.pointer none], true, true⟩] = Hg146 at hp146 hl146 az146_6 az146_8 ⊢
           rw [hb146e] at hl146 az146_6 az146_8
           try rw [hb146e]
           have hq146 := (hq144).trans hp146
           have az146_7 := pget hp146 az144_7
           have hga146_1 := hga144_1.keep hp146
           have hga146_2 := hga144_2.keep hp146
           have hle146 := hp146.length_le
           obtain ⟨d0, d1, d2⟩ := (hx4.pre hq146).sys
           obtain ⟨e0, e1, e2⟩ := (hy4.pre hq146).sys
           have lt6 := (List.getElem?_eq_some_iff.1 az146_6).1
           have lt7 := (List.getElem?_eq_some_iff.1 az146_7).1
           have lt8 := (List.getElem?_eq_some_iff.1 az146_8).1
           have hl4 := (hq146).length_le
           obtain ⟨HB, HC, s7, s8, hpC, o6, o7, o8, G1, G2⟩ := prodEnd2 (w := w) hq146 az146_6 az146_7 az146_8 (by omega) (by omega) (by omega) hga146_1 hga146_2 (by omega) (by omega) (by omega) (by omega) (by omega)
           simp (maxSteps := 1000000) [go_sem, s7, s8]
           exact hQ' ((b146), (b144), (b146 + 1)) _ _ (by simp [upF, Fr.get, Up.refl]) ⟨hpC, _, _, _, _, o6, o7, o8, G1, G2, hgo100, hgo143⟩
         ·skip
          refine vG_alt ?_ ?_
          ·skip
           try simp (maxSteps := 1000000) [go_sem, d0, d1, d2, e0, e1, e2, hp143]
           have hp147 : Hg143 <+: Hg143 ++ [(⟨[.pointer none], true, true⟩ : Blk)] := List.prefix_append _ _
           have az147_8 : (Hg143 ++ [(⟨[.pointer none], true, true⟩ : Blk)])[Hg143.length]? = some ⟨[.pointer none], true, true⟩ := by simp
           have hl147 : (Hg143 ++ [(⟨[.pointer none], true, true⟩ : Blk)]).length = Hg143.length + 1 := by simp
           obtain ⟨b147, hb147e⟩ : ∃ b, Hg143.length = b := ⟨_, rfl⟩
           generalize Hg143 ++ [(⟨[.pointer none], true, true⟩ : Blk)] = Hg147 at hp147 hl147 az147_8 ⊢
           rw [hb147e] at hl147 az147_8
           try rw [hb147e]
           have hq147 := (hq143).trans hp147
           have hga147_1 := hga143_1.keep hp147
           have hga147_2 := hga143_2.keep hp147
           have hle147 := hp147.length_le
           obtain ⟨d0, d1, d2⟩ := (hx4.pre hq147).sys
           obtain ⟨e0, e1, e2⟩ := (hy4.pre hq147).sys
           refine vG_alt ?_ ?_
           ·skip
            try simp (maxSteps := 1000000) [go_sem, d0, d1, d2, e0, e1, e2]
            have hp148 : Hg147 <+: Hg147 ++ [(⟨[(.pointer (some ⟨g100, 0, none⟩) : Value)], true, true⟩ : Blk), ⟨[.int .i64 w], true, true⟩] := List.prefix_append _ _
            have az148_7 : (Hg147 ++ [(⟨[(.pointer (some ⟨g100, 0, none⟩) : Value)], true, true⟩ : Blk), ⟨[.int .i64 w], true, true⟩])[Hg147.length]? = some ⟨[(.pointer (some ⟨g100, 0, none⟩) : Value)], true, true⟩ := by simp
            have az148_6 : (Hg147 ++ [(⟨[(.pointer (some ⟨g100, 0, none⟩) : Value)], true, true⟩ : Blk), ⟨[.int .i64 w], true, true⟩])[Hg147.length + 1]? = some ⟨[.int .i64 w], true, true⟩ := by simp
            have hl148 : (Hg147 ++ [(⟨[(.pointer (some ⟨g100, 0, none⟩) : Value)], true, true⟩ : Blk), ⟨[.int .i64 w], true, true⟩]).length = Hg147.length + 2 := by simp
            obtain ⟨b148, hb148e⟩ : ∃ b, Hg147.length = b := ⟨_, rfl⟩
            generalize Hg147 ++ [(⟨[(.pointer (some ⟨g100, 0, none⟩) : Value)], true, true⟩ : Blk), ⟨[.int .i64 w], true, true⟩] = Hg148 at hp148 hl148 az148_7 az148_6 ⊢
            rw [hb148e] at hl148 az148_7 az148_6
            try rw [hb148e]
            have hq148 := (hq147).trans hp148
            have az148_8 := pget hp148 az147_8
            have hga148_1 := hga147_1.keep hp148
            have hga148_2 := hga147_2.keep hp148
            have hle148 := hp148.length_le
            obtain ⟨d0, d1, d2⟩ := (hx4.pre hq148).sys
            obtain ⟨e0, e1, e2⟩ := (hy4.pre hq148).sys
            have lt6 := (List.getElem?_eq_some_iff.1 az148_6).1
            have lt7 := (List.getElem?_eq_some_iff.1 az148_7).1
            have lt8 := (List.getElem?_eq_some_iff.1 az148_8).1
            have hl4 := (hq148).length_le
            obtain ⟨HC, s8, hpC, o6, o7, o8, G1, G2⟩ := prodEnd1 (w := w) hq148 az148_6 az148_7 az148_8 (by omega) (by omega) (by omega) hga148_1 hga148_2 (by omega) (by omega) (by omega) (by omega) (by omega)
            simp (maxSteps := 1000000) [go_sem, s8]
            exact hQ' ((b148 + 1), (b148), (b147)) _ _ (by simp [upF, Fr.get, Up.refl]) ⟨hpC, _, _, _, _, o6, o7, o8, G1, G2, hgo100, hgo143⟩
           ·skip
            try simp (maxSteps := 1000000) [go_sem, d0, d1, d2, e0, e1, e2]
            have hp149 : Hg147 <+: Hg147 ++ [(⟨[.int .i64 w], true, true⟩ : Blk), ⟨[(.pointer (some ⟨g100, 0, none⟩) : Value)], true, true⟩] := List.prefix_append _ _
            have az149_6 : (Hg147 ++ [(⟨[.int .i64 w], true, true⟩ : Blk), ⟨[(.pointer (some ⟨g100, 0, none⟩) : Value)], true, true⟩])[Hg147.length]? = some ⟨[.int .i64 w], true, true⟩ := by simp
            have az149_7 : (Hg147 ++ [(⟨[.int .i64 w], true, true⟩ : Blk), ⟨[(.pointer (some ⟨g100, 0, none⟩) : Value)], true, true⟩])[Hg147.length + 1]? = some ⟨[(.pointer (some ⟨g100, 0, none⟩) : Value)], true, true⟩ := by simp
            have hl149 : (Hg147 ++ [(⟨[.int .i64 w], true, true⟩ : Blk), ⟨[(.pointer (some ⟨g100, 0, none⟩) : Value)], true, true⟩]).length = Hg147.length + 2 := by simp
            obtain ⟨b149, hb149e⟩ : ∃ b, Hg147.length = b := ⟨_, rfl⟩
            generalize Hg147 ++ [(⟨[.int .i64 w], true, true⟩ : Blk), ⟨[(.pointer (some ⟨g100, 0, none⟩) : Value)], true, true⟩] = Hg149 at hp149 hl149 az149_6 az149_7 ⊢
            rw [hb149e] at hl149 az149_6 az149_7
            try rw [hb149e]
            have hq149 := (hq147).trans hp149
            have az149_8 := pget hp149 az147_8
            have hga149_1 := hga147_1.keep hp149
            have hga149_2 := hga147_2.keep hp149
            have hle149 := hp149.length_le
            obtain ⟨d0, d1, d2⟩ := (hx4.pre hq149).sys
            obtain ⟨e0, e1, e2⟩ := (hy4.pre hq149).sys
            have lt6 := (List.getElem?_eq_some_iff.1 az149_6).1
            have lt7 := (List.getElem?_eq_some_iff.1 az149_7).1
            have lt8 := (List.getElem?_eq_some_iff.1 az149_8).1
            have hl4 := (hq149).length_le
            obtain ⟨HC, s8, hpC, o6, o7, o8, G1, G2⟩ := prodEnd1 (w := w) hq149 az149_6 az149_7 az149_8 (by omega) (by omega) (by omega) hga149_1 hga149_2 (by omega) (by omega) (by omega) (by omega) (by omega)
            simp (maxSteps := 1000000) [go_sem, s8]
            exact hQ' ((b149), (b149 + 1), (b147)) _ _ (by simp [upF, Fr.get, Up.refl]) ⟨hpC, _, _, _, _, o6, o7, o8, G1, G2, hgo100, hgo143⟩
          ·skip
           try simp (maxSteps := 1000000) [go_sem, d0, d1, d2, e0, e1, e2, hp143]
           have hp150 : Hg143 <+: Hg143 ++ [(⟨[.int .i64 0], true, true⟩ : Blk)] := List.prefix_append _ _
           have az150_6 : (Hg143 ++ [(⟨[.int .i64 0], true, true⟩ : Blk)])[Hg143.length]? = some ⟨[.int .i64 0], true, true⟩ := by simp
           have hl150 : (Hg143 ++ [(⟨[.int .i64 0], true, true⟩ : Blk)]).length = Hg143.length + 1 := by simp
           obtain ⟨b150, hb150e⟩ : ∃ b, Hg143.length = b := ⟨_, rfl⟩
           generalize Hg143 ++ [(⟨[.int .i64 0], true, true⟩ : Blk)] = Hg150 at hp150 hl150 az150_6 ⊢
           rw [hb150e] at hl150 az150_6
           try rw [hb150e]
           have hq150 := (hq143).trans hp150
           have hga150_1 := hga143_1.keep hp150
           have hga150_2 := hga143_2.keep hp150
           have hle150 := hp150.length_le
           obtain ⟨d0, d1, d2⟩ := (hx4.pre hq150).sys
           obtain ⟨e0, e1, e2⟩ := (hy4.pre hq150).sys
           refine vG_alt ?_ ?_
           ·skip
            try simp (maxSteps := 1000000) [go_sem, d0, d1, d2, e0, e1, e2]
            have hp151 : Hg150 <+: Hg150 ++ [(⟨[.pointer none], true, true⟩ : Blk), ⟨[.pointer none], true, true⟩] := List.prefix_append _ _
            have az151_8 : (Hg150 ++ [(⟨[.pointer none], true, true⟩ : Blk), ⟨[.pointer none], true, true⟩])[Hg150.length]? = some ⟨[.pointer none], true, true⟩ := by simp
            have az151_7 : (Hg150 ++ [(⟨[.pointer none], true, true⟩ : Blk), ⟨[.pointer none], true, true⟩])[Hg150.length + 1]? = some ⟨[.pointer none], true, true⟩ := by simp
            have hl151 : (Hg150 ++ [(⟨[.pointer none], true, true⟩ : Blk), ⟨[.pointer none], true, true⟩]).length = Hg150.length + 2 := by simp
            obtain ⟨b151, hb151e⟩ : ∃ b, Hg150.length = b := ⟨_, rfl⟩
            generalize Hg150 ++ [(⟨[.pointer none], true, true⟩ : Blk), ⟨[.pointer none], true, true⟩] = Hg151 at hp151 hl151 az151_8 az151_7 ⊢
            rw [hb151e] at hl151 az151_8 az151_7
            try rw [hb151e]
            have hq151 := (hq150).trans hp151
            have az151_6 := pget hp151 az150_6
            have hga151_1 := hga150_1.keep hp151
            have hga151_2 := hga150_2.keep hp151
            have hle151 := hp151.length_le
            obtain ⟨d0, d1, d2⟩ := (hx4.pre hq151).sys
            obtain ⟨e0, e1, e2⟩ := (hy4.pre hq151).sys
            have lt6 := (List.getElem?_eq_some_iff.1 az151_6).1
            have lt7 := (List.getElem?_eq_some_iff.1 az151_7).1
            have lt8 := (List.getElem?_eq_some_iff.1 az151_8).1
            have hl4 := (hq151).length_le
            obtain ⟨HA, HB, HC, s6, s7, s8, hpC, o6, o7, o8, G1, G2⟩ := prodEnd (w := w) hq151 az151_6 az151_7 az151_8 (by omega) (by omega) (by omega) hga151_1 hga151_2 (by omega) (by omega) (by omega) (by omega) (by omega)
            simp (maxSteps := 1000000) [go_sem, s6, s7, s8]
            exact hQ' ((b150), (b151 + 1), (b151)) _ _ (by simp [upF, Fr.get, Up.refl]) ⟨hpC, _, _, _, _, o6, o7, o8, G1, G2, hgo100, hgo143⟩
           ·skip
            try simp (maxSteps := 1000000) [go_sem, d0, d1, d2, e0, e1, e2]
            have hp152 : Hg150 <+: Hg150 ++ [(⟨[.pointer none], true, true⟩ : Blk), ⟨[.pointer none], true, true⟩] := List.prefix_append _ _
            have az152_7 : (Hg150 ++ [(⟨[.pointer none], true, true⟩ : Blk), ⟨[.pointer none], true, true⟩])[Hg150.length]? = some ⟨[.pointer none], true, true⟩ := by simp
            have az152_8 : (Hg150 ++ [(⟨[.pointer none], true, true⟩ : Blk), ⟨[.pointer none], true, true⟩])[Hg150.length + 1]? = some ⟨[.pointer none], true, true⟩ := by simp
            have hl152 : (Hg150 ++ [(⟨[.pointer none], true, true⟩ : Blk), ⟨[.pointer none], true, true⟩]).length = Hg150.length + 2 := by simp
            obtain ⟨b152, hb152e⟩ : ∃ b, Hg150.length = b := ⟨_, rfl⟩
            generalize Hg150 ++ [(⟨[.pointer none], true, true⟩ : Blk), ⟨[.pointer none], true, true⟩] = Hg152 at hp152 hl152 az152_7 az152_8 ⊢
            rw [hb152e] at hl152 az152_7 az152_8
            try rw [hb152e]
            have hq152 := (hq150).trans hp152
            have az152_6 := pget hp152 az150_6
            have hga152_1 := hga150_1.keep hp152
            have hga152_2 := hga150_2.keep hp152
            have hle152 := hp152.length_le
            obtain ⟨d0, d1, d2⟩ := (hx4.pre hq152).sys
            obtain ⟨e0, e1, e2⟩ := (hy4.pre hq152).sys
            have lt6 := (List.getElem?_eq_some_iff.1 az152_6).1
            have lt7 := (List.getElem?_eq_some_iff.1 az152_7).1
            have lt8 := (List.getElem?_eq_some_iff.1 az152_8).1
            have hl4 := (hq152).length_le
            obtain ⟨HA, HB, HC, s6, s7, s8, hpC, o6, o7, o8, G1, G2⟩ := prodEnd (w := w) hq152 az152_6 az152_7 az152_8 (by omega) (by omega) (by omega) hga152_1 hga152_2 (by omega) (by omega) (by omega) (by omega) (by omega)
            simp (maxSteps := 1000000) [go_sem, s6, s7, s8]
            exact hQ' ((b150), (b152), (b152 + 1)) _ _ (by simp [upF, Fr.get, Up.refl]) ⟨hpC, _, _, _, _, o6, o7, o8, G1, G2, hgo100, hgo143⟩
  ·rintro ⟨k6, k7, k8⟩ H5 ⟨hp5, g1, g2, gs, hs, o6, o7, o8, G1, G2, ho1, ho2⟩
   simp only at o6 o7 o8
   obtain ⟨d0, d1, d2⟩ := (hx0.pre (hp04.trans hp5)).sys
   have l6 : cellsAt H5 k6 0 1 = some [.int .i64 w] := o6.cell (o := 0) rfl
   simp (maxSteps := 1000000) [go_sem]
   refine AWp.draw mixed [(0, false), (1, false), (2, false), (3, false), (4, false), (5, false), (6, false), (7, false), (8, false), (9, true), (10, false), (11, false), (12, false)] (by kernel_rfl) ?_
   simp (maxSteps := 1000000) [go_sem, d1, l6, hn, wpq]
   refine triples_ok (v := n) (fs := []) (bs := [.pointer (some ⟨k7, 0, none⟩), .pointer (some ⟨k6, 0, none⟩), .pointer (some ⟨k8, 0, none⟩)]) (P := prodB bs cs w) hn15 (prod1_ok o6 o7 o8 G1 G2 ho1 ho2 gx gy (by omega) hn15) _ ?_
   intro H6 z hp6 hz
   obtain ⟨iz, nz, rfl⟩ : ∃ i n, z = lv 3 i 0 n := by obtain ⟨iz, ⟨e, _, _⟩, _⟩ := hz; exact ⟨iz, _, e⟩
   obtain ⟨H9, q1, q2, fin⟩ := end_sys hp0 (show H.length <= H.length + 2 by omega) hb0 h (hp04.trans (hp5.trans hp6)) (hz.wider (hp04.trans hp5).length_le) hr
   simp (maxSteps := 1000000) [go_sem, sysV, hp6, q1, q2]
   exact fin
 ·have hbn : 15 < p * q := by omega
  obtain ⟨H9, q1, q2, fin⟩ := bad H4 3 hp04 (by rw [rProd, hs, hs', hf, hf']; simp; omega)
  simp (maxSteps := 1000000) [go_sem, undef, d0, d1, d2, e0, e1, e2, wpq, hbn, q1, q2]
  exact fin

end Go.Proofs.YtfnegaedkomcgaaGreat
end
