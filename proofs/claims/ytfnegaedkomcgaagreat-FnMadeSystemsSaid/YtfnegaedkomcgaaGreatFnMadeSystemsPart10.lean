/- Part 10 of what the proof of the law FnMadeSystems rests on: contracts of functions of the program, for every argument that each names; no statement of the seat is proved here. -/
import Derived.Test.YtfnegaedkomcgaaGreatFnMadeSystemsPart9

set_option linter.all false
set_option maxRecDepth 20000
set_option maxHeartbeats 8000000
section
namespace Go.Ab

theorem Bl.same {e : Nat} {H H' H'' : Heap} {id n k : Nat} {cs : List Value} (h : Bl e H H' id cs n) (hs : Same (fun j => j = k) H' H'') (hk : H.length <= k) (hne : id ≠ k) : Bl e H H'' id cs n :=
  ⟨((Same.of_prefix h.1).trans hs).prefix (by intro j hj e; omega), h.2.1.keep hs hne, h.2.2⟩
theorem Bl.pushS {e : Nat} {H H' : Heap} {id n : Nat} {cs xs : List Value} (h : Bl e H H' id cs n) (he : 0 < e) (hx : xs.length = e) :
    cellsAt (H' ++ [⟨xs, true, true⟩]) H'.length 0 e = some xs /\ ∃ H3, appendH (H' ++ [⟨xs, true, true⟩]) e (lv e id 0 n) 1 xs = some (lv e (H'.length + 1) 0 (n + 1), H3) /\ Bl e H H3 (H'.length + 1) (cs ++ xs) (n + 1) /\ Same (fun j => j = id) H' H3 := by
  obtain ⟨h1, H3, h2, h3, h4, h5⟩ := h.2.1.push he hx
  refine ⟨h1, H3, h2, ⟨((Same.of_prefix h.1).trans h4).prefix (by have := h.2.2; omega), h3, ?_⟩, h4⟩
  have := h.1.length_le
  omega

end Go.Ab
namespace Go.Proofs.YtfnegaedkomcgaaGreat
open Go.Ab Go.Sort

def dcs (v : Int) (b : Bk) (i k : Nat) : List Value := [.int .i64 (if 0 < k /\ i ≠ 0 then b.a + v else b.a), .int .i64 (if 1 < k /\ i ≠ 1 then b.b + v else b.b), .int .i64 (if 2 < k /\ i ≠ 2 then b.c + v else b.c)]
def dbl (v : Int) (b : Bk) : List Bk := [blk b.a (b.b + v) (b.c + v), blk (b.a + v) b.b (b.c + v), blk (b.a + v) (b.b + v) b.c]
def dblT (v : Int) (a : Nat) : Bk := ⟨a, v + a, 2 * v⟩
def dblL (v : Nat) (bs : List Bk) : List Bk := bs ++ bs.flatMap (dbl v) ++ (List.range v).map (dblT v)
noncomputable def rDbl (p : Int) (bs : List Bk) : (Int × List Bk) × Int :=
  if sysB p bs then (if fullB p bs then (if 2 * p + 1 <= 15 then ((2 * p + 1, sortB (dblL p.toNat bs)), 0) else ((0, []), 3)) else ((0, []), 5)) else ((0, []), 1)
theorem dbl_flat_len (v : Int) : ∀ bs : List Bk, (bs.flatMap (dbl v)).length = bs.length * 3
  | [] => rfl
  | b :: bs => by rw [List.flatMap_cons, List.length_append, dbl_flat_len v bs, List.length_cons]; simp [dbl]; omega
theorem full_ne {p : Int} {bs : List Bk} (hp : 3 <= p /\ p <= 15) (h : fullB p bs = true) : bs ≠ [] := by
  rintro rfl
  simp only [fullB, decide_eq_true_eq, List.length_nil] at h
  have h1 : 0 < p * (p - 1) := Int.mul_pos (by omega) (by omega)
  omega

theorem implDouble_ok {H : Heap} {u : Value} {p : Int} {bs : List Bk} (hu : BlocksAt H u bs) (hl : bs.length <= 1048576) (Post : Value -> Heap -> Prop)
    (h : ∀ H' z, H <+: H' -> BlocksIn H.length H'.length H' z (rDbl p bs).1.2 -> Post (.tuple #[sysV (rDbl p bs).1.1 z, .int .i64 (rDbl p bs).2]) H') :
    ACalls Tryz.prog 8 [sysV p u] H Post := by
  have ou := hu.one
  refine ACalls.res ?_
  refine acalls_vc (rs := [.cell 2 26, .tmp 3]) Tryz.func8 rfl rfl Tryz.ntmps8 rfl rfl ?_
  simp (maxSteps := 1000000) [go_sem, sysV, ou]
  have hp0 : H <+: H ++ [⟨[.int .i64 p, u], true, true⟩, ⟨[.int .i64 0, .slice none 0 0], true, true⟩] := List.prefix_append _ _
  have hx0 : Holds (H ++ [⟨[.int .i64 p, u], true, true⟩, ⟨[.int .i64 0, .slice none 0 0], true, true⟩]) H.length [.int .i64 p, u] := ⟨true, by simp⟩
  have hb0 : (H ++ [(⟨[.int .i64 p, u], true, true⟩ : Blk), ⟨[.int .i64 0, .slice none 0 0], true, true⟩])[H.length + 1]? = some ⟨[.int .i64 0, .slice none 0 0], true, true⟩ := by simp
  have hlen0 : (H ++ [(⟨[.int .i64 p, u], true, true⟩ : Blk), ⟨[.int .i64 0, .slice none 0 0], true, true⟩]).length = H.length + 2 := by simp
  generalize H ++ [(⟨[.int .i64 p, u], true, true⟩ : Blk), ⟨[.int .i64 0, .slice none 0 0], true, true⟩] = H0 at hp0 hx0 hb0 hlen0 ⊢
  have bad := bad_sys hp0 (show H.length <= H.length + 1 by omega) hb0 h
  refine implIsSys (hu.pre hp0) _ ?_
  intro H1 hp1
  obtain ⟨d0, d1, d2⟩ := (hx0.pre hp1).sys
  cases hs : sysB p bs with
  | false =>
    obtain ⟨H9, q1, q2, fin⟩ := bad H1 1 hp1 (by rw [rDbl, hs]; simp)
    simp (maxSteps := 1000000) [go_sem, q1, q2]
    exact fin
  | true =>
    have hS := sysB_iff.1 hs
    have hpx := hS.1
    have hlb := hS.2.1
    simp (maxSteps := 1000000) [go_sem, d0, d1, d2]
    refine isFull_ok (hu.pre (hp0.trans hp1)) hpx hl _ ?_
    intro H2 hp2
    have hp02 := hp1.trans hp2
    obtain ⟨d0, d1, d2⟩ := (hx0.pre hp02).sys
    cases hf : fullB p bs with
    | false =>
      obtain ⟨H9, q1, q2, fin⟩ := bad H2 5 hp02 (by rw [rDbl, hs, hf]; simp)
      simp (maxSteps := 1000000) [go_sem, q1, q2]
      exact fin
    | true =>
      have w1 : IntKind.i64.wrap (2 * p) = 2 * p := i64w (by omega) (by omega)
      have w2 : IntKind.i64.wrap (2 * p + 1) = 2 * p + 1 := i64w (by omega) (by omega)
      by_cases hbig : 15 < 2 * p + 1
      · obtain ⟨H9, q1, q2, fin⟩ := bad H2 3 hp02 (by rw [rDbl, hs, hf, if_pos rfl, if_pos rfl, if_neg (by omega)])
        have hbig' : decide (15 < 2 * p + 1) = true := decide_eq_true hbig
        simp (maxSteps := 1000000) [go_sem, d0, d1, d2, w1, w2, hbig, q1, q2]
        exact fin
      have hne := full_ne hpx hf
      have hr : rDbl p bs = ((2 * p + 1, sortB (dblL p.toNat bs)), 0) := by rw [rDbl, hs, hf, if_pos rfl, if_pos rfl, if_pos (by omega)]
      rw [hr] at h
      simp (maxSteps := 1000000) [go_sem, d0, d1, d2, w1, w2, hbig]
      refine cloneB_oe (hu.pre (hp0.trans hp02)) hl _ ?_
      intro H3 cv hp3 hcv
      have hp03 := hp02.trans hp3
      obtain ⟨d0, d1, d2⟩ := (hx0.pre hp03).sys
      have hn0 : bs.length ≠ 0 := fun e => hne (List.eq_nil_of_length_eq_zero e)
      obtain ⟨v, rfl⟩ : ∃ v : Nat, p = v := ⟨p.toNat, by omega⟩
      simp only [Int.toNat_natCast] at h
      have hgood := hS.good
      obtain ⟨i, o, rfl, h1, h2⟩ := hu
      rcases hcv.2 with ⟨e, _⟩ | ⟨id, e, _⟩ | ⟨id, hid, rfl, e⟩
      · exact absurd e hn0
      · exact absurd e hn0
      have hb : H3[id]? = some ⟨tri bs, true, true⟩ := by
        rcases e with ⟨e, _⟩ | e
        · exact absurd e hn0
        · exact e
      have hbl0 : Bl 3 H0 H3 id (tri bs) bs.length := ⟨hp03, ⟨by rw [tri_length], .inr hb⟩, by have := hp02.length_le; omega⟩
      clear hcv e hb hid
      simp (maxSteps := 1000000) [go_sem, d0, d1, d2]
      refine AWp.loopVc (St := Nat × Nat) (fun s => [(2, .pointer (some ⟨H.length + 1, 0, none⟩)), (4, .int .i64 v), (5, lv 3 s.2 0 (bs.length + s.1 * 3)), (35, lv 3 i o bs.length), (36, .int .i64 bs.length), (37, .int .i64 s.1)])
        (fun s H' => s.1 <= bs.length /\ Bl 3 H0 H' s.2 (tri (bs ++ (bs.take s.1).flatMap (dbl v))) (bs.length + s.1 * 3)) (fun s => bs.length - s.1) (0, id) ?_ ?_ ?_
      · simp [upF, Fr.get, Up.refl]
      · exact ⟨by simp, by simpa using hbl0⟩
      · rintro K ⟨s, id1⟩ H' ⟨hs', hbl⟩ hK
        simp only at hs' hbl
        by_cases hlt : s < bs.length
        · have hbs : bs[s]? = some bs[s] := List.getElem?_eq_getElem hlt
          have c1 := (h1.pre (hp0.trans hbl.1)).bk hbs
          simp only [Bk.cells] at c1
          have hw_s : IntKind.i64.wrap ((s : Int) + 1) = (s : Int) + 1 := i64w (by omega) (by omega)
          have hgd : good v bs[s] = true := hgood bs[s] (List.getElem_mem hlt)
          obtain ⟨b, hbe⟩ : ∃ b, bs[s] = b := ⟨_, rfl⟩
          rw [hbe] at c1 hbs hgd
          have hg' := good_iff.1 hgd
          have wa : IntKind.i64.wrap (b.a + v) = b.a + v := i64w (by omega) (by omega)
          have wb : IntKind.i64.wrap (b.b + v) = b.b + v := i64w (by omega) (by omega)
          have wc : IntKind.i64.wrap (b.c + v) = b.c + v := i64w (by omega) (by omega)
          obtain ⟨list0, hl0⟩ : ∃ l, bs ++ (bs.take s).flatMap (dbl v) = l := ⟨_, rfl⟩
          obtain ⟨n1, hn1⟩ : ∃ n, bs.length + s * 3 = n := ⟨_, rfl⟩
          have hnb : n1 <= 200 := by omega
          rw [hl0, hn1] at hbl
          simp (maxSteps := 1000000) [go_sem, hlt, c1, hn1]
          have hpb : H' <+: H' ++ [⟨[.int .i64 b.a, .int .i64 b.b, .int .i64 b.c], true, true⟩] := List.prefix_append _ _
          have hxb := Holds.last H' [.int .i64 b.a, .int .i64 b.b, .int .i64 b.c]
          obtain ⟨bid, hbid⟩ : ∃ bid, H'.length = bid := ⟨_, rfl⟩
          have hne1 : id1 ≠ bid := by have := hbl.2.1.lt; omega
          have hbl1 := hbl.pre hpb
          have hb0l : H0.length <= bid := by have := hbl.1.length_le; omega
          rw [hbid] at hxb ⊢
          generalize H' ++ [(⟨[.int .i64 b.a, .int .i64 b.b, .int .i64 b.c], true, true⟩ : Blk)] = H2 at *
          refine AWp.loopVc (St := Nat × Nat) (fun t => [(2, .pointer (some ⟨H.length + 1, 0, none⟩)), (4, .int .i64 v), (5, lv 3 t.2 0 (n1 + t.1)), (7, .pointer (some ⟨bid, 0, none⟩)), (35, lv 3 i o bs.length), (36, .int .i64 bs.length), (37, .int .i64 s), (41, .int .i64 t.1)])
            (fun t H3 => t.1 <= 3 /\ Bl 3 H0 H3 t.2 (tri (list0 ++ (dbl v b).take t.1)) (n1 + t.1) /\ t.2 ≠ bid /\ Holds H3 bid [.int .i64 b.a, .int .i64 b.b, .int .i64 b.c]) (fun t => 3 - t.1) (0, id1) ?_ ?_ ?_
          · simp [upF, Fr.get, Up.refl]
          · exact ⟨by simp, by simpa using hbl1, hne1, hxb⟩
          · rintro K2 ⟨t, id2⟩ H3 ⟨ht, hbl3, hne2, hxb3⟩ hK2
            simp only at ht hbl3 hne2 hxb3
            obtain ⟨e0, e1, e2, e3⟩ := hxb3.bk
            by_cases ht3 : t < 3
            · have hblt : bid < H3.length := by obtain ⟨_, hb⟩ := hxb3; exact (List.getElem?_eq_some_iff.1 hb).1
              have hpc : H3 <+: H3 ++ [⟨[.int .i64 b.a, .int .i64 b.b, .int .i64 b.c], true, true⟩] := List.prefix_append _ _
              have hc4 : (H3 ++ [(⟨[.int .i64 b.a, .int .i64 b.b, .int .i64 b.c], true, true⟩ : Blk)])[H3.length]? = some ⟨[.int .i64 b.a, .int .i64 b.b, .int .i64 b.c], true, true⟩ := by simp
              have hlen4 : (H3 ++ [(⟨[.int .i64 b.a, .int .i64 b.b, .int .i64 b.c], true, true⟩ : Blk)]).length = H3.length + 1 := by simp
              have hbl4 := hbl3.pre hpc
              have hxb4 := hxb3.pre hpc
              have hid2 := hbl3.2.1.lt
              have hl03 := hbl3.1.length_le
              obtain ⟨n2, hn2⟩ : ∃ n, n1 + t = n := ⟨_, rfl⟩
              obtain ⟨list2, hl2⟩ : ∃ l, l = list0 ++ (dbl v b).take t := ⟨_, rfl⟩
              rw [hn2, <- hl2] at hbl4
              have hn2b : n2 <= 300 := by omega
              obtain rfl | rfl | rfl : t = 0 \/ t = 1 \/ t = 2 := by omega
              · simp (maxSteps := 1000000) [go_sem, e0, hn2]
                generalize H3 ++ [(⟨[.int .i64 b.a, .int .i64 b.b, .int .i64 b.c], true, true⟩ : Blk)] = H4 at *
                refine AWp.loopVc (St := Nat) (fun k => [(2, .pointer (some ⟨H.length + 1, 0, none⟩)), (4, .int .i64 v), (5, lv 3 id2 0 n2), (7, .pointer (some ⟨bid, 0, none⟩)), (8, .int .i64 0), (9, .pointer (some ⟨H3.length, 0, none⟩)), (35, lv 3 i o bs.length), (36, .int .i64 bs.length), (37, .int .i64 s), (41, .int .i64 0), (45, .int .i64 k)])
                  (fun k H6 => k <= 3 /\ Same (fun j => j = H3.length) H4 H6 /\ H6[H3.length]? = some ⟨dcs v b 0 k, true, true⟩) (fun k => 3 - k) 0 ?_ ?_ ?_
                · simp [upF, Fr.get, Up.refl]
                · exact ⟨by omega, Same.refl _ _, hc4⟩
                · rintro K3 k H6 ⟨hk, hS6, hc6⟩ hK3
                  by_cases hk3 : k < 3
                  · obtain rfl | rfl | rfl : k = 0 \/ k = 1 \/ k = 2 := by omega
                    · have hq : H6[H3.length]? = some ⟨[.int .i64 b.a, .int .i64 b.b, .int .i64 b.c], true, true⟩ := hc6
                      have l0 : cellsAt H6 H3.length 0 1 = some [.int .i64 b.a] := by rw [cellsAt_of hq rfl (by simp)]; rfl
                      simp (maxSteps := 1000000) [go_sem, wq1, wq2, wq3]
                      exact hK3 1 _ _ (by omega) (by simp [upF, Fr.get, Up.refl]) ⟨by omega, hS6, hc6⟩
                    · have hq : H6[H3.length]? = some ⟨[.int .i64 b.a, .int .i64 b.b, .int .i64 b.c], true, true⟩ := hc6
                      have l0 : cellsAt H6 H3.length 1 1 = some [.int .i64 b.b] := by rw [cellsAt_of hq rfl (by simp)]; rfl
                      have s0 : storeAt H6 H3.length 1 [.int .i64 (b.b + v)] = some (H6.set H3.length ⟨[.int .i64 b.a, .int .i64 (b.b + v), .int .i64 b.c], true, true⟩) := by rw [storeAt_of hq rfl rfl (by simp) (by simp [Value.oneCell'])]; rfl
                      have fin := fun fr' hf => hK3 2 fr' (H6.set H3.length ⟨[.int .i64 b.a, .int .i64 (b.b + v), .int .i64 b.c], true, true⟩) (by omega) hf ⟨by omega, hS6.trans same_set, by rw [List.getElem?_set_self (List.getElem?_eq_some_iff.1 hq).1]; rfl⟩
                      generalize H6.set H3.length ⟨[.int .i64 b.a, .int .i64 (b.b + v), .int .i64 b.c], true, true⟩ = H7 at s0 fin
                      simp (maxSteps := 1000000) [go_sem, l0, s0, wa, wb, wc, wq1, wq2, wq3]
                      exact fin _ (by simp [upF, Fr.get, Up.refl])
                    · have hq : H6[H3.length]? = some ⟨[.int .i64 b.a, .int .i64 (b.b + v), .int .i64 b.c], true, true⟩ := hc6
                      have l0 : cellsAt H6 H3.length 2 1 = some [.int .i64 b.c] := by rw [cellsAt_of hq rfl (by simp)]; rfl
                      have s0 : storeAt H6 H3.length 2 [.int .i64 (b.c + v)] = some (H6.set H3.length ⟨[.int .i64 b.a, .int .i64 (b.b + v), .int .i64 (b.c + v)], true, true⟩) := by rw [storeAt_of hq rfl rfl (by simp) (by simp [Value.oneCell'])]; rfl
                      have fin := fun fr' hf => hK3 3 fr' (H6.set H3.length ⟨[.int .i64 b.a, .int .i64 (b.b + v), .int .i64 (b.c + v)], true, true⟩) (by omega) hf ⟨by omega, hS6.trans same_set, by rw [List.getElem?_set_self (List.getElem?_eq_some_iff.1 hq).1]; rfl⟩
                      generalize H6.set H3.length ⟨[.int .i64 b.a, .int .i64 (b.b + v), .int .i64 (b.c + v)], true, true⟩ = H7 at s0 fin
                      simp (maxSteps := 1000000) [go_sem, l0, s0, wa, wb, wc, wq1, wq2, wq3]
                      exact fin _ (by simp [upF, Fr.get, Up.refl])
                  · have : k = 3 := by omega
                    subst this
                    have hq : H6[H3.length]? = some ⟨[.int .i64 b.a, .int .i64 (b.b + v), .int .i64 (b.c + v)], true, true⟩ := hc6
                    have l0 : cellsAt H6 H3.length 0 1 = some [.int .i64 (b.a)] := by rw [cellsAt_of hq rfl (by simp)]; rfl
                    have l1 : cellsAt H6 H3.length 1 1 = some [.int .i64 (b.b + v)] := by rw [cellsAt_of hq rfl (by simp)]; rfl
                    have l2 : cellsAt H6 H3.length 2 1 = some [.int .i64 (b.c + v)] := by rw [cellsAt_of hq rfl (by simp)]; rfl
                    have hp6 := hS6
                    have hbl6 : Bl 3 H0 H6 id2 (tri (list2)) n2 := hbl4.same hS6 (by omega) (by omega)
                    have hxb6 : Holds H6 bid [.int .i64 b.a, .int .i64 b.b, .int .i64 b.c] := hxb4.keepS hS6 (by omega)
                    simp (maxSteps := 1000000) [go_sem, l0, l1, l2]
                    refine blockOf_ok _ ?_
                    intro H7 hp7
                    obtain ⟨c, hc⟩ : ∃ c, blk (b.a) (b.b + v) (b.c + v) = c := ⟨_, rfl⟩
                    rw [hc]
                    obtain ⟨hsrc, H8, hap, hbl8, hs8⟩ := (hbl6.pre hp7).pushS (xs := c.cells) (by omega) rfl
                    simp only [Bk.cells] at hsrc hap hbl8
                    have hxb8 : Holds H8 bid [.int .i64 b.a, .int .i64 b.b, .int .i64 b.c] := (hxb6.pre hp7).keepS hs8 (by omega)
                    simp (maxSteps := 1000000) [go_sem, Bk.val, hsrc, hap, wq1, wq2, wq3]
                    have hl7 := hp7.length_le
                    have hl6 := hS6.1
                    have hnn : n1 + 1 = n2 + 1 := by omega
                    refine andK_intro (by omega) (hK2 (1, H7.length + 1) _ _ (by simp only; omega) ?_ ⟨by simp only; omega, ?_, by simp only; omega, hxb8⟩)
                    · simp [upF, Fr.get, Up.refl, hnn]
                    · have e : list0 ++ (dbl v b).take 1 = list2 ++ [c] := by rw [hl2, <- hc]; simp [dbl]
                      simp only [e, hnn, tri_append, tri_one, Bk.cells]
                      exact hbl8
              · simp (maxSteps := 1000000) [go_sem, e0, hn2]
                generalize H3 ++ [(⟨[.int .i64 b.a, .int .i64 b.b, .int .i64 b.c], true, true⟩ : Blk)] = H4 at *
                refine AWp.loopVc (St := Nat) (fun k => [(2, .pointer (some ⟨H.length + 1, 0, none⟩)), (4, .int .i64 v), (5, lv 3 id2 0 n2), (7, .pointer (some ⟨bid, 0, none⟩)), (8, .int .i64 1), (9, .pointer (some ⟨H3.length, 0, none⟩)), (35, lv 3 i o bs.length), (36, .int .i64 bs.length), (37, .int .i64 s), (41, .int .i64 1), (45, .int .i64 k)])
                  (fun k H6 => k <= 3 /\ Same (fun j => j = H3.length) H4 H6 /\ H6[H3.length]? = some ⟨dcs v b 1 k, true, true⟩) (fun k => 3 - k) 0 ?_ ?_ ?_
                · simp [upF, Fr.get, Up.refl]
                · exact ⟨by omega, Same.refl _ _, hc4⟩
                · rintro K3 k H6 ⟨hk, hS6, hc6⟩ hK3
                  by_cases hk3 : k < 3
                  · obtain rfl | rfl | rfl : k = 0 \/ k = 1 \/ k = 2 := by omega
                    · have hq : H6[H3.length]? = some ⟨[.int .i64 b.a, .int .i64 b.b, .int .i64 b.c], true, true⟩ := hc6
                      have l0 : cellsAt H6 H3.length 0 1 = some [.int .i64 b.a] := by rw [cellsAt_of hq rfl (by simp)]; rfl
                      have s0 : storeAt H6 H3.length 0 [.int .i64 (b.a + v)] = some (H6.set H3.length ⟨[.int .i64 (b.a + v), .int .i64 b.b, .int .i64 b.c], true, true⟩) := by rw [storeAt_of hq rfl rfl (by simp) (by simp [Value.oneCell'])]; rfl
                      have fin := fun fr' hf => hK3 1 fr' (H6.set H3.length ⟨[.int .i64 (b.a + v), .int .i64 b.b, .int .i64 b.c], true, true⟩) (by omega) hf ⟨by omega, hS6.trans same_set, by rw [List.getElem?_set_self (List.getElem?_eq_some_iff.1 hq).1]; rfl⟩
                      generalize H6.set H3.length ⟨[.int .i64 (b.a + v), .int .i64 b.b, .int .i64 b.c], true, true⟩ = H7 at s0 fin
                      simp (maxSteps := 1000000) [go_sem, l0, s0, wa, wb, wc, wq1, wq2, wq3]
                      exact fin _ (by simp [upF, Fr.get, Up.refl])
                    · have hq : H6[H3.length]? = some ⟨[.int .i64 (b.a + v), .int .i64 b.b, .int .i64 b.c], true, true⟩ := hc6
                      have l0 : cellsAt H6 H3.length 1 1 = some [.int .i64 b.b] := by rw [cellsAt_of hq rfl (by simp)]; rfl
                      simp (maxSteps := 1000000) [go_sem, wq1, wq2, wq3]
                      exact hK3 2 _ _ (by omega) (by simp [upF, Fr.get, Up.refl]) ⟨by omega, hS6, hc6⟩
                    · have hq : H6[H3.length]? = some ⟨[.int .i64 (b.a + v), .int .i64 b.b, .int .i64 b.c], true, true⟩ := hc6
                      have l0 : cellsAt H6 H3.length 2 1 = some [.int .i64 b.c] := by rw [cellsAt_of hq rfl (by simp)]; rfl
                      have s0 : storeAt H6 H3.length 2 [.int .i64 (b.c + v)] = some (H6.set H3.length ⟨[.int .i64 (b.a + v), .int .i64 b.b, .int .i64 (b.c + v)], true, true⟩) := by rw [storeAt_of hq rfl rfl (by simp) (by simp [Value.oneCell'])]; rfl
                      have fin := fun fr' hf => hK3 3 fr' (H6.set H3.length ⟨[.int .i64 (b.a + v), .int .i64 b.b, .int .i64 (b.c + v)], true, true⟩) (by omega) hf ⟨by omega, hS6.trans same_set, by rw [List.getElem?_set_self (List.getElem?_eq_some_iff.1 hq).1]; rfl⟩
                      generalize H6.set H3.length ⟨[.int .i64 (b.a + v), .int .i64 b.b, .int .i64 (b.c + v)], true, true⟩ = H7 at s0 fin
                      simp (maxSteps := 1000000) [go_sem, l0, s0, wa, wb, wc, wq1, wq2, wq3]
                      exact fin _ (by simp [upF, Fr.get, Up.refl])
                  · have : k = 3 := by omega
                    subst this
                    have hq : H6[H3.length]? = some ⟨[.int .i64 (b.a + v), .int .i64 b.b, .int .i64 (b.c + v)], true, true⟩ := hc6
                    have l0 : cellsAt H6 H3.length 0 1 = some [.int .i64 (b.a + v)] := by rw [cellsAt_of hq rfl (by simp)]; rfl
                    have l1 : cellsAt H6 H3.length 1 1 = some [.int .i64 (b.b)] := by rw [cellsAt_of hq rfl (by simp)]; rfl
                    have l2 : cellsAt H6 H3.length 2 1 = some [.int .i64 (b.c + v)] := by rw [cellsAt_of hq rfl (by simp)]; rfl
                    have hp6 := hS6
                    have hbl6 : Bl 3 H0 H6 id2 (tri (list2)) n2 := hbl4.same hS6 (by omega) (by omega)
                    have hxb6 : Holds H6 bid [.int .i64 b.a, .int .i64 b.b, .int .i64 b.c] := hxb4.keepS hS6 (by omega)
                    simp (maxSteps := 1000000) [go_sem, l0, l1, l2]
                    refine blockOf_ok _ ?_
                    intro H7 hp7
                    obtain ⟨c, hc⟩ : ∃ c, blk (b.a + v) (b.b) (b.c + v) = c := ⟨_, rfl⟩
                    rw [hc]
                    obtain ⟨hsrc, H8, hap, hbl8, hs8⟩ := (hbl6.pre hp7).pushS (xs := c.cells) (by omega) rfl
                    simp only [Bk.cells] at hsrc hap hbl8
                    have hxb8 : Holds H8 bid [.int .i64 b.a, .int .i64 b.b, .int .i64 b.c] := (hxb6.pre hp7).keepS hs8 (by omega)
                    simp (maxSteps := 1000000) [go_sem, Bk.val, hsrc, hap, wq1, wq2, wq3]
                    have hl7 := hp7.length_le
                    have hl6 := hS6.1
                    have hnn : n1 + 2 = n2 + 1 := by omega
                    refine andK_intro (by omega) (hK2 (2, H7.length + 1) _ _ (by simp only; omega) ?_ ⟨by simp only; omega, ?_, by simp only; omega, hxb8⟩)
                    · simp [upF, Fr.get, Up.refl, hnn]
                    · have e : list0 ++ (dbl v b).take 2 = list2 ++ [c] := by rw [hl2, <- hc]; simp [dbl]
                      simp only [e, hnn, tri_append, tri_one, Bk.cells]
                      exact hbl8
              · simp (maxSteps := 1000000) [go_sem, e0, hn2]
                generalize H3 ++ [(⟨[.int .i64 b.a, .int .i64 b.b, .int .i64 b.c], true, true⟩ : Blk)] = H4 at *
                refine AWp.loopVc (St := Nat) (fun k => [(2, .pointer (some ⟨H.length + 1, 0, none⟩)), (4, .int .i64 v), (5, lv 3 id2 0 n2), (7, .pointer (some ⟨bid, 0, none⟩)), (8, .int .i64 2), (9, .pointer (some ⟨H3.length, 0, none⟩)), (35, lv 3 i o bs.length), (36, .int .i64 bs.length), (37, .int .i64 s), (41, .int .i64 2), (45, .int .i64 k)])
                  (fun k H6 => k <= 3 /\ Same (fun j => j = H3.length) H4 H6 /\ H6[H3.length]? = some ⟨dcs v b 2 k, true, true⟩) (fun k => 3 - k) 0 ?_ ?_ ?_
                · simp [upF, Fr.get, Up.refl]
                · exact ⟨by omega, Same.refl _ _, hc4⟩
                · rintro K3 k H6 ⟨hk, hS6, hc6⟩ hK3
                  by_cases hk3 : k < 3
                  · obtain rfl | rfl | rfl : k = 0 \/ k = 1 \/ k = 2 := by omega
                    · have hq : H6[H3.length]? = some ⟨[.int .i64 b.a, .int .i64 b.b, .int .i64 b.c], true, true⟩ := hc6
                      have l0 : cellsAt H6 H3.length 0 1 = some [.int .i64 b.a] := by rw [cellsAt_of hq rfl (by simp)]; rfl
                      have s0 : storeAt H6 H3.length 0 [.int .i64 (b.a + v)] = some (H6.set H3.length ⟨[.int .i64 (b.a + v), .int .i64 b.b, .int .i64 b.c], true, true⟩) := by rw [storeAt_of hq rfl rfl (by simp) (by simp [Value.oneCell'])]; rfl
                      have fin := fun fr' hf => hK3 1 fr' (H6.set H3.length ⟨[.int .i64 (b.a + v), .int .i64 b.b, .int .i64 b.c], true, true⟩) (by omega) hf ⟨by omega, hS6.trans same_set, by rw [List.getElem?_set_self (List.getElem?_eq_some_iff.1 hq).1]; rfl⟩
                      generalize H6.set H3.length ⟨[.int .i64 (b.a + v), .int .i64 b.b, .int .i64 b.c], true, true⟩ = H7 at s0 fin
                      simp (maxSteps := 1000000) [go_sem, l0, s0, wa, wb, wc, wq1, wq2, wq3]
                      exact fin _ (by simp [upF, Fr.get, Up.refl])
                    · have hq : H6[H3.length]? = some ⟨[.int .i64 (b.a + v), .int .i64 b.b, .int .i64 b.c], true, true⟩ := hc6
                      have l0 : cellsAt H6 H3.length 1 1 = some [.int .i64 b.b] := by rw [cellsAt_of hq rfl (by simp)]; rfl
                      have s0 : storeAt H6 H3.length 1 [.int .i64 (b.b + v)] = some (H6.set H3.length ⟨[.int .i64 (b.a + v), .int .i64 (b.b + v), .int .i64 b.c], true, true⟩) := by rw [storeAt_of hq rfl rfl (by simp) (by simp [Value.oneCell'])]; rfl
                      have fin := fun fr' hf => hK3 2 fr' (H6.set H3.length ⟨[.int .i64 (b.a + v), .int .i64 (b.b + v), .int .i64 b.c], true, true⟩) (by omega) hf ⟨by omega, hS6.trans same_set, by rw [List.getElem?_set_self (List.getElem?_eq_some_iff.1 hq).1]; rfl⟩
                      generalize H6.set H3.length ⟨[.int .i64 (b.a + v), .int .i64 (b.b + v), .int .i64 b.c], true, true⟩ = H7 at s0 fin
                      simp (maxSteps := 1000000) [go_sem, l0, s0, wa, wb, wc, wq1, wq2, wq3]
                      exact fin _ (by simp [upF, Fr.get, Up.refl])
                    · have hq : H6[H3.length]? = some ⟨[.int .i64 (b.a + v), .int .i64 (b.b + v), .int .i64 b.c], true, true⟩ := hc6
                      have l0 : cellsAt H6 H3.length 2 1 = some [.int .i64 b.c] := by rw [cellsAt_of hq rfl (by simp)]; rfl
                      simp (maxSteps := 1000000) [go_sem, wq1, wq2, wq3]
                      exact hK3 3 _ _ (by omega) (by simp [upF, Fr.get, Up.refl]) ⟨by omega, hS6, hc6⟩
                  · have : k = 3 := by omega
                    subst this
                    have hq : H6[H3.length]? = some ⟨[.int .i64 (b.a + v), .int .i64 (b.b + v), .int .i64 b.c], true, true⟩ := hc6
                    have l0 : cellsAt H6 H3.length 0 1 = some [.int .i64 (b.a + v)] := by rw [cellsAt_of hq rfl (by simp)]; rfl
                    have l1 : cellsAt H6 H3.length 1 1 = some [.int .i64 (b.b + v)] := by rw [cellsAt_of hq rfl (by simp)]; rfl
                    have l2 : cellsAt H6 H3.length 2 1 = some [.int .i64 (b.c)] := by rw [cellsAt_of hq rfl (by simp)]; rfl
                    have hp6 := hS6
                    have hbl6 : Bl 3 H0 H6 id2 (tri (list2)) n2 := hbl4.same hS6 (by omega) (by omega)
                    have hxb6 : Holds H6 bid [.int .i64 b.a, .int .i64 b.b, .int .i64 b.c] := hxb4.keepS hS6 (by omega)
                    simp (maxSteps := 1000000) [go_sem, l0, l1, l2]
                    refine blockOf_ok _ ?_
                    intro H7 hp7
                    obtain ⟨c, hc⟩ : ∃ c, blk (b.a + v) (b.b + v) (b.c) = c := ⟨_, rfl⟩
                    rw [hc]
                    obtain ⟨hsrc, H8, hap, hbl8, hs8⟩ := (hbl6.pre hp7).pushS (xs := c.cells) (by omega) rfl
                    simp only [Bk.cells] at hsrc hap hbl8
                    have hxb8 : Holds H8 bid [.int .i64 b.a, .int .i64 b.b, .int .i64 b.c] := (hxb6.pre hp7).keepS hs8 (by omega)
                    simp (maxSteps := 1000000) [go_sem, Bk.val, hsrc, hap, wq1, wq2, wq3]
                    have hl7 := hp7.length_le
                    have hl6 := hS6.1
                    have hnn : n1 + 3 = n2 + 1 := by omega
                    refine andK_intro (by omega) (hK2 (3, H7.length + 1) _ _ (by simp only; omega) ?_ ⟨by simp only; omega, ?_, by simp only; omega, hxb8⟩)
                    · simp [upF, Fr.get, Up.refl, hnn]
                    · have e : list0 ++ (dbl v b).take 3 = list2 ++ [c] := by rw [hl2, <- hc]; simp [dbl]
                      simp only [e, hnn, tri_append, tri_one, Bk.cells]
                      exact hbl8
            · have : t = 3 := by omega
              subst this
              simp (maxSteps := 1000000) [go_sem, hw_s]
              have ed : (dbl v b).take 3 = dbl v b := rfl
              rw [ed, <- hl0] at hbl3
              refine hK (s + 1, id2) _ _ (by simp only; omega) ?_ ⟨by simp only; omega, ?_⟩
              · have : bs.length + (s + 1) * 3 = n1 + 3 := by omega
                simp [upF, Fr.get, Up.refl, this]
              · have e1 : bs.length + (s + 1) * 3 = n1 + 3 := by omega
                simp only [e1, List.take_succ_eq_append_getElem hlt, hbe, List.flatMap_append, <- List.append_assoc]
                simpa using hbl3
        · have : s = bs.length := by omega
          subst this
          rw [List.take_length] at hbl
          obtain ⟨list0, hl0⟩ : ∃ l, bs ++ bs.flatMap (dbl v) = l := ⟨_, rfl⟩
          obtain ⟨n1, hn1⟩ : ∃ n, bs.length + bs.length * 3 = n := ⟨_, rfl⟩
          have hnb : n1 <= 200 := by omega
          rw [hl0, hn1] at hbl
          simp (maxSteps := 1000000) [go_sem, hn1]
          refine AWp.loopVc (St := Nat × Nat) (fun t => [(2, .pointer (some ⟨H.length + 1, 0, none⟩)), (4, .int .i64 v), (5, lv 3 t.2 0 (n1 + t.1)), (70, .int .i64 v), (71, .int .i64 t.1)])
            (fun t H3 => t.1 <= v /\ Bl 3 H0 H3 t.2 (tri (list0 ++ (List.range t.1).map (dblT v))) (n1 + t.1)) (fun t => v - t.1) (0, id1) ?_ ?_ ?_
          · simp [upF, Fr.get, Up.refl]
          · exact ⟨by simp, by simpa using hbl⟩
          · rintro K2 ⟨t, id2⟩ H3 ⟨ht, hbl3⟩ hK2
            simp only at ht hbl3
            by_cases htv : t < v
            · have hw_t : IntKind.i64.wrap ((t : Int) + 1) = (t : Int) + 1 := i64w (by omega) (by omega)
              have wt : IntKind.i64.wrap ((v : Int) + t) = (v : Int) + t := i64w (by omega) (by omega)
              have wv : IntKind.i64.wrap (2 * (v : Int)) = 2 * (v : Int) := i64w (by omega) (by omega)
              obtain ⟨hsrc, H5, hap, hbl5⟩ := hbl3.push (xs := (dblT v t).cells) (by omega) rfl
              simp only [Bk.cells, dblT] at hsrc hap hbl5
              simp (maxSteps := 1000000) [go_sem, htv, wt, wv, hw_t, hsrc, hap]
              refine andK_intro (by omega) (hK2 (t + 1, H3.length + 1) _ _ (by simp only; omega) (by simp [upF, Fr.get, Up.refl, Nat.add_assoc]) ⟨by simp only; omega, ?_⟩)
              simp only [List.range_succ, List.map_append, <- List.append_assoc, tri_append, <- Nat.add_assoc]
              simpa [tri_one, Bk.cells, dblT, tri_append] using hbl5
            · have : t = v := by omega
              subst this
              have wv : IntKind.i64.wrap (2 * (t : Int)) = 2 * (t : Int) := i64w (by omega) (by omega)
              have hlm : (dblL t bs).length = n1 + t := by
                rw [dblL, List.length_append, List.length_append, dbl_flat_len, List.length_map, List.length_range]; omega
              have hown : BlocksIn H0.length H3.length H3 (lv 3 id2 0 (n1 + t)) (dblL t bs) := by
                rw [<- hlm]
                refine OwnBlocks.inn (OwnBlocks.of_ol ?_ (by omega)) hbl3.2.2
                rw [hlm]
                have e : dblL t bs = list0 ++ (List.range t).map (dblT t) := by rw [dblL, hl0]
                rw [e]; exact hbl3.2.1
              simp (maxSteps := 1000000) [go_sem, wv, w2]
              refine implSystem_ok hown.read (by omega) _ ?_
              intro H6 z hp6 hz
              obtain ⟨q1, q2, q3, q4⟩ := put2 (cs := [.int .i64 (2 * (t : Int) + 1), z]) hp0 (show H.length <= H.length + 1 by omega) hb0 rfl (hbl3.1.trans hp6) rfl (by simp [one_int, hz.one])
              have hll := hbl3.1.length_le
              have fin := h _ z q3 (by rw [List.length_set]; exact (hz.keep q4 (fun j hj e => by have := hj.1; omega)).wider (by omega))
              simp (maxSteps := 1000000) [go_sem, sysV, q1, q2]
              exact ⟨_, Up.refl _ _, fin⟩

end Go.Proofs.YtfnegaedkomcgaaGreat
end

section
namespace Go.Ab

theorem AWp.regCut {P : Program} {N : Nat} {H : Heap} {fr : Fr} {Q : Exit -> Fr -> Heap -> Prop} {St : Type} {c : Code} (N' : St -> Fr) (E : St -> Heap -> Prop)
    (hx : ∀ Q' : Exit -> Fr -> Heap -> Prop, (∀ (s : St) (fr' : Fr) (H' : Heap), upF H' (N' s ++ fr) fr' -> E s H' -> Q' .normal fr' H') -> AWp P N c Q' fr H)
    (hy : ∀ (s : St) (H' : Heap), E s H' -> Q .normal (N' s ++ fr) H') : AWp P N c Q fr H := by
  let Q1 : Exit -> Fr -> Heap -> Prop := fun e f h => match e with
    | .normal => ∃ s, upF h (N' s ++ fr) f /\ E s h
    | _ => False
  refine AWp.weak (Q := Q1) ?_ (hx Q1 fun s f h h1 h2 => ⟨s, h1, h2⟩)
  intro e f h hq
  cases e with
  | normal => obtain ⟨s, h1, h2⟩ := hq; exact ⟨_, h1, hy s h h2⟩
  | _ => exact hq.elim

theorem boxLate {Hz Hn : Heap} {id : Nat} {zs cs : List Value} (hz : Hz[id]? = some ⟨zs, true, true⟩) (hp : Hz <+: Hn) (hl : zs.length = cs.length) (ho : cs.all Value.oneCell' = true) :
    storeAt Hn id 0 cs = some (Hn.set id ⟨cs, true, true⟩) /\ Holds (Hn.set id ⟨cs, true, true⟩) id cs /\ Same (fun j => j = id) Hn (Hn.set id ⟨cs, true, true⟩) /\ (Hn.set id ⟨cs, true, true⟩).length = Hn.length := by
  have hb := pget hp hz
  refine ⟨?_, ⟨true, List.getElem?_set_self (List.getElem?_eq_some_iff.1 hb).1⟩, same_set, by simp⟩
  rw [storeAt_of hb rfl rfl (by simp [hl]) ho]
  congr 3
  simp [over, hl]

end Go.Ab
end

section
namespace Go.Proofs.YtfnegaedkomcgaaGreat
open Go.Ab Go.Sort

noncomputable def addB (acc : List Bk) (b : Bk) : List Bk := if memB acc b then acc else acc ++ [b]
def turn (v : Nat) (b : Bk) (i : Nat) : Bk := blk ((b.a + i).tmod v) ((b.b + i).tmod v) ((b.c + i).tmod v)
noncomputable def turnK (v : Nat) (acc : List Bk) (b : Bk) (k : Nat) : List Bk := (List.range k).foldl (fun acc i => addB acc (turn v b i)) acc
noncomputable def turnL (v : Nat) (acc fam : List Bk) : List Bk := fam.foldl (fun acc b => turnK v acc b v) acc

theorem addB_len (acc : List Bk) (b : Bk) : (addB acc b).length <= acc.length + 1 := by unfold addB; split <;> simp
theorem turnK_succ (v : Nat) (acc : List Bk) (b : Bk) (k : Nat) : turnK v acc b (k + 1) = addB (turnK v acc b k) (turn v b k) := by
  simp [turnK, List.range_succ, List.foldl_append]
theorem turnK_zero (v : Nat) (acc : List Bk) (b : Bk) : turnK v acc b 0 = acc := rfl
theorem turnK_len (v : Nat) (acc : List Bk) (b : Bk) (k : Nat) : (turnK v acc b k).length <= acc.length + k := by
  induction k with
  | zero => simp [turnK_zero]
  | succ k ih => rw [turnK_succ]; have := addB_len (turnK v acc b k) (turn v b k); omega
def small (b : Bk) : Prop := (0 <= b.a /\ b.a <= 900) /\ (0 <= b.b /\ b.b <= 900) /\ (0 <= b.c /\ b.c <= 900)
theorem tmod_in {x : Int} {v : Nat} (hx : 0 <= x) (hv : 1 <= v /\ v <= 15) : 0 <= x.tmod v /\ x.tmod v <= 1000 := by
  have h1 := Int.tmod_nonneg (v : Int) hx
  have h2 := Int.tmod_lt_of_pos x (show (0 : Int) < v by omega)
  omega

end Go.Proofs.YtfnegaedkomcgaaGreat
end

section
namespace Go.Proofs.YtfnegaedkomcgaaGreat
open Go.Ab Go.Sort

theorem memB_take_succ {acc : List Bk} {c : Bk} {k : Nat} (h : k < acc.length) : memB (acc.take (k + 1)) c = (memB (acc.take k) c || decide (acc[k] = c)) := by
  rw [List.take_succ_eq_append_getElem h]
  simp only [memB, List.mem_append, List.mem_singleton]
  by_cases h1 : c ∈ acc.take k
  · simp [h1]
  · by_cases h2 : acc[k] = c
    · simp [h1, h2]
    · have : ¬ c = acc[k] := fun e => h2 e.symm
      simp [h1, h2, this]

theorem l01Turned_ok {H0 H : Heap} {id v : Nat} {b : Bk} {acc : List Bk} (hv : 1 <= v /\ v <= 15) (hg : small b) (hl : acc.length <= 1000) (hbl : Bl 3 H0 H id (tri acc) acc.length) (Post : Value -> Heap -> Prop)
    (h : ∀ H' id', Bl 3 H0 H' id' (tri (turnK v acc b v)) (turnK v acc b v).length -> Post (lv 3 id' 0 (turnK v acc b v).length) H') :
    ACalls Tryz.prog 108 [lv 3 id 0 acc.length, .int .i64 v, .int .i64 b.a, .int .i64 b.b, .int .i64 b.c] H Post := by
  refine acalls_vc (rs := [.tmp 10]) Tryz.func108 rfl rfl Tryz.ntmps108 rfl rfl ?_
  simp (maxSteps := 1000000) [go_sem]
  have hv0 : (v : Int) ≠ 0 := by omega
  have hv00 : v ≠ 0 := by omega
  obtain ⟨⟨ga1, ga2⟩, ⟨gb1, gb2⟩, ⟨gc1, gc2⟩⟩ := hg
  refine AWp.loopVc (St := Nat × Nat × List Bk) (fun t => [(0, lv 3 t.2.1 0 t.2.2.length), (1, .int .i64 v), (2, .int .i64 b.a), (3, .int .i64 b.b), (4, .int .i64 b.c), (11, .int .i64 t.1)])
    (fun t H2 => t.1 <= v /\ t.2.2 = turnK v acc b t.1 /\ Bl 3 H0 H2 t.2.1 (tri t.2.2) t.2.2.length) (fun t => v - t.1) (0, id, acc) ?_ ?_ ?_
  · simp [upF, Fr.get, Up.refl]
  · exact ⟨by simp, by simp [turnK_zero], hbl⟩
  · rintro K2 ⟨t, id2, acc2⟩ H2 ⟨ht, hacc2, hbl2⟩ hK2
    simp only at ht hacc2 hbl2
    have hl2 : acc2.length <= 1015 := by
      have := turnK_len v acc b t
      rw [<- hacc2] at this
      omega
    by_cases htv : t < v
    · have hw_t : IntKind.i64.wrap ((t : Int) + 1) = (t : Int) + 1 := i64w (by omega) (by omega)
      have wa : IntKind.i64.wrap (b.a + t) = b.a + t := i64w (by omega) (by omega)
      have wb : IntKind.i64.wrap (b.b + t) = b.b + t := i64w (by omega) (by omega)
      have wc : IntKind.i64.wrap (b.c + t) = b.c + t := i64w (by omega) (by omega)
      have ma := tmod_in (x := b.a + t) (by omega) hv
      have mb := tmod_in (x := b.b + t) (by omega) hv
      have mc := tmod_in (x := b.c + t) (by omega) hv
      obtain ⟨c, hc⟩ : ∃ c, blk ((b.a + t).tmod v) ((b.b + t).tmod v) ((b.c + t).tmod v) = c := ⟨_, rfl⟩
      have hct : turn v b t = c := hc
      simp (maxSteps := 1000000) [go_sem, htv]
      refine AWp.regCut (St := Nat) (fun z => [(12, .pointer (some ⟨z, 0, none⟩)), (13, .bool false)]) (fun z H3 => H2 <+: H3 /\ Holds H3 z c.cells) ?_ ?_
      · intro Q' hQ'
        refine AWp.drawF mixed [16] [(0, false), (1, false), (2, false), (3, false), (4, false), (5, false), (6, false), (7, false), (8, false), (9, false), (10, false), (11, false), (12, false), (13, false), (14, false), (15, false), (16, true), (17, false), (18, false)] (.one 0 false (.one 1 false (.one 2 false (.one 3 false (.one 4 false (.one 5 false (.one 6 false (.one 7 false (.one 8 false (.one 9 false (.one 10 false (.one 11 false (.one 12 false (.one 13 false (.one 14 false (.two 15 false (.one 16 true (.one 17 false (.one 18 false .nil))) 16 (.one 15 false (.one 17 false (.one 18 false .nil))))))))))))))))))) (by kernel_rfl) ?_
        simp (maxSteps := 1000000) [go_sem, wa, wb, wc, hv0, hv00]
        refine vT_two ?_ ?_
        · simp (maxSteps := 1000000) [go_sem]
          refine l01Block_ok ma mb mc _ ?_
          intro H3 hp3
          rw [hc]
          simp (maxSteps := 1000000) [go_sem, Bk.val]
          refine hQ' H3.length _ _ (by simp [upF, Fr.get, Up.refl]) ⟨hp3.trans (List.prefix_append _ _), Holds.last _ _⟩
        · simp (maxSteps := 1000000) [go_sem, wa, wb, wc, hv0, hv00]
          have hpz : H2 <+: H2 ++ [⟨[.int .i64 0, .int .i64 0, .int .i64 0], true, true⟩] := List.prefix_append _ _
          have hzz : (H2 ++ [(⟨[.int .i64 0, .int .i64 0, .int .i64 0], true, true⟩ : Blk)])[H2.length]? = some ⟨[.int .i64 0, .int .i64 0, .int .i64 0], true, true⟩ := by simp
          generalize H2 ++ [(⟨[.int .i64 0, .int .i64 0, .int .i64 0], true, true⟩ : Blk)] = HZ at hpz hzz ⊢
          refine l01Block_ok ma mb mc _ ?_
          intro H3 hp3
          rw [hc]
          obtain ⟨k1, k2, k3, k4⟩ := boxLate (cs := c.cells) hzz hp3 rfl rfl
          simp only [Bk.cells] at k1
          simp (maxSteps := 1000000) [go_sem, Bk.val, k1]
          refine hQ' H2.length _ _ (by simp [upF, Fr.get, Up.refl]) ⟨?_, k2⟩
          exact ((Same.of_prefix (hpz.trans hp3)).trans k3).prefix (by rintro j hj rfl; omega)
      · rintro z H3 ⟨hp3, hz⟩
        obtain ⟨z0, z1, z2, z3⟩ := hz.bk
        have hbl3 := hbl2.pre hp3
        have hat : At H3 id2 0 (tri acc2) := hbl3.2.1.at
        have hacc3 : turnK v acc b (t + 1) = addB acc2 c := by rw [turnK_succ, hct, <- hacc2]
        simp (maxSteps := 1000000) [go_sem, z0]
        refine AWp.loopVc (St := Nat) (fun k => [(0, lv 3 id2 0 acc2.length), (1, .int .i64 v), (2, .int .i64 b.a), (3, .int .i64 b.b), (4, .int .i64 b.c), (11, .int .i64 t), (12, .pointer (some ⟨z, 0, none⟩)), (13, .bool (memB (acc2.take k) c)), (14, .int .i64 k)])
          (fun k H4 => k <= acc2.length /\ H4 = H3) (fun k => acc2.length - k) 0 ?_ ?_ ?_
        · simp [upF, Fr.get, Up.refl, memB]
        · exact ⟨by omega, rfl⟩
        · rintro K3 k H4 ⟨hk, rfl⟩ hK3
          by_cases hkl : k < acc2.length
          · have hbs : acc2[k]? = some acc2[k] := List.getElem?_eq_getElem hkl
            have c1 := hat.bk hbs
            simp only [Bk.cells, Nat.zero_add] at c1
            have hw_k : IntKind.i64.wrap ((k : Int) + 1) = (k : Int) + 1 := i64w (by omega) (by omega)
            have hsucc := memB_take_succ (c := c) hkl
            simp (maxSteps := 1000000) [go_sem, hkl]
            refine AWp.draw mixed [(0, false), (1, false), (2, false), (3, false), (4, false), (5, false), (6, false), (7, false), (8, false), (9, false)] (by kernel_rfl) ?_
            cases hm : memB (acc2.take k) c with
            | true =>
              rw [hm] at hsucc
              simp (maxSteps := 1000000) [go_sem, hw_k]
              exact hK3 (k + 1) _ _ (by omega) (by simp [upF, Fr.get, Up.refl, hsucc]) ⟨by omega, rfl⟩
            | false =>
              rw [hm, Bool.false_or] at hsucc
              simp (maxSteps := 1000000) [go_sem, hw_k, hkl, z0, c1]
              have he : decide (acc2[k] = c) = (decide (acc2[k].a = c.a) && (decide (acc2[k].b = c.b) && decide (acc2[k].c = c.c))) := by
                rw [Bool.eq_iff_iff]; simp only [decide_eq_true_eq, Bool.and_eq_true]; exact Bk.eq3 _ _
              rw [he] at hsucc
              exact hK3 (k + 1) _ _ (by omega) (by simp [upF, Fr.get, Up.refl, hsucc]) ⟨by omega, rfl⟩
          · have : k = acc2.length := by omega
            subst this
            rw [List.take_length] at *
            cases hm : memB acc2 c with
            | true =>
              simp (maxSteps := 1000000) [go_sem, hw_t]
              refine hK2 (t + 1, id2, acc2) _ _ (by simp only; omega) (by simp [upF, Fr.get, Up.refl]) ⟨by simp only; omega, ?_, hbl3⟩
              simp [hacc3, addB, hm]
            | false =>
              obtain ⟨hsrc, H5, hap, hbl5⟩ := hbl3.push (xs := c.cells) (by omega) rfl
              simp only [Bk.cells] at hsrc hap hbl5
              simp (maxSteps := 1000000) [go_sem, hw_t, z0, hsrc, hap]
              refine andK_intro (by omega) (hK2 (t + 1, H4.length + 1, acc2 ++ [c]) _ _ (by simp only; omega) (by simp [upF, Fr.get, Up.refl]) ⟨by simp only; omega, by simp [hacc3, addB, hm], ?_⟩)
              simp only [List.length_append, List.length_singleton, tri_append, tri_one, Bk.cells]
              exact hbl5
    · have : t = v := by omega
      subst this
      simp (maxSteps := 1000000) [go_sem]
      rw [hacc2] at hbl2 ⊢
      exact h _ _ hbl2

end Go.Proofs.YtfnegaedkomcgaaGreat
end

section
namespace Go.Proofs.YtfnegaedkomcgaaGreat
open Go.Ab Go.Sort

theorem upTo_asc (lo hi : Nat) : (upTo lo hi).Pairwise (· < ·) := List.pairwise_lt_range'
theorem asc_triples (v : Nat) : Asc (triples v) := by
  unfold Asc triples trip0
  rw [List.pairwise_flatMap]
  refine ⟨fun a _ => ?_, (upTo_asc 0 v).imp fun {a a'} h => ?_⟩
  · unfold trip1
    rw [List.pairwise_flatMap]
    refine ⟨fun b _ => ?_, (upTo_asc _ v).imp fun {b b'} h => ?_⟩
    · unfold trip2
      rw [List.pairwise_map]
      refine (upTo_asc _ v).imp fun {c c'} h => ?_
      rw [before_iff]; exact .inr ⟨rfl, .inr ⟨rfl, by simp only; omega⟩⟩
    · intro x hx y hy
      simp only [trip2, List.mem_map] at hx hy
      obtain ⟨c, _, rfl⟩ := hx
      obtain ⟨c', _, rfl⟩ := hy
      rw [before_iff]; exact .inr ⟨rfl, .inl (by simp only; omega)⟩
  · intro x hx y hy
    simp only [trip1, trip2, List.mem_flatMap, List.mem_map] at hx hy
    obtain ⟨b, _, c, _, rfl⟩ := hx
    obtain ⟨b', _, c', _, rfl⟩ := hy
    rw [before_iff]; exact .inl (by simp only; omega)
theorem triples_sort (v : Nat) (P : Bk -> Bool) : sortB ((triples v).filter P) = (triples v).filter P := sortB_asc ((asc_triples v).filter _)

def affB (b : Bk) : Bool := decide ((b.a / 3 + b.b / 3 + b.c / 3) % 3 = 0) && decide ((b.a + b.b + b.c) % 3 = 0)
def xorB (b : Bk) : Bool := IntKind.i64.wrap ↑(BitVec.ofInt 64 (IntKind.i64.wrap ↑(BitVec.ofInt 64 (IntKind.i64.wrap (b.a + 1)) ^^^ BitVec.ofInt 64 (IntKind.i64.wrap (b.b + 1))).toNat) ^^^ BitVec.ofInt 64 (IntKind.i64.wrap (b.c + 1))).toNat == 0

theorem aff_q1 {x y z : Nat} (hx : x < 9) (hy : y < 9) (hz : z < 9) :
    ((IntKind.i64.wrap (IntKind.i64.wrap (IntKind.i64.wrap (x / 3 : Int) + IntKind.i64.wrap (y / 3 : Int)) + IntKind.i64.wrap (z / 3 : Int))).tmod 3 == 0) = decide (((x : Int) / 3 + y / 3 + z / 3) % 3 = 0) := by
  rw [i64w (n := (x : Int) / 3) (by omega) (by omega), i64w (n := (y : Int) / 3) (by omega) (by omega), i64w (n := (z : Int) / 3) (by omega) (by omega), i64w (n := (x : Int) / 3 + y / 3) (by omega) (by omega), i64w (by omega) (by omega),
    Int.tmod_eq_emod_of_nonneg (by omega)]
  rfl
def nmSingle : List UInt8 := [115, 105, 110, 103, 108, 101]
def nmFano : List UInt8 := [102, 97, 110, 111]
def nmAffine : List UInt8 := [97, 102, 102, 105, 110, 101]
def nmCyclic13 : List UInt8 := [99, 121, 99, 108, 105, 99, 49, 51]
def nmCyclic15 : List UInt8 := [99, 121, 99, 108, 105, 99, 49, 53]
def nmProj15 : List UInt8 := [112, 114, 111, 106, 101, 99, 116, 105, 118, 101, 49, 53]

noncomputable def rNamed (s : List UInt8) : (Int × List Bk) × Int :=
  if s = nmSingle then ((3, [⟨0, 1, 2⟩]), 0)
  else if s = nmFano then ((7, sortB (turnL 7 [] [⟨0, 1, 3⟩])), 0)
  else if s = nmAffine then ((9, (triples 9).filter affB), 0)
  else if s = nmCyclic13 then ((13, sortB (turnL 13 [] [⟨0, 1, 4⟩, ⟨0, 2, 7⟩])), 0)
  else if s = nmCyclic15 then ((15, sortB (turnL 15 [] [⟨0, 1, 4⟩, ⟨0, 2, 8⟩, ⟨0, 5, 10⟩])), 0)
  else if s = nmProj15 then ((15, (triples 15).filter xorB), 0)
  else ((0, []), 4)

theorem end_sys {H H0 H1 : Heap} {Post : Value -> Heap -> Prop} {r : (Int × List Bk) × Int} {id : Nat} {p : Int} {bs : List Bk} {w : Value} {c : Int} (hp0 : H <+: H0) (hid : H.length <= id) (hb0 : H0[id]? = some ⟨[.int .i64 0, .slice none 0 0], true, true⟩)
    (h : ∀ H' w, H <+: H' -> BlocksIn H.length H'.length H' w r.1.2 -> Post (.tuple #[sysV r.1.1 w, .int .i64 r.2]) H') (hp : H0 <+: H1) (hw : BlocksIn H0.length H1.length H1 w bs) (hr : r = ((p, bs), c)) :
    ∃ H2, storeAt H1 id 0 [.int .i64 p, w] = some H2 /\ cellsAt H2 id 0 2 = some [.int .i64 p, w] /\ ∃ v', Up H2 (.tuple #[.agg #[.int .i64 p, w], .int .i64 c]) v' /\ Post v' H2 := by
  obtain ⟨q1, q2, q3, q4⟩ := put2 (cs := [.int .i64 p, w]) hp0 hid hb0 rfl hp rfl (by simp [one_int, hw.one])
  have hl0 : id < H0.length := (List.getElem?_eq_some_iff.1 hb0).1
  have fin := h _ w q3 (by rw [hr, List.length_set]; exact (hw.keep q4 (fun j hj e => by have := hj.1; omega)).wider (by have := hp0.length_le; omega))
  rw [hr] at fin
  exact ⟨_, q1, q2, _, Up.refl _ _, fin⟩

end Go.Proofs.YtfnegaedkomcgaaGreat
end

section
namespace Go.Proofs.YtfnegaedkomcgaaGreat
open Go.Ab Go.Sort

theorem trip_le2 (v a b k : Nat) : (trip2 v a b k).length <= k := by rw [trip2, List.length_map, upTo_length]; omega
theorem trip_le1 (v a k : Nat) (hv : v <= 15) : (trip1 v a k).length <= k * 15 := by
  induction k with
  | zero => simp [trip1, upTo_self]
  | succ k ih =>
    by_cases hak : a + 1 <= k
    · rw [trip1_succ hak, List.length_append]; have := trip_le2 v a k v; omega
    · have : trip1 v a (k + 1) = [] := by unfold trip1; rw [upTo_self (by omega)]; rfl
      rw [this]; simp
theorem trip_le0 (v k : Nat) (hv : v <= 15) (hk : k <= 15) : (trip0 v k).length <= k * 225 := by
  induction k with
  | zero => simp [trip0, upTo_self]
  | succ k ih => rw [trip0_succ, List.length_append]; have := ih (by omega); have := trip_le1 v k v hv; omega
theorem sort_one (b : Bk) : sortB [b] = [b] := sortB_asc (by simp [Asc])
theorem aff_q3 {x y z : Nat} (hx : x < 9) (hy : y < 9) (hz : z < 9) :
    ((IntKind.i64.wrap (IntKind.i64.wrap ((x : Int).tmod 3 + (y : Int).tmod 3) + (z : Int).tmod 3)).tmod 3 == 0) = decide (((x : Int) + y + z) % 3 = 0) := by
  rw [Int.tmod_eq_emod_of_nonneg (show (0 : Int) <= x by omega), Int.tmod_eq_emod_of_nonneg (show (0 : Int) <= y by omega), Int.tmod_eq_emod_of_nonneg (show (0 : Int) <= z by omega),
    i64w (n := (x : Int) % 3 + y % 3) (by omega) (by omega), i64w (by omega) (by omega), Int.tmod_eq_emod_of_nonneg (by omega), Bool.eq_iff_iff]
  simp only [beq_iff_eq, decide_eq_true_eq]
  omega

theorem end_made {H H0 H1 : Heap} {Post : Value -> Heap -> Prop} {r : (Int × List Bk) × Int} {id : Nat} {p : Int} {bs : List Bk} {w : Value} (hp0 : H <+: H0) (hid : H.length <= id) (hb0 : H0[id]? = some ⟨[.int .i64 0, .slice none 0 0], true, true⟩)
    (h : ∀ H' w, H <+: H' -> BlocksIn H.length H'.length H' w r.1.2 -> Post (.tuple #[sysV r.1.1 w, .bool (decide (r.2 = 0))]) H') {k : Nat} (hk : H0.length <= k) (hp : H0 <+: H1) (hw : BlocksIn k H1.length H1 w bs) (hr : r = ((p, bs), 0)) :
    ∃ H2, storeAt H1 id 0 [.int .i64 p, w] = some H2 /\ cellsAt H2 id 0 2 = some [.int .i64 p, w] /\ ∃ v', Up H2 (.tuple #[.agg #[.int .i64 p, w], .bool true]) v' /\ Post v' H2 := by
  obtain ⟨q1, q2, q3, q4⟩ := put2 (cs := [.int .i64 p, w]) hp0 hid hb0 rfl hp rfl (by simp [one_int, hw.one])
  have hl0 : id < H0.length := (List.getElem?_eq_some_iff.1 hb0).1
  have fin := h _ w q3 (by rw [hr, List.length_set]; exact (hw.keep q4 (fun j hj e => by have := hj.1; omega)).wider (by have := hp0.length_le; omega))
  rw [hr] at fin
  exact ⟨_, q1, q2, _, Up.refl _ _, fin⟩

theorem l01Named_ok {H : Heap} {s : ByteArray} (Post : Value -> Heap -> Prop)
    (h : ∀ H' w, H <+: H' -> BlocksIn H.length H'.length H' w (rNamed s.toList).1.2 -> Post (.tuple #[sysV (rNamed s.toList).1.1 w, .bool (decide ((rNamed s.toList).2 = 0))]) H') :
    ACalls Tryz.prog 58 [.string s] H Post := by
  refine ACalls.res ?_
  refine acalls_vc (rs := [.cell 2 26, .tmp 3]) Tryz.func58 rfl rfl Tryz.ntmps58 rfl rfl ?_
  obtain ⟨l, hl⟩ : ∃ l, s.toList = l := ⟨_, rfl⟩
  rw [hl] at h
  have hp0 : H <+: H ++ [⟨[.int .i64 0, .slice none 0 0], true, true⟩] := List.prefix_append _ _
  have hb0 : (H ++ [(⟨[.int .i64 0, .slice none 0 0], true, true⟩ : Blk)])[H.length]? = some ⟨[.int .i64 0, .slice none 0 0], true, true⟩ := by simp
  have hl0 : (H ++ [(⟨[.int .i64 0, .slice none 0 0], true, true⟩ : Blk)]).length = H.length + 1 := by simp
  have hbl0 := Bl.nil 3 (H ++ [(⟨[.int .i64 0, .slice none 0 0], true, true⟩ : Blk)])
  have eHG : (H ++ [(⟨[.int .i64 0, .slice none 0 0], true, true⟩ : Blk)]) ++ [(⟨[], true, true⟩ : Blk)] = H ++ [⟨[.int .i64 0, .slice none 0 0], true, true⟩, ⟨[], true, true⟩] := by simp
  rw [eHG, hl0] at hbl0
  generalize H ++ [(⟨[.int .i64 0, .slice none 0 0], true, true⟩ : Blk)] = H0 at hp0 hb0 hl0 hbl0
  by_cases h1 : l = nmSingle
  · subst h1
    have hr : rNamed nmSingle = ((3, [⟨0, 1, 2⟩]), 0) := by rw [rNamed, if_pos rfl]
    simp (maxSteps := 1000000) [go_sem, hl, nmSingle]
    have hpa : H ++ [(⟨[.int .i64 0, .slice none 0 0], true, true⟩ : Blk), ⟨[], true, true⟩] <+: H ++ [(⟨[.int .i64 0, .slice none 0 0], true, true⟩ : Blk), ⟨[], true, true⟩, ⟨[.int .i64 0, .int .i64 1, .int .i64 2], true, true⟩] := ⟨[⟨[.int .i64 0, .int .i64 1, .int .i64 2], true, true⟩], by simp⟩
    have hx0 : (H ++ [(⟨[.int .i64 0, .slice none 0 0], true, true⟩ : Blk), ⟨[], true, true⟩, ⟨[.int .i64 0, .int .i64 1, .int .i64 2], true, true⟩])[H.length + 2]? = some ⟨tri [⟨0, 1, 2⟩], true, true⟩ := by simp [tri, Bk.cells]
    generalize H ++ [(⟨[.int .i64 0, .slice none 0 0], true, true⟩ : Blk), ⟨[], true, true⟩, ⟨[.int .i64 0, .int .i64 1, .int .i64 2], true, true⟩] = HS at hpa hx0 ⊢
    refine ACalls.up (args' := [.int .i64 3, lv 3 (H.length + 2) 0 1]) ⟨Up.refl _ _, Up.ex (by omega) (.inr (by rw [cellsAt_of hx0 rfl (by simp [tri, Bk.cells])]; rfl)), trivial⟩ ?_
    refine l01Made_ok (v := 3) (bs := [⟨0, 1, 2⟩]) ⟨H.length + 2, 0, rfl, Holds.at ⟨true, hx0⟩, by simp⟩ (by simp) _ ?_
    intro H2 w hp2 hw
    rw [sort_one] at hw
    obtain ⟨H3, q1, q2, fin⟩ := end_made hp0 (Nat.le_refl _) hb0 h (show H0.length <= HS.length from ((hbl0.1.trans hpa)).length_le) (hbl0.1.trans (hpa.trans hp2)) hw hr
    simp (maxSteps := 1000000) [go_sem, sysV, q1, q2]
    exact fin
  have h1' : (l == [115, 105, 110, 103, 108, 101]) = false := beq_eq_false_iff_ne.2 h1
  by_cases h2 : l = nmFano
  · subst h2
    have hr : rNamed nmFano = ((7, sortB (turnL 7 [] [⟨0, 1, 3⟩])), 0) := by rw [rNamed, if_neg (by decide), if_pos rfl]
    simp (maxSteps := 1000000) [go_sem, hl, nmFano]
    generalize H ++ [(⟨[.int .i64 0, .slice none 0 0], true, true⟩ : Blk), ⟨[], true, true⟩] = HG at hbl0 ⊢
    refine ACalls.up (args' := [lv 3 (H.length + 1) 0 (([] : List Bk).length), .int .i64 (7 : Nat), .int .i64 0, .int .i64 1, .int .i64 3]) ⟨Up.ex0 _ _ _ _ _ _, Up.refl _ _, Up.refl _ _, Up.refl _ _, Up.refl _ _, trivial⟩ ?_
    refine l01Turned_ok (H0 := H0) (v := 7) (b := ⟨0, 1, 3⟩) (acc := []) (by omega) (by simp [small]) (by simp) (by simpa [tri] using hbl0) _ ?_
    intro HT0 it0 hbk0
    have hle0 := turnK_len 7 [] ⟨0, 1, 3⟩ 7
    obtain ⟨acc0, hacc0⟩ : ∃ a, turnK 7 [] ⟨0, 1, 3⟩ 7 = a := ⟨_, rfl⟩
    rw [hacc0] at hbk0 hle0 ⊢
    simp only [List.length_nil] at hle0
    have hll0 : acc0.length <= 7 := by omega
    have hee : turnL 7 [] [⟨0, 1, 3⟩] = acc0 := by simp only [turnL, List.foldl_cons, List.foldl_nil, hacc0]
    simp (maxSteps := 1000000) [go_sem]
    have hown : BlocksIn H0.length HT0.length HT0 (lv 3 it0 0 acc0.length) acc0 := OwnBlocks.inn (OwnBlocks.of_ol hbk0.2.1 (by omega)) hbk0.2.2
    refine l01Made_ok hown.read (by omega) _ ?_
    intro H2 w hp2 hw
    rw [hee] at hr
    obtain ⟨H3, q1, q2, fin⟩ := end_made hp0 (Nat.le_refl _) hb0 h hbk0.1.length_le (hbk0.1.trans hp2) hw hr
    simp (maxSteps := 1000000) [go_sem, sysV, q1, q2]
    exact fin
  have h2' : (l == [102, 97, 110, 111]) = false := beq_eq_false_iff_ne.2 h2
  by_cases h4 : l = nmCyclic13
  · subst h4
    have hr : rNamed nmCyclic13 = ((13, sortB (turnL 13 [] [⟨0, 1, 4⟩, ⟨0, 2, 7⟩])), 0) := by rw [rNamed, if_neg (by decide), if_neg (by decide), if_neg (by decide), if_pos rfl]
    simp (maxSteps := 1000000) [go_sem, hl, nmCyclic13]
    generalize H ++ [(⟨[.int .i64 0, .slice none 0 0], true, true⟩ : Blk), ⟨[], true, true⟩] = HG at hbl0 ⊢
    refine ACalls.up (args' := [lv 3 (H.length + 1) 0 (([] : List Bk).length), .int .i64 (13 : Nat), .int .i64 0, .int .i64 1, .int .i64 4]) ⟨Up.ex0 _ _ _ _ _ _, Up.refl _ _, Up.refl _ _, Up.refl _ _, Up.refl _ _, trivial⟩ ?_
    refine l01Turned_ok (H0 := H0) (v := 13) (b := ⟨0, 1, 4⟩) (acc := []) (by omega) (by simp [small]) (by simp) (by simpa [tri] using hbl0) _ ?_
    intro HT0 it0 hbk0
    have hle0 := turnK_len 13 [] ⟨0, 1, 4⟩ 13
    obtain ⟨acc0, hacc0⟩ : ∃ a, turnK 13 [] ⟨0, 1, 4⟩ 13 = a := ⟨_, rfl⟩
    rw [hacc0] at hbk0 hle0 ⊢
    simp only [List.length_nil] at hle0
    have hll0 : acc0.length <= 13 := by omega
    simp (maxSteps := 1000000) [go_sem]
    refine l01Turned_ok (v := 13) (b := ⟨0, 2, 7⟩) (acc := acc0) (by omega) (by simp [small]) (by omega) hbk0 _ ?_
    intro HT1 it1 hbk1
    have hle1 := turnK_len 13 acc0 ⟨0, 2, 7⟩ 13
    obtain ⟨acc1, hacc1⟩ : ∃ a, turnK 13 acc0 ⟨0, 2, 7⟩ 13 = a := ⟨_, rfl⟩
    rw [hacc1] at hbk1 hle1 ⊢
    have hll1 : acc1.length <= 26 := by omega
    have hee : turnL 13 [] [⟨0, 1, 4⟩, ⟨0, 2, 7⟩] = acc1 := by simp only [turnL, List.foldl_cons, List.foldl_nil, hacc0, hacc1]
    simp (maxSteps := 1000000) [go_sem]
    have hown : BlocksIn H0.length HT1.length HT1 (lv 3 it1 0 acc1.length) acc1 := OwnBlocks.inn (OwnBlocks.of_ol hbk1.2.1 (by omega)) hbk1.2.2
    refine l01Made_ok hown.read (by omega) _ ?_
    intro H2 w hp2 hw
    rw [hee] at hr
    obtain ⟨H3, q1, q2, fin⟩ := end_made hp0 (Nat.le_refl _) hb0 h hbk1.1.length_le (hbk1.1.trans hp2) hw hr
    simp (maxSteps := 1000000) [go_sem, sysV, q1, q2]
    exact fin
  have h4' : (l == [99, 121, 99, 108, 105, 99, 49, 51]) = false := beq_eq_false_iff_ne.2 h4
  by_cases h5 : l = nmCyclic15
  · subst h5
    have hr : rNamed nmCyclic15 = ((15, sortB (turnL 15 [] [⟨0, 1, 4⟩, ⟨0, 2, 8⟩, ⟨0, 5, 10⟩])), 0) := by rw [rNamed, if_neg (by decide), if_neg (by decide), if_neg (by decide), if_neg (by decide), if_pos rfl]
    simp (maxSteps := 1000000) [go_sem, hl, nmCyclic15]
    generalize H ++ [(⟨[.int .i64 0, .slice none 0 0], true, true⟩ : Blk), ⟨[], true, true⟩] = HG at hbl0 ⊢
    refine ACalls.up (args' := [lv 3 (H.length + 1) 0 (([] : List Bk).length), .int .i64 (15 : Nat), .int .i64 0, .int .i64 1, .int .i64 4]) ⟨Up.ex0 _ _ _ _ _ _, Up.refl _ _, Up.refl _ _, Up.refl _ _, Up.refl _ _, trivial⟩ ?_
    refine l01Turned_ok (H0 := H0) (v := 15) (b := ⟨0, 1, 4⟩) (acc := []) (by omega) (by simp [small]) (by simp) (by simpa [tri] using hbl0) _ ?_
    intro HT0 it0 hbk0
    have hle0 := turnK_len 15 [] ⟨0, 1, 4⟩ 15
    obtain ⟨acc0, hacc0⟩ : ∃ a, turnK 15 [] ⟨0, 1, 4⟩ 15 = a := ⟨_, rfl⟩
    rw [hacc0] at hbk0 hle0 ⊢
    simp only [List.length_nil] at hle0
    have hll0 : acc0.length <= 15 := by omega
    simp (maxSteps := 1000000) [go_sem]
    refine l01Turned_ok (v := 15) (b := ⟨0, 2, 8⟩) (acc := acc0) (by omega) (by simp [small]) (by omega) hbk0 _ ?_
    intro HT1 it1 hbk1
    have hle1 := turnK_len 15 acc0 ⟨0, 2, 8⟩ 15
    obtain ⟨acc1, hacc1⟩ : ∃ a, turnK 15 acc0 ⟨0, 2, 8⟩ 15 = a := ⟨_, rfl⟩
    rw [hacc1] at hbk1 hle1 ⊢
    have hll1 : acc1.length <= 30 := by omega
    simp (maxSteps := 1000000) [go_sem]
    refine l01Turned_ok (v := 15) (b := ⟨0, 5, 10⟩) (acc := acc1) (by omega) (by simp [small]) (by omega) hbk1 _ ?_
    intro HT2 it2 hbk2
    have hle2 := turnK_len 15 acc1 ⟨0, 5, 10⟩ 15
    obtain ⟨acc2, hacc2⟩ : ∃ a, turnK 15 acc1 ⟨0, 5, 10⟩ 15 = a := ⟨_, rfl⟩
    rw [hacc2] at hbk2 hle2 ⊢
    have hll2 : acc2.length <= 45 := by omega
    have hee : turnL 15 [] [⟨0, 1, 4⟩, ⟨0, 2, 8⟩, ⟨0, 5, 10⟩] = acc2 := by simp only [turnL, List.foldl_cons, List.foldl_nil, hacc0, hacc1, hacc2]
    simp (maxSteps := 1000000) [go_sem]
    have hown : BlocksIn H0.length HT2.length HT2 (lv 3 it2 0 acc2.length) acc2 := OwnBlocks.inn (OwnBlocks.of_ol hbk2.2.1 (by omega)) hbk2.2.2
    refine l01Made_ok hown.read (by omega) _ ?_
    intro H2 w hp2 hw
    rw [hee] at hr
    obtain ⟨H3, q1, q2, fin⟩ := end_made hp0 (Nat.le_refl _) hb0 h hbk2.1.length_le (hbk2.1.trans hp2) hw hr
    simp (maxSteps := 1000000) [go_sem, sysV, q1, q2]
    exact fin
  have h5' : (l == [99, 121, 99, 108, 105, 99, 49, 53]) = false := beq_eq_false_iff_ne.2 h5
  by_cases h3 : l = nmAffine
  · subst h3
    have hr : rNamed nmAffine = ((9, (triples 9).filter affB), 0) := by rw [rNamed, if_neg (by decide), if_neg (by decide), if_pos rfl]
    simp (maxSteps := 1000000) [go_sem, hl, nmAffine]
    generalize H ++ [(⟨[.int .i64 0, .slice none 0 0], true, true⟩ : Blk), ⟨[], true, true⟩] = HG at hbl0 ⊢
    refine AWp.loopVc (St := Nat × Nat × List Bk) (fun s => [(2, .pointer (some ⟨H.length, 0, none⟩)), (4, lv 3 s.2.1 0 s.2.2.length), (5, .int .i64 9), (6, .int .i64 s.1)])
      (fun s H' => s.1 <= 9 /\ s.2.2 = (trip0 9 s.1).filter affB /\ Bl 3 H0 H' s.2.1 (tri s.2.2) s.2.2.length) (fun s => 9 - s.1) (0, H.length + 1, []) ?_ ?_ ?_
    · simp [upF, Fr.get, Up.refl, Up.ex0]
    · exact ⟨by simp, by simp [trip0_start], by simpa [tri] using hbl0⟩
    · rintro K ⟨a, id, acc⟩ H' ⟨ha, hacc, hbl⟩ hK
      simp only at ha hacc hbl
      by_cases hlt : a < 9
      · have hw_a : IntKind.i64.wrap ((a : Int) + 1) = (a : Int) + 1 := i64w (by omega) (by omega)
        have hi_a : (a : Int) < 9 := by omega
        simp (maxSteps := 1000000) [go_sem, hlt, hi_a, hw_a]
        refine AWp.loopVc (St := Nat × Nat × List Bk) (fun s => [(2, .pointer (some ⟨H.length, 0, none⟩)), (4, lv 3 s.2.1 0 s.2.2.length), (5, .int .i64 9), (6, .int .i64 a), (7, .int .i64 s.1)])
          (fun s H' => a + 1 <= s.1 /\ s.1 <= 9 /\ s.2.2 = (trip0 9 a ++ trip1 9 a s.1).filter affB /\ Bl 3 H0 H' s.2.1 (tri s.2.2) s.2.2.length) (fun s => 9 - s.1) (a + 1, id, acc) ?_ ?_ ?_
        · simp [upF, Fr.get, Up.refl]
        · exact ⟨by simp, by simp only; omega, by simp [trip1_start, hacc], hbl⟩
        · rintro K2 ⟨b, id2, acc2⟩ H2 ⟨hab, hb, hacc2, hbl2⟩ hK2
          simp only at hab hb hacc2 hbl2
          by_cases hlt2 : b < 9
          · have hw_b : IntKind.i64.wrap ((b : Int) + 1) = (b : Int) + 1 := i64w (by omega) (by omega)
            have hi_b : (b : Int) < 9 := by omega
            simp (maxSteps := 1000000) [go_sem, hlt2, hi_b, hw_b]
            refine AWp.loopVc (St := Nat × Nat × List Bk) (fun s => [(2, .pointer (some ⟨H.length, 0, none⟩)), (4, lv 3 s.2.1 0 s.2.2.length), (5, .int .i64 9), (6, .int .i64 a), (7, .int .i64 b), (8, .int .i64 s.1)])
              (fun s H' => b + 1 <= s.1 /\ s.1 <= 9 /\ s.2.2 = (trip0 9 a ++ trip1 9 a b ++ trip2 9 a b s.1).filter affB /\ Bl 3 H0 H' s.2.1 (tri s.2.2) s.2.2.length) (fun s => 9 - s.1) (b + 1, id2, acc2) ?_ ?_ ?_
            · simp [upF, Fr.get, Up.refl]
            · exact ⟨by simp, by simp only; omega, by simp [trip2_start, hacc2], hbl2⟩
            · rintro K3 ⟨c, id3, acc3⟩ H3 ⟨hbc, hc, hacc3, hbl3⟩ hK3
              simp only at hbc hc hacc3 hbl3
              by_cases hlt3 : c < 9
              · have hw_c : IntKind.i64.wrap ((c : Int) + 1) = (c : Int) + 1 := i64w (by omega) (by omega)
                have hi_c : (c : Int) < 9 := by omega
                have hlen : acc3.length <= 10000 := by
                  rw [hacc3]
                  refine Nat.le_trans (List.length_filter_le _ _) ?_
                  simp only [List.length_append]
                  have := trip_le0 9 a (by omega) (by omega); have := trip_le1 9 a b (by omega); have := trip_le2 9 a b c
                  omega
                have hsn : ∀ l : List Bk, (l ++ trip2 9 a b (c + 1)).filter affB = (l ++ trip2 9 a b c).filter affB ++ (if affB ⟨a, b, c⟩ then [⟨a, b, c⟩] else []) := by
                  intro l
                  rw [trip2_succ hbc, <- List.append_assoc, List.filter_append (_ ++ _)]
                  congr 1
                  cases hP : affB ⟨a, b, c⟩ <;> simp [hP]
                have no : affB ⟨a, b, c⟩ = false -> ∀ fr', upF H3 [(2, .pointer (some ⟨H.length, 0, none⟩)), (4, lv 3 id3 0 acc3.length), (5, .int .i64 9), (6, .int .i64 a), (7, .int .i64 b), (8, .int .i64 (c + 1))] fr' -> K3 fr' H3 := fun hP fr' hf =>
                  hK3 (c + 1, id3, acc3) _ _ (by simp only; omega) (by simpa using hf) ⟨by simp only; omega, by simp only; omega, by simp only [hsn, hP, hacc3]; simp, hbl3⟩
                obtain ⟨hsrc, H5, hap, hbl5⟩ := hbl3.push (xs := (⟨a, b, c⟩ : Bk).cells) (by omega) rfl
                simp only [Bk.cells] at hsrc hap hbl5
                have yes : affB ⟨a, b, c⟩ = true -> ∀ fr', upF H5 [(2, .pointer (some ⟨H.length, 0, none⟩)), (4, lv 3 (H3.length + 1) 0 (acc3.length + 1)), (5, .int .i64 9), (6, .int .i64 a), (7, .int .i64 b), (8, .int .i64 (c + 1))] fr' -> K3 fr' H5 := fun hP fr' hf =>
                  hK3 (c + 1, H3.length + 1, acc3 ++ [⟨a, b, c⟩]) _ _ (by simp only; omega) (by simpa using hf) ⟨by simp only; omega, by simp only; omega, by simp only [hsn, hP, hacc3]; simp, by
                    simp only [List.length_append, List.length_singleton, tri_append, tri_one, Bk.cells]
                    exact hbl5⟩
                have e1 := aff_q1 (x := a) (y := b) (z := c) (by omega) (by omega) hlt3
                have e3 := aff_q3 (x := a) (y := b) (z := c) (by omega) (by omega) hlt3
                have he : affB ⟨a, b, c⟩ = (decide (((a : Int) / 3 + b / 3 + c / 3) % 3 = 0) && decide (((a : Int) + b + c) % 3 = 0)) := rfl
                cases hq1 : decide (((a : Int) / 3 + b / 3 + c / 3) % 3 = 0) with
                | false =>
                  rw [hq1] at e1 he
                  simp (maxSteps := 1000000) [go_sem, undef, hlt3, hi_c, hw_c, e1]
                  exact no (by rw [he]; rfl) _ (by simp [upF, Fr.get, Up.refl])
                | true =>
                  cases hq3 : decide (((a : Int) + b + c) % 3 = 0) with
                  | false =>
                    rw [hq1] at e1
                    rw [hq3] at e3
                    rw [hq1, hq3] at he
                    simp (maxSteps := 1000000) [go_sem, undef, hlt3, hi_c, hw_c, e1, e3]
                    exact no (by rw [he]; rfl) _ (by simp [upF, Fr.get, Up.refl])
                  | true =>
                    rw [hq1] at e1
                    rw [hq3] at e3
                    rw [hq1, hq3] at he
                    simp (maxSteps := 1000000) [go_sem, undef, hlt3, hi_c, hw_c, e1, e3, hsrc, hap]
                    exact andK_intro (by omega) (yes (by rw [he]; rfl) _ (by simp [upF, Fr.get, Up.refl]))
              · have : c = 9 := by omega
                subst this
                simp (maxSteps := 1000000) [go_sem, hw_b]
                exact hK2 (b + 1, id3, acc3) _ _ (by simp only; omega) (by simp [upF, Fr.get, Up.refl]) ⟨by simp only; omega, by simp only; omega, by simp only [trip1_succ hab, <- List.append_assoc]; exact hacc3, hbl3⟩
          · have : b = 9 := by omega
            subst this
            simp (maxSteps := 1000000) [go_sem, hw_a]
            exact hK (a + 1, id2, acc2) _ _ (by simp only; omega) (by simp [upF, Fr.get, Up.refl]) ⟨by simp only; omega, by simp only [trip0_succ]; exact hacc2, hbl2⟩
      · have : a = 9 := by omega
        subst this
        have hlen : acc.length <= 10000 := by
          rw [hacc]
          refine Nat.le_trans (List.length_filter_le _ _) ?_
          have := trip_le0 9 9 (by omega) (by omega)
          omega
        have hown : BlocksIn H0.length H'.length H' (lv 3 id 0 acc.length) acc := OwnBlocks.inn (OwnBlocks.of_ol hbl.2.1 (by omega)) hbl.2.2
        simp (maxSteps := 1000000) [go_sem]
        refine l01Made_ok hown.read (by omega) _ ?_
        intro H2 w hp2 hw
        have hac : acc = (triples 9).filter affB := hacc
        rw [hac, triples_sort] at hw
        obtain ⟨H3, q1, q2, fin⟩ := end_made hp0 (Nat.le_refl _) hb0 h hbl.1.length_le (hbl.1.trans hp2) hw hr
        simp (maxSteps := 1000000) [go_sem, sysV, q1, q2]
        exact fin
  have h3' : (l == [97, 102, 102, 105, 110, 101]) = false := beq_eq_false_iff_ne.2 h3
  by_cases h6 : l = nmProj15
  · subst h6
    have hr : rNamed nmProj15 = ((15, (triples 15).filter xorB), 0) := by rw [rNamed, if_neg (by decide), if_neg (by decide), if_neg (by decide), if_neg (by decide), if_neg (by decide), if_pos rfl]
    simp (maxSteps := 1000000) [go_sem, hl, nmProj15]
    generalize H ++ [(⟨[.int .i64 0, .slice none 0 0], true, true⟩ : Blk), ⟨[], true, true⟩] = HG at hbl0 ⊢
    refine AWp.loopVc (St := Nat × Nat × List Bk) (fun s => [(2, .pointer (some ⟨H.length, 0, none⟩)), (4, lv 3 s.2.1 0 s.2.2.length), (5, .int .i64 15), (6, .int .i64 s.1)])
      (fun s H' => s.1 <= 15 /\ s.2.2 = (trip0 15 s.1).filter xorB /\ Bl 3 H0 H' s.2.1 (tri s.2.2) s.2.2.length) (fun s => 15 - s.1) (0, H.length + 1, []) ?_ ?_ ?_
    · simp [upF, Fr.get, Up.refl, Up.ex0]
    · exact ⟨by simp, by simp [trip0_start], by simpa [tri] using hbl0⟩
    · rintro K ⟨a, id, acc⟩ H' ⟨ha, hacc, hbl⟩ hK
      simp only at ha hacc hbl
      by_cases hlt : a < 15
      · have hw_a : IntKind.i64.wrap ((a : Int) + 1) = (a : Int) + 1 := i64w (by omega) (by omega)
        have hi_a : (a : Int) < 15 := by omega
        simp (maxSteps := 1000000) [go_sem, hlt, hi_a, hw_a]
        refine AWp.loopVc (St := Nat × Nat × List Bk) (fun s => [(2, .pointer (some ⟨H.length, 0, none⟩)), (4, lv 3 s.2.1 0 s.2.2.length), (5, .int .i64 15), (6, .int .i64 a), (7, .int .i64 s.1)])
          (fun s H' => a + 1 <= s.1 /\ s.1 <= 15 /\ s.2.2 = (trip0 15 a ++ trip1 15 a s.1).filter xorB /\ Bl 3 H0 H' s.2.1 (tri s.2.2) s.2.2.length) (fun s => 15 - s.1) (a + 1, id, acc) ?_ ?_ ?_
        · simp [upF, Fr.get, Up.refl]
        · exact ⟨by simp, by simp only; omega, by simp [trip1_start, hacc], hbl⟩
        · rintro K2 ⟨b, id2, acc2⟩ H2 ⟨hab, hb, hacc2, hbl2⟩ hK2
          simp only at hab hb hacc2 hbl2
          by_cases hlt2 : b < 15
          · have hw_b : IntKind.i64.wrap ((b : Int) + 1) = (b : Int) + 1 := i64w (by omega) (by omega)
            have hi_b : (b : Int) < 15 := by omega
            simp (maxSteps := 1000000) [go_sem, hlt2, hi_b, hw_b]
            refine AWp.loopVc (St := Nat × Nat × List Bk) (fun s => [(2, .pointer (some ⟨H.length, 0, none⟩)), (4, lv 3 s.2.1 0 s.2.2.length), (5, .int .i64 15), (6, .int .i64 a), (7, .int .i64 b), (8, .int .i64 s.1)])
              (fun s H' => b + 1 <= s.1 /\ s.1 <= 15 /\ s.2.2 = (trip0 15 a ++ trip1 15 a b ++ trip2 15 a b s.1).filter xorB /\ Bl 3 H0 H' s.2.1 (tri s.2.2) s.2.2.length) (fun s => 15 - s.1) (b + 1, id2, acc2) ?_ ?_ ?_
            · simp [upF, Fr.get, Up.refl]
            · exact ⟨by simp, by simp only; omega, by simp [trip2_start, hacc2], hbl2⟩
            · rintro K3 ⟨c, id3, acc3⟩ H3 ⟨hbc, hc, hacc3, hbl3⟩ hK3
              simp only at hbc hc hacc3 hbl3
              by_cases hlt3 : c < 15
              · have hw_c : IntKind.i64.wrap ((c : Int) + 1) = (c : Int) + 1 := i64w (by omega) (by omega)
                have hi_c : (c : Int) < 15 := by omega
                have hlen : acc3.length <= 10000 := by
                  rw [hacc3]
                  refine Nat.le_trans (List.length_filter_le _ _) ?_
                  simp only [List.length_append]
                  have := trip_le0 15 a (by omega) (by omega); have := trip_le1 15 a b (by omega); have := trip_le2 15 a b c
                  omega
                have hsn : ∀ l : List Bk, (l ++ trip2 15 a b (c + 1)).filter xorB = (l ++ trip2 15 a b c).filter xorB ++ (if xorB ⟨a, b, c⟩ then [⟨a, b, c⟩] else []) := by
                  intro l
                  rw [trip2_succ hbc, <- List.append_assoc, List.filter_append (_ ++ _)]
                  congr 1
                  cases hP : xorB ⟨a, b, c⟩ <;> simp [hP]
                have no : xorB ⟨a, b, c⟩ = false -> ∀ fr', upF H3 [(2, .pointer (some ⟨H.length, 0, none⟩)), (4, lv 3 id3 0 acc3.length), (5, .int .i64 15), (6, .int .i64 a), (7, .int .i64 b), (8, .int .i64 (c + 1))] fr' -> K3 fr' H3 := fun hP fr' hf =>
                  hK3 (c + 1, id3, acc3) _ _ (by simp only; omega) (by simpa using hf) ⟨by simp only; omega, by simp only; omega, by simp only [hsn, hP, hacc3]; simp, hbl3⟩
                obtain ⟨hsrc, H5, hap, hbl5⟩ := hbl3.push (xs := (⟨a, b, c⟩ : Bk).cells) (by omega) rfl
                simp only [Bk.cells] at hsrc hap hbl5
                have yes : xorB ⟨a, b, c⟩ = true -> ∀ fr', upF H5 [(2, .pointer (some ⟨H.length, 0, none⟩)), (4, lv 3 (H3.length + 1) 0 (acc3.length + 1)), (5, .int .i64 15), (6, .int .i64 a), (7, .int .i64 b), (8, .int .i64 (c + 1))] fr' -> K3 fr' H5 := fun hP fr' hf =>
                  hK3 (c + 1, H3.length + 1, acc3 ++ [⟨a, b, c⟩]) _ _ (by simp only; omega) (by simpa using hf) ⟨by simp only; omega, by simp only; omega, by simp only [hsn, hP, hacc3]; simp, by
                    simp only [List.length_append, List.length_singleton, tri_append, tri_one, Bk.cells]
                    exact hbl5⟩
                have he : xorB ⟨a, b, c⟩ = (IntKind.i64.wrap ↑(BitVec.ofInt 64 (IntKind.i64.wrap ↑(BitVec.ofInt 64 (IntKind.i64.wrap ((a : Int) + 1)) ^^^ BitVec.ofInt 64 (IntKind.i64.wrap ((b : Int) + 1))).toNat) ^^^ BitVec.ofInt 64 (IntKind.i64.wrap ((c : Int) + 1))).toNat == 0) := rfl
                simp (maxSteps := 1000000) [go_sem, undef, hlt3, hi_c]
                refine condK_intro (fun hh => ?_) (fun hh => ?_)
                · simp (maxSteps := 1000000) [go_sem, hw_c, hsrc, hap]
                  exact andK_intro (by omega) (yes (by rw [he]; exact hh) _ (by simp [upF, Fr.get, Up.refl]))
                · rw [hw_c]
                  exact no (by rw [he]; exact hh) _ (by simp [upF, Fr.get, Up.refl])
              · have : c = 15 := by omega
                subst this
                simp (maxSteps := 1000000) [go_sem, hw_b]
                exact hK2 (b + 1, id3, acc3) _ _ (by simp only; omega) (by simp [upF, Fr.get, Up.refl]) ⟨by simp only; omega, by simp only; omega, by simp only [trip1_succ hab, <- List.append_assoc]; exact hacc3, hbl3⟩
          · have : b = 15 := by omega
            subst this
            simp (maxSteps := 1000000) [go_sem, hw_a]
            exact hK (a + 1, id2, acc2) _ _ (by simp only; omega) (by simp [upF, Fr.get, Up.refl]) ⟨by simp only; omega, by simp only [trip0_succ]; exact hacc2, hbl2⟩
      · have : a = 15 := by omega
        subst this
        have hlen : acc.length <= 10000 := by
          rw [hacc]
          refine Nat.le_trans (List.length_filter_le _ _) ?_
          have := trip_le0 15 15 (by omega) (by omega)
          omega
        have hown : BlocksIn H0.length H'.length H' (lv 3 id 0 acc.length) acc := OwnBlocks.inn (OwnBlocks.of_ol hbl.2.1 (by omega)) hbl.2.2
        simp (maxSteps := 1000000) [go_sem]
        refine l01Made_ok hown.read (by omega) _ ?_
        intro H2 w hp2 hw
        have hac : acc = (triples 15).filter xorB := hacc
        rw [hac, triples_sort] at hw
        obtain ⟨H3, q1, q2, fin⟩ := end_made hp0 (Nat.le_refl _) hb0 h hbl.1.length_le (hbl.1.trans hp2) hw hr
        simp (maxSteps := 1000000) [go_sem, sysV, q1, q2]
        exact fin
  have h6' : (l == [112, 114, 111, 106, 101, 99, 116, 105, 118, 101, 49, 53]) = false := beq_eq_false_iff_ne.2 h6
  have hr : rNamed l = ((0, []), 4) := by rw [rNamed, if_neg h1, if_neg h2, if_neg h3, if_neg h4, if_neg h5, if_neg h6]
  simp (maxSteps := 1000000) [go_sem, hl, h1', h2', h3', h4', h5', h6']
  refine ⟨_, Up.tuple (ys := #[sysV 0 (lv 3 0 0 0), .bool false]) ⟨zeroSys, Up.refl _ _, trivial⟩, ?_⟩
  rw [hr] at h
  exact h _ (lv 3 0 0 0) (List.prefix_append _ _) (BlocksIn.nil _ _ _)

end Go.Proofs.YtfnegaedkomcgaaGreat
end

section
namespace Go.Ab
open Go.RowKit (Below)

section
variable {P : Program} {N : Nat} {ops : Array Oper} {K : Fr -> Heap -> Prop} {fs : List Nat}

inductive TreeG
  | nil
  | one (i : Nat) (fl : Bool) (t : TreeG)
  | alt (f : Nat) (t' : TreeG) (t : TreeG)
def vG (P : Program) (N : Nat) (ops : Array Oper) (K : Fr -> Heap -> Prop) : TreeG -> Fr -> Heap -> Prop
  | .nil, fr, H => K fr H
  | .one i fl t, fr, H => match ops[i]? with
    | none => False
    | some o => match isR o.op with
      | true => vstep P N ops o (vG P N ops K t) fr H
      | false => vstep P N ops o (eK fl H (vG P N ops K t)) fr H
  | .alt f t' t, fr, H => match ops[f]? with
    | some o' => vstep P N ops o' (eK true H (vG P N ops K t')) fr H /\ vG P N ops K t fr H
    | none => False
def treeGOK (ops : Array Oper) (fs : List Nat) : TreeG -> List Nat -> List (Nat × Bool) -> Bool
  | .nil, _, l => l.isEmpty
  | .one i fl t, cov, (j, fl') :: l => i == j && fl == fl' && ((match ops[i]? with | some o => isR o.op | none => false) || fs.all fun f => cov.contains f || !(l.map (·.1)).contains f) && treeGOK ops fs t [] l
  | .alt f t' t, cov, (j, fl') :: l => (match ops[f]? with | some o' => !isR o'.op | none => false) && decide ((l.filter fun y => y.1 != f).length < l.length) && treeGOK ops fs t' [] ((j, fl') :: l.filter fun y => y.1 != f) && treeGOK ops fs t (f :: cov) ((j, fl') :: l)
  | _, _, [] => false
theorem vG_vF : ∀ (t : TreeG) (cov : List Nat) (n : Nat) (l : List (Nat × Bool)) (fr : Fr) (H : Heap), l.length <= n -> treeGOK ops fs t cov l = true -> vG P N ops K t fr H ->
    (∀ x l' m, l = x :: l' -> n = m + 1 -> ∀ f ∈ cov, ∃ o', ops[f]? = some o' /\ isR o'.op = false /\ vstep P N ops o' (eK true H (vF P N ops fs K m (x :: l'.filter fun y => y.1 != f))) fr H) -> vF P N ops fs K n l fr H := by
  intro t
  induction t with
  | nil =>
    intro cov n l fr H hn hok h _
    cases l with
    | nil => cases n <;> exact h
    | cons x l => simp [treeGOK] at hok
  | one i fl t ih =>
    intro cov n l fr H hn hok h hcov
    cases l with
    | nil => simp [treeGOK] at hok
    | cons x l =>
      obtain ⟨j, fl'⟩ := x
      simp only [treeGOK, Bool.and_eq_true, beq_iff_eq] at hok
      obtain ⟨⟨⟨rfl, rfl⟩, hfl⟩, hok⟩ := hok
      cases n with
      | zero => simp at hn
      | succ n =>
        simp only [List.length_cons] at hn
        simp only [vG] at h
        simp only [vF]
        cases ho : ops[i]? with
        | none => simp [ho] at h
        | some o =>
          simp only [ho] at h hfl ⊢
          cases hR : isR o.op with
          | true => simp only [hR] at h ⊢; exact vstep_weak h fun f h hk => ih [] n l f h (by omega) hok hk (fun _ _ _ _ _ f hf => by cases hf)
          | false =>
            simp only [hR, Bool.false_or, List.all_eq_true] at h hfl ⊢
            refine ⟨vstep_weak h fun f h' hk => ?_, fun f hf hm => ?_⟩
            · cases fl with
              | true => exact ⟨hk.1, ih [] n l f h' (by omega) hok hk.2 (fun _ _ _ _ _ f hf => by cases hf)⟩
              | false => exact ih [] n l f h' (by omega) hok hk (fun _ _ _ _ _ f hf => by cases hf)
            · have := hfl f hf
              simp only [Bool.or_eq_true, Bool.not_eq_true', List.contains_eq_mem, decide_eq_false_iff_not, decide_eq_true_eq] at this
              exact hcov (i, fl) l n rfl rfl f (this.resolve_right fun e => e hm)
  | alt f t' t ih' ih =>
    intro cov n l fr H hn hok h hcov
    cases l with
    | nil => simp [treeGOK] at hok
    | cons x l =>
      obtain ⟨j, fl'⟩ := x
      simp only [treeGOK, Bool.and_eq_true, decide_eq_true_eq] at hok
      obtain ⟨⟨⟨hE, hlt⟩, hok'⟩, hok⟩ := hok
      simp only [vG] at h
      cases ho' : ops[f]? with
      | none => simp [ho'] at h
      | some o' =>
        simp only [ho', Bool.not_eq_true'] at h hE
        refine ih (f :: cov) n ((j, fl') :: l) fr H hn hok h.2 ?_
        rintro x l' m he hm g hg
        cases he
        rcases List.mem_cons.1 hg with rfl | hg
        · refine ⟨o', ho', hE, vstep_weak h.1 fun q h' hk => ⟨hk.1, ih' [] m _ q h' ?_ hok' hk.2 (fun _ _ _ _ _ f hf => by cases hf)⟩⟩
          simp only [List.length_cons] at hn ⊢
          omega
        · exact hcov (j, fl') l m rfl hm g hg

theorem AWp.drawG {id : Nat} {fr : Fr} {H : Heap} {Q : Exit -> Fr -> Heap -> Prop} (hm : P.follows .mixedOrders = true) (fs : List Nat) (canon : List (Nat × Bool)) (t : TreeG) (hok : (drawOKF ops fs canon && treeGOK ops fs t [] canon) = true) (h : vG P N ops (Q .normal) t fr H) : AWp P N (.region id ops true) Q fr H := by
  intro B w0 ρ w a hR hF
  simp only [drawOKF, Bool.and_eq_true, decide_eq_true_eq, List.all_eq_true, List.mem_range, List.contains_iff_mem, List.mem_map] at hok
  obtain ⟨⟨⟨⟨⟨h1, h2⟩, h3⟩, h4⟩, h5⟩, h6⟩ := hok
  refine wp_region_any hm ?_
  let K : Fr -> Heap -> Prop := fun f h => ∃ g, feq g f /\ Q .normal g h
  have hK : Closed K := fun f g h hfg ⟨k, hk, hq⟩ => ⟨k, hk.trans hfg, hq⟩
  have hv : vF P N ops fs K ops.size canon fr H := by
    refine vG_vF t [] ops.size canon fr H (by omega) h6 ?_ (fun _ _ _ _ _ f hf => by cases hf)
    have weak : ∀ (t : TreeG) (fr : Fr) (H : Heap), vG P N ops (Q .normal) t fr H -> vG P N ops K t fr H := by
      intro t
      induction t with
      | nil => exact fun fr H h => ⟨fr, feq.rfl' _, h⟩
      | one i fl t ih =>
        intro fr H h
        simp only [vG] at h ⊢
        split at h
        · exact h
        · rename_i o ho
          cases hR : isR o.op with
          | true => simp only [hR] at h ⊢; exact vstep_weak h ih
          | false =>
            simp only [hR] at h ⊢
            refine vstep_weak h ?_
            intro f h' hk
            cases fl with
            | true => exact ⟨hk.1, ih _ _ hk.2⟩
            | false => exact ih _ _ hk
      | alt f t' t ih' ih =>
        intro fr H h
        simp only [vG] at h ⊢
        split at h
        · exact ⟨vstep_weak h.1 fun f h' hk => ⟨hk.1, ih' _ _ hk.2⟩, ih _ _ h.2⟩
        · exact h
    exact weak t fr H h
  have hgt : ∀ i, i < ops.size -> (Array.replicate ops.size false).getD i true = false := by
    intro i hi
    simp [Array.getD_eq_getD_getElem?, hi]
  refine drawF_any (B := B) (w0 := w0) hK h2 ops.size (Array.replicate ops.size false) canon fr H ρ w.drew a (by simp) h3 h1 ?_ ?_ ?_ hv hR.drew hF ?_
  · intro x hx
    exact ⟨h4 x hx, hgt x.1 (h4 x hx)⟩
  · intro i hi _
    obtain ⟨x, hx, rfl⟩ := h5 i hi
    exact ⟨x, hx, rfl⟩
  · intro j o hj hl
    rw [Array.getD_eq_getD_getElem?, Array.getElem?_replicate] at hl
    split at hl <;> simp at hl
  · rintro ρ' fr' H' a' w' hp ⟨g, hg, hq⟩ hR' hF'
    exact ⟨ρ', g, H', hp, hR', hF'.feq hg.symm, hq⟩

def vGK (P : Program) (N : Nat) (ops : Array Oper) (K : Fr -> Heap -> Prop) (t : TreeG) (fr : Fr) (H : Heap) : Prop := vG P N ops K t fr H
def eGK (P : Program) (N : Nat) (ops : Array Oper) (K : Fr -> Heap -> Prop) (t : TreeG) (fl : Bool) (H : Heap) (fr : Fr) (H' : Heap) : Prop :=
  match fl with
  | true => andK (H <+: H') (vG P N ops K t fr H')
  | false => vG P N ops K t fr H'
def vGo (P : Program) (N : Nat) (ops : Array Oper) (K : Fr -> Heap -> Prop) (t : TreeG) (fl : Bool) (fr : Fr) (H : Heap) (o : Oper) : Prop :=
  match isR o.op with
  | true => vstep P N ops o (vGK P N ops K t) fr H
  | false => vstep P N ops o (eGK P N ops K t fl H) fr H
def vGe (P : Program) (N : Nat) (ops : Array Oper) (K : Fr -> Heap -> Prop) (t : TreeG) (fl : Bool) (fr : Fr) (H : Heap) (o : Oper) : Prop := vstep P N ops o (eGK P N ops K t fl H) fr H
theorem vG_nil (K : Fr -> Heap -> Prop) (fr : Fr) (H : Heap) : vG P N ops K .nil fr H = K fr H := rfl
theorem eGK_eq (K : Fr -> Heap -> Prop) (t : TreeG) (fl : Bool) (H : Heap) : eK fl H (vG P N ops K t) = eGK P N ops K t fl H := by
  funext f h
  cases fl <;> rfl
theorem vG_one (K : Fr -> Heap -> Prop) (i : Nat) (fl : Bool) (t : TreeG) (fr : Fr) (H : Heap) : vG P N ops K (.one i fl t) fr H = bindO ops[i]? (vGo P N ops K t fl fr H) := by
  simp only [vG]
  cases ops[i]? with
  | none => simp [bindO]
  | some o =>
    simp only [bindO_some, vGo]
    cases isR o.op with
    | true => rfl
    | false => simp only [eGK_eq]
theorem vG_alt {f : Nat} {t' t : TreeG} {K : Fr -> Heap -> Prop} {fr : Fr} {H : Heap} (h1 : bindO ops[f]? (vGe P N ops K t' true fr H)) (h2 : vG P N ops K t fr H) : vG P N ops K (.alt f t' t) fr H := by
  simp only [vG]
  cases ho' : ops[f]? with
  | none => simp [ho', bindO] at h1
  | some o' =>
    simp only [ho', bindO_some, vGe] at h1 ⊢
    exact ⟨by rw [eGK_eq]; exact h1, h2⟩

attribute [go_sem] vGK eGK vGo vGe vG_nil vG_one

end
end Go.Ab
end

section
namespace Go.Proofs.YtfnegaedkomcgaaGreat
open Go.Ab Go.Sort

def evB (bs : List Bk) (a b c : Int) : Bool := (decide (a = b) && decide (b = c)) || (decide (a ≠ b) && (decide (b ≠ c) && (decide (a ≠ c) && decide (third bs a b = c))))
def prodB (xs ys : List Bk) (w : Nat) (b : Bk) : Bool := evB xs (b.a / w) (b.b / w) (b.c / w) && evB ys (b.a % w) (b.b % w) (b.c % w)

theorem l02Even_ok {H : Heap} {u : Value} {p a b c : Int} {bs : List Bk} (hu : BlocksAt H u bs) (hg : ∀ x ∈ bs, good 15 x = true) (Post : Value -> Heap -> Prop) (h : ∀ H', H <+: H' -> Post (.bool (evB bs a b c)) H') :
    ACalls Tryz.prog 63 [sysV p u, .int .i64 a, .int .i64 b, .int .i64 c] H Post := by
  have ou := hu.one
  refine acalls_vc (rs := [.tmp 8]) Tryz.func63 rfl rfl Tryz.ntmps63 rfl rfl ?_
  have hp0 : H <+: H ++ [⟨[.int .i64 p, u], true, true⟩] := List.prefix_append _ _
  have fin := h _ hp0
  by_cases h1 : a = b
  · have b1 : (a == b) = true := beq_iff_eq.2 h1
    have n1 : (a != b) = false := by simp [h1]
    by_cases h2 : b = c
    · have b2 : (b == c) = true := beq_iff_eq.2 h2
      simp (maxSteps := 1000000) [go_sem, undef, sysV, ou, b1, b2]
      simpa [evB, h1, h2] using fin
    · have b2 : (b == c) = false := beq_eq_false_iff_ne.2 h2
      have he : evB bs a b c = false := by
        rw [Bool.eq_false_iff]
        intro e
        simp only [evB, Bool.or_eq_true, Bool.and_eq_true, decide_eq_true_eq] at e
        rcases e with e | e
        · exact h2 e.2
        · exact e.1 h1
      rw [he] at fin
      simp (maxSteps := 1000000) [go_sem, undef, sysV, ou, b1, b2, n1]
      exact fin
  · have b1 : (a == b) = false := beq_eq_false_iff_ne.2 h1
    have n1 : (a != b) = true := by simp [h1]
    by_cases h2 : b = c
    · have n2 : (b != c) = false := by simp [h2]
      have he : evB bs a b c = false := by
        rw [Bool.eq_false_iff]
        intro e
        simp only [evB, Bool.or_eq_true, Bool.and_eq_true, decide_eq_true_eq] at e
        rcases e with e | e
        · exact h1 e.1
        · exact e.2.1 h2
      rw [he] at fin
      simp (maxSteps := 1000000) [go_sem, undef, sysV, ou, b1, n1, n2]
      exact fin
    · have n2 : (b != c) = true := by simp [h2]
      by_cases h3 : a = c
      · have n3 : (a != c) = false := by simp [h3]
        simp (maxSteps := 1000000) [go_sem, undef, sysV, ou, b1, n1, n2, n3]
        simpa [evB, h1, h2, h3] using fin
      · have n3 : (a != c) = true := by simp [h3]
        have hx0 := Holds.last H [.int .i64 p, u]
        simp (maxSteps := 1000000) [go_sem, undef, sysV, ou, b1, n1, n2, n3]
        generalize H ++ [(⟨[.int .i64 p, u], true, true⟩ : Blk)] = H0 at hp0 hx0 ⊢
        refine l01Third_ok (p := p) (hu.pre hp0) hg _ ?_
        intro H1 hp1
        have fin := h _ (hp0.trans hp1)
        have he : evB bs a b c = (third bs a b == c) := by simp [evB, h1, h2, h3]; rfl
        rw [he] at fin
        simp (maxSteps := 1000000) [go_sem, undef]
        exact fin

theorem evB_grid {gs : List Int} {bs : List Bk} (ho : GridOf gs bs) (hg : ∀ x ∈ bs, good 15 x = true) {a b c : Nat} (ha : a < 15) (hb : b < 15) (hab : a ≠ b) : evB bs a b c = decide (gAt gs a b = c) := by
  have e := ho.2 a b ha hb
  rw [if_neg hab] at e
  have hab' : (a : Int) ≠ b := by omega
  rw [e, Bool.eq_iff_iff]
  simp only [evB, Bool.or_eq_true, Bool.and_eq_true, decide_eq_true_eq]
  constructor
  · rintro (h | h)
    · exact absurd h.1 hab'
    · exact h.2.2.2
  · intro h
    obtain ⟨_, _, _, _, _, _, _, _, h1, h2⟩ := third_some hg hab' (by omega)
    exact .inr ⟨hab', by omega, by omega, h⟩
theorem isEqB_ok {H : Heap} {id : Nat} {gs : List Int} {bs : List Bk} (hga : GridAt H id gs) (ho : GridOf gs bs) (hg : ∀ x ∈ bs, good 15 x = true) {a b c : Nat} (ha : a < 15) (hb : b < 15) (Post : Value -> Heap -> Prop) (h : Post (.bool (evB bs a b c)) H) :
    ACalls Tryz.prog 62 [.pointer (some ⟨id, 0, none⟩), .int .i64 a, .int .i64 b, .int .i64 c] H Post := by
  refine acalls_vc (rs := [.tmp 8]) Tryz.func62 rfl rfl Tryz.ntmps62 rfl rfl ?_
  by_cases h1 : a = b
  · subst h1
    by_cases h2 : a = c
    · subst h2
      simp (maxSteps := 1000000) [go_sem, undef]
      simpa [evB] using h
    · have b2 : ((a : Int) == c) = false := beq_eq_false_iff_ne.2 (by omega)
      have h2' : ¬ (a : Int) = c := by omega
      have he : evB bs a a c = false := by simp [evB, h2']
      rw [he] at h
      simp (maxSteps := 1000000) [go_sem, undef, b2]
      exact h
  · have b1 : ((a : Int) == b) = false := beq_eq_false_iff_ne.2 (by omega)
    have n1 : ((a : Int) != b) = true := by simp; omega
    have c1 : cellsAt H id (a * 15 + b) 1 = some [.int .i64 (gAt gs a b)] := hga.load (by omega)
    have ha' : (a : Int) < 15 := by omega
    have hb' : (b : Int) < 15 := by omega
    rw [evB_grid ho hg ha hb h1] at h
    simp (maxSteps := 1000000) [go_sem, undef, b1, n1, c1, ha, hb, ha', hb']
    exact h

theorem prod1_ok {H : Heap} {k6 k7 k8 g1 g2 w : Nat} {gs hs : List Int} {xs ys : List Bk} {v : Nat} (h6 : Holds H k6 [.int .i64 w]) (h7 : Holds H k7 [.pointer (some ⟨g1, 0, none⟩)]) (h8 : Holds H k8 [.pointer (some ⟨g2, 0, none⟩)])
    (hg1 : GridAt H g1 gs) (hg2 : GridAt H g2 hs) (ho1 : GridOf gs xs) (ho2 : GridOf hs ys) (gx : ∀ x ∈ xs, good 15 x = true) (gy : ∀ x ∈ ys, good 15 x = true) (hw : 1 <= w /\ w <= 15) (hv : v <= 15) :
    TellsB 61 [] [.pointer (some ⟨k7, 0, none⟩), .pointer (some ⟨k6, 0, none⟩), .pointer (some ⟨k8, 0, none⟩)] (fun b => b ∈ triples v) (prodB xs ys w) H := by
  intro H' b Post hp hb hP
  obtain ⟨hg, x, y, z, rfl, hxy, hyz, hz⟩ := mem_triples hb
  show ACalls Tryz.prog 61 [(⟨x, y, z⟩ : Bk).val, .pointer (some ⟨k7, 0, none⟩), .pointer (some ⟨k6, 0, none⟩), .pointer (some ⟨k8, 0, none⟩)] H' Post
  refine acalls_vc (rs := [.tmp 5]) Tryz.func61 rfl rfl Tryz.ntmps61 rfl rfl ?_
  simp (maxSteps := 1000000) [go_sem, Bk.val]
  have hpb : H' <+: H' ++ [⟨[.int .i64 x, .int .i64 y, .int .i64 z], true, true⟩] := List.prefix_append _ _
  have hx0 := Holds.last H' [.int .i64 x, .int .i64 y, .int .i64 z]
  generalize H' ++ [(⟨[.int .i64 x, .int .i64 y, .int .i64 z], true, true⟩ : Blk)] = H1 at hpb hx0 ⊢
  have hpp := hp.trans hpb
  obtain ⟨e0, e1, e2, e3⟩ := hx0.bk
  have l6 : cellsAt H1 k6 0 1 = some [.int .i64 w] := (h6.pre hpp).cell (o := 0) rfl
  have l7 : cellsAt H1 k7 0 1 = some [.pointer (some ⟨g1, 0, none⟩)] := (h7.pre hpp).cell (o := 0) rfl
  have l8 : cellsAt H1 k8 0 1 = some [.pointer (some ⟨g2, 0, none⟩)] := (h8.pre hpp).cell (o := 0) rfl
  have w0 : (w : Int) ≠ 0 := by omega
  have w00 : w ≠ 0 := by omega
  refine AWp.draw mixed [(0, false), (1, false), (2, false), (3, false), (4, false), (5, false), (6, false), (7, false), (8, false), (9, false), (10, false), (11, false), (12, false), (13, false), (14, false), (15, false), (16, false), (17, false), (18, false), (19, false), (20, false), (21, false), (22, false), (23, false), (24, false), (25, false), (26, false), (27, false), (28, false), (29, false), (30, false)] (by kernel_rfl) ?_
  have dv : ∀ {k : Nat}, k < v -> IntKind.i64.wrap ((k : Int) / w) = (k : Int) / w := by
    intro k hk
    have h1 : k / w <= k := Nat.div_le_self _ _
    have h2 : (k : Int) / w = ((k / w : Nat) : Int) := rfl
    obtain ⟨q, hq⟩ : ∃ q, k / w = q := ⟨_, rfl⟩
    rw [hq] at h1
    rw [h2, hq]
    exact i64w (by omega) (by omega)
  have dl : ∀ {k : Nat}, k < v -> k / w < 15 := by
    intro k hk
    have h1 : k / w <= k := Nat.div_le_self _ _
    omega
  have ml : ∀ {k : Nat}, k % w < 15 := by
    intro k
    have := Nat.mod_lt k (show w > 0 by omega)
    omega
  have mv : ∀ k : Nat, (k : Int).tmod w = (k : Int) % w := fun k => rfl
  have dx := dv (show x < v by omega)
  have dy := dv (show y < v by omega)
  have dz := dv hz
  have mx := mv x
  have my := mv y
  have mz := mv z
  simp (maxSteps := 1000000) [go_sem, e1, e2, e3, l6, l7, w0, w00, dx, dy, dz]
  refine isEqB_ok (a := x / w) (b := y / w) (c := z / w) (hg1.keep hpp) ho1 gx (dl (by omega)) (dl (by omega)) _ ?_
  have hP' := hP H1 hpb
  cases he : evB xs ((x / w : Nat) : Int) ((y / w : Nat) : Int) ((z / w : Nat) : Int) with
  | false =>
    have e : prodB xs ys w ⟨x, y, z⟩ = false := by
      show (evB xs ((x / w : Nat) : Int) ((y / w : Nat) : Int) ((z / w : Nat) : Int) && _) = false
      rw [he]; rfl
    rw [e] at hP'
    simp (maxSteps := 1000000) [go_sem, undef]
    exact hP'
  | true =>
    have e : prodB xs ys w ⟨x, y, z⟩ = evB ys ((x % w : Nat) : Int) ((y % w : Nat) : Int) ((z % w : Nat) : Int) := by
      show (evB xs ((x / w : Nat) : Int) ((y / w : Nat) : Int) ((z / w : Nat) : Int) && evB ys ((x % w : Nat) : Int) ((y % w : Nat) : Int) ((z % w : Nat) : Int)) = _
      rw [he]; rfl
    rw [e] at hP'
    simp (maxSteps := 1000000) [go_sem, undef, e1, e2, e3, l6, l7, l8, w0, w00, mx, my, mz]
    refine isEqB_ok (a := x % w) (b := y % w) (c := z % w) (hg2.keep hpp) ho2 gy ml ml _ ?_
    simp (maxSteps := 1000000) [go_sem, undef]
    exact hP'

end Go.Proofs.YtfnegaedkomcgaaGreat
end

section
namespace Go.Proofs.YtfnegaedkomcgaaGreat
open Go.Ab Go.Sort

noncomputable def rProd (p : Int) (bs : List Bk) (q : Int) (cs : List Bk) : (Int × List Bk) × Int :=
  if sysB p bs && sysB q cs then (if fullB p bs && fullB q cs then (if p * q <= 15 then ((p * q, (triples (p * q).toNat).filter (prodB bs cs q.toNat)), 0) else ((0, []), 3)) else ((0, []), 5)) else ((0, []), 1)

theorem specProd_ok {H : Heap} {u v : Value} {p q : Int} {bs cs : List Bk} (hu : BlocksAt H u bs) (hl : bs.length <= 1048576) (hv : BlocksAt H v cs) (hl' : cs.length <= 1048576) (Post : Value -> Heap -> Prop)
    (h : ∀ H' z, H <+: H' -> BlocksIn H.length H'.length H' z (rProd p bs q cs).1.2 -> Post (.tuple #[sysV (rProd p bs q cs).1.1 z, .int .i64 (rProd p bs q cs).2]) H') :
    ACalls Tryz.prog 13 [sysV p u, sysV q v] H Post := by
  have ou := hu.one
  have ov := hv.one
  refine ACalls.res ?_
  refine acalls_vc (rs := [.cell 4 26, .tmp 5]) Tryz.func13 rfl rfl Tryz.ntmps13 rfl rfl ?_
  simp (maxSteps := 1000000) [go_sem, sysV, ou, ov]
  have hp0 : H <+: H ++ [⟨[.int .i64 p, u], true, true⟩, ⟨[.int .i64 q, v], true, true⟩, ⟨[.int .i64 0, .slice none 0 0], true, true⟩] := List.prefix_append _ _
  have hx0 : Holds (H ++ [⟨[.int .i64 p, u], true, true⟩, ⟨[.int .i64 q, v], true, true⟩, ⟨[.int .i64 0, .slice none 0 0], true, true⟩]) H.length [.int .i64 p, u] := ⟨true, by simp⟩
  have hy0 : Holds (H ++ [⟨[.int .i64 p, u], true, true⟩, ⟨[.int .i64 q, v], true, true⟩, ⟨[.int .i64 0, .slice none 0 0], true, true⟩]) (H.length + 1) [.int .i64 q, v] := ⟨true, by simp⟩
  have hb0 : (H ++ [(⟨[.int .i64 p, u], true, true⟩ : Blk), ⟨[.int .i64 q, v], true, true⟩, ⟨[.int .i64 0, .slice none 0 0], true, true⟩])[H.length + 2]? = some ⟨[.int .i64 0, .slice none 0 0], true, true⟩ := by simp
  have hlen0 : (H ++ [(⟨[.int .i64 p, u], true, true⟩ : Blk), ⟨[.int .i64 q, v], true, true⟩, ⟨[.int .i64 0, .slice none 0 0], true, true⟩]).length = H.length + 3 := by simp
  generalize H ++ [(⟨[.int .i64 p, u], true, true⟩ : Blk), ⟨[.int .i64 q, v], true, true⟩, ⟨[.int .i64 0, .slice none 0 0], true, true⟩] = H0 at hp0 hx0 hy0 hb0 hlen0 ⊢
  have bad := bad_sys hp0 (show H.length <= H.length + 2 by omega) hb0 h
  refine l01Is' (hu.pre hp0) hl _ ?_
  intro H1 hp1
  cases hs : sysB p bs with
  | false =>
    obtain ⟨H9, q1, q2, fin⟩ := bad H1 1 hp1 (by rw [rProd, hs]; simp)
    simp (maxSteps := 1000000) [go_sem, undef, q1, q2]
    exact fin
  | true =>
  obtain ⟨e0, e1, e2⟩ := (hy0.pre hp1).sys
  simp (maxSteps := 1000000) [go_sem, undef, e0, e1, e2]
  refine l01Is' (hv.pre (hp0.trans hp1)) hl' _ ?_
  intro H2 hp2
  have hp02 := hp1.trans hp2
  cases hs' : sysB q cs with
  | false =>
    obtain ⟨H9, q1, q2, fin⟩ := bad H2 1 hp02 (by rw [rProd, hs, hs']; simp)
    simp (maxSteps := 1000000) [go_sem, undef, q1, q2]
    exact fin
  | true =>
  obtain ⟨d0, d1, d2⟩ := (hx0.pre hp02).sys
  have hS := sysB_iff.1 hs
  have hS' := sysB_iff.1 hs'
  have hpx := hS.1
  have hqx := hS'.1
  simp (maxSteps := 1000000) [go_sem, undef, d0, d1, d2]
  refine l01Full_ok (hu.pre (hp0.trans hp02)) hpx hl _ ?_
  intro H3 hp3
  have hp03 := hp02.trans hp3
  cases hf : fullB p bs with
  | false =>
    obtain ⟨H9, q1, q2, fin⟩ := bad H3 5 hp03 (by rw [rProd, hs, hs', hf]; simp)
    simp (maxSteps := 1000000) [go_sem, undef, q1, q2]
    exact fin
  | true =>
  obtain ⟨e0, e1, e2⟩ := (hy0.pre hp03).sys
  simp (maxSteps := 1000000) [go_sem, undef, e0, e1, e2]
  refine l01Full_ok (hv.pre (hp0.trans hp03)) hqx hl' _ ?_
  intro H4 hp4
  have hp04 := hp03.trans hp4
  cases hf' : fullB q cs with
  | false =>
    obtain ⟨H9, q1, q2, fin⟩ := bad H4 5 hp04 (by rw [rProd, hs, hs', hf, hf']; simp)
    simp (maxSteps := 1000000) [go_sem, undef, q1, q2]
    exact fin
  | true =>
  obtain ⟨d0, d1, d2⟩ := (hx0.pre hp04).sys
  obtain ⟨e0, e1, e2⟩ := (hy0.pre hp04).sys
  have hpq : p * q <= 15 * 15 := Int.mul_le_mul hpx.2 hqx.2 (by omega) (by omega)
  have hpq0 : 0 <= p * q := Int.mul_nonneg (by omega) (by omega)
  have wpq : IntKind.i64.wrap (p * q) = p * q := i64w (by omega) (by omega)
  by_cases hbig : p * q <= 15
  · have hbn : ¬ (15 < p * q) := by omega
    have hr : rProd p bs q cs = ((p * q, (triples (p * q).toNat).filter (prodB bs cs q.toNat)), 0) := by rw [rProd, hs, hs', hf, hf']; simp [hbig]
    obtain ⟨n, hn⟩ : ∃ n : Nat, p * q = n := ⟨(p * q).toNat, by omega⟩
    obtain ⟨w, rfl⟩ : ∃ w : Nat, q = w := ⟨q.toNat, by omega⟩
    rw [hn] at hr wpq hbn hbig
    rw [Int.toNat_natCast, Int.toNat_natCast] at hr
    have w0 : (w : Int) ≠ 0 := by omega
    have w00 : w ≠ 0 := by omega
    have hn15 : n <= 15 := by omega
    simp (maxSteps := 1000000) [go_sem, undef, d0, d1, d2, e0, e1, e2, hn, wpq, hbn]
    refine AWp.draw mixed [(0, false), (1, false), (2, false), (3, false), (4, false), (5, false), (6, false), (8, false), (9, false), (7, true), (10, false)] (by kernel_rfl) ?_
    simp (maxSteps := 1000000) [go_sem, d0, d1, d2, e0, e1, e2, hn, wpq]
    have hbl0 : Bl 3 H0 (H4 ++ [(⟨[], true, true⟩ : Blk)]) H4.length (tri []) 0 := by
      have := Bl.nil 3 H4
      exact ⟨hp04.trans this.1, this.2.1, hp04.length_le⟩
    generalize H4 ++ [(⟨[], true, true⟩ : Blk)] = HG at hbl0 ⊢
    have gx : ∀ x ∈ bs, good 15 x = true := hS.good15
    have gy : ∀ x ∈ cs, good 15 x = true := hS'.good15
    have dv : ∀ {k : Nat}, k < n -> IntKind.i64.wrap ((k : Int) / w) = (k : Int) / w := by
      intro k hk
      have h1 : k / w <= k := Nat.div_le_self _ _
      have h2 : (k : Int) / w = ((k / w : Nat) : Int) := rfl
      obtain ⟨q, hq⟩ : ∃ q, k / w = q := ⟨_, rfl⟩
      rw [hq] at h1
      rw [h2, hq]
      exact i64w (by omega) (by omega)
    have mv : ∀ k : Nat, (k : Int).tmod w = (k : Int) % w := fun k => rfl
    refine AWp.loopVc (St := Nat × Nat × List Bk) (fun s => [(2, .pointer (some ⟨H.length, 0, none⟩)), (3, .pointer (some ⟨H.length + 1, 0, none⟩)), (4, .pointer (some ⟨H.length + 2, 0, none⟩)), (6, .int .i64 n), (7, .int .i64 w), (8, lv 3 s.2.1 0 s.2.2.length), (9, .int .i64 s.1)])
      (fun s H' => s.1 <= n /\ s.2.2 = (trip0 n s.1).filter (prodB bs cs w) /\ Bl 3 H0 H' s.2.1 (tri s.2.2) s.2.2.length) (fun s => n - s.1) (0, H4.length, []) ?_ ?_ ?_
    · simp [upF, Fr.get, Up.refl, Up.ex0]
    · exact ⟨by simp, by simp [trip0_start], hbl0⟩
    · rintro K ⟨a, id, acc⟩ H' ⟨ha, hacc, hbl⟩ hK
      simp only at ha hacc hbl
      by_cases hlt : a < n
      · have hw_a : IntKind.i64.wrap ((a : Int) + 1) = (a : Int) + 1 := i64w (by omega) (by omega)
        simp (maxSteps := 1000000) [go_sem, hlt, hw_a]
        refine AWp.loopVc (St := Nat × Nat × List Bk) (fun s => [(2, .pointer (some ⟨H.length, 0, none⟩)), (3, .pointer (some ⟨H.length + 1, 0, none⟩)), (4, .pointer (some ⟨H.length + 2, 0, none⟩)), (6, .int .i64 n), (7, .int .i64 w), (8, lv 3 s.2.1 0 s.2.2.length), (9, .int .i64 a), (10, .int .i64 s.1)])
          (fun s H' => a + 1 <= s.1 /\ s.1 <= n /\ s.2.2 = (trip0 n a ++ trip1 n a s.1).filter (prodB bs cs w) /\ Bl 3 H0 H' s.2.1 (tri s.2.2) s.2.2.length) (fun s => n - s.1) (a + 1, id, acc) ?_ ?_ ?_
        · simp [upF, Fr.get, Up.refl]
        · exact ⟨by simp, by simp only; omega, by simp [trip1_start, hacc], hbl⟩
        · rintro K2 ⟨b, id2, acc2⟩ H2 ⟨hab, hb, hacc2, hbl2⟩ hK2
          simp only at hab hb hacc2 hbl2
          by_cases hlt2 : b < n
          · have hw_b : IntKind.i64.wrap ((b : Int) + 1) = (b : Int) + 1 := i64w (by omega) (by omega)
            simp (maxSteps := 1000000) [go_sem, hlt2, hw_b]
            refine AWp.loopVc (St := Nat × Nat × List Bk) (fun s => [(2, .pointer (some ⟨H.length, 0, none⟩)), (3, .pointer (some ⟨H.length + 1, 0, none⟩)), (4, .pointer (some ⟨H.length + 2, 0, none⟩)), (6, .int .i64 n), (7, .int .i64 w), (8, lv 3 s.2.1 0 s.2.2.length), (9, .int .i64 a), (10, .int .i64 b), (11, .int .i64 s.1)])
              (fun s H' => b + 1 <= s.1 /\ s.1 <= n /\ s.2.2 = (trip0 n a ++ trip1 n a b ++ trip2 n a b s.1).filter (prodB bs cs w) /\ Bl 3 H0 H' s.2.1 (tri s.2.2) s.2.2.length) (fun s => n - s.1) (b + 1, id2, acc2) ?_ ?_ ?_
            · simp [upF, Fr.get, Up.refl]
            · exact ⟨by simp, by simp only; omega, by simp [trip2_start, hacc2], hbl2⟩
            · rintro K3 ⟨c, id3, acc3⟩ H3 ⟨hbc, hc, hacc3, hbl3⟩ hK3
              simp only at hbc hc hacc3 hbl3
              by_cases hlt3 : c < n
              · have hw_c : IntKind.i64.wrap ((c : Int) + 1) = (c : Int) + 1 := i64w (by omega) (by omega)
                have hlen : acc3.length <= 10000 := by
                  rw [hacc3]
                  refine Nat.le_trans (List.length_filter_le _ _) ?_
                  simp only [List.length_append]
                  have := trip_le0 n a hn15 (by omega); have := trip_le1 n a b hn15; have := trip_le2 n a b c
                  omega
                have hsn : ∀ l : List Bk, (l ++ trip2 n a b (c + 1)).filter (prodB bs cs w) = (l ++ trip2 n a b c).filter (prodB bs cs w) ++ (if (prodB bs cs w) ⟨a, b, c⟩ then [⟨a, b, c⟩] else []) := by
                  intro l
                  rw [trip2_succ hbc, <- List.append_assoc, List.filter_append (_ ++ _)]
                  congr 1
                  cases hP : (prodB bs cs w) ⟨a, b, c⟩ <;> simp [hP]
                have no : (prodB bs cs w) ⟨a, b, c⟩ = false -> ∀ fr' HH, H3 <+: HH -> upF HH [(2, .pointer (some ⟨H.length, 0, none⟩)), (3, .pointer (some ⟨H.length + 1, 0, none⟩)), (4, .pointer (some ⟨H.length + 2, 0, none⟩)), (6, .int .i64 n), (7, .int .i64 w), (8, lv 3 id3 0 acc3.length), (9, .int .i64 a), (10, .int .i64 b), (11, .int .i64 (c + 1))] fr' -> K3 fr' HH := fun hP fr' HH hpp hf =>
                  hK3 (c + 1, id3, acc3) _ _ (by simp only; omega) (by simpa using hf) ⟨by simp only; omega, by simp only; omega, by simp only [hsn, hP, hacc3]; simp, hbl3.pre hpp⟩
                have dx := dv (show a < n by omega)
                have dy := dv (show b < n by omega)
                have dz := dv hlt3
                have mx := mv a
                have my := mv b
                have mz := mv c
                obtain ⟨d0, d1, d2⟩ := (hx0.pre hbl3.1).sys
                have hP0 : prodB bs cs w ⟨a, b, c⟩ = (evB bs ((a : Int) / w) ((b : Int) / w) ((c : Int) / w) && evB cs ((a : Int) % w) ((b : Int) % w) ((c : Int) % w)) := rfl
                simp (maxSteps := 1000000) [go_sem, hlt3]
                refine AWp.draw mixed [(0, false), (1, false), (2, false), (3, false), (4, false), (5, false), (6, false), (7, false), (8, false), (9, false), (10, false), (11, false), (12, false), (13, false), (14, false), (15, false), (16, false), (17, false), (18, false), (19, false), (20, false), (21, false), (22, false), (23, false)] (by kernel_rfl) ?_
                simp (maxSteps := 1000000) [go_sem, d0, w0, w00, dx, dy, dz]
                refine l02Even_ok (p := p) (hu.pre (hp0.trans hbl3.1)) gx _ ?_
                intro H5 hp5
                cases hE : evB bs ((a : Int) / w) ((b : Int) / w) ((c : Int) / w) with
                | false =>
                  rw [hE, Bool.false_and] at hP0
                  simp (maxSteps := 1000000) [go_sem, undef, hw_c, hp5]
                  exact no hP0 _ _ hp5 (by simp [upF, Fr.get, Up.refl])
                | true =>
                  rw [hE, Bool.true_and] at hP0
                  obtain ⟨e0, e1, e2⟩ := (hy0.pre (hbl3.1.trans hp5)).sys
                  simp (maxSteps := 1000000) [go_sem, undef, e0, w0, w00, mx, my, mz, hp5]
                  refine l02Even_ok (p := w) (hv.pre (hp0.trans (hbl3.1.trans hp5))) gy _ ?_
                  intro H6 hp6
                  cases hE2 : evB cs ((a : Int) % w) ((b : Int) % w) ((c : Int) % w) with
                  | false =>
                    rw [hE2] at hP0
                    simp (maxSteps := 1000000) [go_sem, undef, hw_c, hp6]
                    exact no hP0 _ _ (hp5.trans hp6) (by simp [upF, Fr.get, Up.refl])
                  | true =>
                    rw [hE2] at hP0
                    obtain ⟨hsrc, H7, hap, hbl7⟩ := (hbl3.pre (hp5.trans hp6)).push (xs := (⟨a, b, c⟩ : Bk).cells) (by omega) rfl
                    simp only [Bk.cells] at hsrc hap hbl7
                    simp (maxSteps := 1000000) [go_sem, undef, hw_c, hp6, hsrc, hap]
                    refine andK_intro (by omega) (hK3 (c + 1, H6.length + 1, acc3 ++ [⟨a, b, c⟩]) _ _ (by simp only; omega) (by simp [upF, Fr.get, Up.refl]) ⟨by simp only; omega, by simp only; omega, by simp only [hsn, hP0, hacc3]; simp, ?_⟩)
                    simp only [List.length_append, List.length_singleton, tri_append, tri_one, Bk.cells]
                    exact hbl7
              · have : c = n := by omega
                subst this
                simp (maxSteps := 1000000) [go_sem, hw_b]
                exact hK2 (b + 1, id3, acc3) _ _ (by simp only; omega) (by simp [upF, Fr.get, Up.refl]) ⟨by simp only; omega, by simp only; omega, by simp only [trip1_succ hab, <- List.append_assoc]; exact hacc3, hbl3⟩
          · have : b = n := by omega
            subst this
            simp (maxSteps := 1000000) [go_sem, hw_a]
            exact hK (a + 1, id2, acc2) _ _ (by simp only; omega) (by simp [upF, Fr.get, Up.refl]) ⟨by simp only; omega, by simp only [trip0_succ]; exact hacc2, hbl2⟩
      · have : a = n := by omega
        subst this
        have hlen : acc.length <= 10000 := by
          rw [hacc]
          refine Nat.le_trans (List.length_filter_le _ _) ?_
          have := trip_le0 a a hn15 hn15
          omega
        have hown : BlocksIn H0.length H'.length H' (lv 3 id 0 acc.length) acc := OwnBlocks.inn (OwnBlocks.of_ol hbl.2.1 (by omega)) hbl.2.2
        simp (maxSteps := 1000000) [go_sem]
        refine l01Made_ok hown.read (by omega) _ ?_
        intro H6 z hp6 hz
        have hac : acc = (triples a).filter (prodB bs cs w) := hacc
        rw [hac, triples_sort] at hz
        obtain ⟨q1, q2, q3, q4⟩ := put2 (cs := [.int .i64 a, z]) hp0 (show H.length <= H.length + 2 by omega) hb0 rfl (hbl.1.trans hp6) rfl (by simp [one_int, hz.one])
        have hll := hbl.1.length_le
        have fin := h _ z q3 (by rw [hr, List.length_set]; exact (hz.keep q4 (fun j hj e => by have := hj.1; omega)).wider (by omega))
        rw [hr] at fin
        simp only [hn] at fin
        simp (maxSteps := 1000000) [go_sem, sysV, q1, q2]
        exact ⟨_, Up.refl _ _, fin⟩
  · have hbn : 15 < p * q := by omega
    obtain ⟨H9, q1, q2, fin⟩ := bad H4 3 hp04 (by rw [rProd, hs, hs', hf, hf']; simp; omega)
    simp (maxSteps := 1000000) [go_sem, undef, d0, d1, d2, e0, e1, e2, wpq, hbn, q1, q2]
    exact fin

end Go.Proofs.YtfnegaedkomcgaaGreat
end
