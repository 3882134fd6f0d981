/- Part 9 of what the proof of the law FnExactDoubleSystem rests on: contracts of functions of the program, for every argument that each names; no statement of the seat is proved here. -/
import Derived.Test.YtdfeoccjllljiaaFnExactDoubleSystemPart8

section
/- DoubleSystem: the specification's side. -/
set_option linter.all false
set_option maxRecDepth 20000
set_option maxHeartbeats 8000000
namespace Go.Ab

theorem Bl.pushN {e : Nat} {H H' : Heap} {id n m : Nat} {cs xs : List Value} (h : Bl e H H' id cs n) (he : 0 < e) (hm : 0 < m) (hx : xs.length = m * e) :
    cellsAt (H' ++ [⟨xs, true, true⟩]) H'.length 0 (m * e) = some xs ∧ ∃ H3, appendH (H' ++ [⟨xs, true, true⟩]) e (lv e id 0 n) m xs = some (lv e (H'.length + 1) 0 (n + m), H3) ∧ Bl e H H3 (H'.length + 1) (cs ++ xs) (n + m) := by
  have h1 := h.pre (List.prefix_append H' [⟨xs, true, true⟩])
  obtain ⟨H3, h2, h3, h4, h5⟩ := h1.2.1.append he hm hx
  rw [List.length_append, List.length_singleton] at h2 h3 h5
  refine ⟨?_, H3, h2, ((Same.of_prefix h1.1).trans h4).prefix (by intro j hj e; have := h1.2.2; omega), h3, ?_⟩
  · rw [cellsAt_of (b := ⟨xs, true, true⟩) (by simp) rfl (by simp [hx])]
    simp [← hx]
  · have := h.1.length_le; omega

end Go.Ab
namespace Go.Proofs.Ytdfeoccjllljiaa
open Go.Ab Go.Sort

theorem specDouble_ok {H : Heap} {u : Value} {p : Int} {bs : List Bk} (hu : BlocksAt H u bs) (hl : bs.length ≤ 1048576) (Post : Value → Heap → Prop)
    (h : ∀ H' z, H <+: H' → BlocksIn H.length H'.length H' z (rDbl p bs).1.2 → Post (.tuple #[sysV (rDbl p bs).1.1 z, .int .i64 (rDbl p bs).2]) H') :
    ACalls Try.prog 61 [sysV p u] H Post := by
  have ou := hu.one
  refine ACalls.res ?_
  refine acalls_vc (rs := [.cell 2 38, .tmp 3]) Try.func61 rfl rfl Try.ntmps61 rfl rfl ?_
  simp (maxSteps := 1000000) [go_sem, sysV, ou]
  have hp0 : H <+: H ++ [⟨[.int .i64 p, u], true, true⟩, ⟨[.int .i64 0, .slice none 0 0], true, true⟩] := List.prefix_append _ _
  have hx0 : Holds (H ++ [⟨[.int .i64 p, u], true, true⟩, ⟨[.int .i64 0, .slice none 0 0], true, true⟩]) H.length [.int .i64 p, u] := ⟨true, by simp⟩
  have hb0 : (H ++ [(⟨[.int .i64 p, u], true, true⟩ : Blk), ⟨[.int .i64 0, .slice none 0 0], true, true⟩])[H.length + 1]? = some ⟨[.int .i64 0, .slice none 0 0], true, true⟩ := by simp
  have hlen0 : (H ++ [(⟨[.int .i64 p, u], true, true⟩ : Blk), ⟨[.int .i64 0, .slice none 0 0], true, true⟩]).length = H.length + 2 := by simp
  generalize H ++ [(⟨[.int .i64 p, u], true, true⟩ : Blk), ⟨[.int .i64 0, .slice none 0 0], true, true⟩] = H0 at hp0 hx0 hb0 hlen0 ⊢
  have bad := bad_sys hp0 (show H.length ≤ H.length + 1 by omega) hb0 h
  refine l01Is' (hu.pre hp0) hl _ ?_
  intro H1 hp1
  obtain ⟨d0, d1, d2⟩ := (hx0.pre hp1).sys
  cases hs : sysB p bs with
  | false =>
    obtain ⟨H9, q1, q2, fin⟩ := bad H1 1 hp1 (by rw [rDbl, hs]; simp)
    simp (maxSteps := 1000000) [go_sem, q1, q2]
    exact fin
  | true =>
    have hS := sysB_iff.1 hs
    have hpx := hS.1
    have hlb := hS.2.1
    simp (maxSteps := 1000000) [go_sem, d0, d1, d2]
    refine l01Full_ok (hu.pre (hp0.trans hp1)) hpx hl _ ?_
    intro H2 hp2
    have hp02 := hp1.trans hp2
    obtain ⟨d0, d1, d2⟩ := (hx0.pre hp02).sys
    cases hf : fullB p bs with
    | false =>
      obtain ⟨H9, q1, q2, fin⟩ := bad H2 5 hp02 (by rw [rDbl, hs, hf]; simp)
      simp (maxSteps := 1000000) [go_sem, q1, q2]
      exact fin
    | true =>
      have w1 : IntKind.i64.wrap (2 * p) = 2 * p := i64w (by omega) (by omega)
      have w2 : IntKind.i64.wrap (2 * p + 1) = 2 * p + 1 := i64w (by omega) (by omega)
      by_cases hbig : 15 < 2 * p + 1
      · obtain ⟨H9, q1, q2, fin⟩ := bad H2 3 hp02 (by rw [rDbl, hs, hf, if_pos rfl, if_pos rfl, if_neg (by omega)])
        simp (maxSteps := 1000000) [go_sem, d0, d1, d2, w1, w2, hbig, q1, q2]
        exact fin
      have hne := full_ne hpx hf
      have hr : rDbl p bs = ((2 * p + 1, sortB (dblL p.toNat bs)), 0) := by rw [rDbl, hs, hf, if_pos rfl, if_pos rfl, if_pos (by omega)]
      rw [hr] at h
      simp (maxSteps := 1000000) [go_sem, d0, d1, d2, w1, w2, hbig]
      have hn0 : bs.length ≠ 0 := fun e => hne (List.eq_nil_of_length_eq_zero e)
      obtain ⟨v, rfl⟩ : ∃ v : Nat, p = v := ⟨p.toNat, by omega⟩
      simp only [Int.toNat_natCast] at h
      have hgood := hS.good
      obtain ⟨i, o, rfl, h1, h2⟩ := hu
      have hpe : H2 <+: H2 ++ [⟨[], true, true⟩] := List.prefix_append _ _
      have hbe : (H2 ++ [(⟨[], true, true⟩ : Blk)])[H2.length]? = some ⟨[], true, true⟩ := by simp
      have hsrc := tri_src ((h1.pre (hp0.trans hp02)).pre hpe)
      simp only [srcCells, hn0, if_false] at hsrc
      obtain ⟨v4, H3, hap, hv4, hp3⟩ := emptyAppend (L := H0.length) (e := 3) (m := bs.length) (news := tri bs) (by have := hp02.length_le; omega) hbe (by omega) (by rw [tri_length])
      obtain ⟨id, hbl0, rfl⟩ : ∃ id, Bl 3 H0 H3 id (tri bs) bs.length ∧ v4 = lv 3 id 0 bs.length := by
        rcases hv4.2 with ⟨e, _⟩ | ⟨id, e, _⟩ | ⟨id, hid, hv, e⟩
        · exact absurd e hn0
        · exact absurd e hn0
        · rcases e with ⟨e, _⟩ | e
          · exact absurd e hn0
          · exact ⟨id, ⟨hp02.trans (hpe.trans hp3), ⟨by rw [tri_length], .inr e⟩, hid⟩, hv⟩
      refine AWp.draw mixed [(0, false), (1, false), (3, false), (4, false), (2, true), (5, true), (6, false), (7, false)] (by kernel_rfl) ?_
      simp (maxSteps := 1000000) [go_sem, d0, d1, d2, hsrc, hap, hne, hp3]
      refine andK_intro (by omega) ?_
      refine AWp.loopVc (St := Nat × Nat) (fun s => [(1, .pointer (some ⟨H.length, 0, none⟩)), (2, .pointer (some ⟨H.length + 1, 0, none⟩)), (4, .int .i64 v), (5, lv 3 s.2 0 (bs.length + s.1 * 3)), (6, .int .i64 s.1)])
        (fun s H' => s.1 ≤ bs.length ∧ Bl 3 H0 H' s.2 (tri (bs ++ (bs.take s.1).flatMap (dbl v))) (bs.length + s.1 * 3)) (fun s => bs.length - s.1) (0, id) ?_ ?_ ?_
      · simp [upF, Fr.get, Up.refl]
      · exact ⟨by simp, by simpa using hbl0⟩
      · rintro K ⟨s, id1⟩ H' ⟨hs', hbl⟩ hK
        simp only at hs' hbl
        obtain ⟨d0, d1, d2⟩ := (hx0.pre hbl.1).sys
        by_cases hlt : s < bs.length
        · have hbs : bs[s]? = some bs[s] := List.getElem?_eq_getElem hlt
          have hw_s : IntKind.i64.wrap ((s : Int) + 1) = (s : Int) + 1 := i64w (by omega) (by omega)
          have hgd : good v bs[s] = true := hgood bs[s] (List.getElem_mem hlt)
          obtain ⟨b, hbe⟩ : ∃ b, bs[s] = b := ⟨_, rfl⟩
          rw [hbe] at hbs hgd
          have hat := h1.pre (hp0.trans hbl.1)
          have a1 : cellsAt H' i (o + s * 3) 1 = some [.int .i64 b.a] := by simpa using hat.num hbs (j := 0) rfl
          have a2 := hat.num hbs (j := 1) (v := .int .i64 b.b) rfl
          have a3 := hat.num hbs (j := 2) (v := .int .i64 b.c) rfl
          have hg' := good_iff.1 hgd
          have wa : IntKind.i64.wrap ((v : Int) + b.a) = (v : Int) + b.a := i64w (by omega) (by omega)
          have wb : IntKind.i64.wrap ((v : Int) + b.b) = (v : Int) + b.b := i64w (by omega) (by omega)
          have wc : IntKind.i64.wrap ((v : Int) + b.c) = (v : Int) + b.c := i64w (by omega) (by omega)
          obtain ⟨list0, hl0⟩ : ∃ l, bs ++ (bs.take s).flatMap (dbl v) = l := ⟨_, rfl⟩
          obtain ⟨n1, hn1⟩ : ∃ n, bs.length + s * 3 = n := ⟨_, rfl⟩
          have hnb : n1 ≤ 200 := by omega
          rw [hl0, hn1] at hbl
          simp (maxSteps := 1000000) [go_sem, hlt, d2, hn1]
          refine AWp.draw mixed [(0, false), (1, false), (2, false), (3, false), (4, false), (5, false), (6, false), (7, false), (8, false), (9, false), (10, false), (11, false), (12, false), (13, false), (14, false), (15, false), (16, false), (17, false), (18, false), (19, false), (20, false)] (by kernel_rfl) ?_
          simp (maxSteps := 1000000) [go_sem, hlt, d2, a1, a2, a3, wa, wb, wc]
          refine l01Block_ok (by omega) (by omega) (by omega) _ ?_
          intro H4 hp4
          obtain ⟨c1, hc1⟩ : ∃ c, blk b.a (v + b.b) (v + b.c) = c := ⟨_, rfl⟩
          rw [hc1]
          simp (maxSteps := 1000000) [go_sem, Bk.val, wa, wb, wc]
          refine l01Block_ok (by omega) (by omega) (by omega) _ ?_
          intro H5 hp5
          obtain ⟨c2, hc2⟩ : ∃ c, blk (v + b.a) b.b (v + b.c) = c := ⟨_, rfl⟩
          rw [hc2]
          simp (maxSteps := 1000000) [go_sem, Bk.val, wa, wb, wc]
          refine l01Block_ok (by omega) (by omega) (by omega) _ ?_
          intro H6 hp6
          obtain ⟨c3, hc3⟩ : ∃ c, blk (v + b.a) (v + b.b) b.c = c := ⟨_, rfl⟩
          rw [hc3]
          obtain ⟨hsrc, H8, hap, hbl8⟩ := (hbl.pre (hp4.trans (hp5.trans hp6))).pushN (m := 3) (xs := c1.cells ++ c2.cells ++ c3.cells) (by omega) (by omega) rfl
          simp only [Bk.cells, List.cons_append, List.nil_append] at hsrc hap hbl8
          simp (maxSteps := 1000000) [go_sem, Bk.val, hw_s, hsrc, hap]
          have hnn : bs.length + (s + 1) * 3 = n1 + 3 := by omega
          refine andK_intro (by omega) (hK (s + 1, H6.length + 1) _ _ (by simp only; omega) (by simp [upF, Fr.get, Up.refl, hnn]) ⟨by simp only; omega, ?_⟩)
          have e : bs ++ (bs.take (s + 1)).flatMap (dbl v) = list0 ++ [c1, c2, c3] := by
            rw [List.take_succ_eq_append_getElem hlt, hbe, List.flatMap_append, ← List.append_assoc, hl0, ← hc1, ← hc2, ← hc3]
            simp [dbl, Int.add_comm]
          simp only [e, hnn, tri_append]
          exact hbl8
        · have : s = bs.length := by omega
          subst this
          rw [List.take_length] at hbl
          obtain ⟨list0, hl0⟩ : ∃ l, bs ++ bs.flatMap (dbl v) = l := ⟨_, rfl⟩
          obtain ⟨n1, hn1⟩ : ∃ n, bs.length + bs.length * 3 = n := ⟨_, rfl⟩
          have hnb : n1 ≤ 200 := by omega
          rw [hl0, hn1] at hbl
          simp (maxSteps := 1000000) [go_sem, hn1, d2]
          refine AWp.loopVc (St := Nat × Nat) (fun t => [(2, .pointer (some ⟨H.length + 1, 0, none⟩)), (4, .int .i64 v), (5, lv 3 t.2 0 (n1 + t.1)), (10, .int .i64 t.1)])
            (fun t H3 => t.1 ≤ v ∧ Bl 3 H0 H3 t.2 (tri (list0 ++ (List.range t.1).map (dblT v))) (n1 + t.1)) (fun t => v - t.1) (0, id1) ?_ ?_ ?_
          · simp [upF, Fr.get, Up.refl]
          · exact ⟨by simp, by simpa using hbl⟩
          · rintro K2 ⟨t, id2⟩ H3 ⟨ht, hbl3⟩ hK2
            simp only at ht hbl3
            by_cases htv : t < v
            · have hw_t : IntKind.i64.wrap ((t : Int) + 1) = (t : Int) + 1 := i64w (by omega) (by omega)
              have wt : IntKind.i64.wrap ((v : Int) + t) = (v : Int) + t := i64w (by omega) (by omega)
              have wv : IntKind.i64.wrap (2 * (v : Int)) = 2 * (v : Int) := i64w (by omega) (by omega)
              simp (maxSteps := 1000000) [go_sem, htv, wt, wv]
              refine l01Block_ok (by omega) (by omega) (by omega) _ ?_
              intro H4 hp4
              have hcb : blk (t : Int) (v + t) (2 * v) = dblT v t := by rw [blk_of (by omega) (by omega)]; rfl
              rw [hcb]
              obtain ⟨hsrc, H5, hap, hbl5⟩ := (hbl3.pre hp4).push (xs := (dblT v t).cells) (by omega) rfl
              simp only [Bk.cells, dblT] at hsrc hap hbl5
              simp (maxSteps := 1000000) [go_sem, Bk.val, dblT, hw_t, hsrc, hap]
              refine andK_intro (by omega) (hK2 (t + 1, H4.length + 1) _ _ (by simp only; omega) (by simp [upF, Fr.get, Up.refl, Nat.add_assoc]) ⟨by simp only; omega, ?_⟩)
              simp only [List.range_succ, List.map_append, ← List.append_assoc, tri_append, ← Nat.add_assoc]
              simpa [tri_one, Bk.cells, dblT, tri_append] using hbl5
            · have : t = v := by omega
              subst this
              have wv : IntKind.i64.wrap (2 * (t : Int)) = 2 * (t : Int) := i64w (by omega) (by omega)
              have hlm : (dblL t bs).length = n1 + t := by
                rw [dblL, List.length_append, List.length_append, dbl_flat_len, List.length_map, List.length_range]; omega
              have hown : BlocksIn H0.length H3.length H3 (lv 3 id2 0 (n1 + t)) (dblL t bs) := by
                rw [← hlm]
                refine OwnBlocks.inn (OwnBlocks.of_ol ?_ (by omega)) hbl3.2.2
                rw [hlm]
                have e : dblL t bs = list0 ++ (List.range t).map (dblT t) := by rw [dblL, hl0]
                rw [e]; exact hbl3.2.1
              simp (maxSteps := 1000000) [go_sem, wv, w2]
              refine l01Made_ok hown.read (by omega) _ ?_
              intro H6 z hp6 hz
              obtain ⟨q1, q2, q3, q4⟩ := put2 (cs := [.int .i64 (2 * (t : Int) + 1), z]) hp0 (show H.length ≤ H.length + 1 by omega) hb0 rfl (hbl3.1.trans hp6) rfl (by simp [one_int, hz.one])
              have hll := hbl3.1.length_le
              have fin := h _ z q3 (by rw [List.length_set]; exact (hz.keep q4 (fun j hj e => by have := hj.1; omega)).wider (by omega))
              simp (maxSteps := 1000000) [go_sem, sysV, q1, q2]
              exact ⟨_, Up.refl _ _, fin⟩

end Go.Proofs.Ytdfeoccjllljiaa
end

section
/- The law on DoubleSystem, in abstract terms: its code returns true, for every input. -/
set_option linter.all false
set_option maxRecDepth 20000
set_option maxHeartbeats 8000000
namespace Go.Proofs.Ytdfeoccjllljiaa
open Go.Ab

theorem lawFnExactDoubleSystem (H : Heap) (avs : List Value) (h : argsSay [shSystem] H avs) : ACalls Try.prog 12 avs H fun v _ => v = .bool true := by
  obtain ⟨_, _, rfl, a0, rfl⟩ := h
  obtain ⟨p0, u0, b0, rfl, hp00, hz0, hw0⟩ := says_shSystem a0
  have one0 : u0.oneCell' = true := by obtain ⟨i, o, rfl, _⟩ := hz0; rfl
  refine acalls_vc (rs := [.tmp 2]) Try.func12 rfl rfl Try.ntmps12 rfl rfl ?_
  try simp (maxSteps := 1000000) [go_sem, one0, sysV]
  have hp1 : H <+: H ++ [(⟨[.int .i64 p0, u0], true, true⟩ : Blk)] := List.prefix_append _ _
  have bx0 : Holds (H ++ [(⟨[.int .i64 p0, u0], true, true⟩ : Blk)]) (H.length) [.int .i64 p0, u0] := ⟨true, by simp⟩
  have hbH1 : (H ++ [(⟨[.int .i64 p0, u0], true, true⟩ : Blk)]).length = H.length + 1 := by simp
  generalize H ++ [(⟨[.int .i64 p0, u0], true, true⟩ : Blk)] = H1 at hp1 hbH1 bx0 ⊢
  have hlH1 := hp1.length_le
  have qz0 := hp1
  obtain ⟨d0a, d0b, d0c⟩ := bx0.sys
  refine szSystem0_ok (hz0.pre qz0) (by omega) (by omega) _ ?_
  intro H2 hp2
  replace bx0 := bx0.pre hp2
  replace qz0 := qz0.trans hp2
  have hlH2 := hp2.length_le
  obtain ⟨d0a, d0b, d0c⟩ := bx0.sys
  by_cases hbig0 : (1048576 : Int) < b0.length
  · simp (maxSteps := 1000000) [go_sem, hbig0, one0, sysV]
  have hneg0 : decide ((1048576 : Int) - b0.length < 0) = false := by simp; omega
  have hl0 : b0.length ≤ 1048576 := by omega
  have hq0 := hz0.at (by omega)
  try simp (maxSteps := 1000000) [go_sem, hbig0, hneg0, one0, sysV, d0a, d0b, d0c]
  refine toSys_ok (hq0.pre qz0) hl0 _ ?_
  intro H3 wo3 hp3 hoo3
  replace bx0 := bx0.pre hp3
  replace qz0 := qz0.trans hp3
  have hlH3 := hp3.length_le
  obtain ⟨d0a, d0b, d0c⟩ := bx0.sys
  try simp (maxSteps := 1000000) [go_sem, hbig0, hneg0, one0, sysV, d0a, d0b, d0c]
  refine specDouble_ok hoo3.read hl0 _ ?_
  intro H4 wH4_0 hp4 hoH4_0
  replace bx0 := bx0.pre hp4
  replace hoo3 := hoo3.pre hp4
  replace qz0 := qz0.trans hp4
  have hlH4 := hp4.length_le
  obtain ⟨d0a, d0b, d0c⟩ := bx0.sys
  have one_rH4_0 : wH4_0.oneCell' = true := hoH4_0.read.one
  try simp (maxSteps := 1000000) [go_sem, hbig0, hneg0, one0, one_rH4_0, sysV, d0a, d0b, d0c]
  have bxrH4_0 := Holds.last H4 [.int .i64 (rDbl p0 b0).1.1, wH4_0]
  have hp5 : H4 <+: H4 ++ [(⟨[.int .i64 (rDbl p0 b0).1.1, wH4_0], true, true⟩ : Blk)] := List.prefix_append _ _
  have hbH5 : (H4 ++ [(⟨[.int .i64 (rDbl p0 b0).1.1, wH4_0], true, true⟩ : Blk)]).length = H4.length + 1 := by simp
  generalize H4 ++ [(⟨[.int .i64 (rDbl p0 b0).1.1, wH4_0], true, true⟩ : Blk)] = H5 at bxrH4_0 hp5 hbH5 ⊢
  replace bx0 := bx0.pre hp5
  replace hoo3 := hoo3.pre hp5
  replace hoH4_0 := hoH4_0.pre hp5
  replace qz0 := qz0.trans hp5
  have hlH5 := hp5.length_le
  obtain ⟨d0a, d0b, d0c⟩ := bx0.sys
  obtain ⟨erH4_0a, erH4_0b, erH4_0c⟩ := bxrH4_0.sys
  try simp (maxSteps := 1000000) [go_sem, hbig0, hneg0, one0, one_rH4_0, sysV, d0a, d0b, d0c, erH4_0a, erH4_0b, erH4_0c]
  refine toSys_ok (hq0.pre qz0) hl0 _ ?_
  intro H6 wo6 hp6 hoo6
  replace bx0 := bx0.pre hp6
  replace bxrH4_0 := bxrH4_0.pre hp6
  replace hoo3 := hoo3.pre hp6
  replace hoH4_0 := hoH4_0.pre hp6
  replace qz0 := qz0.trans hp6
  have hlH6 := hp6.length_le
  obtain ⟨d0a, d0b, d0c⟩ := bx0.sys
  obtain ⟨erH4_0a, erH4_0b, erH4_0c⟩ := bxrH4_0.sys
  have one_o6 : wo6.oneCell' = true := hoo6.read.one
  try simp (maxSteps := 1000000) [go_sem, hbig0, hneg0, one0, one_o6, one_rH4_0, sysV, d0a, d0b, d0c, erH4_0a, erH4_0b, erH4_0c]
  have bxo6 := Holds.last H6 [.int .i64 p0, wo6]
  have hp7 : H6 <+: H6 ++ [(⟨[.int .i64 p0, wo6], true, true⟩ : Blk)] := List.prefix_append _ _
  have hbH7 : (H6 ++ [(⟨[.int .i64 p0, wo6], true, true⟩ : Blk)]).length = H6.length + 1 := by simp
  generalize H6 ++ [(⟨[.int .i64 p0, wo6], true, true⟩ : Blk)] = H7 at bxo6 hp7 hbH7 ⊢
  replace bx0 := bx0.pre hp7
  replace bxrH4_0 := bxrH4_0.pre hp7
  replace hoo3 := hoo3.pre hp7
  replace hoH4_0 := hoH4_0.pre hp7
  replace hoo6 := hoo6.pre hp7
  replace qz0 := qz0.trans hp7
  have hlH7 := hp7.length_le
  obtain ⟨d0a, d0b, d0c⟩ := bx0.sys
  obtain ⟨erH4_0a, erH4_0b, erH4_0c⟩ := bxrH4_0.sys
  obtain ⟨eo6a, eo6b, eo6c⟩ := bxo6.sys
  try simp (maxSteps := 1000000) [go_sem, hbig0, hneg0, one0, one_o6, one_rH4_0, sysV, d0a, d0b, d0c, erH4_0a, erH4_0b, erH4_0c, eo6a, eo6b, eo6c]
  refine implDouble_ok hoo6.read hl0 _ ?_
  intro H8 wH8_0 hp8 hoH8_0
  replace bx0 := bx0.pre hp8
  replace bxrH4_0 := bxrH4_0.pre hp8
  replace bxo6 := bxo6.pre hp8
  replace hoo3 := hoo3.pre hp8
  replace hoH4_0 := hoH4_0.pre hp8
  replace hoo6 := hoo6.pre hp8
  replace qz0 := qz0.trans hp8
  have hlH8 := hp8.length_le
  obtain ⟨d0a, d0b, d0c⟩ := bx0.sys
  obtain ⟨erH4_0a, erH4_0b, erH4_0c⟩ := bxrH4_0.sys
  obtain ⟨eo6a, eo6b, eo6c⟩ := bxo6.sys
  have one_rH8_0 : wH8_0.oneCell' = true := hoH8_0.read.one
  try simp (maxSteps := 1000000) [go_sem, hbig0, hneg0, one0, one_o6, one_rH4_0, one_rH8_0, sysV, d0a, d0b, d0c, erH4_0a, erH4_0b, erH4_0c, eo6a, eo6b, eo6c]
  have bxrH8_0 := Holds.last H8 [.int .i64 (rDbl p0 b0).1.1, wH8_0]
  have hp9 : H8 <+: H8 ++ [(⟨[.int .i64 (rDbl p0 b0).1.1, wH8_0], true, true⟩ : Blk)] := List.prefix_append _ _
  have hbH9 : (H8 ++ [(⟨[.int .i64 (rDbl p0 b0).1.1, wH8_0], true, true⟩ : Blk)]).length = H8.length + 1 := by simp
  generalize H8 ++ [(⟨[.int .i64 (rDbl p0 b0).1.1, wH8_0], true, true⟩ : Blk)] = H9 at bxrH8_0 hp9 hbH9 ⊢
  replace bx0 := bx0.pre hp9
  replace bxrH4_0 := bxrH4_0.pre hp9
  replace bxo6 := bxo6.pre hp9
  replace hoo3 := hoo3.pre hp9
  replace hoH4_0 := hoH4_0.pre hp9
  replace hoo6 := hoo6.pre hp9
  replace hoH8_0 := hoH8_0.pre hp9
  replace qz0 := qz0.trans hp9
  have hlH9 := hp9.length_le
  obtain ⟨d0a, d0b, d0c⟩ := bx0.sys
  obtain ⟨erH4_0a, erH4_0b, erH4_0c⟩ := bxrH4_0.sys
  obtain ⟨eo6a, eo6b, eo6c⟩ := bxo6.sys
  obtain ⟨erH8_0a, erH8_0b, erH8_0c⟩ := bxrH8_0.sys
  try simp (maxSteps := 1000000) [go_sem, hbig0, hneg0, one0, one_o6, one_rH4_0, one_rH8_0, sysV, d0a, d0b, d0c, erH4_0a, erH4_0b, erH4_0c, eo6a, eo6b, eo6c, erH8_0a, erH8_0b, erH8_0c]
  refine eqSystem_ok hoH8_0.read hoH4_0.read _ ?_
  intro H10 hp10
  replace bx0 := bx0.pre hp10
  replace bxrH4_0 := bxrH4_0.pre hp10
  replace bxo6 := bxo6.pre hp10
  replace bxrH8_0 := bxrH8_0.pre hp10
  replace hoo3 := hoo3.pre hp10
  replace hoH4_0 := hoH4_0.pre hp10
  replace hoo6 := hoo6.pre hp10
  replace hoH8_0 := hoH8_0.pre hp10
  replace qz0 := qz0.trans hp10
  have hlH10 := hp10.length_le
  obtain ⟨d0a, d0b, d0c⟩ := bx0.sys
  obtain ⟨erH4_0a, erH4_0b, erH4_0c⟩ := bxrH4_0.sys
  obtain ⟨eo6a, eo6b, eo6c⟩ := bxo6.sys
  obtain ⟨erH8_0a, erH8_0b, erH8_0c⟩ := bxrH8_0.sys
  try simp (maxSteps := 1000000) [go_sem, hbig0, hneg0, one0, one_o6, one_rH4_0, one_rH8_0, sysV, d0a, d0b, d0c, erH4_0a, erH4_0b, erH4_0c, eo6a, eo6b, eo6c, erH8_0a, erH8_0b, erH8_0c]
  refine AWp.draw mixed [(0, false), (1, false), (2, true), (3, false), (4, false)] (by kernel_rfl) ?_
  try simp (maxSteps := 1000000) [go_sem, hbig0, hneg0, one0, one_o6, one_rH4_0, one_rH8_0, sysV, d0a, d0b, d0c, erH4_0a, erH4_0b, erH4_0c, eo6a, eo6b, eo6c, erH8_0a, erH8_0b, erH8_0c]
  refine toSys_ok (hq0.pre qz0) hl0 _ ?_
  intro H11 wo11 hp11 hoo11
  replace bx0 := bx0.pre hp11
  replace bxrH4_0 := bxrH4_0.pre hp11
  replace bxo6 := bxo6.pre hp11
  replace bxrH8_0 := bxrH8_0.pre hp11
  replace hoo3 := hoo3.pre hp11
  replace hoH4_0 := hoH4_0.pre hp11
  replace hoo6 := hoo6.pre hp11
  replace hoH8_0 := hoH8_0.pre hp11
  replace qz0 := qz0.trans hp11
  have hlH11 := hp11.length_le
  obtain ⟨d0a, d0b, d0c⟩ := bx0.sys
  obtain ⟨erH4_0a, erH4_0b, erH4_0c⟩ := bxrH4_0.sys
  obtain ⟨eo6a, eo6b, eo6c⟩ := bxo6.sys
  obtain ⟨erH8_0a, erH8_0b, erH8_0c⟩ := bxrH8_0.sys
  try simp (maxSteps := 1000000) [go_sem, hbig0, hneg0, hp11, one0, one_o6, one_rH4_0, one_rH8_0, sysV, d0a, d0b, d0c, erH4_0a, erH4_0b, erH4_0c, eo6a, eo6b, eo6c, erH8_0a, erH8_0b, erH8_0c]
  refine eqSystem_ok hoo6.read hoo11.read _ ?_
  intro H12 hp12
  replace bx0 := bx0.pre hp12
  replace bxrH4_0 := bxrH4_0.pre hp12
  replace bxo6 := bxo6.pre hp12
  replace bxrH8_0 := bxrH8_0.pre hp12
  replace hoo3 := hoo3.pre hp12
  replace hoH4_0 := hoH4_0.pre hp12
  replace hoo6 := hoo6.pre hp12
  replace hoH8_0 := hoH8_0.pre hp12
  replace hoo11 := hoo11.pre hp12
  replace qz0 := qz0.trans hp12
  have hlH12 := hp12.length_le
  obtain ⟨d0a, d0b, d0c⟩ := bx0.sys
  obtain ⟨erH4_0a, erH4_0b, erH4_0c⟩ := bxrH4_0.sys
  obtain ⟨eo6a, eo6b, eo6c⟩ := bxo6.sys
  obtain ⟨erH8_0a, erH8_0b, erH8_0c⟩ := bxrH8_0.sys
  try simp (maxSteps := 1000000) [go_sem, hbig0, hneg0, hp11, one0, one_o6, one_rH4_0, one_rH8_0, sysV, d0a, d0b, d0c, erH4_0a, erH4_0b, erH4_0c, eo6a, eo6b, eo6c, erH8_0a, erH8_0b, erH8_0c]
  refine markSys_ok hoo6 (by omega) (by omega) _ ?_
  intro H13 hs13 mk13
  replace bx0 := bx0.keepS hs13 (by rintro ⟨h1, h2⟩; omega)
  replace bxrH4_0 := bxrH4_0.keepS hs13 (by rintro ⟨h1, h2⟩; omega)
  replace bxo6 := bxo6.keepS hs13 (by rintro ⟨h1, h2⟩; omega)
  replace bxrH8_0 := bxrH8_0.keepS hs13 (by rintro ⟨h1, h2⟩; omega)
  replace hoo3 := hoo3.keep hs13 (by rintro j ⟨h1, h2⟩ ⟨h3, h4⟩; omega)
  replace hoH4_0 := hoH4_0.keep hs13 (by rintro j ⟨h1, h2⟩ ⟨h3, h4⟩; omega)
  replace hoH8_0 := hoH8_0.keep hs13 (by rintro j ⟨h1, h2⟩ ⟨h3, h4⟩; omega)
  replace hoo11 := hoo11.keep hs13 (by rintro j ⟨h1, h2⟩ ⟨h3, h4⟩; omega)
  replace qz0 := ((Same.of_prefix qz0).trans hs13).prefix (by rintro j hj ⟨h1, h2⟩; omega)
  have hlH13 := hs13.1
  obtain ⟨d0a, d0b, d0c⟩ := bx0.sys
  obtain ⟨erH4_0a, erH4_0b, erH4_0c⟩ := bxrH4_0.sys
  obtain ⟨eo6a, eo6b, eo6c⟩ := bxo6.sys
  obtain ⟨erH8_0a, erH8_0b, erH8_0c⟩ := bxrH8_0.sys
  have hng13 : decide ((1 : Int) + ((b0).length * 3 : Nat) < 0) = false := by simp only [decide_eq_false_iff_not]; omega
  try simp only [Int.natCast_mul, Int.cast_ofNat_Int] at hng13
  try simp (maxSteps := 1000000) [go_sem, hbig0, hneg0, hng13, hp11, one0, one_o6, one_rH4_0, one_rH8_0, sysV, d0a, d0b, d0c, erH4_0a, erH4_0b, erH4_0c, eo6a, eo6b, eo6c, erH8_0a, erH8_0b, erH8_0c]
  refine eqSystem_ok hoH8_0.read hoH4_0.read _ ?_
  intro H14 hp14
  replace bx0 := bx0.pre hp14
  replace bxrH4_0 := bxrH4_0.pre hp14
  replace bxo6 := bxo6.pre hp14
  replace bxrH8_0 := bxrH8_0.pre hp14
  replace hoo3 := hoo3.pre hp14
  replace hoH4_0 := hoH4_0.pre hp14
  replace mk13 := mk13.pre hp14
  replace hoH8_0 := hoH8_0.pre hp14
  replace hoo11 := hoo11.pre hp14
  replace qz0 := qz0.trans hp14
  have hlH14 := hp14.length_le
  obtain ⟨d0a, d0b, d0c⟩ := bx0.sys
  obtain ⟨erH4_0a, erH4_0b, erH4_0c⟩ := bxrH4_0.sys
  obtain ⟨eo6a, eo6b, eo6c⟩ := bxo6.sys
  obtain ⟨erH8_0a, erH8_0b, erH8_0c⟩ := bxrH8_0.sys
  try simp (maxSteps := 1000000) [go_sem, hbig0, hneg0, hng13, hp11, one0, one_o6, one_rH4_0, one_rH8_0, sysV, d0a, d0b, d0c, erH4_0a, erH4_0b, erH4_0c, eo6a, eo6b, eo6c, erH8_0a, erH8_0b, erH8_0c]
  refine markSys_ok hoH8_0 (by omega) (by omega) _ ?_
  intro H15 hs15 mk15
  replace bx0 := bx0.keepS hs15 (by rintro ⟨h1, h2⟩; omega)
  replace bxrH4_0 := bxrH4_0.keepS hs15 (by rintro ⟨h1, h2⟩; omega)
  replace bxo6 := bxo6.keepS hs15 (by rintro ⟨h1, h2⟩; omega)
  replace bxrH8_0 := bxrH8_0.keepS hs15 (by rintro ⟨h1, h2⟩; omega)
  replace hoo3 := hoo3.keep hs15 (by rintro j ⟨h1, h2⟩ ⟨h3, h4⟩; omega)
  replace hoH4_0 := hoH4_0.keep hs15 (by rintro j ⟨h1, h2⟩ ⟨h3, h4⟩; omega)
  replace mk13 := mk13.keep hs15 (by rintro j ⟨h1, h2⟩ ⟨h3, h4⟩; omega)
  replace hoo11 := hoo11.keep hs15 (by rintro j ⟨h1, h2⟩ ⟨h3, h4⟩; omega)
  replace qz0 := ((Same.of_prefix qz0).trans hs15).prefix (by rintro j hj ⟨h1, h2⟩; omega)
  have hlH15 := hs15.1
  obtain ⟨d0a, d0b, d0c⟩ := bx0.sys
  obtain ⟨erH4_0a, erH4_0b, erH4_0c⟩ := bxrH4_0.sys
  obtain ⟨eo6a, eo6b, eo6c⟩ := bxo6.sys
  obtain ⟨erH8_0a, erH8_0b, erH8_0c⟩ := bxrH8_0.sys
  have hng15 : decide ((1 : Int) + (((rDbl p0 b0).1.2).length * 3 : Nat) < 0) = false := by simp only [decide_eq_false_iff_not]; omega
  try simp only [Int.natCast_mul, Int.cast_ofNat_Int] at hng15
  try simp (maxSteps := 1000000) [go_sem, hbig0, hneg0, hng13, hng15, hp11, one0, one_o6, one_rH4_0, one_rH8_0, sysV, d0a, d0b, d0c, erH4_0a, erH4_0b, erH4_0c, eo6a, eo6b, eo6c, erH8_0a, erH8_0b, erH8_0c]
  refine heldSys_ok mk15 (by omega) (by omega) _ ?_
  intro H16 hp16
  replace bx0 := bx0.pre hp16
  replace bxrH4_0 := bxrH4_0.pre hp16
  replace bxo6 := bxo6.pre hp16
  replace bxrH8_0 := bxrH8_0.pre hp16
  replace hoo3 := hoo3.pre hp16
  replace hoH4_0 := hoH4_0.pre hp16
  replace mk13 := mk13.pre hp16
  replace mk15 := mk15.pre hp16
  replace hoo11 := hoo11.pre hp16
  replace qz0 := qz0.trans hp16
  have hlH16 := hp16.length_le
  obtain ⟨d0a, d0b, d0c⟩ := bx0.sys
  obtain ⟨erH4_0a, erH4_0b, erH4_0c⟩ := bxrH4_0.sys
  obtain ⟨eo6a, eo6b, eo6c⟩ := bxo6.sys
  obtain ⟨erH8_0a, erH8_0b, erH8_0c⟩ := bxrH8_0.sys
  try simp (maxSteps := 1000000) [go_sem, hbig0, hneg0, hng13, hng15, hp11, one0, one_o6, one_rH4_0, one_rH8_0, sysV, d0a, d0b, d0c, erH4_0a, erH4_0b, erH4_0c, eo6a, eo6b, eo6c, erH8_0a, erH8_0b, erH8_0c]
  refine toSys_ok (hq0.pre qz0) hl0 _ ?_
  intro H17 wo17 hp17 hoo17
  replace bx0 := bx0.pre hp17
  replace bxrH4_0 := bxrH4_0.pre hp17
  replace bxo6 := bxo6.pre hp17
  replace bxrH8_0 := bxrH8_0.pre hp17
  replace hoo3 := hoo3.pre hp17
  replace hoH4_0 := hoH4_0.pre hp17
  replace mk13 := mk13.pre hp17
  replace mk15 := mk15.pre hp17
  replace hoo11 := hoo11.pre hp17
  replace qz0 := qz0.trans hp17
  have hlH17 := hp17.length_le
  obtain ⟨d0a, d0b, d0c⟩ := bx0.sys
  obtain ⟨erH4_0a, erH4_0b, erH4_0c⟩ := bxrH4_0.sys
  obtain ⟨eo6a, eo6b, eo6c⟩ := bxo6.sys
  obtain ⟨erH8_0a, erH8_0b, erH8_0c⟩ := bxrH8_0.sys
  try simp (maxSteps := 1000000) [go_sem, hbig0, hneg0, hng13, hng15, hp11, one0, one_o6, one_rH4_0, one_rH8_0, sysV, d0a, d0b, d0c, erH4_0a, erH4_0b, erH4_0c, eo6a, eo6b, eo6c, erH8_0a, erH8_0b, erH8_0c]
  refine implDouble_ok hoo17.read hl0 _ ?_
  intro H18 wH18_0 hp18 hoH18_0
  replace bx0 := bx0.pre hp18
  replace bxrH4_0 := bxrH4_0.pre hp18
  replace bxo6 := bxo6.pre hp18
  replace bxrH8_0 := bxrH8_0.pre hp18
  replace hoo3 := hoo3.pre hp18
  replace hoH4_0 := hoH4_0.pre hp18
  replace mk13 := mk13.pre hp18
  replace mk15 := mk15.pre hp18
  replace hoo11 := hoo11.pre hp18
  replace hoo17 := hoo17.pre hp18
  replace qz0 := qz0.trans hp18
  have hlH18 := hp18.length_le
  obtain ⟨d0a, d0b, d0c⟩ := bx0.sys
  obtain ⟨erH4_0a, erH4_0b, erH4_0c⟩ := bxrH4_0.sys
  obtain ⟨eo6a, eo6b, eo6c⟩ := bxo6.sys
  obtain ⟨erH8_0a, erH8_0b, erH8_0c⟩ := bxrH8_0.sys
  have one_rH18_0 : wH18_0.oneCell' = true := hoH18_0.read.one
  try simp (maxSteps := 1000000) [go_sem, hbig0, hneg0, hng13, hng15, hp11, one0, one_o6, one_rH18_0, one_rH4_0, one_rH8_0, sysV, d0a, d0b, d0c, erH4_0a, erH4_0b, erH4_0c, eo6a, eo6b, eo6c, erH8_0a, erH8_0b, erH8_0c]
  have bxrH18_0 := Holds.last H18 [.int .i64 (rDbl p0 b0).1.1, wH18_0]
  have hp19 : H18 <+: H18 ++ [(⟨[.int .i64 (rDbl p0 b0).1.1, wH18_0], true, true⟩ : Blk)] := List.prefix_append _ _
  have hbH19 : (H18 ++ [(⟨[.int .i64 (rDbl p0 b0).1.1, wH18_0], true, true⟩ : Blk)]).length = H18.length + 1 := by simp
  generalize H18 ++ [(⟨[.int .i64 (rDbl p0 b0).1.1, wH18_0], true, true⟩ : Blk)] = H19 at bxrH18_0 hp19 hbH19 ⊢
  replace bx0 := bx0.pre hp19
  replace bxrH4_0 := bxrH4_0.pre hp19
  replace bxo6 := bxo6.pre hp19
  replace bxrH8_0 := bxrH8_0.pre hp19
  replace hoo3 := hoo3.pre hp19
  replace hoH4_0 := hoH4_0.pre hp19
  replace mk13 := mk13.pre hp19
  replace mk15 := mk15.pre hp19
  replace hoo11 := hoo11.pre hp19
  replace hoo17 := hoo17.pre hp19
  replace hoH18_0 := hoH18_0.pre hp19
  replace qz0 := qz0.trans hp19
  have hlH19 := hp19.length_le
  obtain ⟨d0a, d0b, d0c⟩ := bx0.sys
  obtain ⟨erH4_0a, erH4_0b, erH4_0c⟩ := bxrH4_0.sys
  obtain ⟨eo6a, eo6b, eo6c⟩ := bxo6.sys
  obtain ⟨erH8_0a, erH8_0b, erH8_0c⟩ := bxrH8_0.sys
  obtain ⟨erH18_0a, erH18_0b, erH18_0c⟩ := bxrH18_0.sys
  try simp (maxSteps := 1000000) [go_sem, hbig0, hneg0, hng13, hng15, hp11, one0, one_o6, one_rH18_0, one_rH4_0, one_rH8_0, sysV, d0a, d0b, d0c, erH4_0a, erH4_0b, erH4_0c, eo6a, eo6b, eo6c, erH8_0a, erH8_0b, erH8_0c, erH18_0a, erH18_0b, erH18_0c]
  refine eqSystem_ok hoH18_0.read hoH4_0.read _ ?_
  intro H20 hp20
  replace bx0 := bx0.pre hp20
  replace bxrH4_0 := bxrH4_0.pre hp20
  replace bxo6 := bxo6.pre hp20
  replace bxrH8_0 := bxrH8_0.pre hp20
  replace bxrH18_0 := bxrH18_0.pre hp20
  replace hoo3 := hoo3.pre hp20
  replace hoH4_0 := hoH4_0.pre hp20
  replace mk13 := mk13.pre hp20
  replace mk15 := mk15.pre hp20
  replace hoo11 := hoo11.pre hp20
  replace hoo17 := hoo17.pre hp20
  replace hoH18_0 := hoH18_0.pre hp20
  replace qz0 := qz0.trans hp20
  have hlH20 := hp20.length_le
  obtain ⟨d0a, d0b, d0c⟩ := bx0.sys
  obtain ⟨erH4_0a, erH4_0b, erH4_0c⟩ := bxrH4_0.sys
  obtain ⟨eo6a, eo6b, eo6c⟩ := bxo6.sys
  obtain ⟨erH8_0a, erH8_0b, erH8_0c⟩ := bxrH8_0.sys
  obtain ⟨erH18_0a, erH18_0b, erH18_0c⟩ := bxrH18_0.sys
  try simp (maxSteps := 1000000) [go_sem, hbig0, hneg0, hng13, hng15, hp11, one0, one_o6, one_rH18_0, one_rH4_0, one_rH8_0, sysV, d0a, d0b, d0c, erH4_0a, erH4_0b, erH4_0c, eo6a, eo6b, eo6c, erH8_0a, erH8_0b, erH8_0c, erH18_0a, erH18_0b, erH18_0c]
  refine heldSys_ok mk15 (by omega) (by omega) _ ?_
  intro H21 hp21
  replace bx0 := bx0.pre hp21
  replace bxrH4_0 := bxrH4_0.pre hp21
  replace bxo6 := bxo6.pre hp21
  replace bxrH8_0 := bxrH8_0.pre hp21
  replace bxrH18_0 := bxrH18_0.pre hp21
  replace hoo3 := hoo3.pre hp21
  replace hoH4_0 := hoH4_0.pre hp21
  replace mk13 := mk13.pre hp21
  replace mk15 := mk15.pre hp21
  replace hoo11 := hoo11.pre hp21
  replace hoo17 := hoo17.pre hp21
  replace hoH18_0 := hoH18_0.pre hp21
  replace qz0 := qz0.trans hp21
  have hlH21 := hp21.length_le
  obtain ⟨d0a, d0b, d0c⟩ := bx0.sys
  obtain ⟨erH4_0a, erH4_0b, erH4_0c⟩ := bxrH4_0.sys
  obtain ⟨eo6a, eo6b, eo6c⟩ := bxo6.sys
  obtain ⟨erH8_0a, erH8_0b, erH8_0c⟩ := bxrH8_0.sys
  obtain ⟨erH18_0a, erH18_0b, erH18_0c⟩ := bxrH18_0.sys
  try simp (maxSteps := 1000000) [go_sem, hbig0, hneg0, hng13, hng15, hp11, one0, one_o6, one_rH18_0, one_rH4_0, one_rH8_0, sysV, d0a, d0b, d0c, erH4_0a, erH4_0b, erH4_0c, eo6a, eo6b, eo6c, erH8_0a, erH8_0b, erH8_0c, erH18_0a, erH18_0b, erH18_0c]

end Go.Proofs.Ytdfeoccjllljiaa
end
