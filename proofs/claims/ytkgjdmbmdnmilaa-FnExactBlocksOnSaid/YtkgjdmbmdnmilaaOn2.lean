/- The part of a system on some points: the specification's side. -/
import Derived.Test.YtkgjdmbmdnmilaaOn
set_option linter.all false
set_option maxRecDepth 20000
set_option maxHeartbeats 4000000
namespace Go.Proofs.Ytkgjdmbmdnmilaa
open Go.Ab

theorem l01On_ok {H : Heap} {u v : Value} {p : Int} {bs : List Bk} {xs : List Int} (hu : BlocksAt H u bs) (hl : bs.length ≤ 1048576) (hv : IntsAt H v xs) (Post : Value → Heap → Prop)
    (h : ∀ H' w, H <+: H' → BlocksIn H.length H'.length H' w (sortB (onB xs bs)) → Post (sysV xs.length w) H') : ACalls Try.prog 138 [sysV p u, v] H Post := by
  have hvo := hv
  have huo := hu.one
  obtain ⟨i, o, rfl, h1, h2⟩ := hu
  obtain ⟨j, q, rfl, h3, h4⟩ := hv
  refine acalls_vc (rs := [.cell 4 36]) Try.func138 rfl rfl Try.ntmps138 rfl rfl ?_
  simp (maxSteps := 1000000) [go_sem, sysV]
  have hp0 : H <+: H ++ [⟨[.int .i64 p, lv 3 i o bs.length], true, true⟩, ⟨[.int .i64 0, .slice none 0 0], true, true⟩] := List.prefix_append _ _
  have hx0 : Holds (H ++ [⟨[.int .i64 p, lv 3 i o bs.length], true, true⟩, ⟨[.int .i64 0, .slice none 0 0], true, true⟩]) H.length [.int .i64 p, lv 3 i o bs.length] := ⟨true, by simp⟩
  have hb0 : (H ++ [(⟨[.int .i64 p, lv 3 i o bs.length], true, true⟩ : Blk), ⟨[.int .i64 0, .slice none 0 0], true, true⟩])[H.length + 1]? = some ⟨[.int .i64 0, .slice none 0 0], true, true⟩ := by simp
  have hbl0 := Bl.nil 3 (H ++ [⟨[.int .i64 p, lv 3 i o bs.length], true, true⟩, ⟨[.int .i64 0, .slice none 0 0], true, true⟩])
  simp only [List.length_append, List.length_cons, List.length_nil, List.append_assoc, List.cons_append, List.nil_append] at hbl0
  have hlen0 : (H ++ [(⟨[.int .i64 p, lv 3 i o bs.length], true, true⟩ : Blk), ⟨[.int .i64 0, .slice none 0 0], true, true⟩]).length = H.length + 2 := by simp
  generalize H ++ [(⟨[.int .i64 p, lv 3 i o bs.length], true, true⟩ : Blk), ⟨[.int .i64 0, .slice none 0 0], true, true⟩] = H0 at hp0 hx0 hb0 hbl0 hlen0
  refine AWp.loopVc (St := Nat × Nat × List Bk) (fun s => [(1, lv 1 j q xs.length), (2, .pointer (some ⟨H.length, 0, none⟩)), (4, .pointer (some ⟨H.length + 1, 0, none⟩)), (5, lv 3 s.2.1 0 s.2.2.length), (6, .int .i64 s.1)])
    (fun s H' => s.1 ≤ bs.length ∧ s.2.2 = onB xs (bs.take s.1) ∧ Bl 3 H0 H' s.2.1 (tri s.2.2) s.2.2.length) (fun s => bs.length - s.1) (0, H.length + 2, []) ?_ ?_ ?_
  · simp [upF, Fr.get, Up.refl, Up.ex0]
  · exact ⟨by simp, by simp [onB], by simpa [tri] using hbl0⟩
  · rintro K ⟨s, id, acc⟩ H' ⟨hs, hacc, hbl⟩ hK
    simp only at hs hacc hbl
    obtain ⟨d0, d1, d2⟩ := (hx0.pre hbl.1).sys
    by_cases hlt : s < bs.length
    · have hbs : bs[s]? = some bs[s] := List.getElem?_eq_getElem hlt
      have c1 := (h1.pre (hp0.trans hbl.1)).bk hbs
      simp only [Bk.cells] at c1
      have hw_s : IntKind.i64.wrap ((s : Int) + 1) = (s : Int) + 1 := i64w (by omega) (by omega)
      have hsn := onB_snoc xs (bs.take s) bs[s]
      rw [← List.take_succ_eq_append_getElem hlt] at hsn
      have hlen : acc.length ≤ s := by rw [hacc]; exact Nat.le_trans (onB_length _ _) (by simp; omega)
      obtain ⟨e0, e1, e2, e3⟩ := (Holds.last H' [.int .i64 bs[s].a, .int .i64 bs[s].b, .int .i64 bs[s].c]).bk
      have hpb : H' <+: H' ++ [⟨[.int .i64 bs[s].a, .int .i64 bs[s].b, .int .i64 bs[s].c], true, true⟩] := List.prefix_append _ _
      have hvb := hvo.pre (hp0.trans (hbl.1.trans hpb))
      have hbl2 := hbl.pre hpb
      simp (maxSteps := 1000000) [go_sem, hlt, d2, c1]
      refine AWp.up (f := [(1, lv 1 j q xs.length), (2, .pointer (some ⟨H.length, 0, none⟩)), (4, .pointer (some ⟨H.length + 1, 0, none⟩)), (5, lv 3 id 0 acc.length), (6, .int .i64 s), (7, .pointer (some ⟨H'.length, 0, none⟩))]) (by simp [upF, Fr.get, Up.refl]) ?_
      refine AWp.draw mixed [(0, false), (1, false), (2, false), (4, false), (5, false), (6, false), (8, false), (9, false), (10, false), (3, true), (7, true), (11, false), (12, false), (13, false), (14, false)] (by kernel_rfl) ?_
      simp (maxSteps := 1000000) [go_sem]
      refine l01Place_ok hvb _ ?_
      simp (maxSteps := 1000000) [go_sem]
      refine l01Place_ok hvb _ ?_
      simp (maxSteps := 1000000) [go_sem]
      refine l01Place_ok hvb _ ?_
      generalize plc xs bs[s].a = pa at *
      generalize plc xs bs[s].b = pb at *
      generalize plc xs bs[s].c = pc at *
      generalize H' ++ [(⟨[.int .i64 bs[s].a, .int .i64 bs[s].b, .int .i64 bs[s].c], true, true⟩ : Blk)] = H2 at *
      have stay : (decide (0 ≤ pa) && (decide (0 ≤ pb) && decide (0 ≤ pc))) = false → ∀ fr, upF H2 [(1, lv 1 j q xs.length), (2, .pointer (some ⟨H.length, 0, none⟩)), (4, .pointer (some ⟨H.length + 1, 0, none⟩)), (5, lv 3 id 0 acc.length), (6, .int .i64 ((s : Int) + 1))] fr → K fr H2 := by
        intro hf fr hfr
        rw [hf] at hsn
        refine hK (s + 1, id, acc) fr H2 (by simp only; omega) (by simpa using hfr) ⟨by simp only; omega, ?_, hbl2⟩
        simp only [hsn, hacc]; simp
      by_cases ha : 0 ≤ pa
      · by_cases hb : 0 ≤ pb
        · by_cases hc : 0 ≤ pc
          · obtain ⟨hsrc, H3, hap, hbl3⟩ := hbl2.push (xs := (⟨pa, pb, pc⟩ : Bk).cells) (by omega) rfl
            simp only [Bk.cells] at hsrc hap hbl3
            simp (maxSteps := 1000000) [go_sem, ha, hb, hc, hsrc, hap, hw_s]
            rw [decide_eq_true ha, decide_eq_true hb, decide_eq_true hc] at hsn
            refine andK_intro (by omega) (hK (s + 1, H2.length + 1, acc ++ [⟨pa, pb, pc⟩]) _ _ (by simp only; omega) (by simp [upF, Fr.get, Up.refl]) ⟨by simp only; omega, by simp only [hsn, hacc]; simp, ?_⟩)
            simp only [List.length_append, List.length_singleton, tri_append, tri_one, Bk.cells]
            exact hbl3
          · simp (maxSteps := 1000000) [go_sem, undef, ha, hb, hc, hw_s]
            exact stay (by simp [hc]) _ (by simp [upF, Fr.get, Up.refl])
        · simp (maxSteps := 1000000) [go_sem, undef, ha, hb, hw_s]
          exact stay (by simp [hb]) _ (by simp [upF, Fr.get, Up.refl])
      · simp (maxSteps := 1000000) [go_sem, undef, ha, hw_s]
        exact stay (by simp [ha]) _ (by simp [upF, Fr.get, Up.refl])
    · have : s = bs.length := by omega
      subst this
      rw [List.take_length] at hacc
      have hal : acc.length ≤ 1048576 := by rw [hacc]; exact Nat.le_trans (onB_length _ _) hl
      simp (maxSteps := 1000000) [go_sem, d2]
      refine l01Made_ok (bs := acc) (OwnBlocks.read (OwnBlocks.of_ol hbl.2.1 (by omega))) hal _ ?_
      intro H1 w hp1 hw
      rw [hacc] at hw
      have hb1 := Same.get (S := fun _ => False) (Same.of_prefix (hbl.1.trans hp1)) hb0 (fun h => h)
      have hlt1 := (List.getElem?_eq_some_iff.1 hb1).1
      have ho := hw.one
      have hst : storeAt H1 (H.length + 1) 0 [.int .i64 xs.length, w] = some (H1.set (H.length + 1) ⟨[.int .i64 xs.length, w], true, true⟩) := by
        rw [storeAt_of hb1 rfl rfl (by simp) (by simp only [List.all_cons, ho]; rfl)]; simp [over]
      have hld : cellsAt (H1.set (H.length + 1) ⟨[.int .i64 xs.length, w], true, true⟩) (H.length + 1) 0 2 = some [.int .i64 xs.length, w] := by
        have := Holds.cells (n := 2) (o := 0) (H := H1.set (H.length + 1) ⟨[.int .i64 xs.length, w], true, true⟩) ⟨true, List.getElem?_set_self hlt1⟩ (by simp)
        rw [this]; rfl
      have hsame : Same (fun j => j = H.length + 1) H1 (H1.set (H.length + 1) ⟨[.int .i64 xs.length, w], true, true⟩) := ⟨by simp, fun j hj hS => List.getElem?_set_ne (fun e => hS e.symm)⟩
      have hle := hbl.1.length_le
      have fin := h (H1.set (H.length + 1) ⟨[.int .i64 xs.length, w], true, true⟩) w (((Same.of_prefix (hp0.trans (hbl.1.trans hp1))).trans hsame).prefix (by intro j hj e; omega))
        (by
          have := (hw.keep hsame (by rintro j ⟨h1, h2⟩ e; omega)).wider (c := H.length) (by omega)
          rwa [List.length_set])
      simp (maxSteps := 1000000) [go_sem, sysV, ho, hst, hld]
      exact fin

end Go.Proofs.Ytkgjdmbmdnmilaa
