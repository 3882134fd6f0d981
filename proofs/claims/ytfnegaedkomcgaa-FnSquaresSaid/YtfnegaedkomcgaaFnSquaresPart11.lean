/- Part 11 of what the proof of the law FnSquares rests on: contracts of functions of the program, for every argument that each names; no statement of the seat is proved here. -/
import Derived.Test.YtfnegaedkomcgaaFnSquaresPart10

section
/- ThreefoldSystem: the tested program's side (printed by genthree.py). -/
set_option linter.all false
set_option maxRecDepth 20000
set_option maxHeartbeats 8000000
namespace Go.Proofs.Ytfnegaedkomcgaa
open Go.Ab Go.Sort

theorem clo_ok {H : Heap} {id n i x : Nat} (hc : cellsAt H id 0 1 = some [.int .i64 n]) (hi : i ≤ 3) (hn : n ≤ 5) (hx : x ≤ 1000) (Post : Value → Heap → Prop) (h : Post (.int .i64 (plcN n i x : Nat)) H) :
    ACalls Try.prog 41 [.int .i64 i, .int .i64 x, .pointer (some ⟨id, 0, none⟩)] H Post := by
  refine acalls_vc (rs := [.tmp 5]) Try.func41 rfl rfl Try.ntmps41 rfl rfl ?_
  have e : (i : Int).tmod 3 = ((i % 3 : Nat) : Int) := by rw [Int.tmod_eq_emod_of_nonneg (by omega)]; omega
  have hb := plcN_le (i := i) hn hx
  have h0 := plcN_le (i := i) (x := 0) (b := 0) hn (by omega)
  obtain ⟨k, hk⟩ : ∃ k, n * (i % 3) = k := ⟨_, rfl⟩
  have w1 : IntKind.i64.wrap ((n : Int) * ((i % 3 : Nat) : Int)) = (k : Int) := by
    rw [← Int.natCast_mul, hk]
    unfold plcN at h0
    exact i64w (by omega) (by omega)
  have w2 : IntKind.i64.wrap ((k : Int) + x) = ((plcN n i x : Nat) : Int) := by
    unfold plcN at hb ⊢
    rw [hk] at hb ⊢
    rw [i64w (by omega) (by omega)]; omega
  simp (maxSteps := 1000000) [go_sem, hc, e, w1, w2, -Int.natCast_emod, -Int.natCast_mul, -Int.natCast_add]
  first
    | exact h
    | (simp only [Int.natCast_emod] at w1; simp (maxSteps := 1000000) [go_sem, w1, w2]; exact h)

theorem threefold_ok {H : Heap} {i o : Nat} {sq : List (List Int)} {idem : Bool} (hu : IntssAt H (lv 1 i o sq.length) sq) (hS : IsSq sq) (Post : Value → Heap → Prop)
    (h : ∀ H' z, H <+: H' → BlocksIn H.length H'.length H' z (sortB (specT sq.length sq idem)) → Post (sysV (ptsN sq.length idem : Nat) z) H') :
    ACalls Try.prog 22 [lv 1 i o sq.length, .bool idem] H Post := by
  have hrow := @sq_row H i o sq hu
  obtain ⟨hin, hr, hcol⟩ := hS
  have hlen : ∀ x, x < sq.length → (rowN sq x).length = sq.length := fun x hx => by have := (hr x hx).1; omega
  have hsq : ∀ x y, x < sq.length → y < sq.length → 0 ≤ atN sq x y ∧ atN sq x y < sq.length := fun x y hx hy => ordL_in (hr x hx) hy
  obtain ⟨n, hn⟩ : ∃ n, sq.length = n := ⟨_, rfl⟩
  rw [hn] at hin hrow h hlen hsq ⊢
  have hn5 : n ≤ 5 := hin.2
  refine acalls_vc (rs := [.cell 4 28]) Try.func22 rfl rfl Try.ntmps22 rfl rfl ?_
  simp (maxSteps := 1000000) [go_sem]
  have hp0 : H <+: H ++ [⟨[.int .i64 0, .slice none 0 0], true, true⟩, ⟨[.int .i64 n], true, true⟩] := List.prefix_append _ _
  have hb0 : (H ++ [(⟨[.int .i64 0, .slice none 0 0], true, true⟩ : Blk), ⟨[.int .i64 n], true, true⟩])[H.length]? = some ⟨[.int .i64 0, .slice none 0 0], true, true⟩ := by simp
  have hx0 : Holds (H ++ [⟨[.int .i64 0, .slice none 0 0], true, true⟩, ⟨[.int .i64 n], true, true⟩]) (H.length + 1) [.int .i64 n] := ⟨true, by simp⟩
  have hlen0 : (H ++ [(⟨[.int .i64 0, .slice none 0 0], true, true⟩ : Blk), ⟨[.int .i64 n], true, true⟩]).length = H.length + 2 := by simp
  generalize H ++ [(⟨[.int .i64 0, .slice none 0 0], true, true⟩ : Blk), ⟨[.int .i64 n], true, true⟩] = H0 at hp0 hb0 hx0 hlen0 ⊢
  have ld : ∀ {H' : Heap}, H0 <+: H' → cellsAt H' (H.length + 1) 0 1 = some [.int .i64 n] := fun hp => (hx0.pre hp).cell (o := 0) rfl
  have l00 := ld (List.prefix_refl H0)
  obtain ⟨V0, hV0⟩ : ∃ V0, 3 * n = V0 := ⟨_, rfl⟩
  obtain ⟨V1, hV1⟩ : ∃ V1, V0 + 1 = V1 := ⟨_, rfl⟩
  have w3n : IntKind.i64.wrap (3 * (n : Int)) = (V0 : Int) := by rw [i64w (by omega) (by omega)]; omega
  have w3n1 : IntKind.i64.wrap ((V0 : Int) + 1) = (V1 : Int) := by rw [i64w (by omega) (by omega)]; omega
  cases idem with
  | true =>
    have hV : ptsN n true = V0 := by simp [ptsN, hV0]
    rw [hV] at h
    refine AWp.draw mixed [(0, false), (1, false), (2, false), (3, false), (4, false)] (by kernel_rfl) ?_
    simp (maxSteps := 1000000) [go_sem, l00, w3n]
    refine AWp.addGhost ?_
    have hblE := Bl.ghost 3 H0
    generalize H0 ++ [(⟨[], false, false⟩ : Blk)] = HG at hblE ⊢
    obtain ⟨accE, haE⟩ : ∃ l : List Bk, l = [] := ⟨_, rfl⟩
    obtain ⟨idE, hidE⟩ : ∃ k, H0.length = k := ⟨_, rfl⟩
    have hblE : Bl 3 H0 HG idE (tri accE) accE.length := by rw [haE, ← hidE]; simpa [tri] using hblE
    have haccE : accE.length ≤ 15 := by rw [haE]; simp
    have hE : implT n sq true = accE ++ (List.range n).map (wB n) ++ (List.range 3).flatMap (pAll n sq) := by rw [haE]; simp [implT, levN]
    refine AWp.loopVc (St := Nat × Nat × List Bk) (fun s => [(0, lv 1 i o n), (4, .pointer (some ⟨H.length, 0, none⟩)), (5, .pointer (some ⟨H.length + 1, 0, none⟩)), (6, .func (.func 41) #[] #[.pointer (some ⟨H.length + 1, 0, none⟩)]), (7, lv 3 s.2.1 0 s.2.2.length), (8, .int .i64 (V0 : Nat)), (55, .int .i64 (n : Nat)), (56, .int .i64 s.1)])
      (fun s H' => s.1 ≤ n ∧ s.2.2 = accE ++ (List.range s.1).map (wB n) ∧ s.2.2.length ≤ 15 + s.1 ∧ Bl 3 H0 H' s.2.1 (tri s.2.2) s.2.2.length) (fun s => n - s.1) (0, idE, accE) ?_ ?_ ?_
    · simp [upF, Fr.get, Up.refl, Up.nil, haE]
    · exact ⟨by simp, by simp, by simpa using haccE, hblE⟩
    · rintro KW ⟨x, id0, acc0⟩ HW ⟨hx, hacc0, hal0, hbl0⟩ hKW
      simp only at hx hacc0 hal0 hbl0
      have ldW := ld hbl0.1
      by_cases hxl : x < n
      · have hxl' : (x : Int) < (n : Nat) := by omega
        have hw_x : IntKind.i64.wrap ((x : Int) + 1) = (x : Int) + 1 := i64w (by omega) (by omega)
        have l0 := plcN_le (i := 0) hn5 (show x ≤ 5 by omega)
        have l1 := plcN_le (i := 1) hn5 (show x ≤ 5 by omega)
        have l2 := plcN_le (i := 2) hn5 (show x ≤ 5 by omega)
        simp (maxSteps := 1000000) [go_sem, hxl, hxl']
        refine clo_ok (i := 0) ldW (by omega) hn5 (by omega) _ ?_
        simp (maxSteps := 1000000) [go_sem]
        refine clo_ok (i := 1) ldW (by omega) hn5 (by omega) _ ?_
        simp (maxSteps := 1000000) [go_sem]
        refine clo_ok (i := 2) ldW (by omega) hn5 (by omega) _ ?_
        simp (maxSteps := 1000000) [go_sem]
        refine blockOf_ok _ ?_
        intro H7 hp7
        have hcB : blk ((plcN n 0 x : Nat) : Int) (plcN n 1 x : Nat) (plcN n 2 x : Nat) = wB n x := rfl
        rw [hcB]
        obtain ⟨c, hc⟩ : ∃ c, wB n x = c := ⟨_, rfl⟩
        rw [hc]
        have hbl4 := hbl0
        obtain ⟨hsrc, H5, hap, hbl5⟩ := (hbl4.pre hp7).push (xs := c.cells) (by omega) rfl
        simp only [Bk.cells] at hsrc hap hbl5
        simp (maxSteps := 1000000) [go_sem, Bk.val, hsrc, hap, hw_x]
        refine andK_intro (by omega) (hKW (x + 1, H7.length + 1, acc0 ++ [c]) _ _ (by simp only; omega) (by simp [upF, Fr.get, Up.refl]) ⟨by simp only; omega, ?_, ?_, ?_⟩)
        · simp only [List.range_succ, List.map_append, hacc0, ← hc]; simp
        · simp only [List.length_append, List.length_singleton]; omega
        · simp only [List.length_append, List.length_singleton, tri_append, tri_one, Bk.cells]
          exact hbl5
      · have hxe : x = n := by omega
        have hxl' : ¬ ((x : Int) < (n : Nat)) := by omega
        rw [hxe] at hacc0
        have hacc0l : acc0.length ≤ 30 := by omega
        simp (maxSteps := 1000000) [go_sem, hxl, hxl']
        have hend : ∀ acc1, acc1 = acc0 ++ (List.range 3).flatMap (pAll n sq) → sortB acc1 = sortB (specT n sq true) := by
          intro acc1 e
          rw [e, hacc0, ← implT_sort, hE]
        refine AWp.loopVc (St := Nat × Nat × List Bk) (fun s => [(0, lv 1 i o n), (4, .pointer (some ⟨H.length, 0, none⟩)), (5, .pointer (some ⟨H.length + 1, 0, none⟩)), (6, .func (.func 41) #[] #[.pointer (some ⟨H.length + 1, 0, none⟩)]), (7, lv 3 s.2.1 0 s.2.2.length), (8, .int .i64 (V0 : Nat)), (73, .int .i64 s.1)])
          (fun s H' => s.1 ≤ 3 ∧ s.2.2 = acc0 ++ (List.range s.1).flatMap (pAll n sq) ∧ s.2.2.length ≤ 30 + s.1 * 60 ∧ Bl 3 H0 H' s.2.1 (tri s.2.2) s.2.2.length) (fun s => 3 - s.1) (0, id0, acc0) ?_ ?_ ?_
        · simp [upF, Fr.get, Up.refl]
        · exact ⟨by simp, by simp, by simpa using hacc0l, hbl0⟩
        · rintro KP ⟨t, id1, acc1⟩ HP ⟨ht, hacc1, hal1, hblP⟩ hKP
          simp only at ht hacc1 hal1 hblP
          have ldP := ld hblP.1
          by_cases ht3 : t < 3
          · have ht3' : (t : Int) < 3 := by omega
            have hw_t : IntKind.i64.wrap ((t : Int) + 1) = (t : Int) + 1 := i64w (by omega) (by omega)
            simp (maxSteps := 1000000) [go_sem, ht3, ht3', ldP]
            refine AWp.loopVc (St := Nat × Nat × List Bk) (fun s => [(0, lv 1 i o n), (4, .pointer (some ⟨H.length, 0, none⟩)), (5, .pointer (some ⟨H.length + 1, 0, none⟩)), (6, .func (.func 41) #[] #[.pointer (some ⟨H.length + 1, 0, none⟩)]), (7, lv 3 s.2.1 0 s.2.2.length), (8, .int .i64 (V0 : Nat)), (13, .int .i64 t), (73, .int .i64 t), (76, .int .i64 n), (77, .int .i64 s.1)])
              (fun s H' => s.1 ≤ n ∧ s.2.2 = acc1 ++ (List.range s.1).flatMap (pRow n sq t) ∧ s.2.2.length ≤ 30 + t * 60 + s.1 * 10 ∧ Bl 3 H0 H' s.2.1 (tri s.2.2) s.2.2.length) (fun s => n - s.1) (0, id1, acc1) ?_ ?_ ?_
            · simp [upF, Fr.get, Up.refl]
            · exact ⟨by simp, by simp, by simpa using hal1, hblP⟩
            · rintro KX ⟨x, id2, acc2⟩ HX ⟨hx, hacc2, hal2, hblX⟩ hKX
              simp only at hx hacc2 hal2 hblX
              by_cases hxn : x < n
              · have hw_x : IntKind.i64.wrap ((x : Int) + 1) = (x : Int) + 1 := i64w (by omega) (by omega)
                simp (maxSteps := 1000000) [go_sem, hxn, hw_x]
                refine AWp.loopVc (St := Nat × Nat × List Bk) (fun s => [(0, lv 1 i o n), (4, .pointer (some ⟨H.length, 0, none⟩)), (5, .pointer (some ⟨H.length + 1, 0, none⟩)), (6, .func (.func 41) #[] #[.pointer (some ⟨H.length + 1, 0, none⟩)]), (7, lv 3 s.2.1 0 s.2.2.length), (8, .int .i64 (V0 : Nat)), (13, .int .i64 t), (14, .int .i64 x), (15, .int .i64 s.1), (73, .int .i64 t), (76, .int .i64 n), (77, .int .i64 x)])
                  (fun s H' => x + 1 ≤ s.1 ∧ s.1 ≤ n ∧ s.2.2 = acc2 ++ (upTo (x + 1) s.1).map (pB n sq t x) ∧ s.2.2.length ≤ 30 + t * 60 + x * 10 + s.1 ∧ Bl 3 H0 H' s.2.1 (tri s.2.2) s.2.2.length) (fun s => n - s.1) (x + 1, id2, acc2) ?_ ?_ ?_
                · simp [upF, Fr.get, Up.refl]
                · exact ⟨by simp, by simp only; omega, by simp [upTo_self], by simp only; omega, hblX⟩
                · rintro KY ⟨y, id3, acc3⟩ HY ⟨hxy, hy, hacc3, hal3, hblY⟩ hKY
                  simp only at hxy hy hacc3 hal3 hblY
                  have ldY := ld hblY.1
                  by_cases hyn : y < n
                  · obtain ⟨ix, ox, cx, hatx⟩ := hrow hxn (hp0.trans hblY.1)
                    rw [hlen x hxn] at cx
                    have lxy := sq_at hatx (y := y) (by rw [hlen x hxn]; exact hyn)
                    have hw_y : IntKind.i64.wrap ((y : Int) + 1) = (y : Int) + 1 := i64w (by omega) (by omega)
                    have lt1 := plcN_le (i := t) hn5 (show x ≤ 5 by omega)
                    have lt2 := plcN_le (i := t) hn5 (show y ≤ 5 by omega)
                    have hsx := hsq x y hxn hyn
                    obtain ⟨e, he⟩ : ∃ e : Nat, atN sq x y = e := ⟨(atN sq x y).toNat, by omega⟩
                    rw [he] at lxy hsx
                    simp (maxSteps := 1000000) [go_sem, hyn, hxn, ldY]
                    refine AWp.draw mixed [(0, false), (1, false), (2, false), (3, false), (5, false), (6, false), (7, false), (9, false), (10, false), (11, false), (12, false), (13, false), (14, false), (15, false), (16, false), (17, false), (18, false), (4, true), (8, true), (19, false), (20, false), (21, false), (22, false), (23, false)] (by kernel_rfl) ?_
                    simp (maxSteps := 1000000) [go_sem, hyn, hxn, hw_t, cx, lxy]
                    refine clo_ok ldY (by omega) hn5 (by omega) _ ?_
                    simp (maxSteps := 1000000) [go_sem, hyn, hxn, hw_t, cx, lxy]
                    refine clo_ok ldY (by omega) hn5 (by omega) _ ?_
                    simp (maxSteps := 1000000) [go_sem, hyn, hxn, hw_t, cx, lxy]
                    rw [show ((t : Int) + 1) = ((t + 1 : Nat) : Int) by omega]
                    refine clo_ok ldY (by omega) hn5 (by omega) _ ?_
                    simp (maxSteps := 1000000) [go_sem, hyn, hxn, hw_t, cx, lxy]
                    refine blockOf_ok _ ?_
                    intro H7 hp7
                    have hcB : blk ((plcN n t x : Nat) : Int) (plcN n t y : Nat) (plcN n (t + 1) e : Nat) = pB n sq t x y := by
                      rw [pB, he]
                      congr 1 <;> (simp only [plcN]; omega)
                    rw [hcB]
                    obtain ⟨c, hc⟩ : ∃ c, pB n sq t x y = c := ⟨_, rfl⟩
                    rw [hc]
                    have hbl4 := hblY
                    obtain ⟨hsrc, H5, hap, hbl5⟩ := (hbl4.pre hp7).push (xs := c.cells) (by omega) rfl
                    simp only [Bk.cells] at hsrc hap hbl5
                    simp (maxSteps := 1000000) [go_sem, Bk.val, hsrc, hap, hw_y]
                    refine andK_intro (by omega) (hKY (y + 1, H7.length + 1, acc3 ++ [c]) _ _ (by simp only; omega) (by simp [upF, Fr.get, Up.refl]) ⟨by simp only; omega, by simp only; omega, ?_, ?_, ?_⟩)
                    · simp only [upTo_succ hxy, List.map_append, hacc3, ← hc]; simp
                    · simp only [List.length_append, List.length_singleton]; omega
                    · simp only [List.length_append, List.length_singleton, tri_append, tri_one, Bk.cells]
                      exact hbl5
                  · have : y = n := by omega
                    subst this
                    simp (maxSteps := 1000000) [go_sem, hyn, ldY, hw_x]
                    refine hKX (x + 1, id3, acc3) _ _ (by simp only; omega) (by simp [upF, Fr.get, Up.refl]) ⟨by simp only; omega, ?_, by simp only; omega, hblY⟩
                    simp only [List.range_succ, List.flatMap_append, hacc3, hacc2]; simp [pRow]
              · have : x = n := by omega
                subst this
                simp (maxSteps := 1000000) [go_sem, hxn, hw_t]
                refine hKP (t + 1, id2, acc2) _ _ (by simp only; omega) (by simp [upF, Fr.get, Up.refl]) ⟨by simp only; omega, ?_, by simp only; omega, hblX⟩
                simp only [List.range_succ, List.flatMap_append, hacc2, hacc1]; simp [pAll]
          · have : t = 3 := by omega
            subst this
            have hown : BlocksIn H0.length HP.length HP (lv 3 id1 0 acc1.length) acc1 := OwnBlocks.inn (OwnBlocks.of_ol hblP.2.1 (by omega)) hblP.2.2
            simp (maxSteps := 1000000) [go_sem]
            refine implSystem_ok hown.read (by omega) _ ?_
            intro H6 z hp6 hz
            obtain ⟨q1, q2, q3, q4⟩ := put2 (cs := [.int .i64 ((V0 : Nat) : Int), z]) hp0 (Nat.le_refl _) hb0 rfl (hblP.1.trans hp6) rfl (by simp [one_int, hz.one])
            have hll := hblP.1.length_le
            have fin := h _ z q3 (by rw [List.length_set, ← hend acc1 hacc1]; exact (hz.keep q4 (fun j hj e => by have := hj.1; omega)).wider (by omega))
            simp (maxSteps := 1000000) [go_sem, sysV, q1, q2]
            exact fin
  | false =>
    have hV : ptsN n false = V1 := by simp [ptsN, hV0, hV1]
    rw [hV] at h
    obtain ⟨lev, hlev⟩ : ∃ lev, n / 2 = lev := ⟨_, rfl⟩
    have w2 : IntKind.i64.wrap ((n : Int) / 2) = (lev : Int) := by rw [i64w (by omega) (by omega)]; omega
    refine AWp.draw mixed [(0, false), (1, false), (2, false), (3, false), (4, false)] (by kernel_rfl) ?_
    simp (maxSteps := 1000000) [go_sem, l00, w3n]
    refine AWp.draw mixed [(0, false), (1, false), (2, false), (3, false), (4, false), (5, false), (6, false)] (by kernel_rfl) ?_
    simp (maxSteps := 1000000) [go_sem, l00, w3n, w3n1, w2]
    refine AWp.addGhost ?_
    have hblG := Bl.ghost 3 H0
    generalize H0 ++ [(⟨[], false, false⟩ : Blk)] = HG at hblG ⊢
    refine AWp.loopVc (St := Nat × Nat × List Bk) (fun s => [(0, lv 1 i o n), (4, .pointer (some ⟨H.length, 0, none⟩)), (5, .pointer (some ⟨H.length + 1, 0, none⟩)), (6, .func (.func 41) #[] #[.pointer (some ⟨H.length + 1, 0, none⟩)]), (7, lv 3 s.2.1 0 s.2.2.length), (8, .int .i64 V1), (9, .int .i64 lev), (29, .int .i64 lev), (30, .int .i64 s.1)])
      (fun s H' => s.1 ≤ lev ∧ s.2.2 = (List.range s.1).flatMap (eRow n lev) ∧ s.2.2.length = s.1 * 3 ∧ Bl 3 H0 H' s.2.1 (tri s.2.2) s.2.2.length) (fun s => lev - s.1) (0, H0.length, []) ?_ ?_ ?_
    · simp [upF, Fr.get, Up.refl, Up.nil]
    · exact ⟨by simp, by simp, by simp, by simpa [tri] using hblG⟩
    · rintro KE ⟨x, idE, accE⟩ HE ⟨hx, haE, halE, hblE⟩ hKE
      simp only at hx haE halE hblE
      by_cases hxl : x < lev
      · have hw_x : IntKind.i64.wrap ((x : Int) + 1) = (x : Int) + 1 := i64w (by omega) (by omega)
        simp (maxSteps := 1000000) [go_sem, hxl]
        refine AWp.loopVc (St := Nat × Nat × List Bk) (fun s => [(0, lv 1 i o n), (4, .pointer (some ⟨H.length, 0, none⟩)), (5, .pointer (some ⟨H.length + 1, 0, none⟩)), (6, .func (.func 41) #[] #[.pointer (some ⟨H.length + 1, 0, none⟩)]), (7, lv 3 s.2.1 0 s.2.2.length), (8, .int .i64 V1), (9, .int .i64 lev), (10, .int .i64 x), (29, .int .i64 lev), (30, .int .i64 x), (33, .int .i64 s.1)])
          (fun s H' => s.1 ≤ 3 ∧ s.2.2 = accE ++ (List.range s.1).map (eB n lev x) ∧ s.2.2.length = x * 3 + s.1 ∧ Bl 3 H0 H' s.2.1 (tri s.2.2) s.2.2.length) (fun s => 3 - s.1) (0, idE, accE) ?_ ?_ ?_
        · simp [upF, Fr.get, Up.refl]
        · exact ⟨by simp, by simp, by simpa using halE, hblE⟩
        · rintro KF ⟨t, idF, accF⟩ HF ⟨ht, haF, halF, hblF⟩ hKF
          simp only at ht haF halF hblF
          have ldF := ld hblF.1
          by_cases ht3 : t < 3
          · have ht3' : (t : Int) < 3 := by omega
            have hw_t : IntKind.i64.wrap ((t : Int) + 1) = (t : Int) + 1 := i64w (by omega) (by omega)
            have wlx : IntKind.i64.wrap ((lev : Int) + x) = ((lev + x : Nat) : Int) := by rw [i64w (by omega) (by omega)]; omega
            have l0 := plcN_le (i := t) hn5 (show lev + x ≤ 5 by omega)
            have l1 := plcN_le (i := t + 1) hn5 (show x ≤ 5 by omega)
            simp (maxSteps := 1000000) [go_sem, ht3, ht3']
            refine AWp.draw mixed [(0, false), (1, false), (2, false), (3, false), (4, false), (5, false), (6, false), (7, false), (9, false), (10, false), (11, false), (12, false), (8, true), (13, true), (14, false), (15, false), (16, false), (17, false)] (by kernel_rfl) ?_
            rw [show ((lev + x : Nat) : Int) = (lev : Int) + x by omega] at wlx
            simp (maxSteps := 1000000) [go_sem, ldF, w3n, hw_t, wlx]
            rw [show ((lev : Int) + x) = ((lev + x : Nat) : Int) by omega]
            refine clo_ok ldF (by omega) hn5 (by omega) _ ?_
            simp (maxSteps := 1000000) [go_sem, ldF, w3n, hw_t, wlx]
            rw [show ((t : Int) + 1) = ((t + 1 : Nat) : Int) by omega]
            refine clo_ok ldF (by omega) hn5 (by omega) _ ?_
            simp (maxSteps := 1000000) [go_sem, ldF, w3n, hw_t, wlx]
            refine blockOf_ok _ ?_
            intro H7 hp7
            have hcB : blk ((V0 : Nat) : Int) (plcN n t (lev + x) : Nat) (plcN n (t + 1) x : Nat) = eB n lev x t := by rw [eB, hV0]
            rw [hcB]
            obtain ⟨c, hc⟩ : ∃ c, eB n lev x t = c := ⟨_, rfl⟩
            rw [hc]
            have hbl4 := hblF
            obtain ⟨hsrc, H5, hap, hbl5⟩ := (hbl4.pre hp7).push (xs := c.cells) (by omega) rfl
            simp only [Bk.cells] at hsrc hap hbl5
            simp (maxSteps := 1000000) [go_sem, Bk.val, hsrc, hap, hw_t]
            refine andK_intro (by omega) (hKF (t + 1, H7.length + 1, accF ++ [c]) _ _ (by simp only; omega) (by simp [upF, Fr.get, Up.refl]) ⟨by simp only; omega, ?_, ?_, ?_⟩)
            · simp only [List.range_succ, List.map_append, haF, ← hc]; simp
            · simp only [List.length_append, List.length_singleton]; omega
            · simp only [List.length_append, List.length_singleton, tri_append, tri_one, Bk.cells]
              exact hbl5
          · have : t = 3 := by omega
            subst this
            simp (maxSteps := 1000000) [go_sem, hw_x]
            refine hKE (x + 1, idF, accF) _ _ (by simp only; omega) (by simp [upF, Fr.get, Up.refl]) ⟨by simp only; omega, ?_, by simp only; omega, hblF⟩
            simp only [List.range_succ, List.flatMap_append, haF, haE]; simp [eRow]; rfl
      · obtain rfl : lev = x := by omega
        have haccE : accE.length ≤ 15 := by omega
        have hE : implT n sq false = accE ++ (List.range lev).map (wB n) ++ (List.range 3).flatMap (pAll n sq) := by rw [haE]; simp [implT, levN, hlev]
        simp (maxSteps := 1000000) [go_sem]
        refine AWp.loopVc (St := Nat × Nat × List Bk) (fun s => [(0, lv 1 i o n), (4, .pointer (some ⟨H.length, 0, none⟩)), (5, .pointer (some ⟨H.length + 1, 0, none⟩)), (6, .func (.func 41) #[] #[.pointer (some ⟨H.length + 1, 0, none⟩)]), (7, lv 3 s.2.1 0 s.2.2.length), (8, .int .i64 (V1 : Nat)), (55, .int .i64 (lev : Nat)), (56, .int .i64 s.1)])
          (fun s H' => s.1 ≤ lev ∧ s.2.2 = accE ++ (List.range s.1).map (wB n) ∧ s.2.2.length ≤ 15 + s.1 ∧ Bl 3 H0 H' s.2.1 (tri s.2.2) s.2.2.length) (fun s => lev - s.1) (0, idE, accE) ?_ ?_ ?_
        · simp [upF, Fr.get, Up.refl]
        · exact ⟨by simp, by simp, by simpa using haccE, hblE⟩
        · rintro KW ⟨x, id0, acc0⟩ HW ⟨hx, hacc0, hal0, hbl0⟩ hKW
          simp only at hx hacc0 hal0 hbl0
          have ldW := ld hbl0.1
          by_cases hxl : x < lev
          · have hxl' : (x : Int) < (lev : Nat) := by omega
            have hw_x : IntKind.i64.wrap ((x : Int) + 1) = (x : Int) + 1 := i64w (by omega) (by omega)
            have l0 := plcN_le (i := 0) hn5 (show x ≤ 5 by omega)
            have l1 := plcN_le (i := 1) hn5 (show x ≤ 5 by omega)
            have l2 := plcN_le (i := 2) hn5 (show x ≤ 5 by omega)
            simp (maxSteps := 1000000) [go_sem, hxl, hxl']
            refine clo_ok (i := 0) ldW (by omega) hn5 (by omega) _ ?_
            simp (maxSteps := 1000000) [go_sem]
            refine clo_ok (i := 1) ldW (by omega) hn5 (by omega) _ ?_
            simp (maxSteps := 1000000) [go_sem]
            refine clo_ok (i := 2) ldW (by omega) hn5 (by omega) _ ?_
            simp (maxSteps := 1000000) [go_sem]
            refine blockOf_ok _ ?_
            intro H7 hp7
            have hcB : blk ((plcN n 0 x : Nat) : Int) (plcN n 1 x : Nat) (plcN n 2 x : Nat) = wB n x := rfl
            rw [hcB]
            obtain ⟨c, hc⟩ : ∃ c, wB n x = c := ⟨_, rfl⟩
            rw [hc]
            have hbl4 := hbl0
            obtain ⟨hsrc, H5, hap, hbl5⟩ := (hbl4.pre hp7).push (xs := c.cells) (by omega) rfl
            simp only [Bk.cells] at hsrc hap hbl5
            simp (maxSteps := 1000000) [go_sem, Bk.val, hsrc, hap, hw_x]
            refine andK_intro (by omega) (hKW (x + 1, H7.length + 1, acc0 ++ [c]) _ _ (by simp only; omega) (by simp [upF, Fr.get, Up.refl]) ⟨by simp only; omega, ?_, ?_, ?_⟩)
            · simp only [List.range_succ, List.map_append, hacc0, ← hc]; simp
            · simp only [List.length_append, List.length_singleton]; omega
            · simp only [List.length_append, List.length_singleton, tri_append, tri_one, Bk.cells]
              exact hbl5
          · have hxe : x = lev := by omega
            have hxl' : ¬ ((x : Int) < (lev : Nat)) := by omega
            rw [hxe] at hacc0
            have hacc0l : acc0.length ≤ 30 := by omega
            simp (maxSteps := 1000000) [go_sem, hxl, hxl']
            have hend : ∀ acc1, acc1 = acc0 ++ (List.range 3).flatMap (pAll n sq) → sortB acc1 = sortB (specT n sq false) := by
              intro acc1 e
              rw [e, hacc0, ← implT_sort, hE]
            refine AWp.loopVc (St := Nat × Nat × List Bk) (fun s => [(0, lv 1 i o n), (4, .pointer (some ⟨H.length, 0, none⟩)), (5, .pointer (some ⟨H.length + 1, 0, none⟩)), (6, .func (.func 41) #[] #[.pointer (some ⟨H.length + 1, 0, none⟩)]), (7, lv 3 s.2.1 0 s.2.2.length), (8, .int .i64 (V1 : Nat)), (73, .int .i64 s.1)])
              (fun s H' => s.1 ≤ 3 ∧ s.2.2 = acc0 ++ (List.range s.1).flatMap (pAll n sq) ∧ s.2.2.length ≤ 30 + s.1 * 60 ∧ Bl 3 H0 H' s.2.1 (tri s.2.2) s.2.2.length) (fun s => 3 - s.1) (0, id0, acc0) ?_ ?_ ?_
            · simp [upF, Fr.get, Up.refl]
            · exact ⟨by simp, by simp, by simpa using hacc0l, hbl0⟩
            · rintro KP ⟨t, id1, acc1⟩ HP ⟨ht, hacc1, hal1, hblP⟩ hKP
              simp only at ht hacc1 hal1 hblP
              have ldP := ld hblP.1
              by_cases ht3 : t < 3
              · have ht3' : (t : Int) < 3 := by omega
                have hw_t : IntKind.i64.wrap ((t : Int) + 1) = (t : Int) + 1 := i64w (by omega) (by omega)
                simp (maxSteps := 1000000) [go_sem, ht3, ht3', ldP]
                refine AWp.loopVc (St := Nat × Nat × List Bk) (fun s => [(0, lv 1 i o n), (4, .pointer (some ⟨H.length, 0, none⟩)), (5, .pointer (some ⟨H.length + 1, 0, none⟩)), (6, .func (.func 41) #[] #[.pointer (some ⟨H.length + 1, 0, none⟩)]), (7, lv 3 s.2.1 0 s.2.2.length), (8, .int .i64 (V1 : Nat)), (13, .int .i64 t), (73, .int .i64 t), (76, .int .i64 n), (77, .int .i64 s.1)])
                  (fun s H' => s.1 ≤ n ∧ s.2.2 = acc1 ++ (List.range s.1).flatMap (pRow n sq t) ∧ s.2.2.length ≤ 30 + t * 60 + s.1 * 10 ∧ Bl 3 H0 H' s.2.1 (tri s.2.2) s.2.2.length) (fun s => n - s.1) (0, id1, acc1) ?_ ?_ ?_
                · simp [upF, Fr.get, Up.refl]
                · exact ⟨by simp, by simp, by simpa using hal1, hblP⟩
                · rintro KX ⟨x, id2, acc2⟩ HX ⟨hx, hacc2, hal2, hblX⟩ hKX
                  simp only at hx hacc2 hal2 hblX
                  by_cases hxn : x < n
                  · have hw_x : IntKind.i64.wrap ((x : Int) + 1) = (x : Int) + 1 := i64w (by omega) (by omega)
                    simp (maxSteps := 1000000) [go_sem, hxn, hw_x]
                    refine AWp.loopVc (St := Nat × Nat × List Bk) (fun s => [(0, lv 1 i o n), (4, .pointer (some ⟨H.length, 0, none⟩)), (5, .pointer (some ⟨H.length + 1, 0, none⟩)), (6, .func (.func 41) #[] #[.pointer (some ⟨H.length + 1, 0, none⟩)]), (7, lv 3 s.2.1 0 s.2.2.length), (8, .int .i64 (V1 : Nat)), (13, .int .i64 t), (14, .int .i64 x), (15, .int .i64 s.1), (73, .int .i64 t), (76, .int .i64 n), (77, .int .i64 x)])
                      (fun s H' => x + 1 ≤ s.1 ∧ s.1 ≤ n ∧ s.2.2 = acc2 ++ (upTo (x + 1) s.1).map (pB n sq t x) ∧ s.2.2.length ≤ 30 + t * 60 + x * 10 + s.1 ∧ Bl 3 H0 H' s.2.1 (tri s.2.2) s.2.2.length) (fun s => n - s.1) (x + 1, id2, acc2) ?_ ?_ ?_
                    · simp [upF, Fr.get, Up.refl]
                    · exact ⟨by simp, by simp only; omega, by simp [upTo_self], by simp only; omega, hblX⟩
                    · rintro KY ⟨y, id3, acc3⟩ HY ⟨hxy, hy, hacc3, hal3, hblY⟩ hKY
                      simp only at hxy hy hacc3 hal3 hblY
                      have ldY := ld hblY.1
                      by_cases hyn : y < n
                      · obtain ⟨ix, ox, cx, hatx⟩ := hrow hxn (hp0.trans hblY.1)
                        rw [hlen x hxn] at cx
                        have lxy := sq_at hatx (y := y) (by rw [hlen x hxn]; exact hyn)
                        have hw_y : IntKind.i64.wrap ((y : Int) + 1) = (y : Int) + 1 := i64w (by omega) (by omega)
                        have lt1 := plcN_le (i := t) hn5 (show x ≤ 5 by omega)
                        have lt2 := plcN_le (i := t) hn5 (show y ≤ 5 by omega)
                        have hsx := hsq x y hxn hyn
                        obtain ⟨e, he⟩ : ∃ e : Nat, atN sq x y = e := ⟨(atN sq x y).toNat, by omega⟩
                        rw [he] at lxy hsx
                        simp (maxSteps := 1000000) [go_sem, hyn, hxn, ldY]
                        refine AWp.draw mixed [(0, false), (1, false), (2, false), (3, false), (5, false), (6, false), (7, false), (9, false), (10, false), (11, false), (12, false), (13, false), (14, false), (15, false), (16, false), (17, false), (18, false), (4, true), (8, true), (19, false), (20, false), (21, false), (22, false), (23, false)] (by kernel_rfl) ?_
                        simp (maxSteps := 1000000) [go_sem, hyn, hxn, hw_t, cx, lxy]
                        refine clo_ok ldY (by omega) hn5 (by omega) _ ?_
                        simp (maxSteps := 1000000) [go_sem, hyn, hxn, hw_t, cx, lxy]
                        refine clo_ok ldY (by omega) hn5 (by omega) _ ?_
                        simp (maxSteps := 1000000) [go_sem, hyn, hxn, hw_t, cx, lxy]
                        rw [show ((t : Int) + 1) = ((t + 1 : Nat) : Int) by omega]
                        refine clo_ok ldY (by omega) hn5 (by omega) _ ?_
                        simp (maxSteps := 1000000) [go_sem, hyn, hxn, hw_t, cx, lxy]
                        refine blockOf_ok _ ?_
                        intro H7 hp7
                        have hcB : blk ((plcN n t x : Nat) : Int) (plcN n t y : Nat) (plcN n (t + 1) e : Nat) = pB n sq t x y := by
                          rw [pB, he]
                          congr 1 <;> (simp only [plcN]; omega)
                        rw [hcB]
                        obtain ⟨c, hc⟩ : ∃ c, pB n sq t x y = c := ⟨_, rfl⟩
                        rw [hc]
                        have hbl4 := hblY
                        obtain ⟨hsrc, H5, hap, hbl5⟩ := (hbl4.pre hp7).push (xs := c.cells) (by omega) rfl
                        simp only [Bk.cells] at hsrc hap hbl5
                        simp (maxSteps := 1000000) [go_sem, Bk.val, hsrc, hap, hw_y]
                        refine andK_intro (by omega) (hKY (y + 1, H7.length + 1, acc3 ++ [c]) _ _ (by simp only; omega) (by simp [upF, Fr.get, Up.refl]) ⟨by simp only; omega, by simp only; omega, ?_, ?_, ?_⟩)
                        · simp only [upTo_succ hxy, List.map_append, hacc3, ← hc]; simp
                        · simp only [List.length_append, List.length_singleton]; omega
                        · simp only [List.length_append, List.length_singleton, tri_append, tri_one, Bk.cells]
                          exact hbl5
                      · have : y = n := by omega
                        subst this
                        simp (maxSteps := 1000000) [go_sem, hyn, ldY, hw_x]
                        refine hKX (x + 1, id3, acc3) _ _ (by simp only; omega) (by simp [upF, Fr.get, Up.refl]) ⟨by simp only; omega, ?_, by simp only; omega, hblY⟩
                        simp only [List.range_succ, List.flatMap_append, hacc3, hacc2]; simp [pRow]
                  · have : x = n := by omega
                    subst this
                    simp (maxSteps := 1000000) [go_sem, hxn, hw_t]
                    refine hKP (t + 1, id2, acc2) _ _ (by simp only; omega) (by simp [upF, Fr.get, Up.refl]) ⟨by simp only; omega, ?_, by simp only; omega, hblX⟩
                    simp only [List.range_succ, List.flatMap_append, hacc2, hacc1]; simp [pAll]
              · have : t = 3 := by omega
                subst this
                have hown : BlocksIn H0.length HP.length HP (lv 3 id1 0 acc1.length) acc1 := OwnBlocks.inn (OwnBlocks.of_ol hblP.2.1 (by omega)) hblP.2.2
                simp (maxSteps := 1000000) [go_sem]
                refine implSystem_ok hown.read (by omega) _ ?_
                intro H6 z hp6 hz
                obtain ⟨q1, q2, q3, q4⟩ := put2 (cs := [.int .i64 ((V1 : Nat) : Int), z]) hp0 (Nat.le_refl _) hb0 rfl (hblP.1.trans hp6) rfl (by simp [one_int, hz.one])
                have hll := hblP.1.length_le
                have fin := h _ z q3 (by rw [List.length_set, ← hend acc1 hacc1]; exact (hz.keep q4 (fun j hj e => by have := hj.1; omega)).wider (by omega))
                simp (maxSteps := 1000000) [go_sem, sysV, q1, q2]
                exact fin

end Go.Proofs.Ytfnegaedkomcgaa
end

section
/- ThreefoldSystem: both sides (printed by genthree2.py). -/
set_option linter.all false
set_option maxRecDepth 20000
set_option maxHeartbeats 8000000
namespace Go.Proofs.Ytfnegaedkomcgaa
open Go.Ab Go.Sort

theorem implThree_ok {H : Heap} {u : Value} {sq : List (List Int)} (hu : IntssAt H u sq) (hl : sq.length + sq.flatten.length ≤ 1048576) (h64 : ∀ xs ∈ sq, ∀ x ∈ xs, In64 x) (Post : Value → Heap → Prop)
    (h : ∀ H' z, H <+: H' → BlocksIn H.length H'.length H' z (rThree sq).1.2 → Post (.tuple #[sysV (rThree sq).1.1 z, .int .i64 (rThree sq).2]) H') :
    ACalls Try.prog 6 [u] H Post := by
  obtain ⟨i, o, rfl⟩ : ∃ i o, u = lv 1 i o sq.length := by obtain ⟨i, o, _, e, _⟩ := hu; exact ⟨i, o, e⟩
  refine ACalls.res ?_
  refine acalls_vc (rs := [.cell 2 28, .tmp 3]) Try.func6 rfl rfl Try.ntmps6 rfl rfl ?_
  simp (maxSteps := 1000000) [go_sem]
  have hp0 : H <+: H ++ [⟨[.int .i64 0, .slice none 0 0], true, true⟩] := List.prefix_append _ _
  have hb0 : (H ++ [(⟨[.int .i64 0, .slice none 0 0], true, true⟩ : Blk)])[H.length]? = some ⟨[.int .i64 0, .slice none 0 0], true, true⟩ := by simp
  have hlen0 : (H ++ [(⟨[.int .i64 0, .slice none 0 0], true, true⟩ : Blk)]).length = H.length + 1 := by simp
  generalize H ++ [(⟨[.int .i64 0, .slice none 0 0], true, true⟩ : Blk)] = H0 at hp0 hb0 hlen0 ⊢
  have bad := bad_sys hp0 (Nat.le_refl _) hb0 h
  refine implIsSquare_ok (hu.pre hp0) hl h64 _ ?_
  intro H1 hp1
  cases hs : sqB sq with
  | false =>
    obtain ⟨H9, q1, q2, fin⟩ := bad H1 2 hp1 (by rw [rThree, hs]; rfl)
    simp (maxSteps := 1000000) [go_sem, q1, q2]
    exact fin
  | true =>
    have hS := sqB_iff.1 hs
    simp (maxSteps := 1000000) [go_sem]
    refine implKinds_ok (hu.pre (hp0.trans hp1)) hS _ ?_
    have hr5 : (commP sq.length sq sq.length && (idemP sq sq.length || halfP sq.length sq sq.length)) = false → rThree sq = ((0, []), 5) := fun e => by rw [rThree, hs, e]; rfl
    have hr0 : (commP sq.length sq sq.length && (idemP sq sq.length || halfP sq.length sq sq.length)) = true → rThree sq = ((((ptsN sq.length (idemP sq sq.length) : Nat) : Int), sortB (specT sq.length sq (idemP sq sq.length))), 0) := fun e => by rw [rThree, hs, e]; rfl
    generalize commP sq.length sq sq.length = a at *
    generalize idemP sq sq.length = idem at *
    generalize halfP sq.length sq sq.length = c at *
    cases a with
    | false =>
      obtain ⟨H9, q1, q2, fin⟩ := bad H1 5 hp1 (hr5 rfl)
      simp (maxSteps := 1000000) [go_sem, undef, q1, q2]
      exact fin
    | true =>
      cases idem with
      | true =>
        have hr := hr0 rfl
        rw [hr] at h
        simp (maxSteps := 1000000) [go_sem, undef]
        refine threefold_ok (idem := true) (hu.pre (hp0.trans hp1)) hS _ ?_
        intro H3 z hp3 hz
        obtain ⟨q1, q2, q3, q4⟩ := put2 (cs := [.int .i64 ((ptsN sq.length true : Nat) : Int), z]) hp0 (Nat.le_refl _) hb0 rfl (hp1.trans hp3) rfl (by simp [one_int, hz.one])
        have hll := hp1.length_le
        have fin := h _ z q3 (by rw [List.length_set]; exact (hz.keep q4 (fun j hj e => by have := hj.1; omega)).wider (by omega))
        simp (maxSteps := 1000000) [go_sem, sysV, q1, q2]
        exact ⟨_, Up.refl _ _, fin⟩
      | false =>
        cases c with
        | false =>
          obtain ⟨H9, q1, q2, fin⟩ := bad H1 5 hp1 (hr5 rfl)
          simp (maxSteps := 1000000) [go_sem, q1, q2]
          exact fin
        | true =>
          have hr := hr0 rfl
          rw [hr] at h
          simp (maxSteps := 1000000) [go_sem]
          refine threefold_ok (idem := false) (hu.pre (hp0.trans hp1)) hS _ ?_
          intro H3 z hp3 hz
          obtain ⟨q1, q2, q3, q4⟩ := put2 (cs := [.int .i64 ((ptsN sq.length false : Nat) : Int), z]) hp0 (Nat.le_refl _) hb0 rfl (hp1.trans hp3) rfl (by simp [one_int, hz.one])
          have hll := hp1.length_le
          have fin := h _ z q3 (by rw [List.length_set]; exact (hz.keep q4 (fun j hj e => by have := hj.1; omega)).wider (by omega))
          simp (maxSteps := 1000000) [go_sem, sysV, q1, q2]
          exact ⟨_, Up.refl _ _, fin⟩

theorem specThree_ok {H : Heap} {u : Value} {sq : List (List Int)} (hu : IntssAt H u sq) (hl : sq.length + sq.flatten.length ≤ 1048576) (h64 : ∀ xs ∈ sq, ∀ x ∈ xs, In64 x) (Post : Value → Heap → Prop)
    (h : ∀ H' z, H <+: H' → BlocksIn H.length H'.length H' z (rThree sq).1.2 → Post (.tuple #[sysV (rThree sq).1.1 z, .int .i64 (rThree sq).2]) H') :
    ACalls Try.prog 7 [u] H Post := by
  obtain ⟨i, o, rfl⟩ : ∃ i o, u = lv 1 i o sq.length := by obtain ⟨i, o, _, e, _⟩ := hu; exact ⟨i, o, e⟩
  refine ACalls.res ?_
  refine acalls_vc (rs := [.cell 2 28, .tmp 3]) Try.func7 rfl rfl Try.ntmps7 rfl rfl ?_
  simp (maxSteps := 1000000) [go_sem]
  have hp0 : H <+: H ++ [⟨[.int .i64 0, .slice none 0 0], true, true⟩] := List.prefix_append _ _
  have hb0 : (H ++ [(⟨[.int .i64 0, .slice none 0 0], true, true⟩ : Blk)])[H.length]? = some ⟨[.int .i64 0, .slice none 0 0], true, true⟩ := by simp
  have hlen0 : (H ++ [(⟨[.int .i64 0, .slice none 0 0], true, true⟩ : Blk)]).length = H.length + 1 := by simp
  generalize H ++ [(⟨[.int .i64 0, .slice none 0 0], true, true⟩ : Blk)] = H0 at hp0 hb0 hlen0 ⊢
  have bad := bad_sys hp0 (Nat.le_refl _) hb0 h
  refine l02Square_ok (hu.pre hp0) hl _ ?_
  intro H1 hp1
  cases hs : sqB sq with
  | false =>
    obtain ⟨H9, q1, q2, fin⟩ := bad H1 2 hp1 (by rw [rThree, hs]; rfl)
    simp (maxSteps := 1000000) [go_sem, q1, q2]
    exact fin
  | true =>
    have hS := sqB_iff.1 hs
    simp (maxSteps := 1000000) [go_sem]
    refine specKinds_ok (hu.pre (hp0.trans hp1)) hS _ ?_
    have hr5 : (commP sq.length sq sq.length && (idemP sq sq.length || halfP sq.length sq sq.length)) = false → rThree sq = ((0, []), 5) := fun e => by rw [rThree, hs, e]; rfl
    have hr0 : (commP sq.length sq sq.length && (idemP sq sq.length || halfP sq.length sq sq.length)) = true → rThree sq = ((((ptsN sq.length (idemP sq sq.length) : Nat) : Int), sortB (specT sq.length sq (idemP sq sq.length))), 0) := fun e => by rw [rThree, hs, e]; rfl
    generalize commP sq.length sq sq.length = a at *
    generalize idemP sq sq.length = idem at *
    generalize halfP sq.length sq sq.length = c at *
    cases a with
    | false =>
      obtain ⟨H9, q1, q2, fin⟩ := bad H1 5 hp1 (hr5 rfl)
      simp (maxSteps := 1000000) [go_sem, undef, q1, q2]
      exact fin
    | true =>
      cases idem with
      | true =>
        have hr := hr0 rfl
        rw [hr] at h
        simp (maxSteps := 1000000) [go_sem, undef]
        have hrow := @sq_row H i o sq hu
        obtain ⟨hin, hr, hcol⟩ := hS
        have hlen : ∀ x, x < sq.length → (rowN sq x).length = sq.length := fun x hx => by have := (hr x hx).1; omega
        have hsq : ∀ x y, x < sq.length → y < sq.length → 0 ≤ atN sq x y ∧ atN sq x y < sq.length := fun x y hx hy => ordL_in (hr x hx) hy
        obtain ⟨n, hn⟩ : ∃ n, sq.length = n := ⟨_, rfl⟩
        rw [hn] at hin hrow h hlen hsq ⊢
        have hn5 : n ≤ 5 := hin.2
        obtain ⟨V0, hV0⟩ : ∃ V0, 3 * n = V0 := ⟨_, rfl⟩
        obtain ⟨V1, hV1⟩ : ∃ V1, V0 + 1 = V1 := ⟨_, rfl⟩
        obtain ⟨lev, hlev⟩ : ∃ lev, n / 2 = lev := ⟨_, rfl⟩
        have w2 : IntKind.i64.wrap ((n : Int) / 2) = (lev : Int) := by rw [i64w (by omega) (by omega)]; omega
        have w3n : IntKind.i64.wrap (3 * (n : Int)) = (V0 : Int) := by rw [i64w (by omega) (by omega)]; omega
        have w3n1 : IntKind.i64.wrap ((V0 : Int) + 1) = (V1 : Int) := by rw [i64w (by omega) (by omega)]; omega
        have hV : ptsN n true = V0 := by simp [ptsN, hV0, hV1]
        rw [hV] at h
        simp (maxSteps := 1000000) [go_sem, w3n, w3n1, w2]
        have hp00 := hp0
        have hp11 := hp1
        have hp0 : H <+: H1 := hp00.trans hp11
        have hll1 := hp11.length_le
        clear hp1 bad
        have hblG := Bl.nil 3 H1
        generalize H1 ++ [(⟨[], true, true⟩ : Blk)] = HG at hblG ⊢

        refine AWp.loopVc (St := Nat × Nat × List Bk) (fun s => [(0, lv 1 i o n), (2, .pointer (some ⟨H.length, 0, none⟩)), (5, .bool true), (7, .int .i64 n), (9, .int .i64 (V0 : Nat)), (8, lv 3 s.2.1 0 s.2.2.length), (10, .int .i64 (n : Nat)), (11, .int .i64 s.1)])
          (fun s H' => s.1 ≤ n ∧ s.2.2 = (List.range s.1).map (wB n) ∧ s.2.2.length ≤ 15 + s.1 ∧ Bl 3 H1 H' s.2.1 (tri s.2.2) s.2.2.length) (fun s => n - s.1) (0, H1.length, []) ?_ ?_ ?_
        · simp [upF, Fr.get, Up.refl, Up.ex0]
        · exact ⟨by simp, by simp, by simp, by simpa [tri] using hblG⟩
        · rintro KW ⟨x, id0, acc0⟩ HW ⟨hx, hacc0, hal0, hbl0⟩ hKW
          simp only at hx hacc0 hal0 hbl0
          by_cases hxl : x < n
          · have hxl' : (x : Int) < (n : Nat) := by omega
            have hw_x : IntKind.i64.wrap ((x : Int) + 1) = (x : Int) + 1 := i64w (by omega) (by omega)
            have wnx : IntKind.i64.wrap ((n : Int) + x) = (n : Int) + x := i64w (by omega) (by omega)
            have w2n : IntKind.i64.wrap (2 * (n : Int)) = 2 * (n : Int) := i64w (by omega) (by omega)
            have w2nx : IntKind.i64.wrap (2 * (n : Int) + x) = 2 * (n : Int) + x := i64w (by omega) (by omega)
            simp (maxSteps := 1000000) [go_sem, hxl, hxl', wnx, w2n, w2nx]
            refine l01Block_ok (by omega) (by omega) (by omega) _ ?_
            intro H7 hp7
            have hcB : blk (x : Int) ((n : Int) + x) (2 * (n : Int) + x) = wB n x := by
              rw [wB]; congr 1 <;> (simp only [plcN]; omega)
            rw [hcB]
            obtain ⟨c, hc⟩ : ∃ c, wB n x = c := ⟨_, rfl⟩
            rw [hc]
            have hbl4 := hbl0
            obtain ⟨hsrc, H5, hap, hbl5⟩ := (hbl4.pre hp7).push (xs := c.cells) (by omega) rfl
            simp only [Bk.cells] at hsrc hap hbl5
            simp (maxSteps := 1000000) [go_sem, Bk.val, hsrc, hap, hw_x]
            refine andK_intro (by omega) (hKW (x + 1, H7.length + 1, acc0 ++ [c]) _ _ (by simp only; omega) (by simp [upF, Fr.get, Up.refl]) ⟨by simp only; omega, ?_, ?_, ?_⟩)
            · simp only [List.range_succ, List.map_append, hacc0, ← hc]; simp
            · simp only [List.length_append, List.length_singleton]; omega
            · simp only [List.length_append, List.length_singleton, tri_append, tri_one, Bk.cells]
              exact hbl5
          · have hxe : x = n := by omega
            have hxl' : ¬ ((x : Int) < (n : Nat)) := by omega
            rw [hxe] at hacc0
            have hacc0l : acc0.length ≤ 30 := by omega
            simp (maxSteps := 1000000) [go_sem, hxl, hxl']
            refine AWp.loopVc (St := Nat × Nat × List Bk) (fun s => [(0, lv 1 i o n), (2, .pointer (some ⟨H.length, 0, none⟩)), (5, .bool true), (7, .int .i64 n), (9, .int .i64 (V0 : Nat)), (8, lv 3 s.2.1 0 s.2.2.length), (12, .int .i64 s.1)])
              (fun s H' => s.1 ≤ 3 ∧ s.2.2 = acc0 ++ (List.range s.1).flatMap (fun t => (List.range n).flatMap (sRow n sq true t)) ∧ s.2.2.length ≤ 30 + s.1 * 60 ∧ Bl 3 H1 H' s.2.1 (tri s.2.2) s.2.2.length) (fun s => 3 - s.1) (0, id0, acc0) ?_ ?_ ?_
            · simp [upF, Fr.get, Up.refl]
            · exact ⟨by simp, by simp, by simpa using hacc0l, hbl0⟩
            · rintro KP ⟨t, id1, acc1⟩ HP ⟨ht, hacc1, hal1, hblP⟩ hKP
              simp only at ht hacc1 hal1 hblP
              by_cases ht3 : t < 3
              · have ht3' : (t : Int) < 3 := by omega
                have hw_t : IntKind.i64.wrap ((t : Int) + 1) = (t : Int) + 1 := i64w (by omega) (by omega)
                obtain ⟨A, hA⟩ : ∃ A, n * (t % 3) = A := ⟨_, rfl⟩
                obtain ⟨b0, hb0'⟩ : ∃ b0, (t + 1) % 3 = b0 := ⟨_, rfl⟩
                obtain ⟨B, hB⟩ : ∃ B, n * ((t + 1) % 3) = B := ⟨_, rfl⟩
                have hA10 : A ≤ 10 := by have := plcN_le (i := t) (x := 0) (b := 0) hn5 (by omega); unfold plcN at this; omega
                have hB10 : B ≤ 10 := by have := plcN_le (i := t + 1) (x := 0) (b := 0) hn5 (by omega); unfold plcN at this; omega
                have wA : IntKind.i64.wrap ((n : Int) * (t : Int)) = (A : Int) := by
                  rw [← Int.natCast_mul, ← hA, show t % 3 = t by omega]
                  rw [show t % 3 = t by omega] at hA
                  exact i64w (by omega) (by omega)
                have tb : ((t : Int) + 1).tmod 3 = (b0 : Int) := by rw [Int.tmod_eq_emod_of_nonneg (by omega)]; omega
                have wB0 : IntKind.i64.wrap ((n : Int) * (b0 : Int)) = (B : Int) := by
                  rw [hb0'] at hB
                  rw [← Int.natCast_mul, hB]
                  exact i64w (by omega) (by omega)
                simp (maxSteps := 1000000) [go_sem, ht3, ht3', wA, hw_t, tb, wB0]
                refine AWp.loopVc (St := Nat × Nat × List Bk) (fun s => [(0, lv 1 i o n), (2, .pointer (some ⟨H.length, 0, none⟩)), (5, .bool true), (7, .int .i64 n), (9, .int .i64 (V0 : Nat)), (8, lv 3 s.2.1 0 s.2.2.length), (12, .int .i64 t), (13, .int .i64 A), (14, .int .i64 B), (15, .int .i64 s.1)])
                  (fun s H' => s.1 ≤ n ∧ s.2.2 = acc1 ++ (List.range s.1).flatMap (sRow n sq true t) ∧ s.2.2.length ≤ 30 + t * 60 + s.1 * 10 ∧ Bl 3 H1 H' s.2.1 (tri s.2.2) s.2.2.length) (fun s => n - s.1) (0, id1, acc1) ?_ ?_ ?_
                · simp [upF, Fr.get, Up.refl]
                · exact ⟨by simp, by simp, by simpa using hal1, hblP⟩
                · rintro KX ⟨x, id2, acc2⟩ HX ⟨hx, hacc2, hal2, hblX⟩ hKX
                  simp only at hx hacc2 hal2 hblX
                  by_cases hxn : x < n
                  · have hw_x : IntKind.i64.wrap ((x : Int) + 1) = (x : Int) + 1 := i64w (by omega) (by omega)
                    simp (maxSteps := 1000000) [go_sem, hxn, hw_x]
                    refine AWp.loopVc (St := Nat × Nat × List Bk) (fun s => [(0, lv 1 i o n), (2, .pointer (some ⟨H.length, 0, none⟩)), (5, .bool true), (7, .int .i64 n), (9, .int .i64 (V0 : Nat)), (8, lv 3 s.2.1 0 s.2.2.length), (12, .int .i64 t), (13, .int .i64 A), (14, .int .i64 B), (15, .int .i64 x), (16, .int .i64 s.1)])
                      (fun s H' => x + 1 ≤ s.1 ∧ s.1 ≤ n ∧ s.2.2 = acc2 ++ (upTo (x + 1) s.1).map (pB n sq t x) ∧ s.2.2.length ≤ 30 + t * 60 + x * 10 + s.1 ∧ Bl 3 H1 H' s.2.1 (tri s.2.2) s.2.2.length) (fun s => n - s.1) (x + 1, id2, acc2) ?_ ?_ ?_
                    · simp [upF, Fr.get, Up.refl]
                    · exact ⟨by simp, by simp only; omega, by simp [upTo_self], by simp only; omega, hblX⟩
                    · rintro KY ⟨y, id3, acc3⟩ HY ⟨hxy, hy, hacc3, hal3, hblY⟩ hKY
                      simp only at hxy hy hacc3 hal3 hblY
                      by_cases hyn : y < n
                      · obtain ⟨ix, ox, cx, hatx⟩ := hrow hxn (hp0.trans hblY.1)
                        rw [hlen x hxn] at cx
                        have lxy := sq_at hatx (y := y) (by rw [hlen x hxn]; exact hyn)
                        have hw_y : IntKind.i64.wrap ((y : Int) + 1) = (y : Int) + 1 := i64w (by omega) (by omega)
                        have hsx := hsq x y hxn hyn
                        obtain ⟨e, he⟩ : ∃ e : Nat, atN sq x y = e := ⟨(atN sq x y).toNat, by omega⟩
                        rw [he] at lxy hsx
                        have wAx : IntKind.i64.wrap ((A : Int) + x) = (A : Int) + x := i64w (by omega) (by omega)
                        have wAy : IntKind.i64.wrap ((A : Int) + y) = (A : Int) + y := i64w (by omega) (by omega)
                        have wBe : IntKind.i64.wrap ((B : Int) + e) = (B : Int) + e := i64w (by omega) (by omega)
                        simp (maxSteps := 1000000) [go_sem, hyn, hxn, cx, lxy, wAx, wAy, wBe]
                        refine l01Block_ok (by omega) (by omega) (by omega) _ ?_
                        intro H7 hp7
                        have hcB : blk ((A : Int) + x) ((A : Int) + y) ((B : Int) + e) = pB n sq t x y := by
                          rw [pB, he]
                          congr 1 <;> (simp only [plcN]; omega)
                        rw [hcB]
                        obtain ⟨c, hc⟩ : ∃ c, pB n sq t x y = c := ⟨_, rfl⟩
                        rw [hc]
                        have hbl4 := hblY
                        obtain ⟨hsrc, H5, hap, hbl5⟩ := (hbl4.pre hp7).push (xs := c.cells) (by omega) rfl
                        simp only [Bk.cells] at hsrc hap hbl5
                        simp (maxSteps := 1000000) [go_sem, Bk.val, hsrc, hap, hw_y]
                        refine andK_intro (by omega) (hKY (y + 1, H7.length + 1, acc3 ++ [c]) _ _ (by simp only; omega) (by simp [upF, Fr.get, Up.refl]) ⟨by simp only; omega, by simp only; omega, ?_, ?_, ?_⟩)
                        · simp only [upTo_succ hxy, List.map_append, hacc3, ← hc]; simp
                        · simp only [List.length_append, List.length_singleton]; omega
                        · simp only [List.length_append, List.length_singleton, tri_append, tri_one, Bk.cells]
                          exact hbl5
                      · obtain rfl : n = y := by omega
                        simp (maxSteps := 1000000) [go_sem, undef, hyn, hw_x]
                        refine hKX (x + 1, id3, acc3) _ _ (by simp only; omega) (by simp [upF, Fr.get, Up.refl]) ⟨by simp only; omega, ?_, by simp only; omega, hblY⟩
                        simp only [List.range_succ, List.flatMap_append, hacc3, hacc2]; simp [sRow, xRow, pRow]
                  · obtain rfl : n = x := by omega
                    simp (maxSteps := 1000000) [go_sem, hxn, hw_t]
                    refine hKP (t + 1, id2, acc2) _ _ (by simp only; omega) (by simp [upF, Fr.get, Up.refl]) ⟨by simp only; omega, ?_, by simp only; omega, hblX⟩
                    simp only [List.range_succ, List.flatMap_append, hacc2, hacc1]; simp
              · have : t = 3 := by omega
                subst this
                have hown : BlocksIn H1.length HP.length HP (lv 3 id1 0 acc1.length) acc1 := OwnBlocks.inn (OwnBlocks.of_ol hblP.2.1 (by omega)) hblP.2.2
                have hacc : acc1 = specT n sq true := by
                  rw [hacc1, hacc0]; simp [specT, levN]
                simp (maxSteps := 1000000) [go_sem]
                refine l01Made_ok hown.read (by omega) _ ?_
                intro H6 z hp6 hz
                obtain ⟨q1, q2, q3, q4⟩ := put2 (cs := [.int .i64 ((V0 : Nat) : Int), z]) hp00 (Nat.le_refl _) hb0 rfl (hp11.trans (hblP.1.trans hp6)) rfl (by simp [one_int, hz.one])
                have hll := hblP.1.length_le
                have hll2 := hp11.length_le
                have fin := h _ z q3 (by rw [List.length_set, ← hacc]; exact (hz.keep q4 (fun j hj e => by have := hj.1; omega)).wider (by omega))
                simp (maxSteps := 1000000) [go_sem, sysV, q1, q2]
                exact ⟨_, Up.refl _ _, fin⟩
      | false =>
        cases c with
        | false =>
          obtain ⟨H9, q1, q2, fin⟩ := bad H1 5 hp1 (hr5 rfl)
          simp (maxSteps := 1000000) [go_sem, q1, q2]
          exact fin
        | true =>
          have hr := hr0 rfl
          rw [hr] at h
          simp (maxSteps := 1000000) [go_sem]
          have hrow := @sq_row H i o sq hu
          obtain ⟨hin, hr, hcol⟩ := hS
          have hlen : ∀ x, x < sq.length → (rowN sq x).length = sq.length := fun x hx => by have := (hr x hx).1; omega
          have hsq : ∀ x y, x < sq.length → y < sq.length → 0 ≤ atN sq x y ∧ atN sq x y < sq.length := fun x y hx hy => ordL_in (hr x hx) hy
          obtain ⟨n, hn⟩ : ∃ n, sq.length = n := ⟨_, rfl⟩
          rw [hn] at hin hrow h hlen hsq ⊢
          have hn5 : n ≤ 5 := hin.2
          obtain ⟨V0, hV0⟩ : ∃ V0, 3 * n = V0 := ⟨_, rfl⟩
          obtain ⟨V1, hV1⟩ : ∃ V1, V0 + 1 = V1 := ⟨_, rfl⟩
          obtain ⟨lev, hlev⟩ : ∃ lev, n / 2 = lev := ⟨_, rfl⟩
          have w2 : IntKind.i64.wrap ((n : Int) / 2) = (lev : Int) := by rw [i64w (by omega) (by omega)]; omega
          have w3n : IntKind.i64.wrap (3 * (n : Int)) = (V0 : Int) := by rw [i64w (by omega) (by omega)]; omega
          have w3n1 : IntKind.i64.wrap ((V0 : Int) + 1) = (V1 : Int) := by rw [i64w (by omega) (by omega)]; omega
          have hV : ptsN n false = V1 := by simp [ptsN, hV0, hV1]
          rw [hV] at h
          simp (maxSteps := 1000000) [go_sem, w3n, w3n1, w2]
          have hp00 := hp0
          have hp11 := hp1
          have hp0 : H <+: H1 := hp00.trans hp11
          have hll1 := hp11.length_le
          clear hp1 bad
          have hblG := Bl.nil 3 H1
          generalize H1 ++ [(⟨[], true, true⟩ : Blk)] = HG at hblG ⊢

          refine AWp.loopVc (St := Nat × Nat × List Bk) (fun s => [(0, lv 1 i o n), (2, .pointer (some ⟨H.length, 0, none⟩)), (5, .bool false), (7, .int .i64 n), (9, .int .i64 (V1 : Nat)), (8, lv 3 s.2.1 0 s.2.2.length), (10, .int .i64 (lev : Nat)), (11, .int .i64 s.1)])
            (fun s H' => s.1 ≤ lev ∧ s.2.2 = (List.range s.1).map (wB n) ∧ s.2.2.length ≤ 15 + s.1 ∧ Bl 3 H1 H' s.2.1 (tri s.2.2) s.2.2.length) (fun s => lev - s.1) (0, H1.length, []) ?_ ?_ ?_
          · simp [upF, Fr.get, Up.refl, Up.ex0]
          · exact ⟨by simp, by simp, by simp, by simpa [tri] using hblG⟩
          · rintro KW ⟨x, id0, acc0⟩ HW ⟨hx, hacc0, hal0, hbl0⟩ hKW
            simp only at hx hacc0 hal0 hbl0
            by_cases hxl : x < lev
            · have hxl' : (x : Int) < (lev : Nat) := by omega
              have hw_x : IntKind.i64.wrap ((x : Int) + 1) = (x : Int) + 1 := i64w (by omega) (by omega)
              have wnx : IntKind.i64.wrap ((n : Int) + x) = (n : Int) + x := i64w (by omega) (by omega)
              have w2n : IntKind.i64.wrap (2 * (n : Int)) = 2 * (n : Int) := i64w (by omega) (by omega)
              have w2nx : IntKind.i64.wrap (2 * (n : Int) + x) = 2 * (n : Int) + x := i64w (by omega) (by omega)
              simp (maxSteps := 1000000) [go_sem, hxl, hxl', wnx, w2n, w2nx]
              refine l01Block_ok (by omega) (by omega) (by omega) _ ?_
              intro H7 hp7
              have hcB : blk (x : Int) ((n : Int) + x) (2 * (n : Int) + x) = wB n x := by
                rw [wB]; congr 1 <;> (simp only [plcN]; omega)
              rw [hcB]
              obtain ⟨c, hc⟩ : ∃ c, wB n x = c := ⟨_, rfl⟩
              rw [hc]
              have hbl4 := hbl0
              obtain ⟨hsrc, H5, hap, hbl5⟩ := (hbl4.pre hp7).push (xs := c.cells) (by omega) rfl
              simp only [Bk.cells] at hsrc hap hbl5
              simp (maxSteps := 1000000) [go_sem, Bk.val, hsrc, hap, hw_x]
              refine andK_intro (by omega) (hKW (x + 1, H7.length + 1, acc0 ++ [c]) _ _ (by simp only; omega) (by simp [upF, Fr.get, Up.refl]) ⟨by simp only; omega, ?_, ?_, ?_⟩)
              · simp only [List.range_succ, List.map_append, hacc0, ← hc]; simp
              · simp only [List.length_append, List.length_singleton]; omega
              · simp only [List.length_append, List.length_singleton, tri_append, tri_one, Bk.cells]
                exact hbl5
            · have hxe : x = lev := by omega
              have hxl' : ¬ ((x : Int) < (lev : Nat)) := by omega
              rw [hxe] at hacc0
              have hacc0l : acc0.length ≤ 30 := by omega
              simp (maxSteps := 1000000) [go_sem, hxl, hxl']
              refine AWp.loopVc (St := Nat × Nat × List Bk) (fun s => [(0, lv 1 i o n), (2, .pointer (some ⟨H.length, 0, none⟩)), (5, .bool false), (7, .int .i64 n), (9, .int .i64 (V1 : Nat)), (8, lv 3 s.2.1 0 s.2.2.length), (12, .int .i64 s.1)])
                (fun s H' => s.1 ≤ 3 ∧ s.2.2 = acc0 ++ (List.range s.1).flatMap (fun t => (List.range n).flatMap (sRow n sq false t)) ∧ s.2.2.length ≤ 30 + s.1 * 60 ∧ Bl 3 H1 H' s.2.1 (tri s.2.2) s.2.2.length) (fun s => 3 - s.1) (0, id0, acc0) ?_ ?_ ?_
              · simp [upF, Fr.get, Up.refl]
              · exact ⟨by simp, by simp, by simpa using hacc0l, hbl0⟩
              · rintro KP ⟨t, id1, acc1⟩ HP ⟨ht, hacc1, hal1, hblP⟩ hKP
                simp only at ht hacc1 hal1 hblP
                by_cases ht3 : t < 3
                · have ht3' : (t : Int) < 3 := by omega
                  have hw_t : IntKind.i64.wrap ((t : Int) + 1) = (t : Int) + 1 := i64w (by omega) (by omega)
                  obtain ⟨A, hA⟩ : ∃ A, n * (t % 3) = A := ⟨_, rfl⟩
                  obtain ⟨b0, hb0'⟩ : ∃ b0, (t + 1) % 3 = b0 := ⟨_, rfl⟩
                  obtain ⟨B, hB⟩ : ∃ B, n * ((t + 1) % 3) = B := ⟨_, rfl⟩
                  have hA10 : A ≤ 10 := by have := plcN_le (i := t) (x := 0) (b := 0) hn5 (by omega); unfold plcN at this; omega
                  have hB10 : B ≤ 10 := by have := plcN_le (i := t + 1) (x := 0) (b := 0) hn5 (by omega); unfold plcN at this; omega
                  have wA : IntKind.i64.wrap ((n : Int) * (t : Int)) = (A : Int) := by
                    rw [← Int.natCast_mul, ← hA, show t % 3 = t by omega]
                    rw [show t % 3 = t by omega] at hA
                    exact i64w (by omega) (by omega)
                  have tb : ((t : Int) + 1).tmod 3 = (b0 : Int) := by rw [Int.tmod_eq_emod_of_nonneg (by omega)]; omega
                  have wB0 : IntKind.i64.wrap ((n : Int) * (b0 : Int)) = (B : Int) := by
                    rw [hb0'] at hB
                    rw [← Int.natCast_mul, hB]
                    exact i64w (by omega) (by omega)
                  simp (maxSteps := 1000000) [go_sem, ht3, ht3', wA, hw_t, tb, wB0]
                  refine AWp.loopVc (St := Nat × Nat × List Bk) (fun s => [(0, lv 1 i o n), (2, .pointer (some ⟨H.length, 0, none⟩)), (5, .bool false), (7, .int .i64 n), (9, .int .i64 (V1 : Nat)), (8, lv 3 s.2.1 0 s.2.2.length), (12, .int .i64 t), (13, .int .i64 A), (14, .int .i64 B), (15, .int .i64 s.1)])
                    (fun s H' => s.1 ≤ n ∧ s.2.2 = acc1 ++ (List.range s.1).flatMap (sRow n sq false t) ∧ s.2.2.length ≤ 30 + t * 60 + s.1 * 10 ∧ Bl 3 H1 H' s.2.1 (tri s.2.2) s.2.2.length) (fun s => n - s.1) (0, id1, acc1) ?_ ?_ ?_
                  · simp [upF, Fr.get, Up.refl]
                  · exact ⟨by simp, by simp, by simpa using hal1, hblP⟩
                  · rintro KX ⟨x, id2, acc2⟩ HX ⟨hx, hacc2, hal2, hblX⟩ hKX
                    simp only at hx hacc2 hal2 hblX
                    by_cases hxn : x < n
                    · have hw_x : IntKind.i64.wrap ((x : Int) + 1) = (x : Int) + 1 := i64w (by omega) (by omega)
                      simp (maxSteps := 1000000) [go_sem, hxn, hw_x]
                      refine AWp.loopVc (St := Nat × Nat × List Bk) (fun s => [(0, lv 1 i o n), (2, .pointer (some ⟨H.length, 0, none⟩)), (5, .bool false), (7, .int .i64 n), (9, .int .i64 (V1 : Nat)), (8, lv 3 s.2.1 0 s.2.2.length), (12, .int .i64 t), (13, .int .i64 A), (14, .int .i64 B), (15, .int .i64 x), (16, .int .i64 s.1)])
                        (fun s H' => x + 1 ≤ s.1 ∧ s.1 ≤ n ∧ s.2.2 = acc2 ++ (upTo (x + 1) s.1).map (pB n sq t x) ∧ s.2.2.length ≤ 30 + t * 60 + x * 10 + s.1 ∧ Bl 3 H1 H' s.2.1 (tri s.2.2) s.2.2.length) (fun s => n - s.1) (x + 1, id2, acc2) ?_ ?_ ?_
                      · simp [upF, Fr.get, Up.refl]
                      · exact ⟨by simp, by simp only; omega, by simp [upTo_self], by simp only; omega, hblX⟩
                      · rintro KY ⟨y, id3, acc3⟩ HY ⟨hxy, hy, hacc3, hal3, hblY⟩ hKY
                        simp only at hxy hy hacc3 hal3 hblY
                        by_cases hyn : y < n
                        · obtain ⟨ix, ox, cx, hatx⟩ := hrow hxn (hp0.trans hblY.1)
                          rw [hlen x hxn] at cx
                          have lxy := sq_at hatx (y := y) (by rw [hlen x hxn]; exact hyn)
                          have hw_y : IntKind.i64.wrap ((y : Int) + 1) = (y : Int) + 1 := i64w (by omega) (by omega)
                          have hsx := hsq x y hxn hyn
                          obtain ⟨e, he⟩ : ∃ e : Nat, atN sq x y = e := ⟨(atN sq x y).toNat, by omega⟩
                          rw [he] at lxy hsx
                          have wAx : IntKind.i64.wrap ((A : Int) + x) = (A : Int) + x := i64w (by omega) (by omega)
                          have wAy : IntKind.i64.wrap ((A : Int) + y) = (A : Int) + y := i64w (by omega) (by omega)
                          have wBe : IntKind.i64.wrap ((B : Int) + e) = (B : Int) + e := i64w (by omega) (by omega)
                          simp (maxSteps := 1000000) [go_sem, hyn, hxn, cx, lxy, wAx, wAy, wBe]
                          refine l01Block_ok (by omega) (by omega) (by omega) _ ?_
                          intro H7 hp7
                          have hcB : blk ((A : Int) + x) ((A : Int) + y) ((B : Int) + e) = pB n sq t x y := by
                            rw [pB, he]
                            congr 1 <;> (simp only [plcN]; omega)
                          rw [hcB]
                          obtain ⟨c, hc⟩ : ∃ c, pB n sq t x y = c := ⟨_, rfl⟩
                          rw [hc]
                          have hbl4 := hblY
                          obtain ⟨hsrc, H5, hap, hbl5⟩ := (hbl4.pre hp7).push (xs := c.cells) (by omega) rfl
                          simp only [Bk.cells] at hsrc hap hbl5
                          simp (maxSteps := 1000000) [go_sem, Bk.val, hsrc, hap, hw_y]
                          refine andK_intro (by omega) (hKY (y + 1, H7.length + 1, acc3 ++ [c]) _ _ (by simp only; omega) (by simp [upF, Fr.get, Up.refl]) ⟨by simp only; omega, by simp only; omega, ?_, ?_, ?_⟩)
                          · simp only [upTo_succ hxy, List.map_append, hacc3, ← hc]; simp
                          · simp only [List.length_append, List.length_singleton]; omega
                          · simp only [List.length_append, List.length_singleton, tri_append, tri_one, Bk.cells]
                            exact hbl5
                        · obtain rfl : n = y := by omega
                          by_cases hxl : x < lev
                          · have hxl' : (x : Int) < (lev : Int) := by omega
                            have wAl : IntKind.i64.wrap ((A : Int) + (lev : Int)) = (A : Int) + lev := i64w (by omega) (by omega)
                            have wAlx : IntKind.i64.wrap ((A : Int) + (lev : Int) + (x : Int)) = (A : Int) + lev + x := i64w (by omega) (by omega)
                            have wBx : IntKind.i64.wrap ((B : Int) + (x : Int)) = (B : Int) + x := i64w (by omega) (by omega)
                            simp (maxSteps := 1000000) [go_sem, hyn, w2, hxl, hxl', w3n, wAl, wAlx, wBx]
                            refine l01Block_ok (by omega) (by omega) (by omega) _ ?_
                            intro H7 hp7
                            have hcB : blk (V0 : Int) ((A : Int) + lev + x) ((B : Int) + x) = eB n (n / 2) x t := by
                              rw [eB, hlev]
                              congr 1
                              · omega
                              · simp only [plcN]; omega
                              · simp only [plcN]; omega
                            rw [hcB]
                            obtain ⟨c, hc⟩ : ∃ c, eB n (n / 2) x t = c := ⟨_, rfl⟩
                            rw [hc]
                            have hbl4 := hblY
                            obtain ⟨hsrc, H5, hap, hbl5⟩ := (hbl4.pre hp7).push (xs := c.cells) (by omega) rfl
                            simp only [Bk.cells] at hsrc hap hbl5
                            simp (maxSteps := 1000000) [go_sem, Bk.val, hsrc, hap, hw_x]
                            refine andK_intro (by omega) (hKX (x + 1, H7.length + 1, acc3 ++ [c]) _ _ (by simp only; omega) (by simp [upF, Fr.get, Up.refl]) ⟨by simp only; omega, ?_, ?_, ?_⟩)
                            · simp only [List.range_succ, List.flatMap_append, hacc3, hacc2, ← hc]; simp [sRow, xRow, pRow, hlev, hxl]
                            · simp only [List.length_append, List.length_singleton]; omega
                            · simp only [List.length_append, List.length_singleton, tri_append, tri_one, Bk.cells]
                              exact hbl5
                          · have hxl' : ¬ ((x : Int) < (lev : Int)) := by omega
                            simp (maxSteps := 1000000) [go_sem, hyn, w2, hxl, hxl', hw_x]
                            refine hKX (x + 1, id3, acc3) _ _ (by simp only; omega) (by simp [upF, Fr.get, Up.refl]) ⟨by simp only; omega, ?_, by simp only; omega, hblY⟩
                            simp only [List.range_succ, List.flatMap_append, hacc3, hacc2]; simp [sRow, xRow, pRow, hlev, hxl]
                    · obtain rfl : n = x := by omega
                      simp (maxSteps := 1000000) [go_sem, hxn, hw_t]
                      refine hKP (t + 1, id2, acc2) _ _ (by simp only; omega) (by simp [upF, Fr.get, Up.refl]) ⟨by simp only; omega, ?_, by simp only; omega, hblX⟩
                      simp only [List.range_succ, List.flatMap_append, hacc2, hacc1]; simp
                · have : t = 3 := by omega
                  subst this
                  have hown : BlocksIn H1.length HP.length HP (lv 3 id1 0 acc1.length) acc1 := OwnBlocks.inn (OwnBlocks.of_ol hblP.2.1 (by omega)) hblP.2.2
                  have hacc : acc1 = specT n sq false := by
                    rw [hacc1, hacc0]; simp [specT, levN, hlev]
                  simp (maxSteps := 1000000) [go_sem]
                  refine l01Made_ok hown.read (by omega) _ ?_
                  intro H6 z hp6 hz
                  obtain ⟨q1, q2, q3, q4⟩ := put2 (cs := [.int .i64 ((V1 : Nat) : Int), z]) hp00 (Nat.le_refl _) hb0 rfl (hp11.trans (hblP.1.trans hp6)) rfl (by simp [one_int, hz.one])
                  have hll := hblP.1.length_le
                  have hll2 := hp11.length_le
                  have fin := h _ z q3 (by rw [List.length_set, ← hacc]; exact (hz.keep q4 (fun j hj e => by have := hj.1; omega)).wider (by omega))
                  simp (maxSteps := 1000000) [go_sem, sysV, q1, q2]
                  exact ⟨_, Up.refl _ _, fin⟩

end Go.Proofs.Ytfnegaedkomcgaa
end

section
/- The law on squares, in abstract terms: its code returns true, for every input. -/
set_option linter.all false
set_option maxRecDepth 20000
set_option maxHeartbeats 8000000
namespace Go.Proofs.Ytfnegaedkomcgaa
open Go.Ab

theorem sqRows_kinds {m : Nat} (h2 : 2 ≤ m) (h5 : m ≤ 5) : sqB (sqRows m m) = true ∧ rKinds (sqRows m m) = (([1, ((m % 2 : Nat) : Int), ((1 - m % 2 : Nat) : Int)] : List Int), (0 : Int)) := by
  have : m = 2 ∨ m = 3 ∨ m = 4 ∨ m = 5 := by omega
  have key : sqB (sqRows m m) = true := by
    refine sqB_yes ?_
    unfold IsSq OrdL
    rcases this with rfl | rfl | rfl | rfl <;> decide +kernel
  refine ⟨key, ?_⟩
  rw [rKinds, if_pos key]
  rcases this with rfl | rfl | rfl | rfl <;> decide +kernel
theorem bitB_pos (a b : Bool) : (0 < bitB a + bitB b) ↔ (a || b) = true := by cases a <;> cases b <;> simp [bitB]
theorem bitB_one (a : Bool) : bitB a = 1 ↔ a = true := by cases a <;> simp [bitB]

theorem lawFnSquares (H : Heap) (avs : List Value) (h : argsSay [shBytes] H avs) : ACalls Try.prog 3 avs H fun v _ => v = .bool true := by
  obtain ⟨u, _, rfl, a0, rfl⟩ := h
  obtain ⟨xs, hu0⟩ := says_shBytes a0
  refine acalls_vc (rs := [.tmp 2]) Try.func3 rfl rfl Try.ntmps3 rfl rfl ?_
  simp (maxSteps := 1000000) [go_sem]
  refine big_ok hu0 _ ?_
  by_cases hbig : 4096 < xs.length
  · simp (maxSteps := 1000000) [go_sem, hbig]
  have hu := hu0.short (by omega)
  clear a0 hu0
  simp (maxSteps := 1000000) [go_sem, hbig]
  refine drawThree_ok hu _ ?_
  intro H1 sqv sq hp1 hI1 hsz h64
  have hsq := hI1.read
  obtain ⟨i, o, vs, rfl, _⟩ := id hsq
  have hl : sq.length + sq.flatten.length ≤ 1048576 := by omega
  simp (maxSteps := 1000000) [go_sem]
  refine implThree_ok hsq hl h64 _ ?_
  intro H2 x hp2 hx
  have onex := hx.one
  simp (maxSteps := 1000000) [go_sem, sysV, onex]
  obtain ⟨p3, hp3⟩ : ∃ p, (rThree sq).1.1 = p := ⟨_, rfl⟩
  obtain ⟨b3, hb3⟩ : ∃ b, (rThree sq).1.2 = b := ⟨_, rfl⟩
  obtain ⟨e3, he3⟩ : ∃ e, (rThree sq).2 = e := ⟨_, rfl⟩
  have hplain := @rThree_full sq
  have hplainB := @rThree_bad sq
  have hrx : (rThree sq).1 = (p3, b3) := by rw [← hp3, ← hb3]
  rw [hp3, he3, hb3] at hplain
  rw [he3, hrx] at hplainB
  rw [hb3] at hx
  rw [hp3, he3]
  have bxA := Holds.last H2 [.int .i64 p3, x]
  have hp4 : H2 <+: H2 ++ [(⟨[.int .i64 p3, x], true, true⟩ : Blk)] := List.prefix_append _ _
  generalize H2 ++ [(⟨[.int .i64 p3, x], true, true⟩ : Blk)] = H3 at bxA hp4 ⊢
  have q13 := hp2.trans hp4
  refine specThree_ok (hsq.pre q13) hl h64 _ ?_
  rw [hp3, he3, hb3]
  intro H4 y hp5 hy
  have oney := hy.one
  simp (maxSteps := 1000000) [go_sem, sysV, oney]
  have bxB := Holds.last H4 [.int .i64 p3, y]
  have hp6 : H4 <+: H4 ++ [(⟨[.int .i64 p3, y], true, true⟩ : Blk)] := List.prefix_append _ _
  generalize H4 ++ [(⟨[.int .i64 p3, y], true, true⟩ : Blk)] = H5 at bxB hp6 ⊢
  have q35 := hp5.trans hp6
  have bxA5 := bxA.pre q35
  obtain ⟨a0, a1, a2⟩ := bxA5.sys
  obtain ⟨b0, b1, b2⟩ := bxB.sys
  simp (maxSteps := 1000000) [go_sem, undef, a0, a1, a2, b0, b1, b2]
  refine system9_ok (hx.read.pre (hp4.trans q35)) (hy.read.pre hp6) _ ?_
  intro H6 hp7
  have q16 := (q13.trans q35).trans hp7
  simp (maxSteps := 1000000) [go_sem, undef]
  refine implIsSquare_ok (hsq.pre q16) hl h64 _ ?_
  intro H7 hp8
  have q17 := q16.trans hp8
  simp (maxSteps := 1000000) [go_sem, undef]
  refine specIsSquare_ok (hsq.pre q17) hl h64 _ ?_
  intro H8 hp9
  have q18 := q17.trans hp9
  simp (maxSteps := 1000000) [go_sem, undef]
  refine implSquareKinds_ok (hsq.pre q18) hl h64 _ ?_
  intro H9 k1 hp10 hk1
  have q19 := q18.trans hp10
  simp (maxSteps := 1000000) [go_sem, undef]
  refine specSquareKinds_ok (hsq.pre q19) hl h64 _ ?_
  intro H10 k2 hp11 hk2
  have q110 := q19.trans hp11
  simp (maxSteps := 1000000) [go_sem, undef]
  refine likeInts_ok (hk1.read.pre hp11) hk2.read _ ?_
  simp (maxSteps := 1000000) [go_sem, undef]
  refine fromSq_ok (hu.pre (hp1.trans q110)) _ ?_
  intro H11 n hp12 hn0 hn8
  simp (maxSteps := 1000000) [go_sem, undef]
  -- the square of a number
  obtain ⟨xss, hxss⟩ : ∃ xss : List (List Int), xss = if 2 ≤ n ∧ n ≤ 5 then sqRows n.toNat n.toNat else [] := ⟨_, rfl⟩
  obtain ⟨c, hc⟩ : ∃ c : Int, c = if 2 ≤ n ∧ n ≤ 5 then 0 else 2 := ⟨_, rfl⟩
  have spec : ∀ {H : Heap} {Post : Value → Heap → Prop}, (∀ (H' : Heap) (v : Value), H <+: H' → IntssAt H' v xss → Post (.tuple #[v, .int .i64 c]) H') → ACalls Try.prog 16 [.int .i64 n] H Post := by
    intro H Post hp
    refine specSquareOf_ok _ (fun hb => ?_) (fun H' v rows h1 h2 h3 h4 h5 h6 => ?_)
    · have := hp H (lv 1 0 0 0) (List.prefix_refl _) (by rw [hxss, if_neg hb]; exact (OwnRows.nil H).read)
      rwa [hc, if_neg hb] at this
    · have := hp H' v h3 (by rw [hxss, if_pos ⟨h1, h2⟩, ← h6]; exact h4.read)
      rwa [hc, if_pos ⟨h1, h2⟩] at this
  have impl : ∀ {H : Heap} {Post : Value → Heap → Prop}, (∀ (H' : Heap) (v : Value), H <+: H' → IntssAt H' v xss → Post (.tuple #[v, .int .i64 c]) H') → ACalls Try.prog 15 [.int .i64 n] H Post := by
    intro H Post hp
    refine implSquareOf_ok _ (fun hb => ?_) (fun H' v rows h1 h2 h3 h4 h5 h6 => ?_)
    · have := hp H (lv 1 0 0 0) (List.prefix_refl _) (by rw [hxss, if_neg hb]; exact (OwnRows.nil H).read)
      rwa [hc, if_neg hb] at this
    · have := hp H' v h3 (by rw [hxss, if_pos ⟨h1, h2⟩, ← h6]; exact h4.read)
      rwa [hc, if_pos ⟨h1, h2⟩] at this
  refine impl ?_
  intro H12 m1 hp13 hm1
  simp (maxSteps := 1000000) [go_sem, undef]
  refine spec ?_
  intro H13 m2 hp14 hm2
  simp (maxSteps := 1000000) [go_sem, undef]
  refine rows9_ok (hm1.pre hp14) hm2 _ ?_
  have q113 := ((q110.trans hp12).trans hp13).trans hp14
  simp (maxSteps := 1000000) [go_sem, undef]
  by_cases h25 : 2 ≤ n ∧ n ≤ 5
  · have hc0 : c = 0 := by rw [hc, if_pos h25]
    obtain ⟨m, rfl⟩ : ∃ m : Nat, n = m := ⟨n.toNat, by omega⟩
    have hxm : xss = sqRows m m := by rw [hxss, if_pos h25, Int.toNat_natCast]
    have hm2' : 2 ≤ m := by omega
    have hm5' : m ≤ 5 := by omega
    obtain ⟨kb, kk⟩ := sqRows_kinds hm2' hm5'
    have hfac := sqRows_facts hm2' hm5'
    rw [← hxm] at kb kk hfac
    have hxl : xss.length = m := by rw [hxm, sqRows_length]
    have hfl : xss.flatten.length ≤ xss.length * 5 := flat_bound fun xs hx => by have := (hfac xs hx).1; omega
    have h64x : ∀ xs ∈ xss, ∀ x ∈ xs, In64 x := fun xs hx x hxx => by have := (hfac xs hx).2 x hxx; unfold In64; omega
    clear hxss hc
    subst hc0
    simp (maxSteps := 1000000) [go_sem, undef]
    refine implSquareKinds_ok (hm1.pre hp14) (by omega) h64x _ ?_
    rw [kk]
    intro H14 ow hp15 how
    have q114 := q113.trans hp15
    simp (maxSteps := 1000000) [go_sem, undef]
    obtain ⟨oi, oo, rfl, hoat, _⟩ := how.read
    have o0 := hoat.cell (k := 0) rfl
    have o1 := hoat.cell (k := 1) rfl
    have o2 := hoat.cell (k := 2) rfl
    simp only [Nat.add_zero] at o0 o1 o2
    refine AWp.draw mixed [(0, false), (1, false), (2, false), (3, false), (4, false), (5, false), (6, false), (7, false), (8, false), (9, false), (10, false), (11, false), (12, false), (13, false), (14, false), (15, false), (16, false), (17, false), (18, false), (19, false), (20, false), (21, false), (22, false), (23, false), (24, false), (25, false), (26, false), (27, false), (28, false), (29, false), (30, false), (31, false)] (by kernel_rfl) ?_
    simp (maxSteps := 1000000) [go_sem, undef]
    refine implIsSquare_ok ((hm1.pre hp14).pre hp15) (by omega) h64x _ ?_
    intro H15 hp16
    have o0' := cellsAt_pre hp16 o0
    have o1' := cellsAt_pre hp16 o1
    have o2' := cellsAt_pre hp16 o2
    have wk1 : IntKind.i64.wrap ((m : Int) % 2 + ((1 - m % 2 : Nat) : Int)) = 1 := by rw [i64w (by omega) (by omega)]; omega
    have wk2 : IntKind.i64.wrap (1 - (m : Int).tmod 2) = ((1 - m % 2 : Nat) : Int) := by rw [Int.tmod_eq_emod_of_nonneg (by omega), i64w (by omega) (by omega)]; omega
    simp (maxSteps := 1000000) [go_sem, undef, kb, o0', o1', o2', wk1, wk2]
    cases hs : sqB sq with
    | false =>
      have hk0 : rKinds sq = ([], 2) := by rw [rKinds, hs]; rfl
      have he5 : e3 ≠ 0 := by
        intro e0
        have := (hplain e0).1
        rw [hs] at this; cases this
      have hp0 := (hplainB he5).1
      cases hp0
      rw [hk0]
      simp (maxSteps := 1000000) [go_sem, undef]
      refine AWp.draw mixed [(0, false), (1, false), (2, false), (3, false), (4, false), (5, false), (6, false), (7, false), (8, false), (9, false), (10, false), (11, false), (12, false), (13, false), (14, false), (15, false), (16, false), (17, false), (18, false), (19, false), (20, false)] (by kernel_rfl) ?_
      have e5b : (e3 == 0) = false := by simpa using he5
      have e5n : (e3 != 0) = true := by simpa using he5
      obtain ⟨a0, a1, a2⟩ := (bxA5.pre ((((((((hp7.trans hp8).trans hp9).trans hp10).trans hp11).trans hp12).trans hp13).trans hp14).trans (hp15.trans hp16))).sys
      simp (maxSteps := 1000000) [go_sem, undef, e5b, e5n, a0, a1, a2]
    | true =>
      have hk0 : rKinds sq = ([bitB (commP sq.length sq sq.length), bitB (idemP sq sq.length), bitB (halfP sq.length sq sq.length)], 0) := by rw [rKinds, hs]; rfl
      rw [hk0] at hk1
      have hk1r := (hk1.read.pre (hp11.trans (hp12.trans (hp13.trans (hp14.trans (hp15.trans hp16))))))
      obtain ⟨ki, ko, rfl, hkat, _⟩ := hk1r
      have c0 := hkat.cell (k := 0) rfl
      have c1 := hkat.cell (k := 1) rfl
      have c2 := hkat.cell (k := 2) rfl
      have p1 := bitB_one (commP sq.length sq sq.length)
      have p2 := bitB_pos (idemP sq sq.length) (halfP sq.length sq sq.length)
      have hp3x := hplain
      generalize bitB (commP sq.length sq sq.length) = A at *
      have hC : (if halfP sq.length sq sq.length = true then (1 : Int) else 0) = bitB (halfP sq.length sq sq.length) := rfl
      have hBr : 0 ≤ bitB (idemP sq sq.length) ∧ bitB (idemP sq sq.length) ≤ 1 := by unfold bitB; split <;> omega
      have hCr : 0 ≤ bitB (halfP sq.length sq sq.length) ∧ bitB (halfP sq.length sq sq.length) ≤ 1 := by unfold bitB; split <;> omega
      obtain ⟨B, hB⟩ : ∃ B, bitB (idemP sq sq.length) = B := ⟨_, rfl⟩
      obtain ⟨C, hCC⟩ : ∃ C, bitB (halfP sq.length sq sq.length) = C := ⟨_, rfl⟩
      simp only [hB, hCC] at hk0 c2 c1 p2 hBr hCr hC
      refine AWp.up (f := [(3, lv 1 i o sq.length), (4, .pointer (some ⟨H2.length, 0, none⟩)), (5, .int .i64 e3), (8, lv 1 ki ko 3), (9, .int .i64 0)]) (by simp [upF, Fr.get, Up.refl, hk0]) ?_
      have wBC : IntKind.i64.wrap (B + C) = B + C := i64w (by omega) (by omega)
      simp only [Nat.add_zero] at c0 c1 c2
      obtain ⟨a0, a1, a2⟩ := (bxA5.pre (((((((((hp7.trans hp8).trans hp9).trans hp10).trans hp11).trans hp12).trans hp13).trans hp14).trans (hp15.trans hp16)))).sys
      refine AWp.draw mixed [(0, false), (1, false), (2, false), (3, false), (4, false), (5, false), (6, false), (7, false), (8, false), (9, false), (10, false), (11, false), (12, false), (13, false), (14, false), (15, false), (16, false), (17, false), (18, false), (19, false), (20, false)] (by kernel_rfl) ?_
      by_cases he5 : e3 = 0
      · subst he5
        obtain ⟨g1, g2, g3, g4, g5, g6⟩ := hplain rfl
        have gA : A = 1 := p1.2 g2
        have gBC : 0 < B + C := p2.2 (by rcases g3 with g | g <;> simp [g])
        subst gA
        rw [hC] at g6
        simp (maxSteps := 1000000) [go_sem, undef, c0, c1, c2, wBC, gBC, a0, a1, a2]
        refine implIsFull_ok (hx.read.pre (hp4.trans (q35.trans ((((((((hp7.trans hp8).trans hp9).trans hp10).trans hp11).trans hp12).trans hp13).trans hp14).trans (hp15.trans hp16))))) (by have := g4.2.1; omega) _ ?_
        intro H20 hp20
        have hrF : rIsFull p3 b3 = (true, 0) := by rw [rIsFull, sysB_iff.2 g4, g5]; rfl
        rw [hrF]
        obtain ⟨a0, a1, a2⟩ := (bxA5.pre ((((((((((hp7.trans hp8).trans hp9).trans hp10).trans hp11).trans hp12).trans hp13).trans hp14).trans (hp15.trans hp16))).trans hp20)).sys
        have c2' := cellsAt_pre hp20 c2
        simp (maxSteps := 1000000) [go_sem, undef]
        refine AWp.draw mixed [(0, false), (1, false), (2, false), (3, false), (4, false), (5, false), (6, false), (7, false), (8, false), (9, false), (10, false), (11, false), (12, false), (13, false), (14, false), (15, false), (16, false), (17, false)] (by kernel_rfl) ?_
        have w3 : IntKind.i64.wrap (3 * (sq.length : Int)) = 3 * (sq.length : Int) := i64w (by omega) (by omega)
        have w4 : IntKind.i64.wrap (3 * (sq.length : Int) + C) = 3 * (sq.length : Int) + C := i64w (by omega) (by omega)
        simp (maxSteps := 1000000) [go_sem, undef, a0, a1, a2, c2', w3, w4, g6]
      · obtain ⟨g1, g2⟩ := hplainB he5
        cases g1
        have g3 := g2 hs
        have e5b : (e3 == 0) = false := by simpa using he5
        have e5n : (e3 != 0) = true := by simpa using he5
        by_cases hA : A = 1
        · have gBC : ¬ 0 < B + C := by
            rw [p2]
            rw [p1.1 hA] at g3
            simpa using g3
          subst hA
          simp (maxSteps := 1000000) [go_sem, undef, c0, c1, c2, wBC, gBC, e5b, e5n, a0, a1, a2]
        · have eA : (A == 1) = false := by simpa using hA
          simp (maxSteps := 1000000) [go_sem, undef, c0, c1, c2, wBC, eA, e5b, e5n, a0, a1, a2]
  · have hc2 : c = 2 := by rw [hc, if_neg h25]
    clear hxss hc
    subst hc2
    simp (maxSteps := 1000000) [go_sem, undef]
    cases hs : sqB sq with
    | false =>
      have hk0 : rKinds sq = ([], 2) := by rw [rKinds, hs]; rfl
      have he5 : e3 ≠ 0 := by
        intro e0
        have := (hplain e0).1
        rw [hs] at this; cases this
      have hp0 := (hplainB he5).1
      cases hp0
      rw [hk0]
      simp (maxSteps := 1000000) [go_sem, undef]
      refine AWp.draw mixed [(0, false), (1, false), (2, false), (3, false), (4, false), (5, false), (6, false), (7, false), (8, false), (9, false), (10, false), (11, false), (12, false), (13, false), (14, false), (15, false), (16, false), (17, false), (18, false), (19, false), (20, false)] (by kernel_rfl) ?_
      have e5b : (e3 == 0) = false := by simpa using he5
      have e5n : (e3 != 0) = true := by simpa using he5
      obtain ⟨a0, a1, a2⟩ := (bxA5.pre ((((((((hp7.trans hp8).trans hp9).trans hp10).trans hp11).trans hp12).trans hp13).trans hp14).trans (List.prefix_refl _))).sys
      simp (maxSteps := 1000000) [go_sem, undef, e5b, e5n, a0, a1, a2]
    | true =>
      have hk0 : rKinds sq = ([bitB (commP sq.length sq sq.length), bitB (idemP sq sq.length), bitB (halfP sq.length sq sq.length)], 0) := by rw [rKinds, hs]; rfl
      rw [hk0] at hk1
      have hk1r := (hk1.read.pre (hp11.trans (hp12.trans (hp13.trans (hp14.trans (List.prefix_refl _))))))
      obtain ⟨ki, ko, rfl, hkat, _⟩ := hk1r
      have c0 := hkat.cell (k := 0) rfl
      have c1 := hkat.cell (k := 1) rfl
      have c2 := hkat.cell (k := 2) rfl
      have p1 := bitB_one (commP sq.length sq sq.length)
      have p2 := bitB_pos (idemP sq sq.length) (halfP sq.length sq sq.length)
      have hp3x := hplain
      generalize bitB (commP sq.length sq sq.length) = A at *
      have hC : (if halfP sq.length sq sq.length = true then (1 : Int) else 0) = bitB (halfP sq.length sq sq.length) := rfl
      have hBr : 0 ≤ bitB (idemP sq sq.length) ∧ bitB (idemP sq sq.length) ≤ 1 := by unfold bitB; split <;> omega
      have hCr : 0 ≤ bitB (halfP sq.length sq sq.length) ∧ bitB (halfP sq.length sq sq.length) ≤ 1 := by unfold bitB; split <;> omega
      obtain ⟨B, hB⟩ : ∃ B, bitB (idemP sq sq.length) = B := ⟨_, rfl⟩
      obtain ⟨C, hCC⟩ : ∃ C, bitB (halfP sq.length sq sq.length) = C := ⟨_, rfl⟩
      simp only [hB, hCC] at hk0 c2 c1 p2 hBr hCr hC
      refine AWp.up (f := [(3, lv 1 i o sq.length), (4, .pointer (some ⟨H2.length, 0, none⟩)), (5, .int .i64 e3), (8, lv 1 ki ko 3), (9, .int .i64 0)]) (by simp [upF, Fr.get, Up.refl, hk0]) ?_
      have wBC : IntKind.i64.wrap (B + C) = B + C := i64w (by omega) (by omega)
      simp only [Nat.add_zero] at c0 c1 c2
      obtain ⟨a0, a1, a2⟩ := (bxA5.pre (((((((((hp7.trans hp8).trans hp9).trans hp10).trans hp11).trans hp12).trans hp13).trans hp14).trans (List.prefix_refl _)))).sys
      refine AWp.draw mixed [(0, false), (1, false), (2, false), (3, false), (4, false), (5, false), (6, false), (7, false), (8, false), (9, false), (10, false), (11, false), (12, false), (13, false), (14, false), (15, false), (16, false), (17, false), (18, false), (19, false), (20, false)] (by kernel_rfl) ?_
      by_cases he5 : e3 = 0
      · subst he5
        obtain ⟨g1, g2, g3, g4, g5, g6⟩ := hplain rfl
        have gA : A = 1 := p1.2 g2
        have gBC : 0 < B + C := p2.2 (by rcases g3 with g | g <;> simp [g])
        subst gA
        rw [hC] at g6
        simp (maxSteps := 1000000) [go_sem, undef, c0, c1, c2, wBC, gBC, a0, a1, a2]
        refine implIsFull_ok (hx.read.pre (hp4.trans (q35.trans ((((((((hp7.trans hp8).trans hp9).trans hp10).trans hp11).trans hp12).trans hp13).trans hp14).trans (List.prefix_refl _))))) (by have := g4.2.1; omega) _ ?_
        intro H20 hp20
        have hrF : rIsFull p3 b3 = (true, 0) := by rw [rIsFull, sysB_iff.2 g4, g5]; rfl
        rw [hrF]
        obtain ⟨a0, a1, a2⟩ := (bxA5.pre ((((((((((hp7.trans hp8).trans hp9).trans hp10).trans hp11).trans hp12).trans hp13).trans hp14).trans (List.prefix_refl _))).trans hp20)).sys
        have c2' := cellsAt_pre hp20 c2
        simp (maxSteps := 1000000) [go_sem, undef]
        refine AWp.draw mixed [(0, false), (1, false), (2, false), (3, false), (4, false), (5, false), (6, false), (7, false), (8, false), (9, false), (10, false), (11, false), (12, false), (13, false), (14, false), (15, false), (16, false), (17, false)] (by kernel_rfl) ?_
        have w3 : IntKind.i64.wrap (3 * (sq.length : Int)) = 3 * (sq.length : Int) := i64w (by omega) (by omega)
        have w4 : IntKind.i64.wrap (3 * (sq.length : Int) + C) = 3 * (sq.length : Int) + C := i64w (by omega) (by omega)
        simp (maxSteps := 1000000) [go_sem, undef, a0, a1, a2, c2', w3, w4, g6]
      · obtain ⟨g1, g2⟩ := hplainB he5
        cases g1
        have g3 := g2 hs
        have e5b : (e3 == 0) = false := by simpa using he5
        have e5n : (e3 != 0) = true := by simpa using he5
        by_cases hA : A = 1
        · have gBC : ¬ 0 < B + C := by
            rw [p2]
            rw [p1.1 hA] at g3
            simpa using g3
          subst hA
          simp (maxSteps := 1000000) [go_sem, undef, c0, c1, c2, wBC, gBC, e5b, e5n, a0, a1, a2]
        · have eA : (A == 1) = false := by simpa using hA
          simp (maxSteps := 1000000) [go_sem, undef, c0, c1, c2, wBC, eA, e5b, e5n, a0, a1, a2]

end Go.Proofs.Ytfnegaedkomcgaa
end
