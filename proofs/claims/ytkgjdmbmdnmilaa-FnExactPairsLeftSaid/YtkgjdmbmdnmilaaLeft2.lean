/- The pairs that are left: the tested program's side. -/
import Derived.Test.YtkgjdmbmdnmilaaLeft
set_option linter.all false
set_option maxRecDepth 20000
namespace Go.Proofs.Ytkgjdmbmdnmilaa
open Go.Ab

theorem pairsLeft_ok {H : Heap} {u : Value} {p : Int} {bs : List Bk} (hu : BlocksAt H u bs) (hS : IsSys p bs) (Post : Value → Heap → Prop)
    (h : ∀ H' w, H <+: H' → RowsIn H.length H'.length H' w (prs0 (leftP bs) p.toNat p.toNat) → Post w H') :
    ACalls Try.prog 128 [sysV p u] H Post := by
  have hp := hS.1
  obtain ⟨v, rfl⟩ : ∃ n : Nat, p = n := ⟨p.toNat, by omega⟩
  have hv : v ≤ 15 := by omega
  refine ACalls.resH ?_
  refine acalls_vc (rs := [.tmp 2]) Try.func128 rfl rfl Try.ntmps128 rfl rfl ?_
  simp (maxSteps := 1000000) [go_sem, sysV, hu.one]
  have hp0 : H <+: H ++ [⟨[.int .i64 v, u], true, true⟩] := List.prefix_append _ _
  have hx0 := Holds.last H [.int .i64 v, u]
  refine sysGrid_ok (hu.pre hp0) hS.good15 hS.2.2.2 _ ?_
  intro H1 gid gs hp1 _ hga hgo
  have hx1 := hx0.pre hp1
  have hp01 := hp0.trans hp1
  obtain ⟨d0, d1, d2⟩ := hx1.sys
  simp (maxSteps := 1000000) [go_sem, d1]
  refine AWp.addGhost ?_
  have hb0 : BuildX H1 (H1 ++ [⟨[], false, false⟩]) H1.length [] := BuildX.start H1
  refine AWp.loopVc (St := Nat × Nat × List (Nat × List Int)) (fun s => [(1, .pointer (some ⟨H.length, 0, none⟩)), (3, .pointer (some ⟨gid, 0, none⟩)), (4, lv 1 s.2.1 0 s.2.2.length), (10, .int .i64 v), (11, .int .i64 s.1)])
    (fun s H' => s.1 ≤ v ∧ s.2.2.map (·.2) = prs0 (leftP bs) v s.1 ∧ BuildX H1 H' s.2.1 s.2.2) (fun s => v - s.1) (0, H1.length, []) ?_ ?_ ?_
  · simp [upF, Fr.get, Up.refl, Up.nil]
  · exact ⟨by simp, by simp [prs0_start], hb0⟩
  · rintro K ⟨a, id, acc⟩ H' ⟨ha, hacc, hbl⟩ hK
    simp only at ha hacc hbl
    by_cases hlt : a < v
    · have hw_a : IntKind.i64.wrap ((a : Int) + 1) = (a : Int) + 1 := i64w (by omega) (by omega)
      simp (maxSteps := 1000000) [go_sem, hlt, hw_a]
      refine AWp.loopVc (St := Nat × Nat × List (Nat × List Int)) (fun s => [(1, .pointer (some ⟨H.length, 0, none⟩)), (3, .pointer (some ⟨gid, 0, none⟩)), (4, lv 1 s.2.1 0 s.2.2.length), (5, .int .i64 a), (6, .int .i64 s.1), (10, .int .i64 v), (11, .int .i64 a)])
        (fun s H' => a + 1 ≤ s.1 ∧ s.1 ≤ v ∧ s.2.2.map (·.2) = prs0 (leftP bs) v a ++ prs1 (leftP bs) a s.1 ∧ BuildX H1 H' s.2.1 s.2.2) (fun s => v - s.1) (a + 1, id, acc) ?_ ?_ ?_
      · simp [upF, Fr.get, Up.refl]
      · exact ⟨by simp, by simp only; omega, by simp [prs1_start, hacc], hbl⟩
      · rintro K2 ⟨b, id2, acc2⟩ H2 ⟨hab, hb, hacc2, hbl2⟩ hK2
        simp only at hab hb hacc2 hbl2
        obtain ⟨d0, d1, d2⟩ := (hx1.pre hbl2.pre).sys
        by_cases hlt2 : b < v
        · have hw_b : IntKind.i64.wrap ((b : Int) + 1) = (b : Int) + 1 := i64w (by omega) (by omega)
          have hlen : acc2.length ≤ 10000 := by
            have e := congrArg List.length hacc2
            rw [List.length_map, List.length_append] at e
            have := prs0_len (P := leftP bs) hv a; have := prs1_len (leftP bs) a b
            omega
          have hx : a < 15 := by omega
          have hy : b < 15 := by omega
          have hx' : (a : Int) < 15 := by omega
          have hy' : (b : Int) < 15 := by omega
          have c1 : cellsAt H2 gid (a * 15 + b) 1 = some [.int .i64 (gAt gs a b)] := (hga.keep hbl2.pre).load (by omega)
          rw [hgo.2 a b hx hy, if_neg (by omega)] at c1
          have hsn := prs1_succ (P := leftP bs) hab
          by_cases ht : third bs a b = -1
          · have hP : leftP bs a b = true := by simp [leftP, ht]
            rw [ht] at c1
            obtain ⟨hsrc, H4, hap, hbl4⟩ := hbl2.pushRow (xs := [(a : Int), (b : Int)])
            simp only [ints, List.map_cons, List.map_nil, List.length_cons, List.length_nil] at hsrc hap hbl4
            simp (maxSteps := 1000000) [go_sem, hlt2, d1, hx, hy, hx', hy', c1, hw_b, hsrc, hap]
            refine andK_intro (by omega) (hK2 (b + 1, H2.length + 2, acc2 ++ [(H2.length, [(a : Int), (b : Int)])]) _ _ (by simp only; omega) (by simp [upF, Fr.get, Up.refl]) ⟨by simp only; omega, by simp only; omega, ?_, hbl4⟩)
            simp only [List.map_append, hacc2, hsn, hP]
            simp
          · have hP : leftP bs a b = false := by simp [leftP, ht]
            have e3 : (third bs a b == -1) = false := by simpa using ht
            simp (maxSteps := 1000000) [go_sem, hlt2, d1, hx, hy, hx', hy', c1, e3, hw_b]
            exact hK2 (b + 1, id2, acc2) _ _ (by simp only; omega) (by simp [upF, Fr.get, Up.refl]) ⟨by simp only; omega, by simp only; omega, by simp only [hsn, hP, hacc2]; simp, hbl2⟩
        · have : b = v := by omega
          subst this
          simp (maxSteps := 1000000) [go_sem, hw_a, d1]
          exact hK (a + 1, id2, acc2) _ _ (by simp only; omega) (by simp [upF, Fr.get, Up.refl]) ⟨by simp only; omega, by simp only [prs0_succ]; exact hacc2, hbl2⟩
    · have : a = v := by omega
      subst this
      simp (maxSteps := 1000000) [go_sem]
      obtain ⟨Hf, hup, hbf⟩ := hbl.fin
      refine ⟨_, Up.refl _ _, Hf, hup, h Hf _ (hp01.trans hbf.pre) ?_⟩
      exact (leftRows_in hv hbf hacc).wider hp01.length_le

theorem implPairsLeft_ok {H : Heap} {u : Value} {p : Int} {bs : List Bk} (hu : BlocksAt H u bs) (hl : bs.length ≤ 1048576) (Post : Value → Heap → Prop)
    (h : ∀ H' w, H <+: H' → RowsIn H.length H'.length H' w (rLeft p bs).1 → Post (.tuple #[w, .int .i64 (rLeft p bs).2]) H') :
    ACalls Try.prog 70 [sysV p u] H Post := by
  refine ACalls.res ?_
  refine acalls_vc (rs := [.tmp 2, .tmp 3]) Try.func70 rfl rfl Try.ntmps70 rfl rfl ?_
  simp (maxSteps := 1000000) [go_sem, sysV, hu.one]
  have hx0 := Holds.last H [.int .i64 p, u]
  refine implIsSys (hu.pre (List.prefix_append _ _)) _ ?_
  intro H1 hp1
  obtain ⟨d0, d1, d2⟩ := (hx0.pre hp1).sys
  cases hs : sysB p bs with
  | false =>
    simp (maxSteps := 1000000) [go_sem]
    refine ⟨_, Up.tuple (ys := #[lv 1 0 0 0, .int .i64 1]) ⟨Up.nil _ _ _ _, Up.refl _ _, trivial⟩, ?_⟩
    have hr : rLeft p bs = ([], 1) := by simp [rLeft, hs]
    have := h H1 (lv 1 0 0 0) (pre_box hp1) (by rw [hr]; exact RowsIn.nil _ _ _)
    rwa [hr] at this
  | true =>
    simp (maxSteps := 1000000) [go_sem, d0]
    refine pairsLeft_ok (hu.pre (pre_box hp1)) (sysB_of hs) _ ?_
    intro H2 w hp2 hw
    simp (maxSteps := 1000000) [go_sem]
    have hr : rLeft p bs = (prs0 (leftP bs) p.toNat p.toNat, 0) := by simp [rLeft, hs]
    have := h H2 w ((pre_box hp1).trans hp2) (by rw [hr]; exact hw.wider (pre_box hp1).length_le)
    rw [hr] at this
    exact ⟨_, Up.refl _ _, this⟩

end Go.Proofs.Ytkgjdmbmdnmilaa
