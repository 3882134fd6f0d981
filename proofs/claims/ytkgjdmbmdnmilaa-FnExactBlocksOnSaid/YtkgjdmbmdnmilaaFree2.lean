/- Free blocks, the specification's side. -/
import Derived.Test.YtkgjdmbmdnmilaaFree
set_option linter.all false
set_option maxRecDepth 20000
namespace Go.Proofs.Ytkgjdmbmdnmilaa
open Go.Ab

theorem trip_mem {v a b c : Nat} (h1 : a < b) (h2 : b < c) (h3 : c < v) : (⟨a, b, c⟩ : Bk) ∈ triples v := by
  simp only [triples, trip0, trip1, trip2, List.mem_flatMap, List.mem_map, mem_upTo]
  exact ⟨a, by omega, b, by omega, c, by omega, rfl⟩
theorem trip2_len (v a b k : Nat) : (trip2 v a b k).length ≤ k := by rw [trip2, List.length_map, upTo_length]; omega
theorem trip1_len {v : Nat} (hv : v ≤ 15) (a k : Nat) : (trip1 v a k).length ≤ k * 15 := by
  induction k with
  | zero => simp [trip1, upTo_self]
  | succ k ih =>
    by_cases hak : a + 1 ≤ k
    · rw [trip1_succ hak, List.length_append]; have := trip2_len v a k v; omega
    · have : trip1 v a (k + 1) = [] := by unfold trip1; rw [upTo_self (by omega)]; rfl
      rw [this]; simp
theorem trip0_len {v : Nat} (hv : v ≤ 15) (k : Nat) : (trip0 v k).length ≤ k * 225 := by
  induction k with
  | zero => simp [trip0, upTo_self]
  | succ k ih => rw [trip0_succ, List.length_append]; have := trip1_len hv k v; omega
theorem trip_snoc {v a b c : Nat} (h : b + 1 ≤ c) (P : Bk → Bool) (l : List Bk) : (l ++ trip2 v a b (c + 1)).filter P = (l ++ trip2 v a b c).filter P ++ (if P ⟨a, b, c⟩ then [⟨a, b, c⟩] else []) := by
  rw [trip2_succ h, ← List.append_assoc, List.filter_append (_ ++ _)]
  congr 1
  cases hP : P ⟨a, b, c⟩ <;> simp [hP]

theorem l01Rest_ok {H : Heap} {u : Value} {p : Int} {bs : List Bk} (hu : BlocksAt H u bs) (hS : IsSys p bs) (Post : Value → Heap → Prop)
    (h : ∀ H' w, H <+: H' → BlocksIn H.length H'.length H' w ((triples p.toNat).filter (leftB bs)) → Post w H') :
    ACalls Try.prog 108 [sysV p u] H Post := by
  have hp := hS.1
  obtain ⟨v, rfl⟩ : ∃ n : Nat, p = n := ⟨p.toNat, by omega⟩
  have hv : v ≤ 15 := by omega
  refine ACalls.res ?_
  refine acalls_vc (rs := [.tmp 2]) Try.func108 rfl rfl Try.ntmps108 rfl rfl ?_
  simp (maxSteps := 1000000) [go_sem, sysV, hu.one]
  have hp0 : H <+: H ++ [⟨[.int .i64 v, u], true, true⟩] := List.prefix_append _ _
  have hx0 := Holds.last H [.int .i64 v, u]
  have hb0 := Bl.nil 3 (H ++ [⟨[.int .i64 v, u], true, true⟩])
  simp only [List.length_append, List.length_singleton, List.append_assoc, List.singleton_append] at hb0
  have hlen0 : (H ++ [(⟨[.int .i64 v, u], true, true⟩ : Blk)]).length = H.length + 1 := by simp
  generalize H ++ [(⟨[.int .i64 v, u], true, true⟩ : Blk)] = H0 at hp0 hx0 hb0 hlen0
  refine AWp.loopVc (St := Nat × Nat × List Bk) (fun s => [(1, .pointer (some ⟨H.length, 0, none⟩)), (3, lv 3 s.2.1 0 s.2.2.length), (4, .int .i64 s.1)])
    (fun s H' => s.1 ≤ v ∧ s.2.2 = (trip0 v s.1).filter (leftB bs) ∧ Bl 3 H0 H' s.2.1 (tri s.2.2) s.2.2.length) (fun s => v - s.1) (0, H.length + 1, []) ?_ ?_ ?_
  · simp [upF, Fr.get, Up.refl, Up.ex0]
  · exact ⟨by simp, by simp [trip0_start], by simpa [tri] using hb0⟩
  · rintro K ⟨a, id, acc⟩ H' ⟨ha, hacc, hbl⟩ hK
    simp only at ha hacc hbl
    obtain ⟨d0, d1, d2⟩ := (hx0.pre hbl.1).sys
    by_cases hlt : a < v
    · have hw_a : IntKind.i64.wrap ((a : Int) + 1) = (a : Int) + 1 := i64w (by omega) (by omega)
      simp (maxSteps := 1000000) [go_sem, hlt, hw_a, d1]
      refine AWp.loopVc (St := Nat × Nat × List Bk) (fun s => [(1, .pointer (some ⟨H.length, 0, none⟩)), (3, lv 3 s.2.1 0 s.2.2.length), (4, .int .i64 a), (5, .int .i64 s.1)])
        (fun s H' => a + 1 ≤ s.1 ∧ s.1 ≤ v ∧ s.2.2 = (trip0 v a ++ trip1 v a s.1).filter (leftB bs) ∧ Bl 3 H0 H' s.2.1 (tri s.2.2) s.2.2.length) (fun s => v - s.1) (a + 1, id, acc) ?_ ?_ ?_
      · simp [upF, Fr.get, Up.refl]
      · exact ⟨by simp, by simp only; omega, by simp [trip1_start, hacc], hbl⟩
      · rintro K2 ⟨b, id2, acc2⟩ H2 ⟨hab, hb, hacc2, hbl2⟩ hK2
        simp only at hab hb hacc2 hbl2
        obtain ⟨d0, d1, d2⟩ := (hx0.pre hbl2.1).sys
        by_cases hlt2 : b < v
        · have hw_b : IntKind.i64.wrap ((b : Int) + 1) = (b : Int) + 1 := i64w (by omega) (by omega)
          simp (maxSteps := 1000000) [go_sem, hlt2, hw_b, d1]
          refine AWp.loopVc (St := Nat × Nat × List Bk) (fun s => [(1, .pointer (some ⟨H.length, 0, none⟩)), (3, lv 3 s.2.1 0 s.2.2.length), (4, .int .i64 a), (5, .int .i64 b), (6, .int .i64 s.1)])
            (fun s H' => b + 1 ≤ s.1 ∧ s.1 ≤ v ∧ s.2.2 = (trip0 v a ++ trip1 v a b ++ trip2 v a b s.1).filter (leftB bs) ∧ Bl 3 H0 H' s.2.1 (tri s.2.2) s.2.2.length) (fun s => v - s.1) (b + 1, id2, acc2) ?_ ?_ ?_
          · simp [upF, Fr.get, Up.refl]
          · exact ⟨by simp, by simp only; omega, by simp [trip2_start, hacc2], hbl2⟩
          · rintro K3 ⟨c, id3, acc3⟩ H3 ⟨hbc, hc, hacc3, hbl3⟩ hK3
            simp only at hbc hc hacc3 hbl3
            obtain ⟨d0, d1, d2⟩ := (hx0.pre hbl3.1).sys
            by_cases hlt3 : c < v
            · have hw_c : IntKind.i64.wrap ((c : Int) + 1) = (c : Int) + 1 := i64w (by omega) (by omega)
              have hlen : acc3.length ≤ 10000 := by
                rw [hacc3]
                refine Nat.le_trans (List.length_filter_le _ _) ?_
                simp only [List.length_append]
                have := trip0_len hv a; have := trip1_len hv a b; have := trip2_len v a b c
                omega
              simp (maxSteps := 1000000) [go_sem, hlt3, d1, d0]
              refine l01Free_ok (b := ⟨a, b, c⟩) (hu.pre (hp0.trans hbl3.1)) hS.good15 (w := v) (by rw [good_iff]; simp only; omega) _ ?_
              intro H4 hp4
              have hbl4 := hbl3.pre hp4
              have hsn := trip_snoc (v := v) (a := a) hbc (leftB bs) (trip0 v a ++ trip1 v a b)
              cases hP : leftB bs ⟨a, b, c⟩ with
              | false =>
                simp (maxSteps := 1000000) [go_sem, hw_c]
                exact hK3 (c + 1, id3, acc3) _ _ (by simp only; omega) (by simp [upF, Fr.get, Up.refl]) ⟨by simp only; omega, by simp only; omega, by simp only [hsn, hP, hacc3]; simp, hbl4⟩
              | true =>
                obtain ⟨hsrc, H5, hap, hbl5⟩ := hbl4.push (xs := (⟨a, b, c⟩ : Bk).cells) (by omega) rfl
                simp only [Bk.cells] at hsrc hap hbl5
                simp (maxSteps := 1000000) [go_sem, hw_c, hsrc, hap]
                refine andK_intro (by omega) (hK3 (c + 1, H4.length + 1, acc3 ++ [⟨a, b, c⟩]) _ _ (by simp only; omega) (by simp [upF, Fr.get, Up.refl]) ⟨by simp only; omega, by simp only; omega, by simp only [hsn, hP, hacc3]; simp, ?_⟩)
                simp only [List.length_append, List.length_singleton, tri_append, tri_one, Bk.cells]
                exact hbl5
            · have : c = v := by omega
              subst this
              simp (maxSteps := 1000000) [go_sem, hw_b, d1]
              exact hK2 (b + 1, id3, acc3) _ _ (by simp only; omega) (by simp [upF, Fr.get, Up.refl]) ⟨by simp only; omega, by simp only; omega, by simp only [trip1_succ hab, ← List.append_assoc]; exact hacc3, hbl3⟩
        · have : b = v := by omega
          subst this
          simp (maxSteps := 1000000) [go_sem, hw_a, d1]
          exact hK (a + 1, id2, acc2) _ _ (by simp only; omega) (by simp [upF, Fr.get, Up.refl]) ⟨by simp only; omega, by simp only [trip0_succ]; exact hacc2, hbl2⟩
    · have : a = v := by omega
      subst this
      simp (maxSteps := 1000000) [go_sem, d1]
      have hlen : acc.length ≤ 10000 := by
        rw [hacc]
        refine Nat.le_trans (List.length_filter_le _ _) ?_
        have := trip0_len hv a
        omega
      refine ⟨_, Up.refl _ _, h H' _ (hp0.trans hbl.1) ?_⟩
      have := (OwnBlocks.inn (OwnBlocks.of_ol hbl.2.1 (by omega)) hbl.2.2).wider (c := H.length) (by omega)
      rw [hacc] at this
      rw [hacc]
      exact this

theorem specFreeBlocks_ok {H : Heap} {u : Value} {p : Int} {bs : List Bk} (hu : BlocksAt H u bs) (hl : bs.length ≤ 1048576) (Post : Value → Heap → Prop)
    (h : ∀ H' w, H <+: H' → BlocksIn H.length H'.length H' w (rFree p bs).1 → Post (.tuple #[w, .int .i64 (rFree p bs).2]) H') :
    ACalls Try.prog 50 [sysV p u] H Post := by
  refine ACalls.res ?_
  refine acalls_vc (rs := [.tmp 2, .tmp 3]) Try.func50 rfl rfl Try.ntmps50 rfl rfl ?_
  simp (maxSteps := 1000000) [go_sem, sysV, hu.one]
  have hx0 := Holds.last H [.int .i64 p, u]
  refine l01Is' (hu.pre (List.prefix_append _ _)) hl _ ?_
  intro H1 hp1
  obtain ⟨d0, d1, d2⟩ := (hx0.pre hp1).sys
  cases hs : sysB p bs with
  | false =>
    simp (maxSteps := 1000000) [go_sem]
    refine ⟨_, Up.tuple (ys := #[lv 3 0 0 0, .int .i64 1]) ⟨Up.nil _ _ _ _, Up.refl _ _, trivial⟩, ?_⟩
    have hr : rFree p bs = ([], 1) := by simp [rFree, hs]
    have := h H1 (lv 3 0 0 0) (pre_box hp1) (by rw [hr]; exact BlocksIn.nil _ _ _)
    rwa [hr] at this
  | true =>
    simp (maxSteps := 1000000) [go_sem, d0]
    refine l01Rest_ok (hu.pre (pre_box hp1)) (sysB_of hs) _ ?_
    intro H2 w hp2 hw
    simp (maxSteps := 1000000) [go_sem]
    have hr : rFree p bs = ((triples p.toNat).filter (leftB bs), 0) := by simp [rFree, hs]
    have := h H2 w ((pre_box hp1).trans hp2) (by rw [hr]; exact hw.wider (pre_box hp1).length_le)
    rw [hr] at this
    exact ⟨_, Up.refl _ _, this⟩

end Go.Proofs.Ytkgjdmbmdnmilaa
