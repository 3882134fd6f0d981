/- Free blocks: both sides. -/
import Derived.Test.YtkgjdmbmdnmilaaCommon
set_option linter.all false
set_option maxRecDepth 20000
namespace Go.Proofs.Ytkgjdmbmdnmilaa
open Go.Ab

/-- A function value that tells of blocks, with what it bears. -/
def TellsB (g : FuncId) (fs bs : List Value) (Q : Bk → Prop) (P : Bk → Bool) (H : Heap) : Prop :=
  ∀ (H' : Heap) (b : Bk) (Post : Value → Heap → Prop), H <+: H' → Q b → (∀ H'', H' <+: H'' → Post (.bool (P b)) H'') → ACalls Try.prog g (fs ++ b.val :: bs) H' Post

theorem triples_ok {H : Heap} {v : Nat} {g : FuncId} {fs bs : List Value} {P : Bk → Bool} (hv : v ≤ 15) (hf : TellsB g fs bs (fun b => b ∈ triples v) P H) (Post : Value → Heap → Prop)
    (h : ∀ H' w, H <+: H' → BlocksIn H.length H'.length H' w ((triples v).filter P) → Post w H') :
    ACalls Try.prog 135 [.int .i64 v, .func (.func g) fs.toArray bs.toArray] H Post := by
  refine ACalls.res ?_
  refine acalls_vc (rs := [.tmp 4]) Try.func135 rfl rfl Try.ntmps135 rfl rfl ?_
  simp (maxSteps := 1000000) [go_sem]
  refine AWp.addGhost ?_
  have hb0 := Bl.ghost 3 H
  generalize H ++ [(⟨[], false, false⟩ : Blk)] = H0 at hb0 ⊢
  have hmem : ∀ {a b c : Nat}, a < b → b < c → c < v → (⟨a, b, c⟩ : Bk) ∈ triples v := by
    intro a b c h1 h2 h3
    simp only [triples, trip0, trip1, trip2, List.mem_flatMap, List.mem_map, mem_upTo]
    exact ⟨a, by omega, b, by omega, c, by omega, rfl⟩
  have hle2 : ∀ a b k : Nat, (trip2 v a b k).length ≤ k := by intro a b k; rw [trip2, List.length_map, upTo_length]; omega
  have hle1 : ∀ a k : Nat, (trip1 v a k).length ≤ k * 15 := by
    intro a k
    induction k with
    | zero => simp [trip1, upTo_self]
    | succ k ih =>
      by_cases hak : a + 1 ≤ k
      · rw [trip1_succ hak, List.length_append]; have := hle2 a k v; omega
      · have : trip1 v a (k + 1) = [] := by unfold trip1; rw [upTo_self (by omega)]; rfl
        rw [this]; simp
  have hle0 : ∀ k : Nat, k ≤ 15 → (trip0 v k).length ≤ k * 225 := by
    intro k hk
    induction k with
    | zero => simp [trip0, upTo_self]
    | succ k ih => rw [trip0_succ, List.length_append]; have := ih (by omega); have := hle1 k v; omega
  -- a list that grows
  refine AWp.loopVc (St := Nat × Nat × List Bk) (fun s => [(0, .int .i64 v), (1, .func (.func g) fs.toArray bs.toArray), (5, lv 3 s.2.1 0 s.2.2.length), (9, .int .i64 v), (10, .int .i64 s.1)])
    (fun s H' => s.1 ≤ v ∧ s.2.2 = (trip0 v s.1).filter P ∧ Bl 3 H H' s.2.1 (tri s.2.2) s.2.2.length) (fun s => v - s.1) (0, H.length, []) ?_ ?_ ?_
  · simp [upF, Fr.get, Up.refl, Up.nil]
  · exact ⟨by simp, by simp [trip0_start], by simpa [tri] using hb0⟩
  · rintro K ⟨a, id, acc⟩ H' ⟨ha, hacc, hbl⟩ hK
    simp only at ha hacc hbl
    by_cases hlt : a < v
    · have hw_a : IntKind.i64.wrap ((a : Int) + 1) = (a : Int) + 1 := i64w (by omega) (by omega)
      simp (maxSteps := 1000000) [go_sem, hlt, hw_a]
      refine AWp.loopVc (St := Nat × Nat × List Bk) (fun s => [(0, .int .i64 v), (1, .func (.func g) fs.toArray bs.toArray), (5, lv 3 s.2.1 0 s.2.2.length), (6, .int .i64 a), (7, .int .i64 s.1), (9, .int .i64 v), (10, .int .i64 a)])
        (fun s H' => a + 1 ≤ s.1 ∧ s.1 ≤ v ∧ s.2.2 = (trip0 v a ++ trip1 v a s.1).filter P ∧ Bl 3 H H' s.2.1 (tri s.2.2) s.2.2.length) (fun s => v - s.1) (a + 1, id, acc) ?_ ?_ ?_
      · simp [upF, Fr.get, Up.refl]
      · exact ⟨by simp, by simp only; omega, by simp [trip1_start, hacc], hbl⟩
      · rintro K2 ⟨b, id2, acc2⟩ H2 ⟨hab, hb, hacc2, hbl2⟩ hK2
        simp only at hab hb hacc2 hbl2
        by_cases hlt2 : b < v
        · have hw_b : IntKind.i64.wrap ((b : Int) + 1) = (b : Int) + 1 := i64w (by omega) (by omega)
          simp (maxSteps := 1000000) [go_sem, hlt2, hw_b]
          refine AWp.loopVc (St := Nat × Nat × List Bk) (fun s => [(0, .int .i64 v), (1, .func (.func g) fs.toArray bs.toArray), (5, lv 3 s.2.1 0 s.2.2.length), (6, .int .i64 a), (7, .int .i64 b), (8, .int .i64 s.1), (9, .int .i64 v), (10, .int .i64 a)])
            (fun s H' => b + 1 ≤ s.1 ∧ s.1 ≤ v ∧ s.2.2 = (trip0 v a ++ trip1 v a b ++ trip2 v a b s.1).filter P ∧ Bl 3 H H' s.2.1 (tri s.2.2) s.2.2.length) (fun s => v - s.1) (b + 1, id2, acc2) ?_ ?_ ?_
          · simp [upF, Fr.get, Up.refl]
          · exact ⟨by simp, by simp only; omega, by simp [trip2_start, hacc2], hbl2⟩
          · rintro K3 ⟨c, id3, acc3⟩ H3 ⟨hbc, hc, hacc3, hbl3⟩ hK3
            simp only at hbc hc hacc3 hbl3
            by_cases hlt3 : c < v
            · have hw_c : IntKind.i64.wrap ((c : Int) + 1) = (c : Int) + 1 := i64w (by omega) (by omega)
              have hlen : acc3.length ≤ 10000 := by
                rw [hacc3]
                refine Nat.le_trans (List.length_filter_le _ _) ?_
                simp only [List.length_append]
                have := hle0 a (by omega); have := hle1 a b; have := hle2 a b c
                omega
              simp (maxSteps := 1000000) [go_sem, hlt3]
              refine hf H3 ⟨a, b, c⟩ _ hbl3.1 (hmem (by omega) (by omega) hlt3) ?_
              intro H4 hp4
              have hbl4 := hbl3.pre hp4
              have hsn : ∀ l : List Bk, (l ++ trip2 v a b (c + 1)).filter P = (l ++ trip2 v a b c).filter P ++ (if P ⟨a, b, c⟩ then [⟨a, b, c⟩] else []) := by
                intro l
                rw [trip2_succ hbc, ← List.append_assoc, List.filter_append (_ ++ _)]
                congr 1
                cases hP : P ⟨a, b, c⟩ <;> simp [hP]
              cases hP : P ⟨a, b, c⟩ with
              | false =>
                simp (maxSteps := 1000000) [go_sem, hw_c]
                exact hK3 (c + 1, id3, acc3) _ _ (by simp only; omega) (by simp [upF, Fr.get, Up.refl]) ⟨by simp only; omega, by simp only; omega, by simp only [hsn, hP, hacc3]; simp, hbl4⟩
              | true =>
                obtain ⟨hsrc, H5, hap, hbl5⟩ := hbl4.push (xs := (⟨a, b, c⟩ : Bk).cells) (by omega) rfl
                simp only [Bk.cells] at hsrc hap hbl5
                simp (maxSteps := 1000000) [go_sem, hw_c, hsrc, hap]
                refine andK_intro (by omega) (hK3 (c + 1, H4.length + 1, acc3 ++ [⟨a, b, c⟩]) _ _ (by simp only; omega) (by simp [upF, Fr.get, Up.refl]) ⟨by simp only; omega, by simp only; omega, by simp only [hsn, hP, hacc3]; simp, ?_⟩)
                simp only [List.length_append, List.length_singleton, tri_append, tri_one, Bk.cells]
                exact hbl5
            · have : c = v := by omega
              subst this
              simp (maxSteps := 1000000) [go_sem, hw_b]
              exact hK2 (b + 1, id3, acc3) _ _ (by simp only; omega) (by simp [upF, Fr.get, Up.refl]) ⟨by simp only; omega, by simp only; omega, by simp only [trip1_succ hab, ← List.append_assoc]; exact hacc3, hbl3⟩
        · have : b = v := by omega
          subst this
          simp (maxSteps := 1000000) [go_sem, hw_a]
          exact hK (a + 1, id2, acc2) _ _ (by simp only; omega) (by simp [upF, Fr.get, Up.refl]) ⟨by simp only; omega, by simp only [trip0_succ]; exact hacc2, hbl2⟩
    · have : a = v := by omega
      subst this
      simp (maxSteps := 1000000) [go_sem]
      have hlen : acc.length ≤ 10000 := by
        rw [hacc]
        refine Nat.le_trans (List.length_filter_le _ _) ?_
        have := hle0 a (by omega)
        omega
      refine ⟨_, Up.refl _ _, h H' _ hbl.1 ?_⟩
      have := OwnBlocks.inn (OwnBlocks.of_ol hbl.2.1 (by omega)) hbl.2.2
      rw [hacc] at this
      rw [hacc]
      exact this

theorem free_ok {H : Heap} {u : Value} {p : Int} {bs : List Bk} (hu : BlocksAt H u bs) (hS : IsSys p bs) (Post : Value → Heap → Prop)
    (h : ∀ H' w, H <+: H' → BlocksIn H.length H'.length H' w ((triples p.toNat).filter (leftB bs)) → Post w H') :
    ACalls Try.prog 109 [sysV p u] H Post := by
  refine acalls_vc (rs := [.tmp 2]) Try.func109 rfl rfl Try.ntmps109 rfl rfl ?_
  have hp := hS.1
  obtain ⟨n, rfl⟩ : ∃ n : Nat, p = n := ⟨p.toNat, by omega⟩
  simp (maxSteps := 1000000) [go_sem, sysV, hu.one]
  have hp0 : H <+: H ++ [⟨[.int .i64 n, u], true, true⟩] := List.prefix_append _ _
  have hx0 := Holds.last H [.int .i64 n, u]
  generalize H ++ [(⟨[.int .i64 n, u], true, true⟩ : Blk)] = H0 at hp0 hx0 ⊢
  obtain ⟨d0, d1, d2⟩ := hx0.sys
  refine AWp.draw mixed [(0, false), (1, false), (2, false), (3, true), (4, false), (5, false), (6, false)] (by kernel_rfl) ?_
  simp (maxSteps := 1000000) [go_sem, d1, d0]
  refine sysGrid_ok (hu.pre hp0) hS.good15 hS.2.2.2 _ ?_
  intro H1 id gs hp1 _ hga hgo
  simp (maxSteps := 1000000) [go_sem, hp1]
  refine triples_ok (fs := [.pointer (some ⟨id, 0, none⟩)]) (bs := []) (P := leftB bs) (by omega) ?_ _ ?_
  · intro H' b Post' hp' hb hP
    obtain ⟨hg, x, y, z, rfl, hxy, hyz, hz⟩ := mem_triples hb
    refine isLeft_ok (hga.keep hp') (by omega) (by omega) (by omega) _ ?_
    intro H'' hp''
    rw [gridOf_left hgo hxy hyz (by omega)]
    exact hP H'' hp''
  intro H2 w hp2 hw
  simp (maxSteps := 1000000) [go_sem]
  exact h H2 w (hp0.trans (hp1.trans hp2)) (hw.wider (hp0.trans hp1).length_le)

noncomputable def rFree (p : Int) (bs : List Bk) : List Bk × Int := if sysB p bs then ((triples p.toNat).filter (leftB bs), 0) else ([], 1)

theorem implFreeBlocks_ok {H : Heap} {u : Value} {p : Int} {bs : List Bk} (hu : BlocksAt H u bs) (hl : bs.length ≤ 1048576) (Post : Value → Heap → Prop)
    (h : ∀ H' w, H <+: H' → BlocksIn H.length H'.length H' w (rFree p bs).1 → Post (.tuple #[w, .int .i64 (rFree p bs).2]) H') :
    ACalls Try.prog 51 [sysV p u] H Post := by
  refine ACalls.res ?_
  refine acalls_vc (rs := [.tmp 2, .tmp 3]) Try.func51 rfl rfl Try.ntmps51 rfl rfl ?_
  simp (maxSteps := 1000000) [go_sem, sysV, hu.one]
  have hx0 := Holds.last H [.int .i64 p, u]
  refine implIsSys (hu.pre (List.prefix_append _ _)) _ ?_
  intro H1 hp1
  obtain ⟨d0, d1, d2⟩ := (hx0.pre hp1).sys
  cases hs : sysB p bs with
  | false =>
    simp (maxSteps := 1000000) [go_sem]
    refine ⟨_, Up.tuple (ys := #[lv 3 0 0 0, .int .i64 1]) ⟨Up.nil _ _ _ _, Up.refl _ _, trivial⟩, ?_⟩
    have hr : rFree p bs = ([], 1) := by simp [rFree, hs]
    have := h H1 (lv 3 0 0 0) (pre_box hp1) (by rw [hr]; exact BlocksIn.nil _ _ _)
    rwa [hr] at this
  | true =>
    simp (maxSteps := 1000000) [go_sem, d0]
    refine free_ok (hu.pre (pre_box hp1)) (sysB_of hs) _ ?_
    intro H2 w hp2 hw
    simp (maxSteps := 1000000) [go_sem]
    have hr : rFree p bs = ((triples p.toNat).filter (leftB bs), 0) := by simp [rFree, hs]
    have := h H2 w ((pre_box hp1).trans hp2) (by rw [hr]; exact hw.wider (pre_box hp1).length_le)
    rw [hr] at this
    exact ⟨_, Up.refl _ _, this⟩

theorem l01Free_ok {H : Heap} {u : Value} {p w : Int} {bs : List Bk} {b : Bk} (hu : BlocksAt H u bs) (hg : ∀ x ∈ bs, good 15 x = true) (hb : good w b = true) (Post : Value → Heap → Prop) (h : ∀ H', H <+: H' → Post (.bool (leftB bs b)) H') :
    ACalls Try.prog 172 [sysV p u, b.val] H Post := by
  obtain ⟨i, o, rfl, h1, h2⟩ := hu
  refine acalls_vc (rs := [.tmp 4]) Try.func172 rfl rfl Try.ntmps172 rfl rfl ?_
  simp (maxSteps := 1000000) [go_sem, sysV, Bk.val]
  have hp0 : H <+: H ++ [⟨[.int .i64 p, lv 3 i o bs.length], true, true⟩, ⟨[.int .i64 b.a, .int .i64 b.b, .int .i64 b.c], true, true⟩] := List.prefix_append _ _
  have hx0 : Holds (H ++ [⟨[.int .i64 p, lv 3 i o bs.length], true, true⟩, ⟨[.int .i64 b.a, .int .i64 b.b, .int .i64 b.c], true, true⟩]) H.length [.int .i64 p, lv 3 i o bs.length] := ⟨true, by simp⟩
  have hx1 : Holds (H ++ [⟨[.int .i64 p, lv 3 i o bs.length], true, true⟩, ⟨[.int .i64 b.a, .int .i64 b.b, .int .i64 b.c], true, true⟩]) (H.length + 1) [.int .i64 b.a, .int .i64 b.b, .int .i64 b.c] := ⟨true, by simp⟩
  generalize H ++ [(⟨[.int .i64 p, lv 3 i o bs.length], true, true⟩ : Blk), ⟨[.int .i64 b.a, .int .i64 b.b, .int .i64 b.c], true, true⟩] = H0 at hp0 hx0 hx1 ⊢
  have hiff := leftB_iff hg hb
  refine AWp.loopVc (fun s : Nat => [(2, .pointer (some ⟨H.length, 0, none⟩)), (3, .pointer (some ⟨H.length + 1, 0, none⟩)), (5, .int .i64 s)])
    (fun s H' => s ≤ bs.length ∧ H0 <+: H' ∧ ∀ x ∈ bs.take s, common x b ≤ 1) (fun s => bs.length - s) 0 ?_ ?_ ?_
  · simp [upF, Fr.get, Up.refl]
  · exact ⟨by omega, List.prefix_refl _, by simp⟩
  · rintro K s H' ⟨hs, hp, hf⟩ hK
    obtain ⟨d0, d1, d2⟩ := (hx0.pre hp).sys
    obtain ⟨e0, e1, e2, e3⟩ := (hx1.pre hp).bk
    by_cases hlt : s < bs.length
    · have hbs : bs[s]? = some bs[s] := List.getElem?_eq_getElem hlt
      have c1 := (h1.pre (hp0.trans hp)).bk hbs
      simp only [Bk.cells] at c1
      have hw_s : IntKind.i64.wrap ((s : Int) + 1) = (s : Int) + 1 := i64w (by omega) (by omega)
      simp (maxSteps := 1000000) [go_sem, hlt, d2]
      refine AWp.draw mixed [(0, false), (1, false), (2, false), (3, false), (4, false), (5, false), (6, false), (7, false)] (by kernel_rfl) ?_
      simp (maxSteps := 1000000) [go_sem, hlt, d2, c1, e0]
      refine l01Common_ok (b := bs[s]) (d := b) _ ?_
      intro H2 hp2
      by_cases hc : common bs[s] b ≤ 1
      · have hc' : ¬ ((1 : Int) < (common bs[s] b : Int)) := by omega
        simp (maxSteps := 1000000) [go_sem, hc', hw_s]
        refine hK (s + 1) _ _ (by omega) (by simp [upF, Fr.get, Up.refl]) ⟨by omega, hp.trans hp2, ?_⟩
        intro x hx
        rw [List.take_succ_eq_append_getElem hlt, List.mem_append] at hx
        rcases hx with hx | hx
        · exact hf x hx
        · simp at hx; subst hx; exact hc
      · have hc' : (1 : Int) < (common bs[s] b : Int) := by omega
        simp (maxSteps := 1000000) [go_sem, hc']
        have : leftB bs b = false := by
          cases hl : leftB bs b with
          | false => rfl
          | true => exact absurd (hiff.1 hl _ (List.getElem_mem hlt)) hc
        simpa [this] using h H2 (hp0.trans (hp.trans hp2))
    · have : s = bs.length := by omega
      subst this
      rw [List.take_length] at hf
      simp (maxSteps := 1000000) [go_sem, d2]
      have : leftB bs b = true := hiff.2 hf
      simpa [this] using h H' (hp0.trans hp)

end Go.Proofs.Ytkgjdmbmdnmilaa
