/- Part 5 of what the proof of the law FnExactDoubleSystem rests on: contracts of functions of the program, for every argument that each names; no statement of the seat is proved here. -/
import Derived.Test.YtdfeoccjllljiaaFnExactDoubleSystemPart4

section
/- Sorting by a function: the breaking of patterns. -/
set_option linter.all false
set_option maxRecDepth 20000
set_option maxHeartbeats 8000000
namespace Go.Proofs.Ytdfeoccjllljiaa
open Go.Ab Go.Sort

theorem breakO_ok {H : Heap} {id a b n : Nat} {d : Array Int} {Q : Int → Prop} (hA : Arr cellsI H id d) (hn : d.size = n) (hl : n ≤ 1048576) (hab : a ≤ b) (hb : b ≤ n) (hQ : QA Q d)
    (Post : Value → Heap → Prop) (h : ∀ H' d', Same (fun k => k = id) H H' → Arr cellsI H' id d' → QA Q d' → PermIn a b d d' → Post (.tuple #[]) H') :
    ACalls Try.prog 192 [lv 1 id 0 n, .int .i64 a, .int .i64 b] H Post := by
  refine acalls_vc (rs := []) Try.func192 rfl rfl Try.ntmps192 rfl rfl ?_
  obtain ⟨l, hll⟩ : ∃ l, l = b - a := ⟨_, rfl⟩
  obtain ⟨q, hq⟩ : ∃ q, q = l / 4 := ⟨_, rfl⟩
  have w0 : IntKind.i64.wrap ((b : Int) - a) = (l : Int) := by rw [hll, i64w (by omega) (by omega)]; omega
  by_cases h8 : 8 ≤ l
  · have h8' : (8 : Int) ≤ l := by omega
    obtain ⟨i0, hi0⟩ : ∃ i0, i0 = a + q * 2 - 1 := ⟨_, rfl⟩
    have w1 : IntKind.i64.wrap ((l : Int) / 4) = (q : Int) := by rw [hq, i64w (by omega) (by omega)]; omega
    have w2 : IntKind.i64.wrap ((q : Int) * 2) = (q : Int) * 2 := i64w (by omega) (by omega)
    have w3 : IntKind.i64.wrap ((a : Int) + (q : Int) * 2) = (a : Int) + (q : Int) * 2 := i64w (by omega) (by omega)
    have w4 : IntKind.i64.wrap ((a : Int) + (q : Int) * 2 - 1) = (i0 : Int) := by rw [hi0, i64w (by omega) (by omega)]; omega
    have w5 : IntKind.i64.wrap ((a : Int) + (q : Int) * 2 + 1) = (i0 : Int) + 2 := by rw [i64w (by omega) (by omega)]; omega
    have w6 : IntKind.u64.wrap (l : Int) = l := by rw [IntKind.wrap_u64]; omega
    simp (maxSteps := 1000000) [go_sem, w0, h8, h8', w6]
    have hp0 : H <+: H ++ [⟨[.int .u64 l], true, true⟩] := List.prefix_append _ _
    have hz0 : (H ++ [(⟨[.int .u64 l], true, true⟩ : Blk)])[H.length]? = some ⟨[.int .u64 l], true, true⟩ := by simp
    have hidl := hA.lt
    have hA0 := hA.pre hp0
    have hS0 : Same (fun k => k = id) H (H ++ [⟨[.int .u64 l], true, true⟩]) := Same.of_prefix hp0
    generalize H ++ [(⟨[.int .u64 l], true, true⟩ : Blk)] = H0 at hp0 hz0 hA0 hS0 ⊢
    refine nextPow_ok (by omega) (by omega) _ ?_
    intro m hm0 hm
    obtain ⟨m1, hm1⟩ : ∃ m1, m1 = m - 1 := ⟨_, rfl⟩
    have w7 : IntKind.u64.wrap ((m : Int) - 1) = (m1 : Int) := by rw [hm1, IntKind.wrap_u64]; omega
    simp (maxSteps := 1000000) [go_sem, w1, w2, w3, w4]
    refine AWp.loopVc (St := Nat × Array Int × Int) (fun s => [(0, lv 1 id 0 n), (1, .int .i64 a), (6, .int .i64 l), (7, .pointer (some ⟨H.length, 0, none⟩)), (8, .int .u64 m), (9, .int .i64 s.1)])
      (fun s H' => i0 ≤ s.1 ∧ s.1 ≤ i0 + 3 ∧ s.2.1.size = n ∧ QA Q s.2.1 ∧ Same (fun k => k = id) H H' ∧ Arr cellsI H' id s.2.1 ∧ PermIn a b d s.2.1 ∧ H'[H.length]? = some ⟨[.int .u64 s.2.2], true, true⟩) (fun s => i0 + 3 - s.1) (i0, d, (l : Int)) ?_ ?_ ?_
    · simp [upF, Fr.get, Up.refl]
    · exact ⟨Nat.le_refl _, by simp only; omega, hn, hQ, hS0, hA0, permIn_refl _ _ _, hz0⟩
    · rintro K ⟨i, d1, z⟩ H1 ⟨hi1, hi2, hsz, hQ1, hS1, hA1, hP, hz⟩ hK
      simp only at hi1 hi2 hsz hQ1 hS1 hA1 hP hz
      by_cases hi3 : i ≤ i0 + 2
      · have hi3' : (i : Int) ≤ (i0 : Int) + 2 := by omega
        have hw_i : IntKind.i64.wrap ((i : Int) + 1) = (i : Int) + 1 := i64w (by omega) (by omega)
        simp (maxSteps := 1000000) [go_sem, w1, w2, w3, w5, hi3, hi3']
        refine xorNext_ok hz _ ?_
        intro z' H2 hzl hS2 hz2
        have hA2 : Arr cellsI H2 id d1 := hS2.get hA1 (by omega)
        have hS2' : Same (fun k => k = id) H H2 := hS1.via hS2 (by intro j hj e; omega)
        obtain ⟨o, ho⟩ : ∃ o, o = (z' % 2 ^ 64) &&& m1 := ⟨_, rfl⟩
        have hol : o ≤ m1 := by rw [ho]; exact Nat.and_le_right
        have hand := and_u64r (a := z') (b := m1) (by omega)
        rw [← ho] at hand
        have w8 : IntKind.i64.wrap (o : Int) = o := i64w (by omega) (by omega)
        have fin : ∀ (o2 : Nat), o2 < l → ∀ (H3 : Heap), H3 = H2 → Same (fun k => k = id) H H3 := fun _ _ H3 e => e ▸ hS2'
        by_cases hol2 : l ≤ o
        · have hol2' : (l : Int) ≤ o := by omega
          obtain ⟨o2, ho2⟩ : ∃ o2, o2 = o - l := ⟨_, rfl⟩
          have w9 : IntKind.i64.wrap ((o : Int) - l) = (o2 : Int) := by rw [ho2, i64w (by omega) (by omega)]; omega
          have hlt : o2 < l := by omega
          simp (maxSteps := 1000000) [go_sem, w7, hand, w8, hol2, hol2', w9]
          obtain ⟨ao, hao⟩ : ∃ ao, ao = a + o2 := ⟨_, rfl⟩
          have wa : IntKind.i64.wrap ((a : Int) + o2) = (ao : Int) := by rw [hao, i64w (by omega) (by omega)]; omega
          have u1 : i < (d1).size := by omega
          have u2 : ao < (d1).size := by omega
          have u3 : i < n := by omega
          have u4 : ao < n := by omega
          have uca := (hA2).load cellsI_len u1
          have ucb := (hA2).load cellsI_len u2
          obtain ⟨H5, H6, us1, us0, hA6, hS6, ul⟩ := (hA2).swap cellsI_len cellsI_one u1 u2
          obtain ⟨ux, uhx⟩ : ∃ x, x = (d1)[i]! := ⟨_, rfl⟩
          obtain ⟨uy, uhy⟩ : ∃ y, y = (d1)[ao]! := ⟨_, rfl⟩
          rw [← uhx] at uca us0
          rw [← uhy] at ucb us1
          simp only [cellsI, Nat.mul_one, Row.val] at uca ucb us0 us1
          refine AWp.draw mixed [(0, false), (1, false), (2, false), (3, false), (4, false), (5, false), (6, false), (7, false), (8, false), (9, false), (10, false), (11, false), (12, false), (13, false), (14, false), (15, false), (16, false), (17, false), (18, false), (19, false)] (by kernel_rfl) ?_
          simp (maxSteps := 1000000) [go_sem, wa, uca, ucb, u3, u4, us1, us0, hw_i]
          have hz6 := hS6.get hz2 (by omega)
          exact hK (i + 1, swp d1 i ao, (z' : Int)) _ _ (by simp only; omega) (by simp [upF, Fr.get, Up.refl]) ⟨by simp only; omega, by simp only; omega, by rw [size_swp]; exact hsz, hQ1.swp u1 u2, hS2'.trans hS6, hA6, permIn_trans _ _ _ a b hP (swp_permIn d1 a b i ao (by omega) (by omega) (by omega) (by omega) (by omega)), hz6⟩
        · have hol2' : ¬ ((l : Int) ≤ o) := by omega
          have hlt : o < l := by omega
          simp (maxSteps := 1000000) [go_sem, w7, hand, w8, hol2, hol2']
          obtain ⟨ao, hao⟩ : ∃ ao, ao = a + o := ⟨_, rfl⟩
          have wa : IntKind.i64.wrap ((a : Int) + o) = (ao : Int) := by rw [hao, i64w (by omega) (by omega)]; omega
          have u1 : i < (d1).size := by omega
          have u2 : ao < (d1).size := by omega
          have u3 : i < n := by omega
          have u4 : ao < n := by omega
          have uca := (hA2).load cellsI_len u1
          have ucb := (hA2).load cellsI_len u2
          obtain ⟨H5, H6, us1, us0, hA6, hS6, ul⟩ := (hA2).swap cellsI_len cellsI_one u1 u2
          obtain ⟨ux, uhx⟩ : ∃ x, x = (d1)[i]! := ⟨_, rfl⟩
          obtain ⟨uy, uhy⟩ : ∃ y, y = (d1)[ao]! := ⟨_, rfl⟩
          rw [← uhx] at uca us0
          rw [← uhy] at ucb us1
          simp only [cellsI, Nat.mul_one, Row.val] at uca ucb us0 us1
          refine AWp.draw mixed [(0, false), (1, false), (2, false), (3, false), (4, false), (5, false), (6, false), (7, false), (8, false), (9, false), (10, false), (11, false), (12, false), (13, false), (14, false), (15, false), (16, false), (17, false), (18, false), (19, false)] (by kernel_rfl) ?_
          simp (maxSteps := 1000000) [go_sem, wa, uca, ucb, u3, u4, us1, us0, hw_i]
          have hz6 := hS6.get hz2 (by omega)
          exact hK (i + 1, swp d1 i ao, (z' : Int)) _ _ (by simp only; omega) (by simp [upF, Fr.get, Up.refl]) ⟨by simp only; omega, by simp only; omega, by rw [size_swp]; exact hsz, hQ1.swp u1 u2, hS2'.trans hS6, hA6, permIn_trans _ _ _ a b hP (swp_permIn d1 a b i ao (by omega) (by omega) (by omega) (by omega) (by omega)), hz6⟩
      · have hi3' : ¬ ((i : Int) ≤ (i0 : Int) + 2) := by omega
        simp (maxSteps := 1000000) [go_sem, w1, w2, w3, w5, hi3, hi3']
        exact h H1 d1 hS1 hA1 hQ1 hP
  · have h8' : ¬ ((8 : Int) ≤ l) := by omega
    have fin := h H d (Same.refl _ _) hA hQ (permIn_refl _ _ _)
    simp (maxSteps := 1000000) [go_sem, w0, h8, h8']
    exact fin

end Go.Proofs.Ytdfeoccjllljiaa
end

section
/- Sorting by a function: pdqsort. -/
set_option linter.all false
set_option maxRecDepth 20000
set_option maxHeartbeats 8000000
namespace Go.Proofs.Ytdfeoccjllljiaa
open Go.Ab Go.Sort

theorem pdqO_ok {lt : Int → Int → Bool} {Q : Int → Prop} {n : Nat} (hS : SWO lt) (hl : n ≤ 1048576) : ∀ (N : Nat) {H : Heap} {id a b limit : Nat} {d : Array Int}, b - a ≤ N → Arr cellsI H id d → d.size = n → a ≤ b → b ≤ n → limit ≤ 64 → Below lt a b d → QA Q d →
    CmpO lt Q id H → ∀ (Post : Value → Heap → Prop), (∀ H' d', Same (fun k => k = id) H H' → Arr cellsI H' id d' → PermIn a b d d' → SortedIn lt a b d' → Post (.tuple #[]) H') →
    ACalls Try.prog 183 [lv 1 id 0 n, .int .i64 a, .int .i64 b, .int .i64 limit] H Post := by
  intro N
  induction N using Nat.strongRecOn with
  | _ N ih =>
  intro H id a b limit d hN hA hn hab hb hlim hBel hQ hC Post h
  refine acalls_vc (rs := []) Try.func183 rfl rfl Try.ntmps183 rfl rfl ?_
  simp (maxSteps := 1000000) [go_sem]
  refine AWp.loopA (St := Nat × Nat × Nat × Bool × Bool × Array Int) (fun s => [(0, lv 1 id 0 n), (1, .int .i64 s.1), (2, .int .i64 s.2.1), (3, .int .i64 s.2.2.1), (8, .bool s.2.2.2.1), (9, .bool s.2.2.2.2.1)])
    (fun s H' => a ≤ s.1 ∧ s.1 ≤ s.2.1 ∧ s.2.1 ≤ b ∧ s.2.2.1 ≤ 64 ∧ s.2.2.2.2.2.size = n ∧ QA Q s.2.2.2.2.2 ∧ Same (fun k => k = id) H H' ∧ Arr cellsI H' id s.2.2.2.2.2 ∧ Below lt s.1 s.2.1 s.2.2.2.2.2 ∧
      ∀ R, PermIn s.1 s.2.1 s.2.2.2.2.2 R → SortedIn lt s.1 s.2.1 R → PermIn a b d R ∧ SortedIn lt a b R) (fun s => s.2.1 - s.1) (a, b, limit, true, true, d) ?_ ?_ ?_
  · simp [upF, Fr.get, Up.refl]
  · exact ⟨Nat.le_refl _, hab, Nat.le_refl _, hlim, hn, hQ, Same.refl _ _, hA, hBel, fun R h1 h2 => ⟨h1, h2⟩⟩
  · rintro K ⟨a1, b1, li, wb, wp, d1⟩ H1 ⟨haa, hab1, hbb, hli, hsz, hQ1, hS1, hA1, hB1, hfin⟩ hK
    simp only at haa hab1 hbb hli hsz hQ1 hS1 hA1 hB1 hfin
    obtain ⟨l, hll⟩ : ∃ l, l = b1 - a1 := ⟨_, rfl⟩
    have w0 : IntKind.i64.wrap ((b1 : Int) - a1) = (l : Int) := by rw [hll, i64w (by omega) (by omega)]; omega
    refine AWp.block ?_
    -- the length
    refine AWp.ofVc ?_
    simp (maxSteps := 1000000) [go_sem, w0]
    by_cases h12 : l ≤ 12
    · have h12' : (l : Int) ≤ 12 := by omega
      refine AWp.ofVc ?_
      simp (maxSteps := 1000000) [go_sem, h12, h12']
      refine insO_ok hA1 hsz hl (by omega) (by omega) hQ1 (hC.keep hS1) _ ?_
      intro H2 hS2 hA2
      obtain ⟨f1, f2⟩ := insertionSort_holds hS d1 a1 b1 (by omega) (by omega)
      obtain ⟨f3, f4⟩ := hfin _ f1 f2
      have fin := h H2 _ (hS1.trans hS2) hA2 f3 f4
      simp (maxSteps := 1000000) [go_sem]
      exact fin
    have h12' : ¬ ((l : Int) ≤ 12) := by omega
    refine AWp.ofVc ?_
    simp (maxSteps := 1000000) [go_sem, h12, h12']
    by_cases hl0 : li = 0
    · subst hl0
      refine AWp.ofVc ?_
      simp (maxSteps := 1000000) [go_sem]
      refine heapO_ok hA1 hsz hl (by omega) (by omega) hQ1 (hC.keep hS1) _ ?_
      intro H2 hS2 hA2
      obtain ⟨f1, f2⟩ := heapSort_holds hS d1 a1 b1 (by omega) (by omega)
      obtain ⟨f3, f4⟩ := hfin _ f1 f2
      have fin := h H2 _ (hS1.trans hS2) hA2 f3 f4
      simp (maxSteps := 1000000) [go_sem]
      exact fin
    have hl0' : ((li : Int) == 0) = false := by rw [beq_eq_false_iff_ne]; omega
    refine AWp.ofVc ?_
    simp (maxSteps := 1000000) [go_sem, hl0, hl0']
    -- the patterns
    refine AWp.seqCut (St := Nat × Array Int) (fun s => [(0, lv 1 id 0 n), (1, .int .i64 a1), (2, .int .i64 b1), (3, .int .i64 s.1), (8, .bool wb), (9, .bool wp), (10, .int .i64 l)])
      (fun s H' => s.1 ≤ 64 ∧ QA Q s.2 ∧ Same (fun k => k = id) H H' ∧ Arr cellsI H' id s.2 ∧ PermIn a1 b1 d1 s.2) ?_ ?_
    · intro KE hKE
      cases wb with
      | true =>
        simp (maxSteps := 1000000) [go_sem]
        exact hKE (li, d1) _ _ (by simp [upF, Fr.get, Up.refl]) ⟨hli, hQ1, hS1, hA1, permIn_refl _ _ _⟩
      | false =>
        obtain ⟨lj, hlj⟩ : ∃ lj, lj = li - 1 := ⟨_, rfl⟩
        have wl : IntKind.i64.wrap ((li : Int) - 1) = (lj : Int) := by rw [hlj, i64w (by omega) (by omega)]; omega
        simp (maxSteps := 1000000) [go_sem]
        refine breakO_ok hA1 hsz hl (by omega) (by omega) hQ1 _ ?_
        intro H2 d2 hS2 hA2 hQ2 hP2
        simp (maxSteps := 1000000) [go_sem, wl]
        exact hKE (lj, d2) _ _ (by simp [upF, Fr.get, Up.refl]) ⟨by simp only; omega, hQ2, hS1.trans hS2, hA2, hP2⟩
    rintro ⟨lj, d2⟩ H2 ⟨hlj, hQ2, hS2, hA2, hP2⟩
    simp only at hlj hQ2 hS2 hA2 hP2 ⊢
    have hsz2 : d2.size = n := by rw [hP2.1]; exact hsz
    -- the pivot
    refine AWp.ofVc ?_
    simp (maxSteps := 1000000) [go_sem]
    refine pivotO_ok hA2 hsz2 hl (by omega) (by omega) hQ2 (hC.keep hS2) _ ?_
    intro H3 p t hp3 hpr
    have hS3 := hS2.via (Same.of_prefix (S := fun _ => False) hp3) (fun _ _ h => h.elim)
    have hA3 := hA2.pre hp3
    simp (maxSteps := 1000000) [go_sem]
    refine AWp.seqCut (St := Nat × Int × Array Int) (fun s => [(0, lv 1 id 0 n), (1, .int .i64 a1), (2, .int .i64 b1), (3, .int .i64 lj), (8, .bool wb), (9, .bool wp), (10, .int .i64 l), (11, .int .i64 s.1), (12, .int .i64 s.2.1)])
      (fun s H' => a1 ≤ s.1 ∧ s.1 < b1 ∧ QA Q s.2.2 ∧ Same (fun k => k = id) H H' ∧ Arr cellsI H' id s.2.2 ∧ PermIn a1 b1 d2 s.2.2) ?_ ?_
    · intro KE hKE
      by_cases ht : t = 2
      · subst ht
        obtain ⟨p2, hp2⟩ : ∃ p2, p2 = b1 - 1 - (p - a1) := ⟨_, rfl⟩
        have w1 : IntKind.i64.wrap ((b1 : Int) - 1) = (b1 : Int) - 1 := i64w (by omega) (by omega)
        have w2 : IntKind.i64.wrap ((p : Int) - a1) = (p : Int) - a1 := i64w (by omega) (by omega)
        have w3 : IntKind.i64.wrap ((b1 : Int) - 1 - ((p : Int) - a1)) = (p2 : Int) := by rw [hp2, i64w (by omega) (by omega)]; omega
        simp (maxSteps := 1000000) [go_sem]
        refine reverseO_ok hA3 hsz2 hl (by omega) (by omega) _ ?_
        intro H4 hS4 hA4
        have hP4 := reverseRange_holds d2 a1 b1 (by omega) (by omega)
        simp (maxSteps := 1000000) [go_sem, w1, w2, w3]
        exact hKE (p2, 1, reverseRange d2 a1 b1) _ _ (by simp [upF, Fr.get, Up.refl]) ⟨by simp only; omega, by simp only; omega, QA_perm (by omega) hP4 hQ2, hS3.trans hS4, hA4, hP4⟩
      · have ht' : (t == 2) = false := by rw [beq_eq_false_iff_ne]; exact ht
        simp (maxSteps := 1000000) [go_sem, ht, ht']
        exact hKE (p, t, d2) _ _ (by simp [upF, Fr.get, Up.refl]) ⟨hpr.1, hpr.2, hQ2, hS3, hA3, permIn_refl _ _ _⟩
    rintro ⟨q, u, d3⟩ H4 ⟨hq1, hq2, hQ3, hS4, hA4, hP3⟩
    simp only at hq1 hq2 hQ3 hS4 hA4 hP3 ⊢
    have hsz3 : d3.size = n := by rw [hP3.1]; exact hsz2
    have hP13 := permIn_trans _ _ _ _ _ hP2 hP3
    have hB3 : Below lt a1 b1 d3 := hB1.perm (by omega) hP13
    -- it may be sorted
    refine AWp.seqCut (St := Array Int) (fun _ => [(0, lv 1 id 0 n), (1, .int .i64 a1), (2, .int .i64 b1), (3, .int .i64 lj), (8, .bool wb), (9, .bool wp), (10, .int .i64 l), (11, .int .i64 q)])
      (fun d4 H' => QA Q d4 ∧ Same (fun k => k = id) H H' ∧ Arr cellsI H' id d4 ∧ PermIn a1 b1 d1 d4) ?_ ?_
    · intro KE hKE
      have skip := fun fr' hfr => hKE d3 fr' H4 hfr ⟨hQ3, hS4, hA4, hP13⟩
      cases wb with
      | false =>
        simp (maxSteps := 1000000) [go_sem, undef]
        exact skip _ (by simp [upF, Fr.get, Up.refl])
      | true =>
        cases wp with
        | false =>
          simp (maxSteps := 1000000) [go_sem, undef]
          exact skip _ (by simp [upF, Fr.get, Up.refl])
        | true =>
          by_cases hu : u = 1
          · subst hu
            simp (maxSteps := 1000000) [go_sem]
            refine partInsO_ok hA4 hsz3 hl (by omega) (by omega) hQ3 (hC.keep hS4) _ ?_
            intro H6 hS6 hA6
            obtain ⟨f1, f2⟩ := partialInsertionSort_holds hS d3 a1 b1 (by omega) (by omega) hB3
            generalize partialInsertionSort lt d3 a1 b1 = r at *
            obtain ⟨d4, ok⟩ := r
            simp only at hA6 f1 f2 ⊢
            have hP14 := permIn_trans _ _ _ _ _ hP13 f1
            cases ok with
            | true =>
              obtain ⟨f3, f4⟩ := hfin _ hP14 (f2 rfl)
              have fin := h H6 _ (hS4.trans hS6) hA6 f3 f4
              simp (maxSteps := 1000000) [go_sem]
              exact fin
            | false =>
              simp (maxSteps := 1000000) [go_sem]
              exact hKE d4 _ _ (by simp [upF, Fr.get, Up.refl]) ⟨QA_perm (by omega) f1 hQ3, hS4.trans hS6, hA6, hP14⟩
          · have hu' : (u == 1) = false := by rw [beq_eq_false_iff_ne]; exact hu
            simp (maxSteps := 1000000) [go_sem, hu, hu']
            exact skip _ (by simp [upF, Fr.get, Up.refl])
    rintro d4 H6 ⟨hQ4, hS6, hA6, hP4⟩
    clear hA4 hA3 hA2 hS2 hS3 hS4 hP2 hP3 hP13 hQ2 hQ3 hB3
    have hsz4 : d4.size = n := by rw [hP4.1]; exact hsz
    have hB4 : Below lt a1 b1 d4 := hB1.perm (by omega) hP4
    have hfin4 : ∀ R, PermIn a1 b1 d4 R → SortedIn lt a1 b1 R → PermIn a b d R ∧ SortedIn lt a b R := fun R r1 r2 => hfin R (permIn_trans _ _ _ _ _ hP4 r1) r2
    -- the element ahead
    refine AWp.seqCut (St := Unit) (fun _ => [(0, lv 1 id 0 n), (1, .int .i64 a1), (2, .int .i64 b1), (3, .int .i64 lj), (8, .bool wb), (9, .bool wp), (10, .int .i64 l), (11, .int .i64 q)])
      (fun _ H' => Same (fun k => k = id) H H' ∧ Arr cellsI H' id d4) ?_ ?_
    · intro KE hKE
      by_cases ha0 : a1 = 0
      · subst ha0
        simp (maxSteps := 1000000) [go_sem]
        refine AWp.draw mixed [(0, false), (1, false), (2, false), (3, false), (4, false), (5, false), (6, false), (7, false), (8, false), (9, false), (10, false), (11, false), (12, false), (13, false), (14, false)] (by kernel_rfl) ?_
        simp (maxSteps := 1000000) [go_sem, undef]
        exact hKE () _ _ (by simp [upF, Fr.get, Up.refl]) ⟨hS6, hA6⟩
      · obtain ⟨r, hr⟩ : ∃ r, a1 - 1 = r := ⟨_, rfl⟩
        have wr : IntKind.i64.wrap ((a1 : Int) - 1) = (r : Int) := by rw [← hr, i64w (by omega) (by omega)]; omega
        have ha0' : (0 : Int) < a1 := by omega
        have ha1' : 0 < a1 := by omega
        have hi1 : r < d4.size := by omega
        have hi0 : q < d4.size := by omega
        have n1 : r < n := by omega
        have n0 : q < n := by omega
        have c1 := hA6.load cellsI_len hi1
        have c0 := hA6.load cellsI_len hi0
        have q1 := hQ4 _ hi1
        have q0 := hQ4 _ hi0
        obtain ⟨x, hx⟩ : ∃ x, d4[r]! = x := ⟨_, rfl⟩
        obtain ⟨y, hy⟩ : ∃ y, d4[q]! = y := ⟨_, rfl⟩
        rw [hx] at c1 q1
        rw [hy] at c0 q0
        simp only [cellsI, Nat.mul_one, Row.val] at c1 c0
        simp (maxSteps := 1000000) [go_sem]
        refine AWp.draw mixed [(0, false), (1, false), (2, false), (3, false), (4, false), (5, false), (6, false), (7, false), (8, false), (9, false), (10, false), (11, false), (12, false), (13, false), (14, false)] (by kernel_rfl) ?_
        simp (maxSteps := 1000000) [go_sem, ha0, ha0', ha1', c1, c0, n1, n0, wr]
        refine hC H6 x y _ hS6 q1 q0 ?_
        intro H7 c hp7 hc
        have hS7 := hS6.via (Same.of_prefix (S := fun _ => False) hp7) (fun _ _ h => h.elim)
        have hA7 := hA6.pre hp7
        cases hl' : lt x y with
        | true =>
          rw [hl'] at hc
          have hc0 := hc
          simp (maxSteps := 1000000) [go_sem, hc, hc0]
          exact hKE () _ _ (by simp [upF, Fr.get, Up.refl]) ⟨hS7, hA7⟩
        | false =>
          rw [hl'] at hc
          have hc0 := hc
          have hnl : lt d4[a1 - 1]! d4[q]! = false := by rw [hr, hx, hy]; exact hl'
          simp (maxSteps := 1000000) [go_sem, hc, hc0]
          refine partEqO_ok hA7 hsz4 hl hq1 hq2 (by omega) hQ4 (hC.keep hS7) _ ?_
          intro H8 hS8 hA8
          obtain ⟨⟨mid, d5⟩, he⟩ : ∃ r, partitionEqual lt d4 a1 b1 q = r := ⟨_, rfl⟩
          rw [he] at hA8 ⊢
          have hA8 : Arr cellsI H8 id d5 := hA8
          obtain ⟨r1, r2, r3, r4, r5⟩ := round_eq hS (partitionEqual_holds lt) ha1' hq1 hq2 (by omega) hB4 hnl he
          have hP5 : PermIn a1 b1 d4 d5 := by
            have := (partitionEqual_holds lt hS d4 a1 b1 q hq1 hq2 (by omega) (fun i hi hi' => by
              rcases hB4 with h0 | hB
              · omega
              · exact hS.ntrans _ _ _ (hB i hi hi') hnl)).2.2.1
            rw [he] at this; exact this
          simp (maxSteps := 1000000) [go_sem]
          exact hK (mid, b1, lj, wb, wp, d5) _ _ (by simp only; omega) (by simp [upF, Fr.get, Up.refl]) ⟨by simp only; omega, r2, hbb, hlj, by simp only; omega, QA_perm (by omega) hP5 hQ4, hS7.trans hS8, hA8, r4, fun R R1 R2 => by obtain ⟨g1, g2⟩ := r5 R R1 R2; exact hfin4 R g1 g2⟩
    rintro _ H7 ⟨hS7, hA7⟩
    refine AWp.ofVc ?_
    simp (maxSteps := 1000000) [go_sem]
    refine partO_ok hA7 hsz4 hl hq1 hq2 (by omega) hQ4 (hC.keep hS7) _ ?_
    intro H8 hS8 hA8
    obtain ⟨⟨mid, ap, d5⟩, he⟩ : ∃ r, partition lt d4 a1 b1 q = r := ⟨_, rfl⟩
    rw [he] at hA8 ⊢
    have hA8 : Arr cellsI H8 id d5 := hA8
    obtain ⟨r1, r2, r3, r4, r5, r6, r7⟩ := round_part hS (partition_holds lt) hq1 hq2 (by omega) hB4 he
    have hP5 : PermIn a1 b1 d4 d5 := by
      have := (partition_holds lt hS d4 a1 b1 q hq1 hq2 (by omega)).2.2.1
      rw [he] at this; exact this
    have hQ5 := QA_perm (by omega) hP5 hQ4
    have hS8 := hS7.trans hS8
    obtain ⟨ll, hll2⟩ : ∃ ll, ll = mid - a1 := ⟨_, rfl⟩
    obtain ⟨lr, hlr⟩ : ∃ lr, lr = b1 - mid := ⟨_, rfl⟩
    obtain ⟨m1, hm1⟩ : ∃ m1, m1 = mid + 1 := ⟨_, rfl⟩
    have w1 : IntKind.i64.wrap ((mid : Int) - a1) = (ll : Int) := by rw [hll2, i64w (by omega) (by omega)]; omega
    have w2 : IntKind.i64.wrap ((b1 : Int) - mid) = (lr : Int) := by rw [hlr, i64w (by omega) (by omega)]; omega
    have w3 : IntKind.i64.wrap ((l : Int) / 8) = (l : Int) / 8 := i64w (by omega) (by omega)
    have w4 : IntKind.i64.wrap ((mid : Int) + 1) = (m1 : Int) := by rw [hm1, i64w (by omega) (by omega)]; omega
    simp (maxSteps := 1000000) [go_sem]
    refine vc_sound _ _ _ _ ?_
    by_cases hlr2 : ll < lr
    · have hlr2' : (ll : Int) < lr := by omega
      simp (maxSteps := 1000000) [go_sem, w1, w2, w3, hlr2, hlr2']
      refine ih (mid - a1) (by omega) (Nat.le_refl _) hA8 (by omega) r1 (by omega) hlj r4 hQ5 (hC.keep hS8) _ ?_
      intro H9 d6 hS9 hA9 hP6 hs6
      obtain ⟨g1, g2⟩ := r6 d6 hP6 hs6
      simp (maxSteps := 1000000) [go_sem, w4]
      refine hK (m1, b1, lj, decide ((l : Int) / 8 ≤ ll), ap, d6) _ _ (by simp only; omega) (by simp [upF, Fr.get, Up.refl]) ⟨by simp only; omega, by simp only; omega, hbb, hlj, by simp only; rw [hP6.1]; omega, QA_perm (by omega) hP6 hQ5, hS8.trans hS9, hA9, by simp only [hm1]; exact g1, ?_⟩
      simp only [hm1]
      intro R R1 R2
      obtain ⟨k1, k2⟩ := g2 R R1 R2
      exact hfin4 R k1 k2
    · have hlr2' : ¬ ((ll : Int) < lr) := by omega
      simp (maxSteps := 1000000) [go_sem, w1, w2, w3, w4, hlr2, hlr2']
      refine ih (b1 - m1) (by omega) (Nat.le_refl _) hA8 (by omega) (by omega) (by omega) hlj (by rw [hm1]; exact r5) hQ5 (hC.keep hS8) _ ?_
      intro H9 d6 hS9 hA9 hP6 hs6
      rw [hm1] at hP6 hs6
      obtain ⟨g1, g2⟩ := r7 d6 hP6 hs6
      simp (maxSteps := 1000000) [go_sem]
      refine hK (a1, mid, lj, decide ((l : Int) / 8 ≤ lr), ap, d6) _ _ (by simp only; omega) (by simp [upF, Fr.get, Up.refl]) ⟨haa, r1, by simp only; omega, hlj, by simp only; rw [hP6.1]; omega, QA_perm (by omega) hP6 hQ5, hS8.trans hS9, hA9, g1, ?_⟩
      intro R R1 R2
      obtain ⟨k1, k2⟩ := g2 R R1 R2
      exact hfin4 R k1 k2

end Go.Proofs.Ytdfeoccjllljiaa
end

section
/- Sorting by a function: slices.Sort. -/
set_option linter.all false
set_option maxRecDepth 20000
set_option maxHeartbeats 8000000
namespace Go.Proofs.Ytdfeoccjllljiaa
open Go.Ab Go.Sort

theorem w64_0O : IntKind.i64.wrap 0 = 0 := i64w (by omega) (by omega)
theorem w64_1O : IntKind.i64.wrap 1 = 1 := i64w (by omega) (by omega)
theorem wu64_0O : IntKind.u64.wrap 0 = 0 := by rw [IntKind.wrap_u64]; omega
theorem ins0O_ok {H : Heap} {id : Nat} (Post : Value → Heap → Prop) (h : Post (.tuple #[]) H) :
    ACalls Try.prog 190 [lv 1 id 0 0, .int .i64 0, .int .i64 0] H Post := by
  refine acalls_vc (rs := []) Try.func190 rfl rfl Try.ntmps190 rfl rfl ?_
  simp (maxSteps := 1000000) [go_sem, w64_0O, w64_1O]
  refine AWp.loopVc (St := Unit) (fun _ => [(2, .int .i64 0), (6, .int .i64 1)]) (fun _ H' => H' = H) (fun _ => 0) () ?_ ?_ ?_
  · simp [upF, Fr.get, Up.refl]
  · rfl
  · rintro K _ H' rfl hK
    simp (maxSteps := 1000000) [go_sem, w64_0O, w64_1O]
    exact h
theorem pdq0O_ok {H : Heap} {id : Nat} {l : Int} (Post : Value → Heap → Prop) (h : Post (.tuple #[]) H) :
    ACalls Try.prog 183 [lv 1 id 0 0, .int .i64 0, .int .i64 0, .int .i64 l] H Post := by
  refine acalls_vc (rs := []) Try.func183 rfl rfl Try.ntmps183 rfl rfl ?_
  simp (maxSteps := 1000000) [go_sem, w64_0O, w64_1O]
  refine AWp.loopA (St := Unit) (fun _ => [(0, lv 1 id 0 0), (1, .int .i64 0), (2, .int .i64 0)]) (fun _ H' => H' = H) (fun _ => 0) () ?_ ?_ ?_
  · simp [upF, Fr.get, Up.refl]
  · rfl
  · rintro K _ H' rfl hK
    refine AWp.block ?_
    refine AWp.ofVc ?_
    simp (maxSteps := 1000000) [go_sem, w64_0O, w64_1O]
    refine AWp.ofVc ?_
    simp (maxSteps := 1000000) [go_sem, w64_0O, w64_1O]
    refine ins0O_ok _ ?_
    simp (maxSteps := 1000000) [go_sem, w64_0O, w64_1O]
    exact h

/-- slices.Sort: afterwards the same elements are there, ascending. -/
theorem sortFuncO_ok {H : Heap} {id n : Nat} {l : List Int} {lt : Int → Int → Bool} {Q : Int → Prop} (hS : SWO lt) (hA : OL 1 H id (l.flatMap cellsI) n) (hn : l.length = n) (hl : n ≤ 1048576) (hQ : ∀ x ∈ l, Q x)
    (hC : CmpO lt Q id H) (Post : Value → Heap → Prop)
    (h : ∀ (H' : Heap) (l' : List Int), Same (fun k => k = id) H H' → OL 1 H' id (l'.flatMap cellsI) n → l'.Perm l → l'.Pairwise (fun x y => lt y x = false) → Post (.tuple #[]) H') :
    ACalls Try.prog 161 [lv 1 id 0 n] H Post := by
  refine acalls_vc (rs := []) Try.func161 rfl rfl Try.ntmps161 rfl rfl ?_
  have w1 : IntKind.u64.wrap (n : Int) = n := by rw [IntKind.wrap_u64]; omega
  rcases hA.2 with ⟨h0, hg⟩ | hb
  · subst h0
    have hnil : l = [] := List.eq_nil_of_length_eq_zero hn
    subst hnil
    simp (maxSteps := 1000000) [go_sem, wu64_0O]
    refine bitsLenC_ok (x := 0) (by omega) _ ?_
    simp (maxSteps := 1000000) [go_sem]
    refine pdq0O_ok _ ?_
    simp (maxSteps := 1000000) [go_sem]
    exact h H [] (Same.refl _ _) hA (List.Perm.refl _) List.Pairwise.nil
  · have hA' : Arr cellsI H id l.toArray := by unfold Arr; simpa using hb
    have hQ' : QA Q l.toArray := by
      intro k hk
      rw [getElem!_pos l.toArray k hk]
      exact hQ _ (by simp)
    simp (maxSteps := 1000000) [go_sem, w1]
    refine bitsLenC_ok (by omega) _ ?_
    have hb64 : bitsLen n ≤ 64 := bitsLen_lt (by omega)
    simp (maxSteps := 1000000) [go_sem]
    refine pdqO_ok hS hl n (a := 0) (limit := bitsLen n) (by omega) hA' (by simpa using hn) (Nat.zero_le _) (Nat.le_refl _) hb64 (.inl rfl) hQ' hC _ ?_
    intro H' d' hS' hA2 hP hs
    have hsz : d'.size = n := by rw [hP.1]; simpa using hn
    have hp := perm_list (by simpa using hn) hP
    have fin := h H' d'.toList hS' ⟨by rw [flat_len cellsI_len, Array.length_toList, hsz], .inr hA2⟩ (by simpa using hp) (sorted_list hsz hs)
    simp (maxSteps := 1000000) [go_sem]
    exact fin

end Go.Proofs.Ytdfeoccjllljiaa
end

section
/- Contracts of the laws' own helpers over blocks and systems. They hold for every program that holds these functions. -/
set_option linter.all false
set_option maxRecDepth 20000
namespace Go.Proofs.Ytdfeoccjllljiaa
open Go.Ab

theorem toBlock_ok {H : Heap} {b : Bk} (Post : Value → Heap → Prop) (h : ∀ H', H <+: H' → Post b.val H') :
    ACalls Try.prog 119 [b.val] H Post := by
  refine acalls_vc (rs := [.cell 2 93]) Try.func119 rfl rfl Try.ntmps119 rfl rfl ?_
  obtain ⟨a, b, c⟩ := b
  simp (maxSteps := 1000000) [go_sem, Bk.val, Value.oneCell']
  refine AWp.loopVc (fun s : Nat => [(1, .pointer (some ⟨H.length, 0, none⟩)), (2, .pointer (some ⟨H.length + 1, 0, none⟩)), (3, .pointer (some ⟨H.length + 2, 0, none⟩)), (4, .int .i64 s)])
    (fun s H' => s ≤ 3 ∧ H' = H ++ [⟨[.int .i64 a, .int .i64 b, .int .i64 c], true, true⟩, ⟨[.int .i64 0, .int .i64 0, .int .i64 0], true, true⟩, ⟨[.int .i64 a, .int .i64 b, .int .i64 c].take s ++ [.int .i64 0, .int .i64 0, .int .i64 0].drop s, true, true⟩]) (fun s => 3 - s) 0 ?_ ?_ ?_
  · simp [upF, Fr.get, Up.refl]
  · simp
  · rintro K s H' ⟨hs, rfl⟩ hK
    have : s = 0 ∨ s = 1 ∨ s = 2 ∨ s = 3 := by omega
    rcases this with rfl | rfl | rfl | rfl
    · simp (maxSteps := 1000000) [go_sem, Value.oneCell', i64w (n := 1) (by omega) (by omega)]
      exact hK 1 _ _ (by omega) (by simp [upF, Fr.get, Up.refl]) ⟨by omega, by simp⟩
    · simp (maxSteps := 1000000) [go_sem, Value.oneCell', i64w (n := 2) (by omega) (by omega)]
      exact hK 2 _ _ (by omega) (by simp [upF, Fr.get, Up.refl]) ⟨by omega, by simp⟩
    · simp (maxSteps := 1000000) [go_sem, Value.oneCell', i64w (n := 3) (by omega) (by omega)]
      exact hK 3 _ _ (by omega) (by simp [upF, Fr.get, Up.refl]) ⟨by omega, by simp⟩
    · simp (maxSteps := 1000000) [go_sem, Value.oneCell']
      exact h _ (List.prefix_append _ _)

theorem toBlockS_ok {H : Heap} {u : Value} {bs : List Bk} (hu : BlocksAt H u bs) (Post : Value → Heap → Prop) (hb : bs.length ≤ 1048576) (h : ∀ H' v id, H <+: H' → H.length ≤ id → OwnBlocks H' v id bs → Post v H') :
    ACalls Try.prog 57 [u] H Post := by
  obtain ⟨i, o, rfl, h1, h2⟩ := hu
  refine ACalls.res ?_
  refine acalls_vc (rs := [.tmp 2]) Try.func57 rfl rfl Try.ntmps57 rfl rfl ?_
  simp (maxSteps := 1000000) [go_sem, made_blocks]
  refine andK_intro (by omega) ?_
  refine AWp.loopVc (fun s : Nat => [(0, lv 3 i o bs.length), (3, .slice (some ⟨H.length, 0, none⟩) bs.length bs.length), (4, .int .i64 s)])
    (fun s H' => s ≤ bs.length ∧ H <+: H' ∧ H'[H.length]? = some ⟨tri (bs.take s ++ List.replicate (bs.length - s) ⟨0, 0, 0⟩), true, true⟩) (fun s => bs.length - s) 0 ?_ ?_ ?_
  · simp [upF, Fr.get, Up.refl]
  · refine ⟨by omega, List.prefix_append _ _, by simp⟩
  · rintro K s H' ⟨hs, hp, hc⟩ hK
    by_cases hlt : s < bs.length
    · have hbs : bs[s]? = some bs[s] := List.getElem?_eq_getElem hlt
      have c1 := (h1.pre hp).bk hbs
      have hw : IntKind.i64.wrap ((s : Int) + 1) = (s : Int) + 1 := i64w (by omega) (by omega)
      simp (maxSteps := 1000000) [go_sem, hlt, c1, Bk.cells]
      refine toBlock_ok (b := bs[s]) _ ?_
      intro H2 hp2
      have hlen : s < (bs.take s ++ List.replicate (bs.length - s) (⟨0, 0, 0⟩ : Bk)).length := by simp; omega
      have hst := storeBk (b := bs[s]) (Same.get (S := fun _ => False) (Same.of_prefix hp2) hc (fun h => h)) hlen
      have hset : (bs.take s ++ List.replicate (bs.length - s) (⟨0, 0, 0⟩ : Bk)).set s bs[s] = bs.take (s + 1) ++ List.replicate (bs.length - (s + 1)) ⟨0, 0, 0⟩ := by
        rw [List.set_append_right _ _ (by simp; omega), List.length_take, Nat.min_eq_left hs, Nat.sub_self, show bs.length - s = (bs.length - (s + 1)) + 1 by omega, List.replicate_succ, List.set_cons_zero, List.take_succ_eq_append_getElem hlt, List.append_assoc]
        rfl
      rw [hset] at hst
      simp only [Bk.cells] at hst
      have hlt2 : H.length < H2.length := by
        have := (List.getElem?_eq_some_iff.1 hc).1
        have := hp2.length_le
        omega
      simp (maxSteps := 1000000) [go_sem, Bk.val, hlt, hst, hw, Value.oneCell']
      refine hK (s + 1) _ _ (by omega) (by simp [upF, Fr.get, Up.refl]) ⟨by omega, ?_, by rw [List.getElem?_set_self hlt2]⟩
      exact (show Same (fun j => j = H.length) H _ from (Same.of_prefix (hp.trans hp2)).trans ⟨by simp, fun j hj hjs => List.getElem?_set_ne (fun e => hjs e.symm)⟩).prefix (by omega)
    · have : s = bs.length := by omega
      subst this
      simp (maxSteps := 1000000) [go_sem]
      simp only [List.take_length, Nat.sub_self, List.replicate_zero, List.append_nil] at hc
      refine ⟨lv 3 H.length 0 bs.length, Up.ex (by omega) ?_, h H' _ H.length hp (Nat.le_refl _) ⟨rfl, .inr hc, by omega⟩⟩
      right
      rw [(Holds.cells ⟨true, hc⟩ (by rw [tri_length]; omega))]; rfl

theorem toSystem_ok {H : Heap} {u : Value} {p : Int} {bs : List Bk} (hu : BlocksAt H u bs) (Post : Value → Heap → Prop) (hb : bs.length ≤ 1048576) (h : ∀ H' v id, H <+: H' → H.length ≤ id → OwnBlocks H' v id bs → Post (sysV p v) H') :
    ACalls Try.prog 24 [sysV p u] H Post := by
  refine acalls_vc (rs := [.cell 2 38]) Try.func24 rfl rfl Try.ntmps24 rfl rfl ?_
  obtain ⟨i, o, rfl, h1, h2⟩ := hu
  simp (maxSteps := 1000000) [go_sem, sysV, Value.oneCell']
  refine toBlockS_ok ⟨i, o, rfl, h1.pre (List.prefix_append _ _), h2⟩ _ hb ?_
  intro H' v id hp hid hown
  obtain ⟨T, rfl⟩ := hp
  obtain ⟨rfl, hblk, hl⟩ := hown
  simp (maxSteps := 1000000) [go_sem, Value.oneCell']
  refine h _ (lv 3 id 0 bs.length) id (List.prefix_append _ _) (by simp at hid; omega) ⟨rfl, hblk.imp (fun h => h) fun hb => ?_, hl⟩
  simp only [List.length_append, List.length_cons, List.length_nil] at hid
  rw [List.append_assoc, List.getElem?_append_right (by omega)] at hb
  rw [List.getElem?_append_right (by omega)]
  obtain ⟨k, hk⟩ : ∃ k, id - H.length = k + 3 := ⟨id - H.length - 3, by omega⟩
  rw [hk] at hb ⊢
  simpa using hb

theorem eqBlock_ok {H : Heap} {b d : Bk} (Post : Value → Heap → Prop) (h : ∀ H', H <+: H' → Post (.bool (decide (b = d))) H') :
    ACalls Try.prog 124 [b.val, d.val] H Post := by
  refine acalls_vc (rs := [.tmp 4]) Try.func124 rfl rfl Try.ntmps124 rfl rfl ?_
  obtain ⟨b1, b2, b3⟩ := b
  obtain ⟨d1, d2, d3⟩ := d
  simp (maxSteps := 1000000) [go_sem, Bk.val, Value.oneCell']
  have h := h _ (List.prefix_append H [⟨[.int .i64 b1, .int .i64 b2, .int .i64 b3], true, true⟩, ⟨[.int .i64 d1, .int .i64 d2, .int .i64 d3], true, true⟩])
  refine AWp.loopVc (fun s : Nat => [(2, .pointer (some ⟨H.length, 0, none⟩)), (3, .pointer (some ⟨H.length + 1, 0, none⟩)), (5, .int .i64 s)])
    (fun s H' => s ≤ 3 ∧ H' = H ++ [⟨[.int .i64 b1, .int .i64 b2, .int .i64 b3], true, true⟩, ⟨[.int .i64 d1, .int .i64 d2, .int .i64 d3], true, true⟩] ∧ [b1, b2, b3].take s = [d1, d2, d3].take s) (fun s => 3 - s) 0 ?_ ?_ ?_
  · simp [upF, Fr.get, Up.refl]
  · simp
  · rintro K s H' ⟨hs, rfl, ht⟩ hK
    have : s = 0 ∨ s = 1 ∨ s = 2 ∨ s = 3 := by omega
    rcases this with rfl | rfl | rfl | rfl
    · simp (maxSteps := 1000000) [go_sem]
      refine AWp.draw mixed [(0, false), (1, false), (2, false), (3, false), (4, false), (5, false), (6, false)] (by kernel_rfl) ?_
      simp (maxSteps := 1000000) [go_sem, i64w (n := 1) (by omega) (by omega)]
      refine condK_intro (fun hne => ?_) (fun heq => ?_)
      · simp at hne; simpa [hne] using h
      · exact hK 1 _ _ (by omega) (by simp [upF, Fr.get, Up.refl]) ⟨by omega, rfl, by simpa using heq⟩
    · simp (maxSteps := 1000000) [go_sem]
      refine AWp.draw mixed [(0, false), (1, false), (2, false), (3, false), (4, false), (5, false), (6, false)] (by kernel_rfl) ?_
      simp (maxSteps := 1000000) [go_sem, i64w (n := 2) (by omega) (by omega)]
      refine condK_intro (fun hne => ?_) (fun heq => ?_)
      · simp at hne; simpa [hne] using h
      · exact hK 2 _ _ (by omega) (by simp [upF, Fr.get, Up.refl]) ⟨by omega, rfl, by simp at ht heq; simp [ht, heq]⟩
    · simp (maxSteps := 1000000) [go_sem]
      refine AWp.draw mixed [(0, false), (1, false), (2, false), (3, false), (4, false), (5, false), (6, false)] (by kernel_rfl) ?_
      simp (maxSteps := 1000000) [go_sem, i64w (n := 3) (by omega) (by omega)]
      refine condK_intro (fun hne => ?_) (fun heq => ?_)
      · simp at hne; simpa [hne] using h
      · exact hK 3 _ _ (by omega) (by simp [upF, Fr.get, Up.refl]) ⟨by omega, rfl, by simp at ht heq; simp [ht, heq]⟩
    · simp (maxSteps := 1000000) [go_sem]
      simp at ht
      simpa [ht] using h

theorem eqBlockS_ok {H : Heap} {u v : Value} {xs ys : List Bk} (hu : BlocksAt H u xs) (hv : BlocksAt H v ys) (Post : Value → Heap → Prop) (h : ∀ H', H <+: H' → Post (.bool (decide (xs = ys))) H') :
    ACalls Try.prog 59 [u, v] H Post := by
  obtain ⟨i, o, rfl, h1, h2⟩ := hu
  obtain ⟨j, q, rfl, h3, h4⟩ := hv
  refine acalls_vc (rs := [.tmp 4]) Try.func59 rfl rfl Try.ntmps59 rfl rfl ?_
  simp (maxSteps := 1000000) [go_sem]
  refine condK_intro (fun hne => ?_) (fun heq => ?_)
  · have : xs ≠ ys := by rintro rfl; simp at hne
    simpa [this] using h H (List.prefix_refl _)
  · have hlen : xs.length = ys.length := by simp at heq; omega
    refine AWp.loopVc (fun s : Nat => [(0, lv 3 i o xs.length), (1, lv 3 j q ys.length), (5, .int .i64 s)]) (fun s H' => H <+: H' ∧ s ≤ xs.length ∧ xs.take s = ys.take s) (fun s => xs.length - s) 0 ?_ ?_ ?_
    · simp [upF, Fr.get, Up.refl]
    · exact ⟨List.prefix_refl _, by omega, by simp⟩
    · rintro K s H' ⟨hp, hs, ht⟩ hK
      simp (maxSteps := 1000000) [go_sem]
      refine condK_intro (fun hlt => ?_) (fun hge => ?_)
      · have hlt : s < xs.length := by simpa using hlt
        have c1 := (h1.pre hp).bk (s := s) (b := xs[s]) (List.getElem?_eq_getElem _)
        have c2 := (h3.pre hp).bk (s := s) (b := ys[s]'(by omega)) (List.getElem?_eq_getElem _)
        simp only [Bk.cells] at c1 c2
        have hw : IntKind.i64.wrap ((s : Int) + 1) = (s : Int) + 1 := i64w (by omega) (by omega)
        refine AWp.draw mixed [(0, false), (1, false), (2, false), (3, false), (4, false), (5, false), (6, false), (7, false), (8, false), (9, false)] (by kernel_rfl) ?_
        simp (maxSteps := 1000000) [go_sem, hlt, hlen ▸ hlt, c1, c2]
        refine eqBlock_ok (b := xs[s]) (d := ys[s]'(by omega)) _ ?_
        intro H2 hp2
        simp (maxSteps := 1000000) [go_sem, hw]
        refine condK_intro (fun hne => ?_) (fun heq => ?_)
        · have : xs ≠ ys := by rintro rfl; simp at hne
          simpa [this] using h H2 (hp.trans hp2)
        · refine hK (s + 1) _ _ (by omega) (by simp [upF, Fr.get, Up.refl]) ⟨hp.trans hp2, by omega, ?_⟩
          have he : xs[s] = ys[s]'(by omega) := by simpa using heq
          rw [List.take_succ_eq_append_getElem hlt, List.take_succ_eq_append_getElem (by omega), ht, he]
      · have : s = xs.length := by simp at hge; omega
        subst this
        rw [List.take_length, hlen, List.take_length] at ht
        simpa [ht] using h H' hp

theorem eqSystem_ok {H : Heap} {u v : Value} {p q : Int} {xs ys : List Bk} (hu : BlocksAt H u xs) (hv : BlocksAt H v ys) (Post : Value → Heap → Prop) (h : ∀ H', H <+: H' → Post (.bool (decide (p = q ∧ xs = ys))) H') :
    ACalls Try.prog 26 [sysV p u, sysV q v] H Post := by
  refine acalls_vc (rs := [.tmp 4]) Try.func26 rfl rfl Try.ntmps26 rfl rfl ?_
  obtain ⟨i, o, rfl, h1, h2⟩ := hu
  obtain ⟨j, r, rfl, h3, h4⟩ := hv
  simp (maxSteps := 1000000) [go_sem, sysV, Value.oneCell']
  refine condK_intro (fun hne => ?_) (fun heq => ?_)
  · have : ¬ p = q := by simpa using hne
    simpa [this] using h _ (List.prefix_append H _)
  · have : p = q := by simpa using heq
    subst this
    refine eqBlockS_ok ⟨i, o, rfl, h1.pre (List.prefix_append _ _), h2⟩ ⟨j, r, rfl, h3.pre (List.prefix_append _ _), h4⟩ _ ?_
    intro H' hp
    have h := h H' ((List.prefix_append _ _).trans hp)
    simp (maxSteps := 1000000) [go_sem]
    refine condK_intro (fun hne => ?_) (fun heq => ?_)
    · have : ¬ xs = ys := by simpa using hne
      simpa [this] using h
    · have : xs = ys := by simpa using heq
      simpa [this] using h

end Go.Proofs.Ytdfeoccjllljiaa
end

section
/- SquareOf, of the program and of the specification: what each computes. They hold for every number. -/
set_option linter.all false
set_option maxRecDepth 20000
namespace Go.Proofs.Ytdfeoccjllljiaa
open Go.Ab

theorem within_ok {H : Heap} {n lo hi : Int} (Post : Value → Heap → Prop) (h : Post (.bool (decide (lo ≤ n) && decide (n ≤ hi))) H) :
    ACalls Try.prog 93 [.int .i64 n, .int .i64 lo, .int .i64 hi] H Post := by
  refine acalls_vc (rs := [.tmp 6]) Try.func93 rfl rfl Try.ntmps93 rfl rfl ?_
  simp (maxSteps := 1000000) [go_sem]
  refine condK_intro (fun h1 => ?_) (fun h1 => ?_) <;> simp_all

theorem l01In_ok {H : Heap} {n lo hi : Int} (Post : Value → Heap → Prop) (h : Post (.bool (decide (lo ≤ n) && decide (n ≤ hi))) H) :
    ACalls Try.prog 116 [.int .i64 n, .int .i64 lo, .int .i64 hi] H Post := by
  refine acalls_vc (rs := [.tmp 6]) Try.func116 rfl rfl Try.ntmps116 rfl rfl ?_
  simp (maxSteps := 1000000) [go_sem]
  refine condK_intro (fun h1 => ?_) (fun h1 => ?_) <;> simp_all

end Go.Proofs.Ytdfeoccjllljiaa
end

section
/- Systems in plain terms: what is a good block, what comes before, what fits. No program is in sight here. -/
set_option linter.all false
namespace Go.Ab

def good (v : Int) (b : Bk) : Bool := decide (0 ≤ b.a) && decide (b.a < b.b) && decide (b.b < b.c) && decide (b.c < v)
def before (x y : Bk) : Bool := if x.a ≠ y.a then decide (x.a < y.a) else if x.b ≠ y.b then decide (x.b < y.b) else decide (x.c < y.c)
def eq01 (x y : Int) : Nat := if x = y then 1 else 0
def common (x y : Bk) : Nat := eq01 x.a y.a + eq01 x.a y.b + eq01 x.a y.c + (eq01 x.b y.a + eq01 x.b y.b + eq01 x.b y.c) + (eq01 x.c y.a + eq01 x.c y.b + eq01 x.c y.c)
/-- The numbers of a block by their place. -/
def Bk.nth (b : Bk) (i : Nat) : Int := if i = 0 then b.a else if i = 1 then b.b else b.c
/-- How many of the first pairs are equal: i rows and k more. -/
def cnt (x y : Bk) (i k : Nat) : Nat :=
  (if 0 < i then eq01 x.a y.a + eq01 x.a y.b + eq01 x.a y.c else 0) + (if 1 < i then eq01 x.b y.a + eq01 x.b y.b + eq01 x.b y.c else 0) + (if 2 < i then eq01 x.c y.a + eq01 x.c y.b + eq01 x.c y.c else 0) +
  ((if 0 < k then eq01 (x.nth i) y.a else 0) + (if 1 < k then eq01 (x.nth i) y.b else 0) + (if 2 < k then eq01 (x.nth i) y.c else 0))

theorem eq01_le (x y : Int) : eq01 x y ≤ 1 := by unfold eq01; split <;> omega
theorem ite_le (p : Prop) [Decidable p] (a : Nat) : (if p then a else 0) ≤ a := by split <;> omega
theorem cnt_le (x y : Bk) (i k : Nat) : cnt x y i k ≤ 12 := by
  have a1 := eq01_le x.a y.a; have a2 := eq01_le x.a y.b; have a3 := eq01_le x.a y.c
  have b1 := eq01_le x.b y.a; have b2 := eq01_le x.b y.b; have b3 := eq01_le x.b y.c
  have c1 := eq01_le x.c y.a; have c2 := eq01_le x.c y.b; have c3 := eq01_le x.c y.c
  have d1 := eq01_le (x.nth i) y.a; have d2 := eq01_le (x.nth i) y.b; have d3 := eq01_le (x.nth i) y.c
  have e1 := ite_le (0 < i) (eq01 x.a y.a + eq01 x.a y.b + eq01 x.a y.c)
  have e2 := ite_le (1 < i) (eq01 x.b y.a + eq01 x.b y.b + eq01 x.b y.c)
  have e3 := ite_le (2 < i) (eq01 x.c y.a + eq01 x.c y.b + eq01 x.c y.c)
  have e4 := ite_le (0 < k) (eq01 (x.nth i) y.a)
  have e5 := ite_le (1 < k) (eq01 (x.nth i) y.b)
  have e6 := ite_le (2 < k) (eq01 (x.nth i) y.c)
  unfold cnt
  omega
theorem cnt_succ (x y : Bk) (i : Nat) {k : Nat} (h : k < 3) : cnt x y i (k + 1) = cnt x y i k + eq01 (x.nth i) (y.nth k) := by
  have : k = 0 ∨ k = 1 ∨ k = 2 := by omega
  rcases this with rfl | rfl | rfl <;> simp [cnt, Bk.nth] <;> omega
theorem cnt_end (x y : Bk) {i : Nat} (h : i < 3) : cnt x y i 3 = cnt x y (i + 1) 0 := by
  have : i = 0 ∨ i = 1 ∨ i = 2 := by omega
  rcases this with rfl | rfl | rfl <;> simp [cnt, Bk.nth] <;> omega
theorem cnt_all (x y : Bk) : cnt x y 3 0 = common x y := by simp [cnt, common]

/-- The first n blocks fit, each with those ahead of it. -/
def Fits (bs : List Bk) : Prop := ∀ (i k : Nat) (x y : Bk), k < i → bs[i]? = some x → bs[k]? = some y → common x y ≤ 1
/-- Each block is good and comes behind the one ahead of it. -/
def Sorted (v : Int) (bs : List Bk) : Prop := ∀ (i : Nat) (x : Bk), bs[i]? = some x → good v x = true ∧ ∀ y, 0 < i → bs[i - 1]? = some y → before y x = true
def IsSys (p : Int) (bs : List Bk) : Prop := (3 ≤ p ∧ p ≤ 15) ∧ bs.length ≤ 35 ∧ Sorted p bs ∧ Fits bs

/-- A list is strictly ascending, from 0 to below n. -/
def Rises (n : Int) (xs : List Int) : Prop := ∀ (a : Nat) (x : Int), xs[a]? = some x → (0 ≤ x ∧ x < n) ∧ ∀ y, 0 < a → xs[a - 1]? = some y → y < x

theorem rises_block (v : Int) (b : Bk) : Rises v [b.a, b.b, b.c] ↔ good v b = true := by
  simp only [good, Bool.and_eq_true, decide_eq_true_eq]
  constructor
  · intro h
    have h0 := h 0 b.a rfl
    have h1 := h 1 b.b rfl
    have h2 := h 2 b.c rfl
    have := h1.2 b.a (by omega) rfl
    have := h2.2 b.b (by omega) rfl
    omega
  · intro h a x hx
    match a, hx with
    | 0, hx => simp at hx; subst hx; exact ⟨by omega, by omega⟩
    | 1, hx => simp at hx; subst hx; exact ⟨by omega, fun y _ hy => by simp at hy; omega⟩
    | 2, hx => simp at hx; subst hx; exact ⟨by omega, fun y _ hy => by simp at hy; omega⟩
    | a + 3, hx => simp at hx

/-- How two lists compare. -/
def lexC : List Int → List Int → Int
  | [], [] => 0
  | [], _ :: _ => -1
  | _ :: _, [] => 1
  | x :: xs, y :: ys => if x < y then -1 else if y < x then 1 else lexC xs ys

theorem lexC_block (x y : Bk) : (0 ≤ lexC [x.a, x.b, x.c] [y.a, y.b, y.c]) ↔ before x y = false := by
  simp only [lexC, before]
  repeat' split
  all_goals simp_all
  all_goals omega

end Go.Ab
end

section
/- What the specification's functions on systems compute. -/
set_option linter.all false
set_option maxRecDepth 20000
namespace Go.Proofs.Ytdfeoccjllljiaa
open Go.Ab

theorem l01Good_ok {H : Heap} {v : Int} {b : Bk} (Post : Value → Heap → Prop) (h : ∀ H', H <+: H' → Post (.bool (good v b)) H') :
    ACalls Try.prog 139 [.int .i64 v, b.val] H Post := by
  refine acalls_vc (rs := [.tmp 4]) Try.func139 rfl rfl Try.ntmps139 rfl rfl ?_
  obtain ⟨a, b, c⟩ := b
  have h := h _ (List.prefix_append H [⟨[.int .i64 a, .int .i64 b, .int .i64 c], true, true⟩])
  simp only [good] at h
  by_cases h1 : 0 ≤ a
  · by_cases h2 : a < b
    · by_cases h3 : b < c
      · simp (maxSteps := 1000000) [go_sem, Bk.val, Value.oneCell', h1, h2, h3] at h ⊢
        exact h
      · simp (maxSteps := 1000000) [go_sem, Bk.val, Value.oneCell', h1, h2, h3] at h ⊢
        exact h
    · simp (maxSteps := 1000000) [go_sem, Bk.val, Value.oneCell', h1, h2] at h ⊢
      exact h
  · simp (maxSteps := 1000000) [go_sem, Bk.val, Value.oneCell', h1] at h ⊢
    exact h

theorem l01Before_ok {H : Heap} {b d : Bk} (Post : Value → Heap → Prop) (h : ∀ H', H <+: H' → Post (.bool (before b d)) H') :
    ACalls Try.prog 140 [b.val, d.val] H Post := by
  refine acalls_vc (rs := [.tmp 4]) Try.func140 rfl rfl Try.ntmps140 rfl rfl ?_
  obtain ⟨b1, b2, b3⟩ := b
  obtain ⟨d1, d2, d3⟩ := d
  simp (maxSteps := 1000000) [go_sem, Bk.val, Value.oneCell']
  have h := h _ (List.prefix_append H [⟨[.int .i64 b1, .int .i64 b2, .int .i64 b3], true, true⟩, ⟨[.int .i64 d1, .int .i64 d2, .int .i64 d3], true, true⟩])
  simp only [before] at h
  refine AWp.loopVc (fun s : Nat => [(2, .pointer (some ⟨H.length, 0, none⟩)), (3, .pointer (some ⟨H.length + 1, 0, none⟩)), (5, .int .i64 s)])
    (fun s H' => s ≤ 3 ∧ H' = H ++ [⟨[.int .i64 b1, .int .i64 b2, .int .i64 b3], true, true⟩, ⟨[.int .i64 d1, .int .i64 d2, .int .i64 d3], true, true⟩] ∧ [b1, b2, b3].take s = [d1, d2, d3].take s) (fun s => 3 - s) 0 ?_ ?_ ?_
  · simp [upF, Fr.get, Up.refl]
  · simp
  · rintro K s H' ⟨hs, rfl, ht⟩ hK
    have cn : List (Nat × Bool) := []
    have : s = 0 ∨ s = 1 ∨ s = 2 ∨ s = 3 := by omega
    rcases this with rfl | rfl | rfl | rfl
    · simp (maxSteps := 1000000) [go_sem]
      refine AWp.draw mixed [(0, false), (1, false), (2, false), (3, false), (4, false), (5, false), (6, false)] (by kernel_rfl) ?_
      simp (maxSteps := 1000000) [go_sem, i64w (n := 1) (by omega) (by omega)]
      refine condK_intro (fun hne => ?_) (fun heq => ?_)
      · refine AWp.draw mixed [(0, false), (1, false), (2, false), (3, false), (4, false), (5, false), (6, false), (7, false)] (by kernel_rfl) ?_
        simp (maxSteps := 1000000) [go_sem]
        simp at hne; simpa [hne] using h
      · exact hK 1 _ _ (by omega) (by simp [upF, Fr.get, Up.refl]) ⟨by omega, rfl, by simpa using heq⟩
    · simp (maxSteps := 1000000) [go_sem]
      refine AWp.draw mixed [(0, false), (1, false), (2, false), (3, false), (4, false), (5, false), (6, false)] (by kernel_rfl) ?_
      simp (maxSteps := 1000000) [go_sem, i64w (n := 2) (by omega) (by omega)]
      refine condK_intro (fun hne => ?_) (fun heq => ?_)
      · refine AWp.draw mixed [(0, false), (1, false), (2, false), (3, false), (4, false), (5, false), (6, false), (7, false)] (by kernel_rfl) ?_
        simp (maxSteps := 1000000) [go_sem]
        simp at hne ht; simpa [hne, ht] using h
      · exact hK 2 _ _ (by omega) (by simp [upF, Fr.get, Up.refl]) ⟨by omega, rfl, by simp at ht heq; simp [ht, heq]⟩
    · simp (maxSteps := 1000000) [go_sem]
      refine AWp.draw mixed [(0, false), (1, false), (2, false), (3, false), (4, false), (5, false), (6, false)] (by kernel_rfl) ?_
      simp (maxSteps := 1000000) [go_sem, i64w (n := 3) (by omega) (by omega)]
      refine condK_intro (fun hne => ?_) (fun heq => ?_)
      · refine AWp.draw mixed [(0, false), (1, false), (2, false), (3, false), (4, false), (5, false), (6, false), (7, false)] (by kernel_rfl) ?_
        simp (maxSteps := 1000000) [go_sem]
        simp at hne ht; simpa [hne, ht] using h
      · exact hK 3 _ _ (by omega) (by simp [upF, Fr.get, Up.refl]) ⟨by omega, rfl, by simp at ht heq; simp [ht, heq]⟩
    · simp (maxSteps := 1000000) [go_sem]
      simp at ht
      simpa [ht] using h

theorem l01Common_ok {H : Heap} {b d : Bk} (Post : Value → Heap → Prop) (h : ∀ H', H <+: H' → Post (.int .i64 (common b d)) H') :
    ACalls Try.prog 160 [b.val, d.val] H Post := by
  refine acalls_vc (rs := [.tmp 4]) Try.func160 rfl rfl Try.ntmps160 rfl rfl ?_
  obtain ⟨b1, b2, b3⟩ := b
  obtain ⟨d1, d2, d3⟩ := d
  simp (maxSteps := 1000000) [go_sem, Bk.val, Value.oneCell']
  obtain ⟨H1, hH1⟩ : ∃ H1, H1 = H ++ [⟨[.int .i64 b1, .int .i64 b2, .int .i64 b3], true, true⟩, ⟨[.int .i64 d1, .int .i64 d2, .int .i64 d3], true, true⟩] := ⟨_, rfl⟩
  have h := h H1 (by rw [hH1]; exact List.prefix_append _ _)
  have l1 : ∀ i : Nat, i < 3 → cellsAt H1 H.length i 1 = some [.int .i64 (Bk.nth ⟨b1, b2, b3⟩ i)] := by
    intro i hi
    have : i = 0 ∨ i = 1 ∨ i = 2 := by omega
    rcases this with rfl | rfl | rfl <;> simp [hH1, go_sem, Bk.nth]
  have l2 : ∀ i : Nat, i < 3 → cellsAt H1 (H.length + 1) i 1 = some [.int .i64 (Bk.nth ⟨d1, d2, d3⟩ i)] := by
    intro i hi
    have : i = 0 ∨ i = 1 ∨ i = 2 := by omega
    rcases this with rfl | rfl | rfl <;> simp [hH1, go_sem, Bk.nth]
  rw [← hH1]
  refine AWp.loopVc (fun s : Nat => [(2, .pointer (some ⟨H.length, 0, none⟩)), (3, .pointer (some ⟨H.length + 1, 0, none⟩)), (5, .int .i64 (cnt ⟨b1, b2, b3⟩ ⟨d1, d2, d3⟩ s 0)), (6, .int .i64 s)])
    (fun s H' => s ≤ 3 ∧ H' = H1) (fun s => 3 - s) 0 ?_ ?_ ?_
  · simp [upF, Fr.get, Up.refl, cnt]
  · simp
  · rintro K s H' ⟨hs, rfl⟩ hK
    by_cases hlt : s < 3
    · have hlt' : (s : Int) < 3 := by omega
      simp (maxSteps := 1000000) [go_sem, hlt, hlt']
      refine AWp.loopVc (fun t : Nat => [(2, .pointer (some ⟨H.length, 0, none⟩)), (3, .pointer (some ⟨H.length + 1, 0, none⟩)), (5, .int .i64 (cnt ⟨b1, b2, b3⟩ ⟨d1, d2, d3⟩ s t)), (6, .int .i64 s), (7, .int .i64 t)])
        (fun t H2 => t ≤ 3 ∧ H2 = H') (fun t => 3 - t) 0 ?_ ?_ ?_
      · simp [upF, Fr.get, Up.refl]
      · simp
      · rintro K2 t H2 ⟨ht, rfl⟩ hK2
        by_cases htl : t < 3
        · have c1 := l1 s hlt
          have c2 := l2 t htl
          have hw : IntKind.i64.wrap ((t : Int) + 1) = (t : Int) + 1 := i64w (by omega) (by omega)
          have hle := cnt_le ⟨b1, b2, b3⟩ ⟨d1, d2, d3⟩ s t
          have hw2 : IntKind.i64.wrap ((cnt ⟨b1, b2, b3⟩ ⟨d1, d2, d3⟩ s t : Int) + 1) = (cnt ⟨b1, b2, b3⟩ ⟨d1, d2, d3⟩ s t : Int) + 1 := i64w (by omega) (by omega)
          have hst := cnt_succ ⟨b1, b2, b3⟩ ⟨d1, d2, d3⟩ s htl
          have htl' : (t : Int) < 3 := by omega
          simp (maxSteps := 1000000) [go_sem, htl, htl']
          refine AWp.draw mixed [(0, false), (1, false), (2, false), (3, false), (4, false), (5, false), (6, false)] (by kernel_rfl) ?_
          simp (maxSteps := 1000000) [go_sem, hlt, htl, hlt', htl', c1, c2, hw, hw2]
          refine condK_intro (fun heq => ?_) (fun hne => ?_)
          · refine hK2 (t + 1) _ _ (by omega) ?_ ⟨by omega, rfl⟩
            have : eq01 (Bk.nth ⟨b1, b2, b3⟩ s) (Bk.nth ⟨d1, d2, d3⟩ t) = 1 := by rw [eq01, if_pos (by simpa using heq)]
            simp [upF, Fr.get, Up.refl, hst, this]
          · refine hK2 (t + 1) _ _ (by omega) ?_ ⟨by omega, rfl⟩
            have : eq01 (Bk.nth ⟨b1, b2, b3⟩ s) (Bk.nth ⟨d1, d2, d3⟩ t) = 0 := by rw [eq01, if_neg (by simpa using hne)]
            simp [upF, Fr.get, Up.refl, hst, this]
        · have : t = 3 := by omega
          subst this
          have hw : IntKind.i64.wrap ((s : Int) + 1) = (s : Int) + 1 := i64w (by omega) (by omega)
          simp (maxSteps := 1000000) [go_sem, hw]
          refine hK (s + 1) _ _ (by omega) ?_ ⟨by omega, rfl⟩
          have := cnt_end ⟨b1, b2, b3⟩ ⟨d1, d2, d3⟩ hlt
          simp [upF, Fr.get, Up.refl, this]
    · have : s = 3 := by omega
      subst this
      simp (maxSteps := 1000000) [go_sem]
      rw [cnt_all]; exact h

theorem l01Fits_ok {H : Heap} {u : Value} {bs : List Bk} (hu : BlocksAt H u bs) (Post : Value → Heap → Prop) (h : ∀ H' b, H <+: H' → (b = true ↔ Fits bs) → Post (.bool b) H') :
    ACalls Try.prog 118 [u] H Post := by
  obtain ⟨i, o, rfl, h1, h2⟩ := hu
  refine acalls_vc (rs := [.tmp 2]) Try.func118 rfl rfl Try.ntmps118 rfl rfl ?_
  simp (maxSteps := 1000000) [go_sem]
  refine AWp.loopVc (fun s : Nat => [(0, lv 3 i o bs.length), (3, .int .i64 s)])
    (fun s H' => s ≤ bs.length ∧ H <+: H' ∧ ∀ (a k : Nat) (x y : Bk), a < s → k < a → bs[a]? = some x → bs[k]? = some y → common x y ≤ 1) (fun s => bs.length - s) 0 ?_ ?_ ?_
  · simp [upF, Fr.get, Up.refl]
  · exact ⟨by omega, List.prefix_refl _, by intro a k x y ha; omega⟩
  · rintro K s H' ⟨hs, hp, hf⟩ hK
    by_cases hlt : s < bs.length
    · have hbs : bs[s]? = some bs[s] := List.getElem?_eq_getElem hlt
      simp (maxSteps := 1000000) [go_sem, hlt]
      refine AWp.loopVc (fun t : Nat => [(0, lv 3 i o bs.length), (3, .int .i64 s), (4, .int .i64 t)])
        (fun t H2 => t ≤ s ∧ H <+: H2 ∧ ∀ (k : Nat) (y : Bk), k < t → bs[k]? = some y → common bs[s] y ≤ 1) (fun t => s - t) 0 ?_ ?_ ?_
      · simp [upF, Fr.get, Up.refl]
      · exact ⟨by omega, hp, by intro k y hk; omega⟩
      · rintro K2 t H2 ⟨ht, hp2, hft⟩ hK2
        by_cases htl : t < s
        · have hbt : bs[t]? = some (bs[t]'(by omega)) := List.getElem?_eq_getElem _
          have c1 := (h1.pre hp2).bk hbs
          have c2 := (h1.pre hp2).bk hbt
          simp only [Bk.cells] at c1 c2
          have hw : IntKind.i64.wrap ((t : Int) + 1) = (t : Int) + 1 := i64w (by omega) (by omega)
          have hlt2 : t < bs.length := by omega
          simp (maxSteps := 1000000) [go_sem, htl]
          refine AWp.draw mixed [(0, false), (1, false), (2, false), (3, false), (4, false), (5, false), (6, false), (7, false), (8, false), (9, false)] (by kernel_rfl) ?_
          simp (maxSteps := 1000000) [go_sem, hlt, hlt2, c1, c2]
          refine l01Common_ok (b := bs[s]) (d := bs[t]'(by omega)) _ ?_
          intro H3 hp3
          simp (maxSteps := 1000000) [go_sem, hw]
          refine condK_intro (fun hgt => ?_) (fun hle => ?_)
          · refine h H3 false (hp2.trans hp3) ⟨by simp, fun hF => ?_⟩
            have := hF s t _ _ htl hbs hbt
            simp at hgt; omega
          · refine hK2 (t + 1) _ _ (by omega) (by simp [upF, Fr.get, Up.refl]) ⟨by omega, hp2.trans hp3, fun k y hk hy => ?_⟩
            by_cases hkt : k = t
            · subst hkt
              rw [hbt] at hy; cases hy
              simp at hle; omega
            · exact hft k y (by omega) hy
        · have : t = s := by omega
          subst this
          have hw : IntKind.i64.wrap ((t : Int) + 1) = (t : Int) + 1 := i64w (by omega) (by omega)
          simp (maxSteps := 1000000) [go_sem, hw]
          refine hK (t + 1) _ _ (by omega) (by simp [upF, Fr.get, Up.refl]) ⟨by omega, hp2, fun a k x y ha hk hx hy => ?_⟩
          by_cases hat : a = t
          · subst hat
            rw [hbs] at hx; cases hx
            exact hft k y hk hy
          · exact hf a k x y (by omega) hk hx hy
    · have : s = bs.length := by omega
      subst this
      simp (maxSteps := 1000000) [go_sem]
      exact h H' true hp ⟨fun _ a k x y hk hx hy => hf a k x y (List.getElem?_eq_some_iff.1 hx).1 hk hx hy, fun _ => rfl⟩

theorem l01Is_ok {H : Heap} {u : Value} {p : Int} {bs : List Bk} (hu : BlocksAt H u bs) (hlen : bs.length ≤ 1048576) (Post : Value → Heap → Prop) (h : ∀ H' b, H <+: H' → (b = true ↔ IsSys p bs) → Post (.bool b) H') :
    ACalls Try.prog 76 [sysV p u] H Post := by
  obtain ⟨i, o, rfl, h1, h2⟩ := hu
  refine acalls_vc (rs := [.tmp 2]) Try.func76 rfl rfl Try.ntmps76 rfl rfl ?_
  simp (maxSteps := 1000000) [go_sem, sysV, Value.oneCell']
  refine l01In_ok _ ?_
  obtain ⟨H1, hH1⟩ : ∃ H1, H1 = H ++ [⟨[.int .i64 p, lv 3 i o bs.length], true, true⟩] := ⟨_, rfl⟩
  have hbox : H1[H.length]? = some ⟨[.int .i64 p, lv 3 i o bs.length], true, true⟩ := by rw [hH1]; simp
  have hp1 : H <+: H1 := by rw [hH1]; exact List.prefix_append _ _
  by_cases hin : 3 ≤ p ∧ p ≤ 15
  · by_cases hl35 : bs.length ≤ 35
    · have hgt : ¬ ((35 : Int) < bs.length) := by omega
      simp (maxSteps := 1000000) [go_sem, hin.1, hin.2, hgt]
      rw [← hH1]
      refine AWp.loopVc (fun s : Nat => [(1, .pointer (some ⟨H.length, 0, none⟩)), (3, .int .i64 s)])
        (fun s H' => s ≤ bs.length ∧ H1 <+: H' ∧ ∀ (a : Nat) (x : Bk), a < s → bs[a]? = some x → good p x = true ∧ ∀ y, 0 < a → bs[a - 1]? = some y → before y x = true) (fun s => bs.length - s) 0 ?_ ?_ ?_
      · simp [upF, Fr.get, Up.refl]
      · exact ⟨by omega, List.prefix_refl _, by intro a x ha; omega⟩
      · rintro K s H' ⟨hs, hp, hf⟩ hK
        have box : ∀ {H2 : Heap}, H1 <+: H2 → cellsAt H2 H.length 0 1 = some [.int .i64 p] ∧ cellsAt H2 H.length 1 1 = some [lv 3 i o bs.length] := by
          intro H2 hp2
          have := Same.get (S := fun _ => False) (Same.of_prefix hp2) hbox (fun h => h)
          exact ⟨Holds.cell ⟨true, this⟩ rfl, Holds.cell ⟨true, this⟩ rfl⟩
        obtain ⟨b0, b1⟩ := box hp
        by_cases hlt : s < bs.length
        · have hbs : bs[s]? = some bs[s] := List.getElem?_eq_getElem hlt
          have c1 := (h1.pre (hp1.trans hp)).bk hbs
          simp only [Bk.cells] at c1
          have hw : IntKind.i64.wrap ((s : Int) + 1) = (s : Int) + 1 := i64w (by omega) (by omega)
          simp (maxSteps := 1000000) [go_sem, hlt, b0, b1]
          refine AWp.draw mixed [(0, false), (1, false), (2, false), (3, false), (4, false), (5, false), (6, false), (7, false), (8, false), (9, false), (10, false), (11, false), (12, false), (13, false), (14, false), (15, false), (16, false), (17, false), (18, false), (19, false), (20, false), (21, false), (22, false), (23, false), (24, false), (25, false), (26, false), (27, false)] (by kernel_rfl) ?_
          simp (maxSteps := 1000000) [go_sem, hlt, b0, b1, c1]
          refine l01Good_ok (b := bs[s]) _ ?_
          intro H2 hp2
          by_cases hg : good p bs[s] = true
          · by_cases h0 : s = 0
            · subst h0
              simp (maxSteps := 1000000) [go_sem, hg, hw]
              refine hK 1 _ _ (by omega) (by simp [upF, Fr.get, Up.refl, i64w (n := 1)]) ⟨by omega, hp.trans hp2, fun a x ha hx => ?_⟩
              obtain rfl : a = 0 := by omega
              rw [hbs] at hx; cases hx
              exact ⟨hg, by omega⟩
            · have hs0 : 0 < s := by omega
              obtain ⟨r, rfl⟩ : ∃ r, s = r + 1 := ⟨s - 1, by omega⟩
              have hbr : bs[r]? = some (bs[r]'(by omega)) := List.getElem?_eq_getElem _
              obtain ⟨d0, d1⟩ := box (hp.trans hp2)
              have e1 := (h1.pre (hp1.trans (hp.trans hp2))).bk hbs
              have e2 := (h1.pre (hp1.trans (hp.trans hp2))).bk hbr
              simp only [Bk.cells] at e1 e2
              have hr : r < bs.length := by omega
              have hw3 : IntKind.i64.wrap (r : Int) = (r : Int) := i64w (by omega) (by omega)
              have hw4 : IntKind.i64.wrap ((r : Int) + 1 + 1) = (r : Int) + 1 + 1 := i64w (by omega) (by omega)
              simp (maxSteps := 1000000) [go_sem, hg, hw, d0, d1, e1, e2, hlt, hr, hw3]
              refine andK_intro (by omega) (l01Before_ok (b := bs[r]'(by omega)) (d := bs[r + 1]) _ ?_)
              intro H3 hp3
              by_cases hbf : before (bs[r]'(by omega)) bs[r + 1] = true
              · simp (maxSteps := 1000000) [go_sem, hbf, hw4]
                refine hK (r + 1 + 1) _ _ (by omega) (by simp [upF, Fr.get, Up.refl]) ⟨by omega, hp.trans (hp2.trans hp3), fun a x ha hx => ?_⟩
                by_cases har : a = r + 1
                · subst har
                  rw [hbs] at hx; cases hx
                  refine ⟨hg, fun y _ hy => ?_⟩
                  simp only [Nat.add_sub_cancel] at hy
                  rw [hbr] at hy; cases hy
                  exact hbf
                · exact hf a x (by omega) hx
              · simp (maxSteps := 1000000) [go_sem, hbf]
                refine h H3 false (hp1.trans (hp.trans (hp2.trans hp3))) ⟨by simp, fun hS => ?_⟩
                exact absurd ((hS.2.2.1 (r + 1) _ hbs).2 _ (by omega) (by simpa using hbr)) hbf
          · simp (maxSteps := 1000000) [go_sem, hg]
            refine h H2 false (hp1.trans (hp.trans hp2)) ⟨by simp, fun hS => ?_⟩
            exact absurd (hS.2.2.1 s _ hbs).1 hg
        · have : s = bs.length := by omega
          subst this
          simp (maxSteps := 1000000) [go_sem, b0, b1]
          refine l01Fits_ok ⟨i, o, rfl, h1.pre (hp1.trans hp), h2⟩ _ ?_
          intro H2 b hp2 hb
          simp (maxSteps := 1000000) [go_sem]
          refine h H2 b (hp1.trans (hp.trans hp2)) (hb.trans ⟨fun hF => ⟨hin, hl35, fun a x hx => hf a x (List.getElem?_eq_some_iff.1 hx).1 hx, hF⟩, fun hS => hS.2.2.2⟩)
    · have hgt : (35 : Int) < bs.length := by omega
      simp (maxSteps := 1000000) [go_sem, hin.1, hin.2, hgt]
      refine h _ false (List.prefix_append _ _) ⟨by simp, fun hS => absurd hS.2.1 hl35⟩
  · have hn : (decide (3 ≤ p) && decide (p ≤ 15)) = false := by simp; omega
    rw [hn]
    simp (maxSteps := 1000000) [go_sem]
    exact h _ false (List.prefix_append _ _) ⟨by simp, fun hS => absurd hS.1 hin⟩

end Go.Proofs.Ytdfeoccjllljiaa
end

section
/- What the program's functions on systems compute. -/
set_option linter.all false
set_option maxRecDepth 20000
namespace Go.Proofs.Ytdfeoccjllljiaa
open Go.Ab

theorem rises_ok {H : Heap} {u : Value} {xs : List Int} {n : Int} (hu : IntsAt H u xs) (hn : -9223372036854775807 ≤ n) (hn' : n ≤ 9223372036854775807) (Post : Value → Heap → Prop) (h : ∀ b : Bool, (b = true ↔ Rises n xs) → Post (.bool b) H) :
    ACalls Try.prog 162 [u, .int .i64 n] H Post := by
  obtain ⟨i, o, rfl, h1, h2⟩ := hu
  refine acalls_vc (rs := [.tmp 4]) Try.func162 rfl rfl Try.ntmps162 rfl rfl ?_
  simp (maxSteps := 1000000) [go_sem]
  refine AWp.loopVc (fun s : Nat => [(0, lv 1 i o xs.length), (1, .int .i64 n), (7, lv 1 i o xs.length), (8, .int .i64 xs.length), (9, .int .i64 s)])
    (fun s H' => s ≤ xs.length ∧ H' = H ∧ ∀ (a : Nat) (x : Int), a < s → xs[a]? = some x → (0 ≤ x ∧ x < n) ∧ ∀ y, 0 < a → xs[a - 1]? = some y → y < x) (fun s => xs.length - s) 0 ?_ ?_ ?_
  · simp [upF, Fr.get, Up.refl]
  · exact ⟨by omega, rfl, by intro a x ha; omega⟩
  · rintro K s H' ⟨hs, rfl, hf⟩ hK
    by_cases hlt : s < xs.length
    · have hx : xs[s]? = some xs[s] := List.getElem?_eq_getElem hlt
      have c1 := h1.cell (k := s) (v := .int .i64 xs[s]) (by simp [ints_get, hlt])
      have hw : IntKind.i64.wrap ((s : Int) + 1) = (s : Int) + 1 := i64w (by omega) (by omega)
      have hwn : IntKind.i64.wrap (n - 1) = n - 1 := i64w (by omega) (by omega)
      simp (maxSteps := 1000000) [go_sem, hlt, c1, hwn]
      refine within_ok _ ?_
      by_cases hin : 0 ≤ xs[s] ∧ xs[s] ≤ n - 1
      · by_cases h0 : s = 0
        · subst h0
          simp (maxSteps := 1000000) [go_sem, hin.1, hin.2, i64w (n := 1)]
          refine hK 1 _ _ (by omega) (by simp [upF, Fr.get, Up.refl]) ⟨by omega, rfl, fun a x ha hx' => ?_⟩
          obtain rfl : a = 0 := by omega
          rw [hx] at hx'; cases hx'
          exact ⟨by omega, by omega⟩
        · obtain ⟨r, rfl⟩ : ∃ r, s = r + 1 := ⟨s - 1, by omega⟩
          have hxr : xs[r]? = some (xs[r]'(by omega)) := List.getElem?_eq_getElem _
          have c2 := h1.cell (k := r) (v := .int .i64 (xs[r]'(by omega))) (by simp [ints_get, hxr])
          have hr : r < xs.length := by omega
          have hw3 : IntKind.i64.wrap (r : Int) = (r : Int) := i64w (by omega) (by omega)
          have hw4 : IntKind.i64.wrap ((r : Int) + 1 + 1) = (r : Int) + 1 + 1 := i64w (by omega) (by omega)
          simp (maxSteps := 1000000) [go_sem, hin.1, hin.2, hw3, hr, c2, hw4]
          refine condK_intro (fun hge => ?_) (fun hlt' => ?_)
          · refine h false ⟨by simp, fun hR => ?_⟩
            have := (hR (r + 1) _ hx).2 _ (by omega) hxr
            simp at hge; omega
          · refine hK (r + 1 + 1) _ _ (by omega) (by simp [upF, Fr.get, Up.refl]) ⟨by omega, rfl, fun a x ha hx' => ?_⟩
            by_cases har : a = r + 1
            · subst har
              rw [hx] at hx'; cases hx'
              refine ⟨by omega, fun y _ hy => ?_⟩
              simp only [Nat.add_sub_cancel] at hy
              rw [hxr] at hy; cases hy
              simpa using hlt'
            · exact hf a x (by omega) hx'
      · have hnin : (decide (0 ≤ xs[s]) && decide (xs[s] ≤ n - 1)) = false := by simp; omega
        rw [hnin]
        simp (maxSteps := 1000000) [go_sem]
        refine h false ⟨by simp, fun hR => ?_⟩
        have := (hR s _ hx).1
        omega
    · have : s = xs.length := by omega
      subst this
      simp (maxSteps := 1000000) [go_sem]
      exact h true ⟨fun _ a x hx => hf a x (List.getElem?_eq_some_iff.1 hx).1 hx, fun _ => rfl⟩

theorem isBlock_ok {H : Heap} {b : Bk} {v : Int} (hn : -9223372036854775807 ≤ v) (hn' : v ≤ 9223372036854775807) (Post : Value → Heap → Prop) (h : ∀ H', H <+: H' → Post (.bool (good v b)) H') :
    ACalls Try.prog 121 [b.val, .int .i64 v] H Post := by
  refine acalls_vc (rs := [.tmp 4]) Try.func121 rfl rfl Try.ntmps121 rfl rfl ?_
  simp (maxSteps := 1000000) [go_sem, Bk.val, Value.oneCell']
  have hat : At (H ++ [⟨[.int .i64 b.a, .int .i64 b.b, .int .i64 b.c], true, true⟩]) H.length 0 (ints [b.a, b.b, b.c]) := Holds.at ⟨true, by simp [ints]⟩
  refine ACalls.up (args' := [lv 1 H.length 0 3, .int .i64 v]) ⟨Up.ex (by omega) (.inr (by simp [go_sem])), Up.refl _ _, trivial⟩ ?_
  refine rises_ok (xs := [b.a, b.b, b.c]) ⟨H.length, 0, rfl, hat, by simp⟩ hn hn' _ ?_
  intro r hr
  simp (maxSteps := 1000000) [go_sem]
  have : r = good v b := by
    rw [rises_block] at hr
    cases r <;> cases hg : good v b <;> simp_all
  rw [this]
  exact h _ (List.prefix_append _ _)

theorem isNaN_ok {H : Heap} {x : Int} (Post : Value → Heap → Prop) (h : Post (.bool false) H) :
    ACalls Try.prog 188 [.int .i64 x] H Post := by
  refine acalls_vc (rs := [.tmp 2]) Try.func188 rfl rfl Try.ntmps188 rfl rfl ?_
  simp (maxSteps := 1000000) [go_sem]
  exact h

theorem cmpCompare_ok {H : Heap} {x y : Int} (Post : Value → Heap → Prop) (h : Post (.int .i64 (if x < y then -1 else if y < x then 1 else 0)) H) :
    ACalls Try.prog 177 [.int .i64 x, .int .i64 y] H Post := by
  refine acalls_vc (rs := [.tmp 4]) Try.func177 rfl rfl Try.ntmps177 rfl rfl ?_
  simp (maxSteps := 1000000) [go_sem]
  refine isNaN_ok _ ?_
  simp (maxSteps := 1000000) [go_sem]
  refine isNaN_ok _ ?_
  simp (maxSteps := 1000000) [go_sem]
  refine condK_intro (fun h1 => ?_) (fun h1 => ?_)
  · rw [if_pos (by simpa using h1)] at h; exact h
  · rw [if_neg (by simpa using h1)] at h
    refine condK_intro (fun h2 => ?_) (fun h2 => ?_)
    · rw [if_pos (by simpa using h2)] at h; exact h
    · rw [if_neg (by simpa using h2)] at h; exact h

theorem slicesCompare_ok {H : Heap} {u v : Value} {xs ys : List Int} (hu : IntsAt H u xs) (hv : IntsAt H v ys) (Post : Value → Heap → Prop) (h : Post (.int .i64 (lexC xs ys)) H) :
    ACalls Try.prog 149 [u, v] H Post := by
  obtain ⟨i, o, rfl, h1, h2⟩ := hu
  obtain ⟨j, q, rfl, h3, h4⟩ := hv
  refine acalls_vc (rs := [.tmp 4]) Try.func149 rfl rfl Try.ntmps149 rfl rfl ?_
  simp (maxSteps := 1000000) [go_sem]
  refine AWp.loopVc (fun s : Nat => [(0, lv 1 i o xs.length), (1, lv 1 j q ys.length), (9, lv 1 i o xs.length), (10, .int .i64 xs.length), (11, .int .i64 s)])
    (fun s H' => s ≤ xs.length ∧ s ≤ ys.length ∧ H' = H ∧ lexC xs ys = lexC (xs.drop s) (ys.drop s)) (fun s => xs.length - s) 0 ?_ ?_ ?_
  · simp [upF, Fr.get, Up.refl]
  · exact ⟨by omega, by omega, rfl, by simp⟩
  · rintro K s H' ⟨hs, hs', rfl, hf⟩ hK
    by_cases hlt : s < xs.length
    · have hdx : xs.drop s = xs[s] :: xs.drop (s + 1) := List.drop_eq_getElem_cons hlt
      have c1 := h1.cell (k := s) (v := .int .i64 xs[s]) (by simp [ints_get, hlt])
      have hw : IntKind.i64.wrap ((s : Int) + 1) = (s : Int) + 1 := i64w (by omega) (by omega)
      by_cases hly : s < ys.length
      · have hdy : ys.drop s = ys[s] :: ys.drop (s + 1) := List.drop_eq_getElem_cons hly
        have c2 := h3.cell (k := s) (v := .int .i64 ys[s]) (by simp [ints_get, hly])
        have hly' : ¬ ys.length ≤ s := by omega
        simp (maxSteps := 1000000) [go_sem, hlt, hly, hly', c1, c2]
        refine cmpCompare_ok _ ?_
        rw [hdx, hdy] at hf
        simp only [lexC] at hf
        by_cases hxy : xs[s] < ys[s]
        · rw [if_pos hxy] at hf ⊢
          simp (maxSteps := 1000000) [go_sem]
          rw [hf] at h; exact h
        · rw [if_neg hxy] at hf ⊢
          by_cases hyx : ys[s] < xs[s]
          · rw [if_pos hyx] at hf ⊢
            simp (maxSteps := 1000000) [go_sem]
            rw [hf] at h; exact h
          · rw [if_neg hyx] at hf ⊢
            simp (maxSteps := 1000000) [go_sem, hw]
            exact hK (s + 1) _ _ (by omega) (by simp [upF, Fr.get, Up.refl]) ⟨by omega, by omega, rfl, hf⟩
      · have hly' : ys.length ≤ s := by omega
        simp (maxSteps := 1000000) [go_sem, hlt, hly', c1]
        rw [hdx, List.drop_eq_nil_of_le hly'] at hf
        simp only [lexC] at hf
        rw [hf] at h; exact h
    · have : s = xs.length := by omega
      subst this
      simp (maxSteps := 1000000) [go_sem]
      rw [List.drop_eq_nil_of_le (Nat.le_refl _)] at hf
      refine condK_intro (fun hl => ?_) (fun hl => ?_)
      · have hl : xs.length < ys.length := by simpa using hl
        rw [List.drop_eq_getElem_cons hl] at hf
        simp only [lexC] at hf
        rw [hf] at h; exact h
      · have hl : ys.length ≤ xs.length := by simpa using hl
        rw [List.drop_eq_nil_of_le hl] at hf
        simp only [lexC] at hf
        rw [hf] at h; exact h

theorem compare_ok {H : Heap} {b d : Bk} (Post : Value → Heap → Prop) (h : ∀ H', H <+: H' → Post (.int .i64 (lexC [b.a, b.b, b.c] [d.a, d.b, d.c])) H') :
    ACalls Try.prog 170 [b.val, d.val] H Post := by
  refine acalls_vc (rs := [.tmp 4]) Try.func170 rfl rfl Try.ntmps170 rfl rfl ?_
  simp (maxSteps := 1000000) [go_sem, Bk.val, Value.oneCell']
  refine AWp.draw mixed [(0, false), (1, false), (2, false), (3, false)] (by kernel_rfl) ?_
  simp (maxSteps := 1000000) [go_sem]
  have ha : Holds (H ++ [⟨[.int .i64 b.a, .int .i64 b.b, .int .i64 b.c], true, true⟩, ⟨[.int .i64 d.a, .int .i64 d.b, .int .i64 d.c], true, true⟩]) H.length (ints [b.a, b.b, b.c]) := ⟨true, by simp [ints]⟩
  have hd : Holds (H ++ [⟨[.int .i64 b.a, .int .i64 b.b, .int .i64 b.c], true, true⟩, ⟨[.int .i64 d.a, .int .i64 d.b, .int .i64 d.c], true, true⟩]) (H.length + 1) (ints [d.a, d.b, d.c]) := ⟨true, by simp [ints]⟩
  refine ACalls.up (args' := [lv 1 H.length 0 3, lv 1 (H.length + 1) 0 3]) ⟨Up.ex (by omega) (.inr (by simp [go_sem])), Up.ex (by omega) (.inr (by simp [go_sem])), trivial⟩ ?_
  refine slicesCompare_ok (xs := [b.a, b.b, b.c]) (ys := [d.a, d.b, d.c]) ⟨H.length, 0, rfl, ha.at, by simp⟩ ⟨H.length + 1, 0, rfl, hd.at, by simp⟩ _ ?_
  simp (maxSteps := 1000000) [go_sem]
  exact h _ (List.prefix_append _ _)

end Go.Proofs.Ytdfeoccjllljiaa
end

section
/- The grid of third points in plain terms: what its entries are, and when a block fits. No program is in sight here. -/
set_option linter.all false
namespace Go.Ab

/-- A block has a point. -/
def Bk.has (b : Bk) (p : Int) : Bool := decide (b.a = p) || (decide (b.b = p) || decide (b.c = p))
theorem Bk.has_iff {b : Bk} {p : Int} : b.has p = true ↔ (b.a = p ∨ b.b = p ∨ b.c = p) := by simp [Bk.has]

/-- The third point of two, and -1 if there is none. -/
def third (bs : List Bk) (p q : Int) : Int :=
  match bs.find? (fun c => c.has p && c.has q) with
  | some c => c.a + c.b + c.c - p - q
  | none => -1

theorem good_iff {v : Int} {b : Bk} : good v b = true ↔ 0 ≤ b.a ∧ b.a < b.b ∧ b.b < b.c ∧ b.c < v := by
  simp only [good, Bool.and_eq_true, decide_eq_true_eq, and_assoc]

theorem third_value {v : Int} {c : Bk} {p q : Int} (hc : good v c = true) (hpq : p ≠ q) (hp : c.has p = true) (hq : c.has q = true) :
    0 ≤ c.a + c.b + c.c - p - q ∧ c.a + c.b + c.c - p - q < v ∧ c.has (c.a + c.b + c.c - p - q) = true ∧ c.a + c.b + c.c - p - q ≠ p ∧ c.a + c.b + c.c - p - q ≠ q := by
  rw [good_iff] at hc
  rw [Bk.has_iff] at hp hq ⊢
  obtain ⟨h1, h2, h3, h4⟩ := hc
  refine ⟨?_, ?_, ?_, ?_, ?_⟩ <;> rcases hp with hp | hp | hp <;> rcases hq with hq | hq | hq <;> omega

theorem third_neg {v : Int} {bs : List Bk} (hg : ∀ x ∈ bs, good v x = true) {p q : Int} (hpq : p ≠ q) : third bs p q = -1 ↔ ∀ x ∈ bs, ¬ (x.has p = true ∧ x.has q = true) := by
  unfold third
  cases hf : bs.find? (fun c => c.has p && c.has q) with
  | none =>
    simp only [true_iff]
    intro x hx h
    have := List.find?_eq_none.1 hf x hx
    simp [h.1, h.2] at this
  | some c =>
    have h1 := List.find?_some hf
    have h2 := List.mem_of_find?_eq_some hf
    simp only [Bool.and_eq_true] at h1
    have := third_value (hg c h2) hpq h1.1 h1.2
    constructor
    · intro h
      have h : c.a + c.b + c.c - p - q = -1 := h
      omega
    · intro h; exact absurd h1 (h c h2)

theorem third_comm (bs : List Bk) (p q : Int) : third bs p q = third bs q p := by
  unfold third
  rw [show (fun c : Bk => c.has p && c.has q) = (fun c => c.has q && c.has p) from funext fun c => Bool.and_comm _ _]
  split <;> omega

theorem third_snoc {bs : List Bk} {b : Bk} {p q : Int} : third (bs ++ [b]) p q = match bs.find? (fun c => c.has p && c.has q) with
    | some c => c.a + c.b + c.c - p - q
    | none => if b.has p && b.has q then b.a + b.b + b.c - p - q else -1 := by
  unfold third
  rw [List.find?_append]
  cases bs.find? (fun c => c.has p && c.has q) with
  | some c => rfl
  | none =>
    simp only [Option.none_or, List.find?_cons]
    cases b.has p && b.has q <;> rfl

theorem third_snoc_in {v : Int} {bs : List Bk} {b : Bk} (hg : ∀ x ∈ bs, good v x = true) {p q : Int} (hpq : p ≠ q) (hp : b.has p = true) (hq : b.has q = true) (hn : third bs p q = -1) : third (bs ++ [b]) p q = b.a + b.b + b.c - p - q := by
  have h := (third_neg hg hpq).1 hn
  rw [third_snoc]
  cases hf : bs.find? (fun c => c.has p && c.has q) with
  | none => simp [hp, hq]
  | some c =>
    have h1 := List.find?_some hf
    simp only [Bool.and_eq_true] at h1
    exact absurd h1 (h c (List.mem_of_find?_eq_some hf))

theorem third_snoc_out {bs : List Bk} {b : Bk} {p q : Int} (h : ¬ (b.has p = true ∧ b.has q = true)) : third (bs ++ [b]) p q = third bs p q := by
  rw [third_snoc]
  unfold third
  have : (b.has p && b.has q) = false := by
    cases hp : b.has p <;> cases hq : b.has q <;> simp_all
  cases bs.find? (fun c => c.has p && c.has q) with
  | none => simp [this]
  | some c => rfl

/-- How often a block has a point. -/
def hasN (x : Bk) (p : Int) : Nat := eq01 x.a p + eq01 x.b p + eq01 x.c p
theorem hasN_eq {v : Int} {x : Bk} (hx : good v x = true) (p : Int) : hasN x p = if x.has p then 1 else 0 := by
  rw [good_iff] at hx
  simp only [hasN, eq01, Bk.has_iff]
  split <;> split <;> split <;> split <;> omega
theorem common_eq (x y : Bk) : common x y = hasN x y.a + hasN x y.b + hasN x y.c := by
  simp only [common, hasN]; omega
theorem common_le_one {v w : Int} {x y : Bk} (hx : good v x = true) :
    common x y ≤ 1 ↔ ¬ (x.has y.a = true ∧ x.has y.b = true) ∧ ¬ (x.has y.a = true ∧ x.has y.c = true) ∧ ¬ (x.has y.b = true ∧ x.has y.c = true) := by
  rw [common_eq, hasN_eq hx, hasN_eq hx, hasN_eq hx]
  cases x.has y.a <;> cases x.has y.b <;> cases x.has y.c <;> simp

theorem common_comm (x y : Bk) : common x y = common y x := by
  have : ∀ a b : Int, eq01 a b = eq01 b a := by intro a b; simp only [eq01]; split <;> split <;> omega
  simp only [common, this y.a, this y.b, this y.c]
  omega

/-- A block can be put in: its three pairs are left. -/
def leftB (bs : List Bk) (b : Bk) : Bool := decide (third bs b.a b.b = -1) && (decide (third bs b.a b.c = -1) && decide (third bs b.b b.c = -1))
theorem leftB_iff {v w : Int} {bs : List Bk} (hg : ∀ x ∈ bs, good v x = true) {b : Bk} (hb : good w b = true) : leftB bs b = true ↔ ∀ x ∈ bs, common x b ≤ 1 := by
  have hb' := good_iff.1 hb
  simp only [leftB, Bool.and_eq_true, decide_eq_true_eq]
  rw [third_neg hg (by omega), third_neg hg (by omega), third_neg hg (by omega)]
  constructor
  · intro h x hx
    exact (common_le_one (w := w) (hg x hx)).2 ⟨h.1 x hx, h.2.1 x hx, h.2.2 x hx⟩
  · intro h
    refine ⟨fun x hx => ?_, fun x hx => ?_, fun x hx => ?_⟩
    · exact ((common_le_one (w := w) (hg x hx)).1 (h x hx)).1
    · exact ((common_le_one (w := w) (hg x hx)).1 (h x hx)).2.1
    · exact ((common_le_one (w := w) (hg x hx)).1 (h x hx)).2.2

theorem fits_snoc {bs : List Bk} {b : Bk} : Fits (bs ++ [b]) ↔ Fits bs ∧ ∀ x ∈ bs, common x b ≤ 1 := by
  constructor
  · intro h
    refine ⟨fun i k x y hk hx hy => ?_, fun x hx => ?_⟩
    · have h1 := (List.getElem?_eq_some_iff.1 hx).1
      exact h i k x y hk (by rw [List.getElem?_append_left h1]; exact hx) (by rw [List.getElem?_append_left (by omega)]; exact hy)
    · obtain ⟨k, hk⟩ := List.mem_iff_getElem?.1 hx
      have h1 := (List.getElem?_eq_some_iff.1 hk).1
      have := h bs.length k b x h1 (by simp) (by rw [List.getElem?_append_left h1]; exact hk)
      rw [common_comm]; exact this
  · rintro ⟨h, hb⟩ i k x y hk hx hy
    have hi := (List.getElem?_eq_some_iff.1 hx).1
    simp only [List.length_append, List.length_singleton] at hi
    rw [List.getElem?_append_left (by omega)] at hy
    by_cases e : i < bs.length
    · rw [List.getElem?_append_left e] at hx
      exact h i k x y hk hx hy
    · have : i = bs.length := by omega
      subst this
      simp at hx; subst hx
      rw [common_comm]; exact hb y (List.mem_of_getElem? hy)

theorem fits_take {bs : List Bk} (h : Fits bs) (n : Nat) : Fits (bs.take n) := by
  intro i k x y hk hx hy
  rw [List.getElem?_take] at hx hy
  split at hx
  · split at hy
    · exact h i k x y hk hx hy
    · cases hy
  · cases hx

/-- The entry at two points. -/
def gAt (gs : List Int) (p q : Nat) : Int := gs.getD (p * 15 + q) 0
/-- A pair's entries, both ways. -/
def gSet (gs : List Int) (p q : Nat) (n : Int) : List Int := (gs.set (p * 15 + q) n).set (q * 15 + p) n

theorem gSet_length (gs : List Int) (p q : Nat) (n : Int) : (gSet gs p q n).length = gs.length := by simp [gSet]
theorem gAt_set {gs : List Int} (hl : gs.length = 225) {a b p q : Nat} (ha : a < 15) (hb : b < 15) (hp : p < 15) (hq : q < 15) (n : Int) :
    gAt (gSet gs a b n) p q = if (p = a ∧ q = b) ∨ (p = b ∧ q = a) then n else gAt gs p q := by
  simp only [gAt, gSet, List.getD_eq_getElem?_getD, List.getElem?_set, List.length_set]
  by_cases h1 : b * 15 + a = p * 15 + q
  · rw [if_pos h1, if_pos (by omega), if_pos (by omega)]; rfl
  · rw [if_neg h1]
    by_cases h2 : a * 15 + b = p * 15 + q
    · rw [if_pos h2, if_pos (by omega), if_pos (by omega)]; rfl
    · rw [if_neg h2, if_neg (by omega)]

/-- The grid of some blocks. -/
def GridOf (gs : List Int) (bs : List Bk) : Prop := gs.length = 225 ∧ ∀ p q : Nat, p < 15 → q < 15 → gAt gs p q = if p = q then -1 else third bs p q

theorem gridOf_nil : GridOf (List.replicate 225 (-1)) [] := by
  refine ⟨List.length_replicate, fun p q hp hq => ?_⟩
  simp only [gAt, List.getD_eq_getElem?_getD, List.getElem?_replicate, third, List.find?_nil]
  rw [if_pos (by omega)]
  split <;> rfl

theorem gridOf_snoc {gs : List Int} {bs : List Bk} (h : GridOf gs bs) (hg : ∀ x ∈ bs, good 15 x = true) {a b c : Nat} (hab : a < b) (hbc : b < c) (hc : c < 15) (hl : leftB bs ⟨a, b, c⟩ = true) :
    GridOf (gSet (gSet (gSet gs a b (c : Int)) b c (a : Int)) c a (b : Int)) (bs ++ [⟨a, b, c⟩]) := by
  obtain ⟨hl0, h⟩ := h
  simp only [leftB, Bool.and_eq_true, decide_eq_true_eq] at hl
  refine ⟨by simp [gSet_length, hl0], fun p q hp hq => ?_⟩
  rw [gAt_set (by simp [gSet_length, hl0]) hc (by omega) hp hq, gAt_set (by simp [gSet_length, hl0]) (by omega) hc hp hq, gAt_set hl0 (by omega) (by omega) hp hq, h p q hp hq]
  have hac := hl.2.1
  have hca : third bs (c : Int) (a : Int) = -1 := by rw [third_comm]; exact hac
  by_cases e : p = q
  · subst e
    rw [if_neg (by omega), if_neg (by omega), if_neg (by omega), if_pos rfl, if_pos rfl]
  · rw [if_neg e, if_neg e]
    by_cases h1 : (p = c ∧ q = a) ∨ (p = a ∧ q = c)
    · rw [if_pos h1, third_snoc_in hg (by omega) (by rw [Bk.has_iff]; simp only; omega) (by rw [Bk.has_iff]; simp only; omega)]
      · simp only; omega
      · rcases h1 with ⟨rfl, rfl⟩ | ⟨rfl, rfl⟩
        · exact hca
        · exact hac
    · rw [if_neg h1]
      by_cases h2 : (p = b ∧ q = c) ∨ (p = c ∧ q = b)
      · rw [if_pos h2, third_snoc_in hg (by omega) (by rw [Bk.has_iff]; simp only; omega) (by rw [Bk.has_iff]; simp only; omega)]
        · simp only; omega
        · rcases h2 with ⟨rfl, rfl⟩ | ⟨rfl, rfl⟩
          · exact hl.2.2
          · rw [third_comm]; exact hl.2.2
      · rw [if_neg h2]
        by_cases h3 : (p = a ∧ q = b) ∨ (p = b ∧ q = a)
        · rw [if_pos h3, third_snoc_in hg (by omega) (by rw [Bk.has_iff]; simp only; omega) (by rw [Bk.has_iff]; simp only; omega)]
          · simp only; omega
          · rcases h3 with ⟨rfl, rfl⟩ | ⟨rfl, rfl⟩
            · exact hl.1
            · rw [third_comm]; exact hl.1
        · rw [if_neg h3, third_snoc_out]
          rw [Bk.has_iff, Bk.has_iff]; simp only; omega

theorem gridOf_left {gs : List Int} {bs : List Bk} (h : GridOf gs bs) {a b c : Nat} (hab : a < b) (hbc : b < c) (hc : c < 15) :
    (decide (gAt gs a b = -1) && (decide (gAt gs a c = -1) && decide (gAt gs b c = -1))) = leftB bs ⟨a, b, c⟩ := by
  rw [h.2 a b (by omega) (by omega), h.2 a c (by omega) (by omega), h.2 b c (by omega) (by omega), if_neg (by omega), if_neg (by omega), if_neg (by omega)]
  rfl

end Go.Ab
end

section
/- The grid of third points: what the program's functions on it compute. -/
set_option linter.all false
set_option maxRecDepth 20000
namespace Go.Proofs.Ytdfeoccjllljiaa
open Go.Ab

/-- The grid behind an id. -/
def GridAt (H : Heap) (id : Nat) (gs : List Int) : Prop := H[id]? = some ⟨ints gs, true, true⟩ ∧ gs.length = 225

theorem GridAt.load {H : Heap} {id : Nat} {gs : List Int} (h : GridAt H id gs) {k : Nat} (hk : k < 225) : cellsAt H id k 1 = some [.int .i64 (gs.getD k 0)] := by
  refine Holds.cell ⟨true, h.1⟩ ?_
  have := h.2
  rw [ints_get, List.getD_eq_getElem?_getD, List.getElem?_eq_getElem (by omega)]
  rfl

theorem GridAt.store {H : Heap} {id : Nat} {gs : List Int} (h : GridAt H id gs) {k : Nat} (hk : k < 225) (n : Int) :
    storeAt H id k [.int .i64 n] = some (H.set id ⟨ints (gs.set k n), true, true⟩) ∧ GridAt (H.set id ⟨ints (gs.set k n), true, true⟩) id (gs.set k n) := by
  have hl := h.2
  refine ⟨?_, by rw [List.getElem?_set_self (List.getElem?_eq_some_iff.1 h.1).1], by simpa using hl⟩
  rw [storeAt_of h.1 rfl rfl (by simp only [ints_length, List.length_singleton]; omega) (by simp [Value.oneCell']), over_one (by simp only [ints_length]; omega), ints_set]

theorem newGrid_ok {H : Heap} (Post : Value → Heap → Prop) (h : ∀ H' id, H <+: H' → H.length ≤ id → GridAt H' id (List.replicate 225 (-1)) → Post (.pointer (some ⟨id, 0, none⟩)) H') :
    ACalls Try.prog 163 [] H Post := by
  refine acalls_vc (rs := [.tmp 0]) Try.func163 rfl rfl Try.ntmps163 rfl rfl ?_
  simp (maxSteps := 1000000) [go_sem, -List.reduceReplicate]
  have hz : List.replicate 225 (Value.int .i64 0) = ints (List.replicate 225 0) := by simp only [ints, List.map_replicate]
  rw [hz]
  have hg0 : GridAt (H ++ [⟨ints (List.replicate 225 0), true, true⟩]) H.length (List.replicate 225 0) := ⟨by simp only [List.getElem?_concat_length], List.length_replicate⟩
  have hp0 : H <+: H ++ [⟨ints (List.replicate 225 0), true, true⟩] := List.prefix_append _ _
  generalize H ++ [⟨ints (List.replicate 225 0), true, true⟩] = H1 at hg0 hp0 ⊢
  have hset : ∀ m, m < 225 → (List.replicate m (-1 : Int) ++ List.replicate (225 - m) 0).set m (-1) = List.replicate (m + 1) (-1) ++ List.replicate (225 - (m + 1)) 0 := by
    intro m hm
    rw [List.set_append_right _ _ (by rw [List.length_replicate]; exact Nat.le_refl _), List.length_replicate, Nat.sub_self, show 225 - m = (225 - (m + 1)) + 1 by omega, List.replicate_succ, List.set_cons_zero, ← List.replicate_append_replicate, List.append_assoc]
    rfl
  have keep : ∀ {H' : Heap} {b : Blk}, H <+: H' → H <+: H'.set H.length b := fun hp =>
    (show Same (fun j => j = H.length) H _ from (Same.of_prefix hp).trans Same.set).prefix (by omega)
  refine AWp.loopVc (fun s : Nat => [(1, .pointer (some ⟨H.length, 0, none⟩)), (4, .int .i64 s)])
    (fun s H' => s ≤ 15 ∧ H <+: H' ∧ GridAt H' H.length (List.replicate (s * 15) (-1) ++ List.replicate (225 - s * 15) 0)) (fun s => 15 - s) 0 ?_ ?_ ?_
  · simp [upF, Fr.get, Up.refl]
  · exact ⟨by omega, hp0, by simpa only [Nat.zero_mul, List.replicate_zero, List.nil_append, Nat.sub_zero] using hg0⟩
  · rintro K s H' ⟨hs, hp, hg⟩ hK
    by_cases hlt : s < 15
    · have hlt' : (s : Int) < 15 := by omega
      simp (maxSteps := 1000000) [go_sem, hlt, hlt']
      refine AWp.loopVc (fun t : Nat => [(1, .pointer (some ⟨H.length, 0, none⟩)), (2, .int .i64 s), (4, .int .i64 s), (7, .int .i64 t)])
        (fun t H2 => t ≤ 15 ∧ H <+: H2 ∧ GridAt H2 H.length (List.replicate (s * 15 + t) (-1) ++ List.replicate (225 - (s * 15 + t)) 0)) (fun t => 15 - t) 0 ?_ ?_ ?_
      · simp [upF, Fr.get, Up.refl]
      · exact ⟨by omega, hp, by simpa only [Nat.add_zero] using hg⟩
      · rintro K2 t H2 ⟨ht, hp2, hg2⟩ hK2
        by_cases htl : t < 15
        · have htl' : (t : Int) < 15 := by omega
          have hw : IntKind.i64.wrap ((t : Int) + 1) = (t : Int) + 1 := i64w (by omega) (by omega)
          obtain ⟨hst, hg3⟩ := hg2.store (k := s * 15 + t) (by omega) (-1)
          rw [hset _ (by omega)] at hst hg3
          rw [show 225 - (s * 15 + t + 1) = 224 - (s * 15 + t) by omega] at hst hg3
          simp (maxSteps := 1000000) [go_sem, hlt, hlt', htl, htl', hw, Value.oneCell', hst, -List.reduceReplicate]
          exact hK2 (t + 1) _ _ (by omega) (by simp [upF, Fr.get, Up.refl]) ⟨by omega, keep hp2, by rw [show 225 - (s * 15 + (t + 1)) = 224 - (s * 15 + t) by omega]; exact hg3⟩
        · have : t = 15 := by omega
          subst this
          have hw : IntKind.i64.wrap ((s : Int) + 1) = (s : Int) + 1 := i64w (by omega) (by omega)
          simp (maxSteps := 1000000) [go_sem, hw]
          refine hK (s + 1) _ _ (by omega) (by simp [upF, Fr.get, Up.refl]) ⟨by omega, hp2, ?_⟩
          rw [Nat.add_mul, Nat.one_mul]; exact hg2
    · have : s = 15 := by omega
      subst this
      simp (maxSteps := 1000000) [go_sem]
      exact h H' H.length hp (Nat.le_refl _) (by simpa using hg)

theorem isLeft_ok {H : Heap} {id : Nat} {gs : List Int} (hg : GridAt H id gs) {a b c : Nat} (ha : a < 15) (hb : b < 15) (hc : c < 15) (Post : Value → Heap → Prop)
    (h : ∀ H', H <+: H' → Post (.bool (decide (gAt gs a b = -1) && (decide (gAt gs a c = -1) && decide (gAt gs b c = -1)))) H') :
    ACalls Try.prog 164 [.pointer (some ⟨id, 0, none⟩), (Bk.mk a b c).val] H Post := by
  refine acalls_vc (rs := [.tmp 4]) Try.func164 rfl rfl Try.ntmps164 rfl rfl ?_
  simp (maxSteps := 1000000) [go_sem, Bk.val, Value.oneCell']
  refine AWp.draw mixed [(0, false), (1, false), (2, false), (3, false), (4, false), (5, false), (6, false), (7, false), (8, false), (9, false), (10, false), (11, false), (12, false), (13, false), (14, false), (15, false), (16, false), (17, false), (18, false), (19, false), (20, false), (21, false), (22, false), (23, false), (24, false), (25, false), (26, false), (27, false), (28, false), (29, false), (30, false), (31, false), (32, false), (33, false), (34, false)] (by kernel_rfl) ?_
  have keep : GridAt (H ++ [⟨[.int .i64 a, .int .i64 b, .int .i64 c], true, true⟩]) id gs := ⟨Same.get (S := fun _ => False) (Same.of_prefix (List.prefix_append _ _)) hg.1 (fun h => h), hg.2⟩
  have h := h _ (List.prefix_append H [⟨[.int .i64 a, .int .i64 b, .int .i64 c], true, true⟩])
  have c1 : cellsAt _ id (a * 15 + b) 1 = some [.int .i64 (gAt gs a b)] := keep.load (by omega)
  have c2 : cellsAt _ id (a * 15 + c) 1 = some [.int .i64 (gAt gs a c)] := keep.load (by omega)
  have c3 : cellsAt _ id (b * 15 + c) 1 = some [.int .i64 (gAt gs b c)] := keep.load (by omega)
  generalize gAt gs a b = x at c1 h
  generalize gAt gs a c = y at c2 h
  generalize gAt gs b c = z at c3 h
  have ha' : (a : Int) < 15 := by omega
  have hb' : (b : Int) < 15 := by omega
  have hc' : (c : Int) < 15 := by omega
  by_cases hx : x = -1
  · by_cases hy : y = -1
    · by_cases hz : z = -1
      · simp (maxSteps := 1000000) [go_sem, ha, hb, hc, ha', hb', hc', c1, c2, c3, hx, hy, hz]
        simpa [hx, hy, hz] using h
      · have hz' : (z == -1) = false := by simpa using hz
        simp (maxSteps := 1000000) [go_sem, ha, hb, hc, ha', hb', hc', c1, c2, c3, hx, hy, hz']
        simpa [hx, hy, hz] using h
    · have hy' : (y == -1) = false := by simpa using hy
      simp (maxSteps := 1000000) [go_sem, ha, hb, hc, ha', hb', hc', c1, c2, c3, hx, hy']
      simpa [hx, hy] using h
  · have hx' : (x == -1) = false := by simpa using hx
    simp (maxSteps := 1000000) [go_sem, ha, hb, hc, ha', hb', hc', c1, c2, c3, hx']
    simpa [hx] using h

/-- The first s pairs of a block. -/
def gPut (is : Bool) (a b c : Nat) : Nat → List Int → List Int
  | 0, gs => gs
  | 1, gs => gSet gs a b (if is then (c : Int) else -1)
  | 2, gs => gSet (gSet gs a b (if is then (c : Int) else -1)) b c (if is then (a : Int) else -1)
  | _, gs => gSet (gSet (gSet gs a b (if is then (c : Int) else -1)) b c (if is then (a : Int) else -1)) c a (if is then (b : Int) else -1)

theorem put_ok {H : Heap} {id : Nat} {gs : List Int} {is : Bool} (hg : GridAt H id gs) {a b c : Nat} (ha : a < 15) (hb : b < 15) (hc : c < 15) (Post : Value → Heap → Prop)
    (h : ∀ H', Same (fun j => j = id) H H' → GridAt H' id (gPut is a b c 3 gs) → Post (.tuple #[]) H') :
    ACalls Try.prog 165 [.pointer (some ⟨id, 0, none⟩), (Bk.mk a b c).val, .bool is] H Post := by
  refine acalls_vc (rs := []) Try.func165 rfl rfl Try.ntmps165 rfl rfl ?_
  simp (maxSteps := 1000000) [go_sem, Bk.val, Value.oneCell']
  have hid : id < H.length := (List.getElem?_eq_some_iff.1 hg.1).1
  have ha' : (a : Int) < 15 := by omega
  have hb' : (b : Int) < 15 := by omega
  have hc' : (c : Int) < 15 := by omega
  refine AWp.loopVc (fun s : Nat => [(0, .pointer (some ⟨id, 0, none⟩)), (2, .bool is), (4, .pointer (some ⟨H.length, 0, none⟩)), (10, .agg #[.int .i64 a, .int .i64 b, .int .i64 c]), (11, .int .i64 s)])
    (fun s H' => s ≤ 3 ∧ Same (fun j => j = id) H H' ∧ H'[H.length]? = some ⟨[.int .i64 a, .int .i64 b, .int .i64 c], true, true⟩ ∧ GridAt H' id (gPut is a b c s gs)) (fun s => 3 - s) 0 ?_ ?_ ?_
  · simp [upF, Fr.get, Up.refl]
  · exact ⟨by omega, Same.of_prefix (List.prefix_append _ _), by simp, ⟨Same.get (S := fun _ => False) (Same.of_prefix (List.prefix_append _ _)) hg.1 (fun h => h), hg.2⟩⟩
  · rintro K s H' ⟨hs, hsame, hbox, hg⟩ hK
    have : s = 0 ∨ s = 1 ∨ s = 2 ∨ s = 3 := by omega
    rcases this with rfl | rfl | rfl | rfl
    · have hw : IntKind.i64.wrap 1 = 1 := i64w (by omega) (by omega)
      have hm1 : (IntKind.i64.wrap 1).tmod 3 = 1 := by rw [i64w (by omega) (by omega)]; rfl
      have hm2 : (IntKind.i64.wrap 2).tmod 3 = 2 := by rw [i64w (by omega) (by omega)]; rfl
      have hm1' : (1 : Int).tmod 3 = 1 := rfl
      have hm2' : (2 : Int).tmod 3 = 2 := rfl
      obtain ⟨st1, g1⟩ := hg.store (k := a * 15 + b) (by omega) (if is then (c : Int) else -1)
      obtain ⟨st2, g2⟩ := g1.store (k := b * 15 + a) (by omega) (if is then (c : Int) else -1)
      simp only [List.set_set] at st2 g2
      have l0 : cellsAt H' H.length 1 1 = some [.int .i64 b] := Holds.cell ⟨true, hbox⟩ rfl
      have l1 : cellsAt H' H.length 2 1 = some [.int .i64 c] := Holds.cell ⟨true, hbox⟩ rfl
      have fin : ∀ fr', upF _ [(0, .pointer (some ⟨id, 0, none⟩)), (2, .bool is), (4, .pointer (some ⟨H.length, 0, none⟩)), (10, .agg #[.int .i64 a, .int .i64 b, .int .i64 c]), (11, .int .i64 1)] fr' → K fr' _ := fun fr' hf =>
        hK 1 fr' _ (by omega) hf ⟨by omega, hsame.trans Same.set, by rw [List.getElem?_set_ne (by omega)]; exact hbox, g2⟩
      simp (maxSteps := 1000000) [go_sem, hw, partV]
      refine AWp.draw mixed [(0, false), (1, false), (2, false), (3, false), (4, false), (5, false), (6, false), (7, false), (8, false), (9, false), (10, false), (11, false)] (by kernel_rfl) ?_
      simp (maxSteps := 1000000) [go_sem, hw, hm1, hm2, hm1', hm2', l0, l1]
      refine condK_intro (fun his => ?_) (fun his => ?_)
      · obtain rfl : is = false := by simpa using his
        simp only [Bool.false_eq_true, if_false] at st1 st2 fin
        refine AWp.draw mixed [(0, false), (1, false), (2, false), (3, false), (4, false), (5, false), (6, false), (7, false), (8, false), (10, false), (11, false), (9, false), (12, false), (13, false)] (by kernel_rfl) ?_
        simp (maxSteps := 1000000) [go_sem, hw, hm1, hm2, hm1', hm2', l0, l1, st1, st2, ha', hb', hc', Value.oneCell']
        exact fin _ (by simp [upF, Fr.get, Up.refl])
      · obtain rfl : is = true := by simpa using his
        simp only [if_true] at st1 st2 fin
        refine AWp.draw mixed [(0, false), (1, false), (2, false), (3, false), (4, false), (5, false), (6, false), (7, false), (8, false), (9, false), (10, false), (12, false), (13, false), (11, false), (14, false), (15, false)] (by kernel_rfl) ?_
        simp (maxSteps := 1000000) [go_sem, hw, hm1, hm2, hm1', hm2', l0, l1, st1, st2, ha', hb', hc', Value.oneCell']
        exact fin _ (by simp [upF, Fr.get, Up.refl])
    · have hw : IntKind.i64.wrap 2 = 2 := i64w (by omega) (by omega)
      have hm1 : (IntKind.i64.wrap 2).tmod 3 = 2 := by rw [i64w (by omega) (by omega)]; rfl
      have hm2 : (IntKind.i64.wrap 3).tmod 3 = 0 := by rw [i64w (by omega) (by omega)]; rfl
      have hm1' : (2 : Int).tmod 3 = 2 := rfl
      have hm2' : (3 : Int).tmod 3 = 0 := rfl
      obtain ⟨st1, g1⟩ := hg.store (k := b * 15 + c) (by omega) (if is then (a : Int) else -1)
      obtain ⟨st2, g2⟩ := g1.store (k := c * 15 + b) (by omega) (if is then (a : Int) else -1)
      simp only [List.set_set] at st2 g2
      have l0 : cellsAt H' H.length 2 1 = some [.int .i64 c] := Holds.cell ⟨true, hbox⟩ rfl
      have l1 : cellsAt H' H.length 0 1 = some [.int .i64 a] := Holds.cell ⟨true, hbox⟩ rfl
      have fin : ∀ fr', upF _ [(0, .pointer (some ⟨id, 0, none⟩)), (2, .bool is), (4, .pointer (some ⟨H.length, 0, none⟩)), (10, .agg #[.int .i64 a, .int .i64 b, .int .i64 c]), (11, .int .i64 2)] fr' → K fr' _ := fun fr' hf =>
        hK 2 fr' _ (by omega) hf ⟨by omega, hsame.trans Same.set, by rw [List.getElem?_set_ne (by omega)]; exact hbox, g2⟩
      simp (maxSteps := 1000000) [go_sem, hw, partV]
      refine AWp.draw mixed [(0, false), (1, false), (2, false), (3, false), (4, false), (5, false), (6, false), (7, false), (8, false), (9, false), (10, false), (11, false)] (by kernel_rfl) ?_
      simp (maxSteps := 1000000) [go_sem, hw, hm1, hm2, hm1', hm2', l0, l1]
      refine condK_intro (fun his => ?_) (fun his => ?_)
      · obtain rfl : is = false := by simpa using his
        simp only [Bool.false_eq_true, if_false] at st1 st2 fin
        refine AWp.draw mixed [(0, false), (1, false), (2, false), (3, false), (4, false), (5, false), (6, false), (7, false), (8, false), (10, false), (11, false), (9, false), (12, false), (13, false)] (by kernel_rfl) ?_
        simp (maxSteps := 1000000) [go_sem, hw, hm1, hm2, hm1', hm2', l0, l1, st1, st2, ha', hb', hc', Value.oneCell']
        exact fin _ (by simp [upF, Fr.get, Up.refl])
      · obtain rfl : is = true := by simpa using his
        simp only [if_true] at st1 st2 fin
        refine AWp.draw mixed [(0, false), (1, false), (2, false), (3, false), (4, false), (5, false), (6, false), (7, false), (8, false), (9, false), (10, false), (12, false), (13, false), (11, false), (14, false), (15, false)] (by kernel_rfl) ?_
        simp (maxSteps := 1000000) [go_sem, hw, hm1, hm2, hm1', hm2', l0, l1, st1, st2, ha', hb', hc', Value.oneCell']
        exact fin _ (by simp [upF, Fr.get, Up.refl])
    · have hw : IntKind.i64.wrap 3 = 3 := i64w (by omega) (by omega)
      have hm1 : (IntKind.i64.wrap 3).tmod 3 = 0 := by rw [i64w (by omega) (by omega)]; rfl
      have hm2 : (IntKind.i64.wrap 4).tmod 3 = 1 := by rw [i64w (by omega) (by omega)]; rfl
      have hm1' : (3 : Int).tmod 3 = 0 := rfl
      have hm2' : (4 : Int).tmod 3 = 1 := rfl
      obtain ⟨st1, g1⟩ := hg.store (k := c * 15 + a) (by omega) (if is then (b : Int) else -1)
      obtain ⟨st2, g2⟩ := g1.store (k := a * 15 + c) (by omega) (if is then (b : Int) else -1)
      simp only [List.set_set] at st2 g2
      have l0 : cellsAt H' H.length 0 1 = some [.int .i64 a] := Holds.cell ⟨true, hbox⟩ rfl
      have l1 : cellsAt H' H.length 1 1 = some [.int .i64 b] := Holds.cell ⟨true, hbox⟩ rfl
      have fin : ∀ fr', upF _ [(0, .pointer (some ⟨id, 0, none⟩)), (2, .bool is), (4, .pointer (some ⟨H.length, 0, none⟩)), (10, .agg #[.int .i64 a, .int .i64 b, .int .i64 c]), (11, .int .i64 3)] fr' → K fr' _ := fun fr' hf =>
        hK 3 fr' _ (by omega) hf ⟨by omega, hsame.trans Same.set, by rw [List.getElem?_set_ne (by omega)]; exact hbox, g2⟩
      simp (maxSteps := 1000000) [go_sem, hw, partV]
      refine AWp.draw mixed [(0, false), (1, false), (2, false), (3, false), (4, false), (5, false), (6, false), (7, false), (8, false), (9, false), (10, false), (11, false)] (by kernel_rfl) ?_
      simp (maxSteps := 1000000) [go_sem, hw, hm1, hm2, hm1', hm2', l0, l1]
      refine condK_intro (fun his => ?_) (fun his => ?_)
      · obtain rfl : is = false := by simpa using his
        simp only [Bool.false_eq_true, if_false] at st1 st2 fin
        refine AWp.draw mixed [(0, false), (1, false), (2, false), (3, false), (4, false), (5, false), (6, false), (7, false), (8, false), (10, false), (11, false), (9, false), (12, false), (13, false)] (by kernel_rfl) ?_
        simp (maxSteps := 1000000) [go_sem, hw, hm1, hm2, hm1', hm2', l0, l1, st1, st2, ha', hb', hc', Value.oneCell']
        exact fin _ (by simp [upF, Fr.get, Up.refl])
      · obtain rfl : is = true := by simpa using his
        simp only [if_true] at st1 st2 fin
        refine AWp.draw mixed [(0, false), (1, false), (2, false), (3, false), (4, false), (5, false), (6, false), (7, false), (8, false), (9, false), (10, false), (12, false), (13, false), (11, false), (14, false), (15, false)] (by kernel_rfl) ?_
        simp (maxSteps := 1000000) [go_sem, hw, hm1, hm2, hm1', hm2', l0, l1, st1, st2, ha', hb', hc', Value.oneCell']
        exact fin _ (by simp [upF, Fr.get, Up.refl])
    · simp (maxSteps := 1000000) [go_sem]
      exact h H' hsame hg

end Go.Proofs.Ytdfeoccjllljiaa
end
