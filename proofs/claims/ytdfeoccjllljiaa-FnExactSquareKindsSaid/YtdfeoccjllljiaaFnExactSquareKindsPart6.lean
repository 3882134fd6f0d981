/- Part 6 of what the proof of the law FnExactSquareKinds rests on: contracts of functions of the program, for every argument that each names; no statement of the seat is proved here. -/
import Derived.Test.YtdfeoccjllljiaaFnExactSquareKindsPart5

section
/- Sorting by a function: pdqsort. -/
set_option linter.all false
set_option maxRecDepth 20000
set_option maxHeartbeats 8000000
namespace Go.Proofs.Ytdfeoccjllljiaa
open Go.Ab Go.Sort

theorem pdqO_ok {lt : Int → Int → Bool} {Q : Int → Prop} {n : Nat} (hS : SWO lt) (hl : n ≤ 1048576) : ∀ (N : Nat) {H : Heap} {id a b limit : Nat} {d : Array Int}, b - a ≤ N → Arr cellsI H id d → d.size = n → a ≤ b → b ≤ n → limit ≤ 64 → Below lt a b d → QA Q d →
    CmpO lt Q id H → ∀ (Post : Value → Heap → Prop), (∀ H' d', Same (fun k => k = id) H H' → Arr cellsI H' id d' → PermIn a b d d' → SortedIn lt a b d' → Post (.tuple #[]) H') →
    ACalls Try.prog 183 [lv 1 id 0 n, .int .i64 a, .int .i64 b, .int .i64 limit] H Post := by
  intro N
  induction N using Nat.strongRecOn with
  | _ N ih =>
  intro H id a b limit d hN hA hn hab hb hlim hBel hQ hC Post h
  refine acalls_vc (rs := []) Try.func183 rfl rfl Try.ntmps183 rfl rfl ?_
  simp (maxSteps := 1000000) [go_sem]
  refine AWp.loopA (St := Nat × Nat × Nat × Bool × Bool × Array Int) (fun s => [(0, lv 1 id 0 n), (1, .int .i64 s.1), (2, .int .i64 s.2.1), (3, .int .i64 s.2.2.1), (8, .bool s.2.2.2.1), (9, .bool s.2.2.2.2.1)])
    (fun s H' => a ≤ s.1 ∧ s.1 ≤ s.2.1 ∧ s.2.1 ≤ b ∧ s.2.2.1 ≤ 64 ∧ s.2.2.2.2.2.size = n ∧ QA Q s.2.2.2.2.2 ∧ Same (fun k => k = id) H H' ∧ Arr cellsI H' id s.2.2.2.2.2 ∧ Below lt s.1 s.2.1 s.2.2.2.2.2 ∧
      ∀ R, PermIn s.1 s.2.1 s.2.2.2.2.2 R → SortedIn lt s.1 s.2.1 R → PermIn a b d R ∧ SortedIn lt a b R) (fun s => s.2.1 - s.1) (a, b, limit, true, true, d) ?_ ?_ ?_
  · simp [upF, Fr.get, Up.refl]
  · exact ⟨Nat.le_refl _, hab, Nat.le_refl _, hlim, hn, hQ, Same.refl _ _, hA, hBel, fun R h1 h2 => ⟨h1, h2⟩⟩
  · rintro K ⟨a1, b1, li, wb, wp, d1⟩ H1 ⟨haa, hab1, hbb, hli, hsz, hQ1, hS1, hA1, hB1, hfin⟩ hK
    simp only at haa hab1 hbb hli hsz hQ1 hS1 hA1 hB1 hfin
    obtain ⟨l, hll⟩ : ∃ l, l = b1 - a1 := ⟨_, rfl⟩
    have w0 : IntKind.i64.wrap ((b1 : Int) - a1) = (l : Int) := by rw [hll, i64w (by omega) (by omega)]; omega
    refine AWp.block ?_
    -- the length
    refine AWp.ofVc ?_
    simp (maxSteps := 1000000) [go_sem, w0]
    by_cases h12 : l ≤ 12
    · have h12' : (l : Int) ≤ 12 := by omega
      refine AWp.ofVc ?_
      simp (maxSteps := 1000000) [go_sem, h12, h12']
      refine insO_ok hA1 hsz hl (by omega) (by omega) hQ1 (hC.keep hS1) _ ?_
      intro H2 hS2 hA2
      obtain ⟨f1, f2⟩ := insertionSort_holds hS d1 a1 b1 (by omega) (by omega)
      obtain ⟨f3, f4⟩ := hfin _ f1 f2
      have fin := h H2 _ (hS1.trans hS2) hA2 f3 f4
      simp (maxSteps := 1000000) [go_sem]
      exact fin
    have h12' : ¬ ((l : Int) ≤ 12) := by omega
    refine AWp.ofVc ?_
    simp (maxSteps := 1000000) [go_sem, h12, h12']
    by_cases hl0 : li = 0
    · subst hl0
      refine AWp.ofVc ?_
      simp (maxSteps := 1000000) [go_sem]
      refine heapO_ok hA1 hsz hl (by omega) (by omega) hQ1 (hC.keep hS1) _ ?_
      intro H2 hS2 hA2
      obtain ⟨f1, f2⟩ := heapSort_holds hS d1 a1 b1 (by omega) (by omega)
      obtain ⟨f3, f4⟩ := hfin _ f1 f2
      have fin := h H2 _ (hS1.trans hS2) hA2 f3 f4
      simp (maxSteps := 1000000) [go_sem]
      exact fin
    have hl0' : ((li : Int) == 0) = false := by rw [beq_eq_false_iff_ne]; omega
    refine AWp.ofVc ?_
    simp (maxSteps := 1000000) [go_sem, hl0, hl0']
    -- the patterns
    refine AWp.seqCut (St := Nat × Array Int) (fun s => [(0, lv 1 id 0 n), (1, .int .i64 a1), (2, .int .i64 b1), (3, .int .i64 s.1), (8, .bool wb), (9, .bool wp), (10, .int .i64 l)])
      (fun s H' => s.1 ≤ 64 ∧ QA Q s.2 ∧ Same (fun k => k = id) H H' ∧ Arr cellsI H' id s.2 ∧ PermIn a1 b1 d1 s.2) ?_ ?_
    · intro KE hKE
      cases wb with
      | true =>
        simp (maxSteps := 1000000) [go_sem]
        exact hKE (li, d1) _ _ (by simp [upF, Fr.get, Up.refl]) ⟨hli, hQ1, hS1, hA1, permIn_refl _ _ _⟩
      | false =>
        obtain ⟨lj, hlj⟩ : ∃ lj, lj = li - 1 := ⟨_, rfl⟩
        have wl : IntKind.i64.wrap ((li : Int) - 1) = (lj : Int) := by rw [hlj, i64w (by omega) (by omega)]; omega
        simp (maxSteps := 1000000) [go_sem]
        refine breakO_ok hA1 hsz hl (by omega) (by omega) hQ1 _ ?_
        intro H2 d2 hS2 hA2 hQ2 hP2
        simp (maxSteps := 1000000) [go_sem, wl]
        exact hKE (lj, d2) _ _ (by simp [upF, Fr.get, Up.refl]) ⟨by simp only; omega, hQ2, hS1.trans hS2, hA2, hP2⟩
    rintro ⟨lj, d2⟩ H2 ⟨hlj, hQ2, hS2, hA2, hP2⟩
    simp only at hlj hQ2 hS2 hA2 hP2 ⊢
    have hsz2 : d2.size = n := by rw [hP2.1]; exact hsz
    -- the pivot
    refine AWp.ofVc ?_
    simp (maxSteps := 1000000) [go_sem]
    refine pivotO_ok hA2 hsz2 hl (by omega) (by omega) hQ2 (hC.keep hS2) _ ?_
    intro H3 p t hp3 hpr
    have hS3 := hS2.via (Same.of_prefix (S := fun _ => False) hp3) (fun _ _ h => h.elim)
    have hA3 := hA2.pre hp3
    simp (maxSteps := 1000000) [go_sem]
    refine AWp.seqCut (St := Nat × Int × Array Int) (fun s => [(0, lv 1 id 0 n), (1, .int .i64 a1), (2, .int .i64 b1), (3, .int .i64 lj), (8, .bool wb), (9, .bool wp), (10, .int .i64 l), (11, .int .i64 s.1), (12, .int .i64 s.2.1)])
      (fun s H' => a1 ≤ s.1 ∧ s.1 < b1 ∧ QA Q s.2.2 ∧ Same (fun k => k = id) H H' ∧ Arr cellsI H' id s.2.2 ∧ PermIn a1 b1 d2 s.2.2) ?_ ?_
    · intro KE hKE
      by_cases ht : t = 2
      · subst ht
        obtain ⟨p2, hp2⟩ : ∃ p2, p2 = b1 - 1 - (p - a1) := ⟨_, rfl⟩
        have w1 : IntKind.i64.wrap ((b1 : Int) - 1) = (b1 : Int) - 1 := i64w (by omega) (by omega)
        have w2 : IntKind.i64.wrap ((p : Int) - a1) = (p : Int) - a1 := i64w (by omega) (by omega)
        have w3 : IntKind.i64.wrap ((b1 : Int) - 1 - ((p : Int) - a1)) = (p2 : Int) := by rw [hp2, i64w (by omega) (by omega)]; omega
        simp (maxSteps := 1000000) [go_sem]
        refine reverseO_ok hA3 hsz2 hl (by omega) (by omega) _ ?_
        intro H4 hS4 hA4
        have hP4 := reverseRange_holds d2 a1 b1 (by omega) (by omega)
        simp (maxSteps := 1000000) [go_sem, w1, w2, w3]
        exact hKE (p2, 1, reverseRange d2 a1 b1) _ _ (by simp [upF, Fr.get, Up.refl]) ⟨by simp only; omega, by simp only; omega, QA_perm (by omega) hP4 hQ2, hS3.trans hS4, hA4, hP4⟩
      · have ht' : (t == 2) = false := by rw [beq_eq_false_iff_ne]; exact ht
        simp (maxSteps := 1000000) [go_sem, ht, ht']
        exact hKE (p, t, d2) _ _ (by simp [upF, Fr.get, Up.refl]) ⟨hpr.1, hpr.2, hQ2, hS3, hA3, permIn_refl _ _ _⟩
    rintro ⟨q, u, d3⟩ H4 ⟨hq1, hq2, hQ3, hS4, hA4, hP3⟩
    simp only at hq1 hq2 hQ3 hS4 hA4 hP3 ⊢
    have hsz3 : d3.size = n := by rw [hP3.1]; exact hsz2
    have hP13 := permIn_trans _ _ _ _ _ hP2 hP3
    have hB3 : Below lt a1 b1 d3 := hB1.perm (by omega) hP13
    -- it may be sorted
    refine AWp.seqCut (St := Array Int) (fun _ => [(0, lv 1 id 0 n), (1, .int .i64 a1), (2, .int .i64 b1), (3, .int .i64 lj), (8, .bool wb), (9, .bool wp), (10, .int .i64 l), (11, .int .i64 q)])
      (fun d4 H' => QA Q d4 ∧ Same (fun k => k = id) H H' ∧ Arr cellsI H' id d4 ∧ PermIn a1 b1 d1 d4) ?_ ?_
    · intro KE hKE
      have skip := fun fr' hfr => hKE d3 fr' H4 hfr ⟨hQ3, hS4, hA4, hP13⟩
      cases wb with
      | false =>
        simp (maxSteps := 1000000) [go_sem, undef]
        exact skip _ (by simp [upF, Fr.get, Up.refl])
      | true =>
        cases wp with
        | false =>
          simp (maxSteps := 1000000) [go_sem, undef]
          exact skip _ (by simp [upF, Fr.get, Up.refl])
        | true =>
          by_cases hu : u = 1
          · subst hu
            simp (maxSteps := 1000000) [go_sem]
            refine partInsO_ok hA4 hsz3 hl (by omega) (by omega) hQ3 (hC.keep hS4) _ ?_
            intro H6 hS6 hA6
            obtain ⟨f1, f2⟩ := partialInsertionSort_holds hS d3 a1 b1 (by omega) (by omega) hB3
            generalize partialInsertionSort lt d3 a1 b1 = r at *
            obtain ⟨d4, ok⟩ := r
            simp only at hA6 f1 f2 ⊢
            have hP14 := permIn_trans _ _ _ _ _ hP13 f1
            cases ok with
            | true =>
              obtain ⟨f3, f4⟩ := hfin _ hP14 (f2 rfl)
              have fin := h H6 _ (hS4.trans hS6) hA6 f3 f4
              simp (maxSteps := 1000000) [go_sem]
              exact fin
            | false =>
              simp (maxSteps := 1000000) [go_sem]
              exact hKE d4 _ _ (by simp [upF, Fr.get, Up.refl]) ⟨QA_perm (by omega) f1 hQ3, hS4.trans hS6, hA6, hP14⟩
          · have hu' : (u == 1) = false := by rw [beq_eq_false_iff_ne]; exact hu
            simp (maxSteps := 1000000) [go_sem, hu, hu']
            exact skip _ (by simp [upF, Fr.get, Up.refl])
    rintro d4 H6 ⟨hQ4, hS6, hA6, hP4⟩
    clear hA4 hA3 hA2 hS2 hS3 hS4 hP2 hP3 hP13 hQ2 hQ3 hB3
    have hsz4 : d4.size = n := by rw [hP4.1]; exact hsz
    have hB4 : Below lt a1 b1 d4 := hB1.perm (by omega) hP4
    have hfin4 : ∀ R, PermIn a1 b1 d4 R → SortedIn lt a1 b1 R → PermIn a b d R ∧ SortedIn lt a b R := fun R r1 r2 => hfin R (permIn_trans _ _ _ _ _ hP4 r1) r2
    -- the element ahead
    refine AWp.seqCut (St := Unit) (fun _ => [(0, lv 1 id 0 n), (1, .int .i64 a1), (2, .int .i64 b1), (3, .int .i64 lj), (8, .bool wb), (9, .bool wp), (10, .int .i64 l), (11, .int .i64 q)])
      (fun _ H' => Same (fun k => k = id) H H' ∧ Arr cellsI H' id d4) ?_ ?_
    · intro KE hKE
      by_cases ha0 : a1 = 0
      · subst ha0
        simp (maxSteps := 1000000) [go_sem]
        refine AWp.draw mixed [(0, false), (1, false), (2, false), (3, false), (4, false), (5, false), (6, false), (7, false), (8, false), (9, false), (10, false), (11, false), (12, false), (13, false), (14, false)] (by kernel_rfl) ?_
        simp (maxSteps := 1000000) [go_sem, undef]
        exact hKE () _ _ (by simp [upF, Fr.get, Up.refl]) ⟨hS6, hA6⟩
      · obtain ⟨r, hr⟩ : ∃ r, a1 - 1 = r := ⟨_, rfl⟩
        have wr : IntKind.i64.wrap ((a1 : Int) - 1) = (r : Int) := by rw [← hr, i64w (by omega) (by omega)]; omega
        have ha0' : (0 : Int) < a1 := by omega
        have ha1' : 0 < a1 := by omega
        have hi1 : r < d4.size := by omega
        have hi0 : q < d4.size := by omega
        have n1 : r < n := by omega
        have n0 : q < n := by omega
        have c1 := hA6.load cellsI_len hi1
        have c0 := hA6.load cellsI_len hi0
        have q1 := hQ4 _ hi1
        have q0 := hQ4 _ hi0
        obtain ⟨x, hx⟩ : ∃ x, d4[r]! = x := ⟨_, rfl⟩
        obtain ⟨y, hy⟩ : ∃ y, d4[q]! = y := ⟨_, rfl⟩
        rw [hx] at c1 q1
        rw [hy] at c0 q0
        simp only [cellsI, Nat.mul_one, Row.val] at c1 c0
        simp (maxSteps := 1000000) [go_sem]
        refine AWp.draw mixed [(0, false), (1, false), (2, false), (3, false), (4, false), (5, false), (6, false), (7, false), (8, false), (9, false), (10, false), (11, false), (12, false), (13, false), (14, false)] (by kernel_rfl) ?_
        simp (maxSteps := 1000000) [go_sem, ha0, ha0', ha1', c1, c0, n1, n0, wr]
        refine hC H6 x y _ hS6 q1 q0 ?_
        intro H7 c hp7 hc
        have hS7 := hS6.via (Same.of_prefix (S := fun _ => False) hp7) (fun _ _ h => h.elim)
        have hA7 := hA6.pre hp7
        cases hl' : lt x y with
        | true =>
          rw [hl'] at hc
          have hc0 := hc
          simp (maxSteps := 1000000) [go_sem, hc, hc0]
          exact hKE () _ _ (by simp [upF, Fr.get, Up.refl]) ⟨hS7, hA7⟩
        | false =>
          rw [hl'] at hc
          have hc0 := hc
          have hnl : lt d4[a1 - 1]! d4[q]! = false := by rw [hr, hx, hy]; exact hl'
          simp (maxSteps := 1000000) [go_sem, hc, hc0]
          refine partEqO_ok hA7 hsz4 hl hq1 hq2 (by omega) hQ4 (hC.keep hS7) _ ?_
          intro H8 hS8 hA8
          obtain ⟨⟨mid, d5⟩, he⟩ : ∃ r, partitionEqual lt d4 a1 b1 q = r := ⟨_, rfl⟩
          rw [he] at hA8 ⊢
          have hA8 : Arr cellsI H8 id d5 := hA8
          obtain ⟨r1, r2, r3, r4, r5⟩ := round_eq hS (partitionEqual_holds lt) ha1' hq1 hq2 (by omega) hB4 hnl he
          have hP5 : PermIn a1 b1 d4 d5 := by
            have := (partitionEqual_holds lt hS d4 a1 b1 q hq1 hq2 (by omega) (fun i hi hi' => by
              rcases hB4 with h0 | hB
              · omega
              · exact hS.ntrans _ _ _ (hB i hi hi') hnl)).2.2.1
            rw [he] at this; exact this
          simp (maxSteps := 1000000) [go_sem]
          exact hK (mid, b1, lj, wb, wp, d5) _ _ (by simp only; omega) (by simp [upF, Fr.get, Up.refl]) ⟨by simp only; omega, r2, hbb, hlj, by simp only; omega, QA_perm (by omega) hP5 hQ4, hS7.trans hS8, hA8, r4, fun R R1 R2 => by obtain ⟨g1, g2⟩ := r5 R R1 R2; exact hfin4 R g1 g2⟩
    rintro _ H7 ⟨hS7, hA7⟩
    refine AWp.ofVc ?_
    simp (maxSteps := 1000000) [go_sem]
    refine partO_ok hA7 hsz4 hl hq1 hq2 (by omega) hQ4 (hC.keep hS7) _ ?_
    intro H8 hS8 hA8
    obtain ⟨⟨mid, ap, d5⟩, he⟩ : ∃ r, partition lt d4 a1 b1 q = r := ⟨_, rfl⟩
    rw [he] at hA8 ⊢
    have hA8 : Arr cellsI H8 id d5 := hA8
    obtain ⟨r1, r2, r3, r4, r5, r6, r7⟩ := round_part hS (partition_holds lt) hq1 hq2 (by omega) hB4 he
    have hP5 : PermIn a1 b1 d4 d5 := by
      have := (partition_holds lt hS d4 a1 b1 q hq1 hq2 (by omega)).2.2.1
      rw [he] at this; exact this
    have hQ5 := QA_perm (by omega) hP5 hQ4
    have hS8 := hS7.trans hS8
    obtain ⟨ll, hll2⟩ : ∃ ll, ll = mid - a1 := ⟨_, rfl⟩
    obtain ⟨lr, hlr⟩ : ∃ lr, lr = b1 - mid := ⟨_, rfl⟩
    obtain ⟨m1, hm1⟩ : ∃ m1, m1 = mid + 1 := ⟨_, rfl⟩
    have w1 : IntKind.i64.wrap ((mid : Int) - a1) = (ll : Int) := by rw [hll2, i64w (by omega) (by omega)]; omega
    have w2 : IntKind.i64.wrap ((b1 : Int) - mid) = (lr : Int) := by rw [hlr, i64w (by omega) (by omega)]; omega
    have w3 : IntKind.i64.wrap ((l : Int) / 8) = (l : Int) / 8 := i64w (by omega) (by omega)
    have w4 : IntKind.i64.wrap ((mid : Int) + 1) = (m1 : Int) := by rw [hm1, i64w (by omega) (by omega)]; omega
    simp (maxSteps := 1000000) [go_sem]
    refine vc_sound _ _ _ _ ?_
    by_cases hlr2 : ll < lr
    · have hlr2' : (ll : Int) < lr := by omega
      simp (maxSteps := 1000000) [go_sem, w1, w2, w3, hlr2, hlr2']
      refine ih (mid - a1) (by omega) (Nat.le_refl _) hA8 (by omega) r1 (by omega) hlj r4 hQ5 (hC.keep hS8) _ ?_
      intro H9 d6 hS9 hA9 hP6 hs6
      obtain ⟨g1, g2⟩ := r6 d6 hP6 hs6
      simp (maxSteps := 1000000) [go_sem, w4]
      refine hK (m1, b1, lj, decide ((l : Int) / 8 ≤ ll), ap, d6) _ _ (by simp only; omega) (by simp [upF, Fr.get, Up.refl]) ⟨by simp only; omega, by simp only; omega, hbb, hlj, by simp only; rw [hP6.1]; omega, QA_perm (by omega) hP6 hQ5, hS8.trans hS9, hA9, by simp only [hm1]; exact g1, ?_⟩
      simp only [hm1]
      intro R R1 R2
      obtain ⟨k1, k2⟩ := g2 R R1 R2
      exact hfin4 R k1 k2
    · have hlr2' : ¬ ((ll : Int) < lr) := by omega
      simp (maxSteps := 1000000) [go_sem, w1, w2, w3, w4, hlr2, hlr2']
      refine ih (b1 - m1) (by omega) (Nat.le_refl _) hA8 (by omega) (by omega) (by omega) hlj (by rw [hm1]; exact r5) hQ5 (hC.keep hS8) _ ?_
      intro H9 d6 hS9 hA9 hP6 hs6
      rw [hm1] at hP6 hs6
      obtain ⟨g1, g2⟩ := r7 d6 hP6 hs6
      simp (maxSteps := 1000000) [go_sem]
      refine hK (a1, mid, lj, decide ((l : Int) / 8 ≤ lr), ap, d6) _ _ (by simp only; omega) (by simp [upF, Fr.get, Up.refl]) ⟨haa, r1, by simp only; omega, hlj, by simp only; rw [hP6.1]; omega, QA_perm (by omega) hP6 hQ5, hS8.trans hS9, hA9, g1, ?_⟩
      intro R R1 R2
      obtain ⟨k1, k2⟩ := g2 R R1 R2
      exact hfin4 R k1 k2

end Go.Proofs.Ytdfeoccjllljiaa
end

section
/- Sorting by a function: slices.Sort. -/
set_option linter.all false
set_option maxRecDepth 20000
set_option maxHeartbeats 8000000
namespace Go.Proofs.Ytdfeoccjllljiaa
open Go.Ab Go.Sort

theorem w64_0O : IntKind.i64.wrap 0 = 0 := i64w (by omega) (by omega)
theorem w64_1O : IntKind.i64.wrap 1 = 1 := i64w (by omega) (by omega)
theorem wu64_0O : IntKind.u64.wrap 0 = 0 := by rw [IntKind.wrap_u64]; omega
theorem ins0O_ok {H : Heap} {id : Nat} (Post : Value → Heap → Prop) (h : Post (.tuple #[]) H) :
    ACalls Try.prog 190 [lv 1 id 0 0, .int .i64 0, .int .i64 0] H Post := by
  refine acalls_vc (rs := []) Try.func190 rfl rfl Try.ntmps190 rfl rfl ?_
  simp (maxSteps := 1000000) [go_sem, w64_0O, w64_1O]
  refine AWp.loopVc (St := Unit) (fun _ => [(2, .int .i64 0), (6, .int .i64 1)]) (fun _ H' => H' = H) (fun _ => 0) () ?_ ?_ ?_
  · simp [upF, Fr.get, Up.refl]
  · rfl
  · rintro K _ H' rfl hK
    simp (maxSteps := 1000000) [go_sem, w64_0O, w64_1O]
    exact h
theorem pdq0O_ok {H : Heap} {id : Nat} {l : Int} (Post : Value → Heap → Prop) (h : Post (.tuple #[]) H) :
    ACalls Try.prog 183 [lv 1 id 0 0, .int .i64 0, .int .i64 0, .int .i64 l] H Post := by
  refine acalls_vc (rs := []) Try.func183 rfl rfl Try.ntmps183 rfl rfl ?_
  simp (maxSteps := 1000000) [go_sem, w64_0O, w64_1O]
  refine AWp.loopA (St := Unit) (fun _ => [(0, lv 1 id 0 0), (1, .int .i64 0), (2, .int .i64 0)]) (fun _ H' => H' = H) (fun _ => 0) () ?_ ?_ ?_
  · simp [upF, Fr.get, Up.refl]
  · rfl
  · rintro K _ H' rfl hK
    refine AWp.block ?_
    refine AWp.ofVc ?_
    simp (maxSteps := 1000000) [go_sem, w64_0O, w64_1O]
    refine AWp.ofVc ?_
    simp (maxSteps := 1000000) [go_sem, w64_0O, w64_1O]
    refine ins0O_ok _ ?_
    simp (maxSteps := 1000000) [go_sem, w64_0O, w64_1O]
    exact h

/-- slices.Sort: afterwards the same elements are there, ascending. -/
theorem sortFuncO_ok {H : Heap} {id n : Nat} {l : List Int} {lt : Int → Int → Bool} {Q : Int → Prop} (hS : SWO lt) (hA : OL 1 H id (l.flatMap cellsI) n) (hn : l.length = n) (hl : n ≤ 1048576) (hQ : ∀ x ∈ l, Q x)
    (hC : CmpO lt Q id H) (Post : Value → Heap → Prop)
    (h : ∀ (H' : Heap) (l' : List Int), Same (fun k => k = id) H H' → OL 1 H' id (l'.flatMap cellsI) n → l'.Perm l → l'.Pairwise (fun x y => lt y x = false) → Post (.tuple #[]) H') :
    ACalls Try.prog 161 [lv 1 id 0 n] H Post := by
  refine acalls_vc (rs := []) Try.func161 rfl rfl Try.ntmps161 rfl rfl ?_
  have w1 : IntKind.u64.wrap (n : Int) = n := by rw [IntKind.wrap_u64]; omega
  rcases hA.2 with ⟨h0, hg⟩ | hb
  · subst h0
    have hnil : l = [] := List.eq_nil_of_length_eq_zero hn
    subst hnil
    simp (maxSteps := 1000000) [go_sem, wu64_0O]
    refine bitsLenC_ok (x := 0) (by omega) _ ?_
    simp (maxSteps := 1000000) [go_sem]
    refine pdq0O_ok _ ?_
    simp (maxSteps := 1000000) [go_sem]
    exact h H [] (Same.refl _ _) hA (List.Perm.refl _) List.Pairwise.nil
  · have hA' : Arr cellsI H id l.toArray := by unfold Arr; simpa using hb
    have hQ' : QA Q l.toArray := by
      intro k hk
      rw [getElem!_pos l.toArray k hk]
      exact hQ _ (by simp)
    simp (maxSteps := 1000000) [go_sem, w1]
    refine bitsLenC_ok (by omega) _ ?_
    have hb64 : bitsLen n ≤ 64 := bitsLen_lt (by omega)
    simp (maxSteps := 1000000) [go_sem]
    refine pdqO_ok hS hl n (a := 0) (limit := bitsLen n) (by omega) hA' (by simpa using hn) (Nat.zero_le _) (Nat.le_refl _) hb64 (.inl rfl) hQ' hC _ ?_
    intro H' d' hS' hA2 hP hs
    have hsz : d'.size = n := by rw [hP.1]; simpa using hn
    have hp := perm_list (by simpa using hn) hP
    have fin := h H' d'.toList hS' ⟨by rw [flat_len cellsI_len, Array.length_toList, hsz], .inr hA2⟩ (by simpa using hp) (sorted_list hsz hs)
    simp (maxSteps := 1000000) [go_sem]
    exact fin

end Go.Proofs.Ytdfeoccjllljiaa
end

section
/- slices.Values, slices.Collect, slices.Sorted over numbers, in abstract terms; isOrder. -/
set_option linter.all false
set_option maxRecDepth 20000
set_option maxHeartbeats 4000000
namespace Go.Ab
open Go.RowKit (Below)

theorem R.later {B : Nat} {w0 : World} {ρ : Rho} {H : Heap} {w w' : World} (h : R B w0 ρ H w) (hb : Below w.heap.size w w') : R B w0 ρ H w' :=
  ⟨h.len, h.below.trans (hb.mono h.base), Nat.le_trans h.base hb.size, fun i b l h1 h2 h3 => (h.blk i b l h1 h2 h3).kept (List.prefix_refl _) (hb.block _ (h.blk i b l h1 h2 h3).lt), h.apart, h.ghost⟩

/-- A block that a call has laid. -/
theorem R.addRow {B : Nat} {w0 : World} {ρ : Rho} {H : Heap} {w w' : World} (h : R B w0 ρ H w) (hb : Below w.heap.size w w') {g : Nat} (hg : w.heap.size ≤ g) {arr : Array Value} {elem : TypeId} (hc : w'.heap[g]? = some (.cells arr elem (0, 0))) (cs : List Value)
    (hle : ∀ (k : Nat) (v : Value), cs[k]? = some v → v.oneCell' = true ∧ ∃ cv, arr[k]? = some cv ∧ VR ρ v cv) :
    R B w0 (ρ ++ [⟨g, 0, arr.size⟩]) (H ++ [⟨cs, true, true⟩]) w' := by
  have hpre : ρ <+: ρ ++ [⟨g, 0, arr.size⟩] := List.prefix_append _ _
  have hlt : ∀ (i : Nat) (b : Blk) (l : Loc), H[i]? = some b → ρ[i]? = some l → b.live = true → l.blk < w.heap.size := fun i b l h1 h2 h3 => (h.blk i b l h1 h2 h3).lt
  have h' := h.later hb
  have getH : ∀ (i : Nat) (b : Blk), (H ++ [(⟨cs, true, true⟩ : Blk)])[i]? = some b → (H[i]? = some b ∧ i < H.length) ∨ (i = H.length ∧ b = ⟨cs, true, true⟩) := by
    intro i b hb
    rcases Nat.lt_or_ge i H.length with hi | hi
    · rw [List.getElem?_append_left hi] at hb; exact .inl ⟨hb, hi⟩
    · rw [List.getElem?_append_right hi] at hb
      cases hk : i - H.length with
      | zero => rw [hk] at hb; simp at hb; exact .inr ⟨by omega, hb.symm⟩
      | succ k => rw [hk] at hb; simp at hb
  have getρ : ∀ (i : Nat) (l : Loc), (ρ ++ [(⟨g, 0, arr.size⟩ : Loc)])[i]? = some l → (i < H.length → ρ[i]? = some l) ∧ (i = H.length → l = ⟨g, 0, arr.size⟩) := by
    intro i l hl
    refine ⟨fun hi => ?_, fun hi => ?_⟩
    · rw [List.getElem?_append_left (by rw [h.len]; exact hi)] at hl; exact hl
    · rw [List.getElem?_append_right (by rw [h.len]; omega), h.len, hi] at hl; simpa using hl.symm
  refine ⟨by simp [h.len], h'.below, h'.base, ?_, ?_, ?_⟩
  · intro i b l hb hl hv
    rcases getH i b hb with ⟨hb', hi⟩ | ⟨hi, rfl⟩
    · exact (h'.blk i b l hb' ((getρ i l hl).1 hi) hv).kept hpre rfl
    · have := (getρ i l hl).2 hi
      subst this
      refine ⟨arr, elem, (0, 0), hc, rfl, fun k v hk => ?_, fun _ => ⟨Nat.le_trans h.base hg, rfl⟩⟩
      obtain ⟨h1, cv, h2, h3⟩ := hle k v hk
      exact ⟨h1, cv, by simpa using h2, h3.mono hpre⟩
  · intro i j b c l m hij hb hc hl hm hbl hcl hbo
    rcases getH i b hb with ⟨hb', hi⟩ | ⟨hi, rfl⟩
    · rcases getH j c hc with ⟨hc', hj⟩ | ⟨hj, rfl⟩
      · exact h.apart i j b c l m hij hb' hc' ((getρ i l hl).1 hi) ((getρ j m hm).1 hj) hbl hcl hbo
      · have := (getρ j m hm).2 hj
        subst this
        have := hlt i b l hb' ((getρ i l hl).1 hi) hbl
        show l.blk ≠ g
        omega
    · have := (getρ i l hl).2 hi
      subst this
      rcases getH j c hc with ⟨hc', hj⟩ | ⟨hj, rfl⟩
      · have := hlt j c m hc' ((getρ j m hm).1 hj) hcl
        show g ≠ m.blk
        omega
      · omega
  · intro i b l hb hl hd ho
    rcases getH i b hb with ⟨hb', hi⟩ | ⟨hi, rfl⟩
    · exact h.ghost i b l hb' ((getρ i l hl).1 hi) hd ho
    · cases hd

end Go.Ab
namespace Go.Proofs.Ytdfeoccjllljiaa
open Go.Ab Go.Sort

theorem iin_of {B : Nat} {w0 : World} {ρ : Rho} {H : Heap} {w : World} (hR : R B w0 ρ H w) {u cv : Value} {xs : List Int} (hu : IntsAt H u xs) (hv : VR ρ u cv) : IIn w.heap.size w cv xs := by
  obtain ⟨i, o, rfl, h1, h2⟩ := hu
  by_cases h0 : xs = []
  · subst h0
    cases hv with
    | sliceUnk _ _ _ _ _ c l hl => exact .inl ⟨_, _, rfl, rfl⟩
    | sliceZero => exact .inl ⟨_, _, rfl, rfl⟩
  · rcases h1 with h1 | h1
    · exact absurd (by simpa [ints] using h1) h0
    have hpos : 0 < xs.length := List.length_pos_iff.2 h0
    have hlen : (ints xs).length = xs.length := by simp [ints]
    rw [hlen] at h1
    obtain ⟨l, ds, hl, _, hds, _, hcell⟩ := hR.cellsAt h1
    obtain ⟨b, hb, hbl, hn, _⟩ := cellsAt_inv h1
    have hblk := (hR.blk i b l hb hl hbl).lt
    generalize hm : xs.length = m at *
    cases hv with
    | sliceUnk _ _ _ _ o' c l' hl' hoff =>
      rw [hl] at hl'; cases hl'
      rcases hoff with rfl | ⟨e, _⟩
      · refine .inr ⟨l.blk, l.off + o, c, by rw [hm], hblk, fun j hj => ?_⟩
        rw [hm] at hj
        have hx : (ints xs)[j]? = some (.int .i64 xs[j]) := by simp [ints, List.getElem?_eq_getElem (show j < xs.length by omega)]
        have hdl : j < ds.length := by rw [← hds.1, hlen]; omega
        have h3 := hds.2 j _ _ hx (List.getElem?_eq_getElem hdl)
        have h4 := hcell j _ (List.getElem?_eq_getElem hdl)
        rw [h3.int_inv] at h4
        rw [h4, List.getElem?_eq_getElem (show j < xs.length by omega)]
        rfl
      · omega
    | sliceZero => omega

theorem collect_ok {H : Heap} {id : Nat} {u : Value} {xs : List Int} (hx : Holds H id [u]) (hu : IntsAt H u xs) (hl : xs.length ≤ 1048576) (Post : Value → Heap → Prop) (h : ∀ H' w, H <+: H' → IntsIn H.length H'.length H' w xs → Post w H') :
    ACalls Try.prog 178 [.func (.func 179) #[] #[.pointer (some ⟨id, 0, none⟩)]] H Post := by
  refine ⟨⟨_, Try.func178, rfl, rfl⟩, ?_⟩
  intro B w0 ρ w cargs hR hv
  obtain ⟨c, cs', rfl, h1, h2⟩ := hv.cons_inv
  obtain rfl := h2.nil_inv
  obtain ⟨az, bs, rfl, h3, h4⟩ := h1.func_inv
  have haz : az = #[] := by
    have := h3.1; simp at this; exact Array.eq_empty_of_size_eq_zero this.symm
  subst haz
  obtain ⟨c2, cs2, e2, h5, h6⟩ := h4.cons_inv
  obtain rfl := h6.nil_inv
  obtain ⟨l, hl', rfl⟩ := h5.ptr_inv
  have hbs : bs = #[.pointer (some ⟨l.blk, l.off + 0, none⟩)] := by
    apply Array.ext'
    simpa using e2
  subst hbs
  obtain ⟨own, hb⟩ := hx
  obtain ⟨cv, h7, h8, _⟩ := (hR.blk id _ l hb hl' rfl).cell (k := 0) (v := u) rfl
  have hlt := (hR.blk id _ l hb hl' rfl).lt
  refine (collectVals l.blk (l.off + 0) cv xs (Nat.le_trans hl (by decide)) (by omega) w hlt h7 (iin_of hR hu h8)).mono ?_
  rintro e W ⟨v, rfl, hrow, hnil, hbel⟩
  obtain ⟨hrl, hrow⟩ := hrow
  by_cases h0 : xs = []
  · subst h0
    obtain rfl := hnil.2 rfl
    exact ⟨ρ, H, lv 1 0 0 0, _, rfl, List.prefix_refl _, hR.later hbel, .sliceZero _ _ _ _, h H _ (List.prefix_refl _) (IntsIn.nil _ _ _)⟩
  · rcases hrow with ⟨e, _⟩ | ⟨g, cap, cur, rfl, hg, hc, hcap, hmax, hsz, htk⟩
    · exact absurd (hnil.1 e) h0
    · have hR2 := hR.addRow hbel hg hc (ints xs) (by
        intro k v hk
        have hk' := (List.getElem?_eq_some_iff.1 hk).1
        simp only [ints, List.length_map] at hk'
        have e1 : (ints xs)[k]? = some (.int .i64 xs[k]) := by simp [ints, List.getElem?_eq_getElem hk']
        rw [e1] at hk; cases hk
        refine ⟨rfl, _, ?_, .int _ _⟩
        rw [← Array.getElem?_toList]
        have e2 : (cur.toList.take (xs.length * 1))[k]? = some (.int .i64 xs[k]) := by rw [htk]; simp [List.getElem?_eq_getElem hk']
        rw [List.getElem?_take, if_pos (by omega)] at e2
        exact e2)
      refine ⟨_, _, lv 1 H.length 0 xs.length, _, rfl, List.prefix_append _ _, hR2, ?_, h _ _ (List.prefix_append _ _) ⟨H.length, ⟨rfl, .inr (by simp), by omega⟩, fun _ => ⟨Nat.le_refl _, by simp⟩⟩⟩
      refine .sliceUnk _ _ _ _ _ _ ⟨g, 0, cur.size⟩ ?_ (.inl (by simp)) hcap (by simp; omega)
      rw [List.getElem?_append_right (by rw [hR.len]; exact Nat.le_refl _), hR.len]; simp

theorem cmpLess {id : Nat} {H : Heap} : CmpO ltI (fun _ => True) id H := by
  intro H x y Post _ _ _ h
  exact cmpLess_ok _ (h H _ (List.prefix_refl _) rfl)

theorem sortO0_ok {H : Heap} {id : Nat} (Post : Value → Heap → Prop) (h : Post (.tuple #[]) H) : ACalls Try.prog 161 [lv 1 id 0 0] H Post := by
  refine acalls_vc (rs := []) Try.func161 rfl rfl Try.ntmps161 rfl rfl ?_
  simp (maxSteps := 1000000) [go_sem, wu64_0O]
  refine bitsLenC_ok (x := 0) (by omega) _ ?_
  simp (maxSteps := 1000000) [go_sem]
  refine pdq0O_ok _ ?_
  simp (maxSteps := 1000000) [go_sem]
  exact h

theorem cellsI_ints (xs : List Int) : xs.flatMap cellsI = ints xs := by
  induction xs with
  | nil => rfl
  | cons x xs ih => rw [List.flatMap_cons, ih]; rfl

/-- slices.Sort over a list that the call holds alone. -/
theorem sortInts_ok {H : Heap} {id : Nat} {xs : List Int} (hb : xs = [] ∨ H[id]? = some ⟨ints xs, true, true⟩) (hl : xs.length ≤ 1048576) (Post : Value → Heap → Prop)
    (h : ∀ (H' : Heap) (ys : List Int), Same (fun k => k = id) H H' → (xs = [] → H' = H) → (ys = [] ∨ H'[id]? = some ⟨ints ys, true, true⟩) → ys.Perm xs → AscI ys → Post (.tuple #[]) H') :
    ACalls Try.prog 161 [lv 1 id 0 xs.length] H Post := by
  by_cases h0 : xs = []
  · subst h0
    exact sortO0_ok _ (h H [] (Same.refl _ _) (fun _ => rfl) (.inl rfl) (List.Perm.refl _) List.Pairwise.nil)
  · have hb := hb.resolve_left h0
    refine sortFuncO_ok (l := xs) (Q := fun _ => True) swoI ⟨by simp [cellsI_ints, ints], .inr (by rw [cellsI_ints]; exact hb)⟩ rfl hl (fun _ _ => trivial) cmpLess _ ?_
    intro H' ys hS hO hp hs
    refine h H' ys hS (fun e => absurd e h0) ?_ hp hs
    rcases hO.2 with ⟨e, _⟩ | e
    · exact absurd (List.eq_nil_of_length_eq_zero e) h0
    · right; rw [cellsI_ints] at e; exact e

/-- slices.Sorted(slices.Values(..)). -/
theorem sortedI_ok {H : Heap} {id : Nat} {u : Value} {xs : List Int} (hx : Holds H id [u]) (hu : IntsAt H u xs) (hl : xs.length ≤ 1048576) (Post : Value → Heap → Prop) (h : ∀ H' w ys, H <+: H' → IntsIn H.length H'.length H' w ys → ys.Perm xs → AscI ys → Post w H') :
    ACalls Try.prog 151 [.func (.func 179) #[] #[.pointer (some ⟨id, 0, none⟩)]] H Post := by
  refine acalls_vc (rs := [.tmp 2]) Try.func151 rfl rfl Try.ntmps151 rfl rfl ?_
  simp (maxSteps := 1000000) [go_sem]
  refine collect_ok hx hu hl _ ?_
  rintro H1 w hp1 ⟨k, ⟨rfl, hk, hlk⟩, hsp⟩
  simp (maxSteps := 1000000) [go_sem]
  refine sortInts_ok hk hl _ ?_
  intro H2 ys hS he hb hp hs
  have hlen : ys.length = xs.length := hp.length_eq
  have fin := h H2 (lv 1 k 0 xs.length) ys ?_ ⟨k, ⟨by rw [hlen], hb, by omega⟩, fun hne => ?_⟩ hp hs
  · simp (maxSteps := 1000000) [go_sem]
    exact fin
  · by_cases h0 : xs = []
    · subst h0
      rw [he rfl]; exact hp1
    · have := hsp h0
      exact ((Same.of_prefix (S := fun j => j = k) hp1).trans hS).prefix (by rintro j hj rfl; exact absurd hj (by have := this.1; omega))
  · have h0 : xs ≠ [] := by rintro rfl; exact hne (List.eq_nil_of_length_eq_zero (by simpa using hlen))
    have := hsp h0
    exact ⟨this.1, Nat.lt_of_lt_of_le this.2 hS.1⟩

end Go.Proofs.Ytdfeoccjllljiaa
end

section
/- The block of three numbers: blockOf, l01Block; isOrder. -/
set_option linter.all false
set_option maxRecDepth 20000
set_option maxHeartbeats 4000000
namespace Go.Proofs.Ytdfeoccjllljiaa
open Go.Ab Go.Sort

theorem values_ok {H : Heap} {i o n : Nat} (Post : Value → Heap → Prop) (h : Post (.func (.func 179) #[] #[.pointer (some ⟨H.length, 0, none⟩)]) (H ++ [⟨[lv 1 i o n], true, true⟩])) :
    ACalls Try.prog 152 [lv 1 i o n] H Post := by
  refine acalls_vc (rs := [.tmp 2]) Try.func152 rfl rfl Try.ntmps152 rfl rfl ?_
  simp (maxSteps := 1000000) [go_sem]
  exact h

theorem isOrder_ok {H : Heap} {u : Value} {xs : List Int} {n : Int} (hu : IntsAt H u xs) (hl : xs.length ≤ 1048576) (hn : -9223372036854775807 ≤ n ∧ n ≤ 9223372036854775807) (Post : Value → Heap → Prop) (h : ∀ H' b, H <+: H' → (b = true ↔ OrdL n xs) → Post (.bool b) H') :
    ACalls Try.prog 127 [u, .int .i64 n] H Post := by
  have one := hu.one
  obtain ⟨i, o, rfl, h1, h2⟩ := hu
  refine acalls_vc (rs := [.tmp 4]) Try.func127 rfl rfl Try.ntmps127 rfl rfl ?_
  by_cases hc : (xs.length : Int) = n
  · have hcb : ((xs.length : Int) == n) = true := by simpa using hc
    simp (maxSteps := 1000000) [go_sem, hcb]
    refine values_ok _ ?_
    have hp0 : H <+: H ++ [(⟨[lv 1 i o xs.length], true, true⟩ : Blk)] := List.prefix_append _ _
    have hx0 := Holds.last H [lv 1 i o xs.length]
    generalize H ++ [(⟨[lv 1 i o xs.length], true, true⟩ : Blk)] = H0 at hp0 hx0 ⊢
    simp (maxSteps := 1000000) [go_sem]
    refine sortedI_ok hx0 ⟨i, o, rfl, h1.pre hp0, h2⟩ hl _ ?_
    intro H2 w ys hp2 hw hperm hasc
    simp (maxSteps := 1000000) [go_sem]
    refine rises_ok hw.read hn.1 hn.2 _ ?_
    intro b hb
    simp (maxSteps := 1000000) [go_sem]
    refine h H2 b (hp0.trans hp2) ?_
    rw [hb, rises_sorted hperm hasc]
    exact ⟨fun e => ⟨hc, e⟩, fun e => e.2⟩
  · have hcb : ((xs.length : Int) == n) = false := by simpa using hc
    simp (maxSteps := 1000000) [go_sem, hcb, undef]
    exact h H false (List.prefix_refl _) (by simp [OrdL, hc])

end Go.Proofs.Ytdfeoccjllljiaa
end

section
/- Results that are lists of lists, held alone; marks on them. -/
set_option linter.all false
set_option maxRecDepth 20000
namespace Go.Proofs.Ytdfeoccjllljiaa
open Go.Ab

def RowsIn (a b : Nat) (H : Heap) (v : Value) (xss : List (List Int)) : Prop :=
  ∃ (id : Nat) (rows : List (Nat × List Int)), v = lv 1 id 0 rows.length ∧ At H id 0 (rows.map rowVal) ∧ Rows1 H rows ∧ (∀ r ∈ rows, r.2 ≠ [] → r.1 ≠ id ∧ Span a b r.1) ∧ rows.map (·.2) = xss ∧ (rows ≠ [] → Span a b id) ∧ xss.flatten.length ≤ 140737488355328 ∧ rows.length ≤ 140737488355328
/-- Lists of numbers that were marked. -/
def MarkRows (a b : Nat) (H : Heap) (v : Value) (k : Int) (xss : List (List Int)) : Prop :=
  ∃ (id : Nat) (rows : List (Nat × List Int)), v = lv 1 id 0 rows.length ∧ At H id 0 (rows.map rowVal) ∧ (∀ r ∈ rows, At H r.1 0 (ints r.2) ∧ (r.2 ≠ [] → Span a b r.1)) ∧ rows.map (·.2) = marked k xss ∧ (rows ≠ [] → Span a b id) ∧ xss.flatten.length ≤ 140737488355328 ∧ rows.length ≤ 140737488355328

theorem flat_le {rows : List (Nat × List Int)} {r : Nat × List Int} (h : r ∈ rows) : r.2.length ≤ (rows.map (·.2)).flatten.length := by
  exact (List.sublist_flatten_of_mem (List.mem_map_of_mem (f := fun r : Nat × List Int => r.2) h)).length_le
theorem At.keepS {H H' : Heap} {S : Nat → Prop} (hs : Same S H H') {i o : Nat} {cs : List Value} (h : At H i o cs) (hi : cs ≠ [] → ¬ S i) : At H' i o cs := by
  rcases h with h0 | h
  · exact .inl h0
  · by_cases hc : cs = []
    · exact .inl hc
    · right
      obtain ⟨blk, hb, hbl, hbn, he⟩ := cellsAt_inv h
      rw [cellsAt_of (hs.get hb (hi hc)) hbl hbn, ← he]
theorem RowsIn.own {a b : Nat} {H : Heap} {v : Value} {xss : List (List Int)} (h : RowsIn a b H v xss) : ∃ rows, OwnRows H v rows ∧ rows.map (·.2) = xss ∧ ∀ r ∈ rows, r.2 ≠ [] → Span a b r.1 := by
  obtain ⟨id, rows, h1, h2, h3, h4, h5, h6, h7, h8⟩ := h
  exact ⟨rows, ⟨id, h1, h2, h3, fun r hr hn => (h4 r hr hn).1, h8, fun r hr => by have := flat_le hr; rw [h5] at this; omega⟩, h5, fun r hr hn => (h4 r hr hn).2⟩
theorem RowsIn.keep {a b : Nat} {H H' : Heap} {v : Value} {xss : List (List Int)} (h : RowsIn a b H v xss) {S : Nat → Prop} (hs : Same S H H') (hd : ∀ j, Span a b j → ¬ S j) : RowsIn a b H' v xss := by
  obtain ⟨id, rows, h1, h2, h3, h4, h5, h6, h7, h8⟩ := h
  refine ⟨id, rows, h1, At.keepS hs h2 (fun hn => hd _ (h6 (by rintro rfl; exact hn rfl))), ⟨fun r hr => ?_, h3.2⟩, h4, h5, h6, h7, h8⟩
  by_cases hn : r.2 = []
  · exact .inl hn
  · exact .inr (hs.get ((h3.1 r hr).resolve_left hn) (hd _ (h4 r hr hn).2))
theorem MarkRows.keep {a b : Nat} {H H' : Heap} {v : Value} {k : Int} {xss : List (List Int)} (h : MarkRows a b H v k xss) {S : Nat → Prop} (hs : Same S H H') (hd : ∀ j, Span a b j → ¬ S j) : MarkRows a b H' v k xss := by
  obtain ⟨id, rows, h1, h2, h3, h5, h6, h7, h8⟩ := h
  refine ⟨id, rows, h1, At.keepS hs h2 (fun hn => hd _ (h6 (by rintro rfl; exact hn rfl))), fun r hr => ⟨At.keepS hs (h3 r hr).1 (fun hn => hd _ ((h3 r hr).2 (by intro e; rw [e] at hn; exact hn rfl))), (h3 r hr).2⟩, h5, h6, h7, h8⟩
theorem RowsIn.pre {a b : Nat} {H H' : Heap} (hp : H <+: H') {v : Value} {xss : List (List Int)} (h : RowsIn a b H v xss) : RowsIn a b H' v xss := h.keep (S := fun _ => False) (Same.of_prefix hp) (fun _ _ h => h)
theorem MarkRows.pre {a b : Nat} {H H' : Heap} (hp : H <+: H') {v : Value} {k : Int} {xss : List (List Int)} (h : MarkRows a b H v k xss) : MarkRows a b H' v k xss := h.keep (S := fun _ => False) (Same.of_prefix hp) (fun _ _ h => h)
theorem RowsIn.read {a b : Nat} {H : Heap} {v : Value} {xss : List (List Int)} (h : RowsIn a b H v xss) : IntssAt H v xss := by
  obtain ⟨rows, h1, h2, _⟩ := h.own; exact h2 ▸ h1.read
theorem RowsIn.one {a b : Nat} {H : Heap} {v : Value} {xss : List (List Int)} (h : RowsIn a b H v xss) : v.oneCell' = true := by
  obtain ⟨id, rows, rfl, _⟩ := h; rfl
theorem RowsIn.nil (a b : Nat) (H : Heap) : RowsIn a b H (lv 1 0 0 0) [] := ⟨0, [], rfl, .inl rfl, ⟨by simp, by simp⟩, by simp, rfl, fun h => absurd rfl h, by simp, by simp⟩
theorem MarkRows.one {a b : Nat} {H : Heap} {v : Value} {k : Int} {xss : List (List Int)} (h : MarkRows a b H v k xss) : v.oneCell' = true := by
  obtain ⟨id, rows, rfl, _⟩ := h; rfl
theorem MarkRows.read {a b : Nat} {H : Heap} {v : Value} {k : Int} {xss : List (List Int)} (h : MarkRows a b H v k xss) : IntssAt H v (marked k xss) := by
  obtain ⟨id, rows, rfl, h2, h3, h5, h6, h7, h8⟩ := h
  have hl : rows.length = (marked k xss).length := by rw [← h5, List.length_map]
  refine ⟨id, 0, rows.map rowVal, by rw [hl], by simp [hl], h2, ?_, by omega⟩
  intro j u ys hu hx
  rw [← h5] at hx
  simp only [List.getElem?_map, Option.map_eq_some_iff] at hu hx
  obtain ⟨r, hr, rfl⟩ := hu
  obtain ⟨r', hr', rfl⟩ := hx
  rw [hr] at hr'; cases hr'
  have hm := List.mem_of_getElem? hr
  refine ⟨r.1, 0, rfl, (h3 r hm).1, ?_⟩
  have := flat_le hm
  rw [h5, marked_total] at this; omega

/-- What a call has built. -/
theorem _root_.Go.Ab.Build.inn {H H' : Heap} {oid : Nat} {rows : List (Nat × List Int)} (h : Build H H' oid rows) (hl : (rows.map (·.2)).flatten.length ≤ 140737488355328) (hl' : rows.length ≤ 140737488355328) : RowsIn H.length H'.length H' (lv 1 oid 0 rows.length) (rows.map (·.2)) :=
  ⟨oid, rows, rfl, h.ol.at, h.rows1, fun r hr _ => ⟨(h.ids r hr).2.2, (h.ids r hr).1, (h.ids r hr).2.1⟩, rfl, fun _ => ⟨h.ge, h.ol.lt⟩, hl, hl'⟩

theorem lv_inj {e i j o q n : Nat} (h : lv e i o n = lv e j q n) : i = j ∧ o = q := by
  cases h; exact ⟨rfl, rfl⟩

theorem markIntss_ok {a b T : Nat} {H : Heap} {v : Value} {xss : List (List Int)} {k : Int} (h : RowsIn a b H v xss) (hT : T = xss.flatten.length) (hk0 : 0 ≤ k) (hk : k ≤ 1000000000) (Post : Value → Heap → Prop)
    (hP : ∀ H', Same (Span a b) H H' → MarkRows a b H' v k xss → Post (.int .i64 (k + T)) H') : ACalls Try.prog 43 [v, .int .i64 k] H Post := by
  subst hT
  obtain ⟨id, rows, rfl, h2, h3, h4, h5, h6, h7, h8⟩ := h
  have hown : OwnRows H (lv 1 id 0 rows.length) rows := ⟨id, rfl, h2, h3, fun r hr hn => (h4 r hr hn).1, h8, fun r hr => by have := flat_le hr; rw [h5] at this; omega⟩
  refine markInt64SS_ok hown hk0 (by rw [h5]; omega) _ ?_
  intro H' hl hs hm
  rw [h5] at hm ⊢
  have h2' : At H' id 0 (rows.map rowVal) := At.keepS hs h2 (fun _ => by rintro ⟨r, hr, hn, e⟩; exact (h4 r hr hn).1 e)
  refine hP H' (hs.mono fun j _ ⟨r, hr, hn, e⟩ => e ▸ (h4 r hr hn).2) ?_
  obtain ⟨i, o, vs, e1, e2, e3, e4, e5⟩ := hm
  have hml : (marked k xss).length = rows.length := by rw [marked_length, ← h5, List.length_map]
  rw [hml] at e1 e2 e5
  obtain ⟨rfl, rfl⟩ := lv_inj e1
  have hvs : vs = rows.map rowVal := by
    rcases h2' with hz | h2'
    · rw [hz]; have : rows.length = 0 := by simpa using congrArg List.length hz
      exact List.eq_nil_of_length_eq_zero (by omega)
    · rcases e3 with hz | e3
      · rw [hz] at e2 ⊢
        have : rows = [] := List.eq_nil_of_length_eq_zero (by simpa using e2.symm)
        rw [this]; rfl
      · rw [e2] at e3; rw [List.length_map] at h2'; rw [e3] at h2'; exact Option.some.inj h2'
  subst hvs
  have hrow : ∀ j, j < rows.length → ∃ r ys, rows[j]? = some r ∧ (marked k xss)[j]? = some ys ∧ ys.length = r.2.length := by
    intro j hj
    have hr : rows[j]? = some rows[j] := List.getElem?_eq_getElem hj
    have hx : xss[j]? = some rows[j].2 := by rw [← h5, List.getElem?_map, hr]; rfl
    refine ⟨rows[j], upFrom (k + (off xss j : Int)) rows[j].2.length, hr, by rw [marked_get, hx]; rfl, by rw [upFrom_length]⟩
  refine ⟨id, (List.range rows.length).map (fun j => ((rows.getD j (0, [])).1, (marked k xss).getD j [])), by simp, ?_, ?_, ?_, ?_, h7, by simpa using h8⟩
  · have e : ((List.range rows.length).map (fun j => ((rows.getD j (0, [])).1, (marked k xss).getD j []))).map rowVal = rows.map rowVal := by
      apply List.ext_getElem?
      intro j
      by_cases hj : j < rows.length
      · obtain ⟨r, ys, hr, hy, hyl⟩ := hrow j hj
        simp [List.getElem?_map, List.getElem?_range hj, hr, hy, rowVal, hyl, List.getD_eq_getElem?_getD]
      · rw [List.getElem?_eq_none (by simp; omega), List.getElem?_eq_none (by simp; omega)]
    rw [e]; exact h2'
  · intro r hr
    obtain ⟨j, hj, rfl⟩ := List.mem_map.1 hr
    rw [List.mem_range] at hj
    obtain ⟨r, ys, hr', hy, hyl⟩ := hrow j hj
    have hat := e4 j (rowVal r) ys (by rw [List.getElem?_map, hr']; rfl) hy
    obtain ⟨i', o', f1, f2, f3⟩ := hat
    rw [hyl] at f1
    obtain ⟨rfl, rfl⟩ := lv_inj (show lv 1 r.1 0 r.2.length = _ from f1)
    simp only [List.getD_eq_getElem?_getD, hr', hy, Option.getD_some]
    exact ⟨f2, fun hn => (h4 r (List.mem_of_getElem? hr') (by intro e; rw [e] at hyl; exact hn (List.eq_nil_of_length_eq_zero hyl))).2⟩
  · apply List.ext_getElem?
    intro j
    by_cases hj : j < rows.length
    · obtain ⟨r, ys, hr, hy, hyl⟩ := hrow j hj
      simp [List.getElem?_map, List.getElem?_range hj, hy, List.getD_eq_getElem?_getD]
    · rw [List.getElem?_eq_none (by simp; omega), List.getElem?_eq_none (by omega)]
  · intro hn
    exact h6 (by rintro rfl; exact hn rfl)

end Go.Proofs.Ytdfeoccjllljiaa
end

section
/- One list out of a list of lists. -/
set_option linter.all false
set_option maxRecDepth 20000
namespace Go.Proofs.Ytdfeoccjllljiaa
open Go.Ab

theorem row_at {H : Heap} {u : Value} {xss : List (List Int)} {k : Nat} (h : IntssAt H u xss) (hk : k < xss.length) : ∃ i o, u = lv 1 i o xss.length ∧ ∀ {H' : Heap}, H <+: H' → ∃ i' o', cellsAt H' i (o + k) 1 = some [lv 1 i' o' xss[k].length] ∧ IntsAt H' (lv 1 i' o' xss[k].length) xss[k] := by
  obtain ⟨i, o, vs, h1, h2, h3, h4, h5⟩ := h
  refine ⟨i, o, h1, fun hp => ?_⟩
  have hv : vs[k]? = some (vs[k]'(by omega)) := List.getElem?_eq_getElem (by omega)
  obtain ⟨i', o', e1, e2, e3⟩ := h4 k _ xss[k] hv (List.getElem?_eq_getElem hk)
  have c := (h3.pre hp).cell hv
  rw [e1] at c
  exact ⟨i', o', c, i', o', rfl, e2.pre hp, e3⟩


end Go.Proofs.Ytdfeoccjllljiaa
end

section
/- slices.ContainsFunc over lists of numbers. -/
set_option linter.all false
set_option maxRecDepth 20000
set_option maxHeartbeats 8000000
namespace Go.Proofs.Ytdfeoccjllljiaa
open Go.Ab

/-- A function value that tells of lists of numbers. -/
def TellsL (g : FuncId) (fs cs : List Value) (Q : List Int → Prop) (P : List Int → Bool) (H : Heap) : Prop :=
  ∀ (H' : Heap) (w : Value) (x : List Int) (Post : Value → Heap → Prop), H <+: H' → Q x → IntsAt H' w x → (∀ H'', H' <+: H'' → Post (.bool (P x)) H'') → ACalls Try.prog g (fs ++ w :: cs) H' Post

theorem indexFuncL_ok {H : Heap} {u : Value} {xs : List (List Int)} {g : FuncId} {fs cs : List Value} {P : List Int → Bool} (hu : IntssAt H u xs) (hl : xs.length ≤ 140737488355328) (hf : TellsL g fs cs (· ∈ xs) P H) (Post : Value → Heap → Prop)
    (h : ∀ H' n, H <+: H' → IdxP xs P n → Post (.int .i64 n) H') : ACalls Try.prog 146 [u, .func (.func g) fs.toArray cs.toArray] H Post := by
  obtain ⟨i, o, rfl⟩ : ∃ i o, u = lv 1 i o xs.length := by obtain ⟨i, o, _, e, _⟩ := hu; exact ⟨i, o, e⟩
  refine acalls_vc (rs := [.tmp 4]) Try.func146 rfl rfl Try.ntmps146 rfl rfl ?_
  simp (maxSteps := 1000000) [go_sem]
  refine AWp.loopVc (fun s : Nat => [(0, lv 1 i o xs.length), (1, .func (.func g) fs.toArray cs.toArray), (7, .int .i64 xs.length), (8, .int .i64 s)])
    (fun s H' => s ≤ xs.length ∧ H <+: H' ∧ ∀ y ∈ xs.take s, P y = false) (fun s => xs.length - s) 0 ?_ ?_ ?_
  · simp [upF, Fr.get, Up.refl]
  · exact ⟨by omega, List.prefix_refl _, by simp⟩
  · rintro K s H' ⟨hs, hp, hall⟩ hK
    by_cases hlt : s < xs.length
    · have hx : xs[s]? = some xs[s] := List.getElem?_eq_getElem hlt
      obtain ⟨i2, o2, e2, hrow⟩ := row_at hu hlt
      obtain ⟨rfl, rfl⟩ := lv_inj e2
      obtain ⟨i', o', c1, hr⟩ := hrow hp
      have htk := List.take_succ_eq_append_getElem hlt
      have hxm := List.getElem_mem hlt
      generalize xs[s] = x at *
      have hw_s : IntKind.i64.wrap ((s : Int) + 1) = (s : Int) + 1 := i64w (by omega) (by omega)
      simp (maxSteps := 1000000) [go_sem, hlt, c1]
      refine hf H' _ x _ hp hxm hr ?_
      intro H2 hp2
      cases hP : P x with
      | true =>
        simp (maxSteps := 1000000) [go_sem]
        exact h H2 s (hp.trans hp2) (.inr ⟨s, x, rfl, hx, hP, hall⟩)
      | false =>
        simp (maxSteps := 1000000) [go_sem, hw_s]
        refine hK (s + 1) _ _ (by omega) (by simp [upF, Fr.get, Up.refl]) ⟨by omega, hp.trans hp2, ?_⟩
        intro y hy
        rw [htk, List.mem_append] at hy
        rcases hy with hy | hy
        · exact hall y hy
        · simp at hy; subst hy; exact hP
    · have : s = xs.length := by omega
      subst this
      rw [List.take_length] at hall
      simp (maxSteps := 1000000) [go_sem]
      exact h H' (-1) hp (.inl ⟨rfl, hall⟩)
theorem containsFuncL_ok {H : Heap} {u : Value} {xs : List (List Int)} {g : FuncId} {fs cs : List Value} {P : List Int → Bool} (hu : IntssAt H u xs) (hl : xs.length ≤ 140737488355328) (hf : TellsL g fs cs (· ∈ xs) P H) (Post : Value → Heap → Prop)
    (h : ∀ H', H <+: H' → Post (.bool (xs.any P)) H') : ACalls Try.prog 94 [u, .func (.func g) fs.toArray cs.toArray] H Post := by
  refine acalls_vc (rs := [.tmp 4]) Try.func94 rfl rfl Try.ntmps94 rfl rfl ?_
  simp (maxSteps := 1000000) [go_sem]
  refine indexFuncL_ok hu hl hf _ ?_
  intro H' n hp hn
  have e := hn.pos
  simp (maxSteps := 1000000) [go_sem, e]
  exact h H' hp


end Go.Proofs.Ytdfeoccjllljiaa
end

section
/- Squares: the tested program's side. -/
set_option linter.all false
set_option maxRecDepth 20000
set_option maxHeartbeats 8000000
namespace Go.Proofs.Ytdfeoccjllljiaa
open Go.Ab Go.Sort

theorem isRow_ok {H : Heap} {u : Value} {xs : List Int} {n : Nat} (hu : IntsAt H u xs) (hl : xs.length ≤ 1048576) (hn : n ≤ 1000) (Post : Value → Heap → Prop) (h : ∀ H' b, H <+: H' → (b = true ↔ OrdL n xs) → Post (.bool b) H') :
    ACalls Try.prog 96 [u, .int .i64 n] H Post := by
  refine acalls_vc (rs := [.tmp 4]) Try.func96 rfl rfl Try.ntmps96 rfl rfl ?_
  simp (maxSteps := 1000000) [go_sem]
  refine isOrder_ok hu hl (by omega) _ ?_
  intro H' b hp hb
  simp (maxSteps := 1000000) [go_sem]
  exact h H' b hp hb

theorem column_ok {H : Heap} {u : Value} {sq : List (List Int)} {k : Nat} (hu : IntssAt H u sq) (hl : sq.length ≤ 1048576) (hk : ∀ x, x < sq.length → k < (rowN sq x).length) (Post : Value → Heap → Prop) (h : ∀ H' w, H <+: H' → IntsIn H.length H'.length H' w (colN sq k) → Post w H') :
    ACalls Try.prog 97 [u, .int .i64 k] H Post := by
  obtain ⟨i, o, rfl⟩ : ∃ i o, u = lv 1 i o sq.length := by obtain ⟨i, o, _, e, _⟩ := hu; exact ⟨i, o, e⟩
  refine ACalls.res ?_
  refine acalls_vc (rs := [.tmp 4]) Try.func97 rfl rfl Try.ntmps97 rfl rfl ?_
  simp (maxSteps := 1000000) [go_sem]
  refine AWp.addGhost ?_
  have hbl0 := Bl.ghost 1 H
  generalize H ++ [(⟨[], false, false⟩ : Blk)] = HG at hbl0 ⊢
  refine AWp.loopVc (St := Nat × Nat) (fun s => [(1, .int .i64 k), (5, lv 1 s.2 0 s.1), (8, lv 1 i o sq.length), (9, .int .i64 sq.length), (10, .int .i64 s.1)])
    (fun s H' => s.1 ≤ sq.length ∧ Bl 1 H H' s.2 (ints ((colN sq k).take s.1)) s.1) (fun s => sq.length - s.1) (0, H.length) ?_ ?_ ?_
  · simp [upF, Fr.get, Up.refl, Up.nil]
  · exact ⟨by simp, by simpa [ints] using hbl0⟩
  · rintro K ⟨s, id⟩ H' ⟨hs, hbl⟩ hK
    simp only at hs hbl
    by_cases hlt : s < sq.length
    · obtain ⟨i2, o2, e2, hrow⟩ := row_at hu hlt
      obtain ⟨rfl, rfl⟩ := lv_inj e2
      obtain ⟨i', o', c1, hr⟩ := hrow hbl.1
      have hx := rowN_in hlt
      rw [List.getElem?_eq_getElem hlt] at hx
      have hx := Option.some.inj hx
      rw [hx] at c1 hr
      have hks := hk s hlt
      obtain ⟨_, _, e3, hat, _⟩ := hr
      obtain ⟨rfl, rfl⟩ := lv_inj e3
      have c2 := hat.cell (k := k) (v := .int .i64 (nthN (rowN sq s) k)) (by simp [ints, nthN_in hks])
      generalize hm : (rowN sq s).length = m at *
      have hw_s : IntKind.i64.wrap ((s : Int) + 1) = (s : Int) + 1 := i64w (by omega) (by omega)
      have hcs : (colN sq k).take (s + 1) = (colN sq k).take s ++ [nthN (rowN sq s) k] := by
        have e := colN_get (k := k) hlt
        rw [List.take_succ, e]; rfl
      obtain ⟨hsrc, H5, hap, hbl5⟩ := hbl.push (xs := [.int .i64 (nthN (rowN sq s) k)]) (by omega) rfl
      simp (maxSteps := 1000000) [go_sem, hlt, c1, c2, hks, hw_s, hsrc, hap]
      refine andK_intro (by omega) (hK (s + 1, H'.length + 1) _ _ (by simp only; omega) (by simp [upF, Fr.get, Up.refl]) ⟨by simp only; omega, ?_⟩)
      simp only [hcs, ints, List.map_append]
      exact hbl5
    · have : s = sq.length := by omega
      subst this
      rw [List.take_of_length_le (by rw [colN_length]; exact Nat.le_refl _)] at hbl
      simp (maxSteps := 1000000) [go_sem]
      refine ⟨_, Up.refl _ _, h H' _ hbl.1 ?_⟩
      have hol := hbl.2.1
      have := OwnInts.inn (OwnInts.of_ol (H := H') (id := id) (xs := colN sq k) (by rw [colN_length]; exact hol) (by rw [colN_length]; omega)) hbl.2.2
      rw [colN_length] at this
      exact this

theorem implIsSquare_ok {H : Heap} {u : Value} {sq : List (List Int)} (hu : IntssAt H u sq) (hl : sq.length + sq.flatten.length ≤ 1048576) (h64 : ∀ xs ∈ sq, ∀ x ∈ xs, In64 x) (Post : Value → Heap → Prop) (h : ∀ H', H <+: H' → Post (.bool (sqB sq)) H') :
    ACalls Try.prog 38 [u] H Post := by
  obtain ⟨i, o, rfl⟩ : ∃ i o, u = lv 1 i o sq.length := by obtain ⟨i, o, _, e, _⟩ := hu; exact ⟨i, o, e⟩
  have hrl : ∀ r ∈ sq, r.length ≤ 1048576 := by
    intro r hr
    obtain ⟨s, hs⟩ := List.mem_iff_getElem?.1 hr
    have := off_le' hs; omega
  refine acalls_vc (rs := [.tmp 2]) Try.func38 rfl rfl Try.ntmps38 rfl rfl ?_
  simp (maxSteps := 1000000) [go_sem]
  have hp0 : H <+: H ++ [⟨[.int .i64 sq.length], true, true⟩] := List.prefix_append _ _
  have hx0 := Holds.last H [.int .i64 sq.length]
  generalize H ++ [(⟨[.int .i64 sq.length], true, true⟩ : Blk)] = H0 at hp0 hx0 ⊢
  have ld : ∀ {H' : Heap}, H0 <+: H' → cellsAt H' H.length 0 1 = some [.int .i64 sq.length] := fun hp => (hx0.pre hp).cell (o := 0) rfl
  refine within_ok _ ?_
  by_cases hin : 2 ≤ sq.length ∧ sq.length ≤ 5
  · have e1 : (decide ((2 : Int) ≤ sq.length) && decide ((sq.length : Int) ≤ 5)) = true := by simp; omega
    rw [e1]
    simp (maxSteps := 1000000) [go_sem]
    refine containsFuncL_ok (fs := []) (cs := [.pointer (some ⟨H.length, 0, none⟩)]) (P := fun r => !ordB sq.length r) (hu.pre hp0) (by omega) ?_ _ ?_
    · intro H' w x Post hp hx hw hP
      show ACalls Try.prog 95 [w, .pointer (some ⟨H.length, 0, none⟩)] H' Post
      refine acalls_vc (rs := [.tmp 3]) Try.func95 rfl rfl Try.ntmps95 rfl rfl ?_
      have l0 := ld hp
      simp (maxSteps := 1000000) [go_sem, l0]
      refine isRow_ok hw (hrl x hx) (by omega) _ ?_
      intro H2 b hp2 hb
      have fin := hP H2 hp2
      simp only [← ordB_eq hb] at fin
      cases b <;> (simp (maxSteps := 1000000) [go_sem]; exact fin)
    · intro H1 hp1
      by_cases hall : ∀ r ∈ sq, OrdL sq.length r
      · have ea : (sq.any fun r => !ordB sq.length r) = false := by
          rw [List.any_eq_false]
          intro r hr
          simp [ordB_iff.2 (hall r hr)]
        rw [ea]
        have l1 := ld hp1
        simp (maxSteps := 1000000) [go_sem, l1]
        have hall' := rows_all.1 hall
        refine AWp.loopVc (St := Nat) (fun s => [(0, lv 1 i o sq.length), (3, .pointer (some ⟨H.length, 0, none⟩)), (15, .int .i64 sq.length), (16, .int .i64 s)])
          (fun s H' => s ≤ sq.length ∧ H0 <+: H' ∧ ∀ k, k < s → OrdL sq.length (colN sq k)) (fun s => sq.length - s) 0 ?_ ?_ ?_
        · simp [upF, Fr.get, Up.refl]
        · exact ⟨by omega, hp1, fun k hk => by omega⟩
        · rintro K s H' ⟨hs, hp, hcs⟩ hK
          by_cases hlt : s < sq.length
          · have hw_s : IntKind.i64.wrap ((s : Int) + 1) = (s : Int) + 1 := i64w (by omega) (by omega)
            simp (maxSteps := 1000000) [go_sem, hlt]
            have l0 := ld hp
            refine AWp.draw mixed [(0, false), (1, false), (3, false), (2, true), (4, false), (5, false)] (by kernel_rfl) ?_
            simp (maxSteps := 1000000) [go_sem, l0]
            refine column_ok (k := s) (hu.pre (hp0.trans hp)) (by omega) (fun x hx => by have := (hall' x hx).1; omega) _ ?_
            intro H2 w hp2 hw
            have l2 := ld (hp.trans hp2)
            simp (maxSteps := 1000000) [go_sem, l2, hp2]
            refine isRow_ok hw.read (by rw [colN_length]; omega) (by omega) _ ?_
            intro H3 b hp3 hb
            cases b with
            | false =>
              have fin := h H3 (hp0.trans (hp.trans (hp2.trans hp3)))
              rw [sqB_no (fun hh => by have := hb.2 (hh.2.2 s hlt); cases this)] at fin
              simp (maxSteps := 1000000) [go_sem, hp3]
              exact fin
            | true =>
              simp (maxSteps := 1000000) [go_sem, hp3, hw_s]
              refine hK (s + 1) _ _ (by omega) (by simp [upF, Fr.get, Up.refl]) ⟨by omega, hp.trans (hp2.trans hp3), fun k hk => ?_⟩
              by_cases hks : k = s
              · subst hks; exact hb.1 rfl
              · exact hcs k (by omega)
          · have : s = sq.length := by omega
            subst this
            have fin := h H' (hp0.trans hp)
            rw [sqB_yes ⟨hin, hall', hcs⟩] at fin
            simp (maxSteps := 1000000) [go_sem]
            exact fin
      · have ea : (sq.any fun r => !ordB sq.length r) = true := by
          rw [List.any_eq_true]
          obtain ⟨r, hr⟩ := Classical.not_forall.1 hall
          obtain ⟨hr, hno⟩ := Classical.not_imp.1 hr
          exact ⟨r, hr, by simpa using fun e => hno (ordB_iff.1 e)⟩
        rw [ea]
        have fin := h H1 (hp0.trans hp1)
        rw [sqB_no (fun hh => hall (rows_all.2 hh.2.1))] at fin
        simp (maxSteps := 1000000) [go_sem]
        exact fin
  · have e1 : (decide ((2 : Int) ≤ sq.length) && decide ((sq.length : Int) ≤ 5)) = false := by
      rw [Bool.and_eq_false_iff, decide_eq_false_iff_not, decide_eq_false_iff_not]; omega
    rw [e1]
    have fin := h H0 hp0
    rw [sqB_no (fun hh => hin hh.1)] at fin
    simp (maxSteps := 1000000) [go_sem, undef]
    exact fin

end Go.Proofs.Ytdfeoccjllljiaa
end

section
/- Squares: the specification's side. -/
set_option linter.all false
set_option maxRecDepth 20000
set_option maxHeartbeats 8000000
namespace Go.Proofs.Ytdfeoccjllljiaa
open Go.Ab Go.Sort

theorem sq_row {H : Heap} {i o : Nat} {sq : List (List Int)} (hu : IntssAt H (lv 1 i o sq.length) sq) {x : Nat} (hx : x < sq.length) : ∀ {H' : Heap}, H <+: H' → ∃ i' o', cellsAt H' i (o + x) 1 = some [lv 1 i' o' (rowN sq x).length] ∧ At H' i' o' (ints (rowN sq x)) := by
  intro H' hp
  obtain ⟨i2, o2, e2, hrow⟩ := row_at hu hx
  obtain ⟨rfl, rfl⟩ := lv_inj e2
  obtain ⟨i', o', c1, hr⟩ := hrow hp
  have hx2 := rowN_in hx
  rw [List.getElem?_eq_getElem hx] at hx2
  rw [Option.some.inj hx2] at c1 hr
  obtain ⟨_, _, e3, hat, _⟩ := hr
  obtain ⟨rfl, rfl⟩ := lv_inj e3
  exact ⟨i', o', c1, hat⟩
theorem sq_at {H : Heap} {i o : Nat} {sq : List (List Int)} {x y : Nat} (hat : At H i o (ints (rowN sq x))) (hy : y < (rowN sq x).length) : cellsAt H i (o + y) 1 = some [.int .i64 (atN sq x y)] :=
  hat.cell (by simp [ints, nthN_in hy, atN])
theorem pow_i64 {n : Nat} (h : n < 60) : IntKind.i64.wrap ((2 : Int) ^ n) = ((2 ^ n : Nat) : Int) := by
  have hm2 : 2 ^ n < 2 ^ 62 := Nat.pow_lt_pow_right (by omega) (by omega)
  have e : ((2 : Int) ^ n) = ((2 ^ n : Nat) : Int) := by rw [Int.natCast_pow]; rfl
  rw [e]
  obtain ⟨T, hT⟩ : ∃ T, 2 ^ n = T := ⟨_, rfl⟩
  rw [hT] at hm2 ⊢
  exact i64w (by omega) (by omega)

theorem l02Square_ok {H : Heap} {u : Value} {sq : List (List Int)} (hu : IntssAt H u sq) (hl : sq.length + sq.flatten.length ≤ 1048576) (Post : Value → Heap → Prop) (h : ∀ H', H <+: H' → Post (.bool (sqB sq)) H') :
    ACalls Try.prog 92 [u] H Post := by
  obtain ⟨i, o, rfl⟩ : ∃ i o, u = lv 1 i o sq.length := by obtain ⟨i, o, _, e, _⟩ := hu; exact ⟨i, o, e⟩
  have hrl : ∀ r ∈ sq, r.length ≤ 1048576 := by
    intro r hr
    obtain ⟨s, hs⟩ := List.mem_iff_getElem?.1 hr
    have := off_le' hs; omega
  have hrow := @sq_row H i o sq hu
  refine acalls_vc (rs := [.tmp 2]) Try.func92 rfl rfl Try.ntmps92 rfl rfl ?_
  simp (maxSteps := 1000000) [go_sem]
  refine l01In_ok _ ?_
  by_cases hin : 2 ≤ sq.length ∧ sq.length ≤ 5
  · have e1 : (decide ((2 : Int) ≤ sq.length) && decide ((sq.length : Int) ≤ 5)) = true := by simp; omega
    rw [e1]
    simp (maxSteps := 1000000) [go_sem]
    obtain ⟨n, hn⟩ : ∃ n, sq.length = n := ⟨_, rfl⟩
    rw [hn] at hin hrow ⊢
    refine AWp.loopVc (St := Nat) (fun s => [(0, lv 1 i o n), (3, .int .i64 n), (4, .int .i64 s)])
      (fun s H' => s ≤ n ∧ H' = H ∧ ∀ x, x < s → (rowN sq x).length = n) (fun s => n - s) 0 ?_ ?_ ?_
    · simp [upF, Fr.get, Up.refl]
    · exact ⟨by omega, rfl, fun x hx => by omega⟩
    · rintro K s H' ⟨hs, rfl, hlen⟩ hK
      by_cases hlt : s < n
      · obtain ⟨i', o', c1, hat⟩ := hrow hlt (List.prefix_refl H')
        have hw_s : IntKind.i64.wrap ((s : Int) + 1) = (s : Int) + 1 := i64w (by omega) (by omega)
        by_cases hls : (rowN sq s).length = n
        · have hb : (((rowN sq s).length : Int) != (n : Int)) = false := by rw [bne_eq_false_iff_eq]; omega
          simp (maxSteps := 1000000) [go_sem, hlt, c1, hb, hw_s]
          refine hK (s + 1) _ _ (by omega) (by simp [upF, Fr.get, Up.refl]) ⟨by omega, rfl, fun x hx => ?_⟩
          by_cases hxs : x = s
          · subst hxs; exact hls
          · exact hlen x (by omega)
        · have hb : (((rowN sq s).length : Int) != (n : Int)) = true := by rw [bne_iff_ne]; omega
          have fin := h H' (List.prefix_refl _)
          rw [sqB_no (fun hh => hls (by have := (hh.2.1 s (by omega)).1; omega))] at fin
          simp (maxSteps := 1000000) [go_sem, hlt, c1, hb]
          exact fin
      · have : s = n := by omega
        subst this
        simp (maxSteps := 1000000) [go_sem]
        have wn : IntKind.i64.wrap ((s : Int) - 1) = (s : Int) - 1 := i64w (by omega) (by omega)
        have hcl : ∀ k, (colN sq k).length = s := fun k => by rw [colN_length, hn]
        refine AWp.loopVc (St := Nat) (fun x => [(0, lv 1 i o s), (3, .int .i64 s), (5, .int .i64 x)])
          (fun x H2 => x ≤ s ∧ H2 = H' ∧ ∀ j, j < x → OrdL s (rowN sq j) ∧ OrdL s (colN sq j)) (fun x => s - x) 0 ?_ ?_ ?_
        · simp [upF, Fr.get, Up.refl]
        · exact ⟨by omega, rfl, fun x hx => by omega⟩
        · rintro K2 x H2 ⟨hx, rfl, hor⟩ hK2
          by_cases hxs : x < s
          · obtain ⟨ix, ox, cx, hatx⟩ := hrow hxs (List.prefix_refl H2)
            rw [hlen x hxs] at cx
            have hw_x : IntKind.i64.wrap ((x : Int) + 1) = (x : Int) + 1 := i64w (by omega) (by omega)
            simp (maxSteps := 1000000) [go_sem, hxs]
            refine AWp.loopVc (St := Nat) (fun y => [(0, lv 1 i o s), (3, .int .i64 s), (5, .int .i64 x), (6, .int .i64 (maskL ((rowN sq x).take y))), (7, .int .i64 (maskL ((colN sq x).take y))), (8, .int .i64 y)])
              (fun y H3 => y ≤ s ∧ H3 = H2 ∧ (∀ j, j < y → 0 ≤ nthN (rowN sq x) j ∧ nthN (rowN sq x) j < s) ∧ ∀ j, j < y → 0 ≤ nthN (colN sq x) j ∧ nthN (colN sq x) j < s) (fun y => s - y) 0 ?_ ?_ ?_
            · simp [upF, Fr.get, Up.refl, maskL]
            · exact ⟨by omega, rfl, fun j hj => by omega, fun j hj => by omega⟩
            · rintro K3 y H3 ⟨hy, rfl, hr1, hc1⟩ hK3
              by_cases hys : y < s
              · obtain ⟨iy, oy, cy, haty⟩ := hrow hys (List.prefix_refl H3)
                rw [hlen y hys] at cy
                have lxy := sq_at hatx (y := y) (by rw [hlen x hxs]; exact hys)
                have lyx := sq_at haty (y := x) (by rw [hlen y hys]; exact hxs)
                have exy : nthN (rowN sq x) y = atN sq x y := rfl
                have eyx : nthN (colN sq x) y = atN sq y x := by
                  have e := nthN_in (xs := colN sq x) (k := y) (by rw [hcl]; exact hys)
                  rw [colN_get (by omega)] at e
                  exact (Option.some.inj e).symm
                have mr := mask_step (xs := rowN sq x) (y := y) (by rw [hlen x hxs]; exact hys)
                have mc := mask_step (xs := colN sq x) (y := y) (by rw [hcl]; exact hys)
                rw [exy] at mr
                rw [eyx] at mc
                have hw_y : IntKind.i64.wrap ((y : Int) + 1) = (y : Int) + 1 := i64w (by omega) (by omega)
                simp (maxSteps := 1000000) [go_sem, hys, hxs, cx, lxy, wn]
                refine l01In_ok _ ?_
                by_cases hi1 : 0 ≤ atN sq x y ∧ atN sq x y ≤ (s : Int) - 1
                · have f1 : (decide (0 ≤ atN sq x y) && decide (atN sq x y ≤ (s : Int) - 1)) = true := by simp [hi1]
                  rw [f1]
                  simp (maxSteps := 1000000) [go_sem, hys, hxs, cy, lyx, wn]
                  refine l01In_ok _ ?_
                  by_cases hi2 : 0 ≤ atN sq y x ∧ atN sq y x ≤ (s : Int) - 1
                  · have f2 : (decide (0 ≤ atN sq y x) && decide (atN sq y x ≤ (s : Int) - 1)) = true := by simp [hi2]
                    rw [f2]
                    obtain ⟨a, ha⟩ : ∃ a : Nat, atN sq x y = a := ⟨(atN sq x y).toNat, by omega⟩
                    obtain ⟨b, hb⟩ : ∃ b : Nat, atN sq y x = b := ⟨(atN sq y x).toNat, by omega⟩
                    rw [ha] at lxy mr hi1
                    rw [hb] at lyx mc hi2
                    rw [Int.toNat_natCast] at mr mc
                    have hm1 : maskL ((rowN sq x).take y) < 2 ^ 62 := Nat.lt_of_lt_of_le (maskL_lt (take_in hr1)) (Nat.pow_le_pow_right (by omega) (by omega))
                    have hm2 : maskL ((colN sq x).take y) < 2 ^ 62 := Nat.lt_of_lt_of_le (maskL_lt (take_in hc1)) (Nat.pow_le_pow_right (by omega) (by omega))
                    have hpa : 2 ^ a < 2 ^ 62 := Nat.pow_lt_pow_right (by omega) (by omega)
                    have hpb : 2 ^ b < 2 ^ 62 := Nat.pow_lt_pow_right (by omega) (by omega)
                    have ua : IntKind.u64.wrap (a : Int) = a := by rw [IntKind.wrap_u64]; omega
                    have ub : IntKind.u64.wrap (b : Int) = b := by rw [IntKind.wrap_u64]; omega
                    have na : min a 64 = a := by omega
                    have nb : min b 64 = b := by omega
                    have sa := pow_i64 (n := a) (by omega)
                    have sb := pow_i64 (n := b) (by omega)
                    have oa := or_i64w hm1 hpa
                    have ob := or_i64w hm2 hpb
                    rw [← mr] at oa
                    rw [← mc] at ob
                    generalize hA : 2 ^ a = A at *
                    generalize hB : 2 ^ b = B at *
                    have hA2 : ((2 : Int) ^ a) = (A : Int) := by rw [← hA, Int.natCast_pow]; rfl
                    have hB2 : ((2 : Int) ^ b) = (B : Int) := by rw [← hB, Int.natCast_pow]; rfl
                    simp (maxSteps := 1000000) [go_sem, hys, hxs, cx, cy, lxy, lyx, ua, ub, na, nb, sa, sb, oa, ob, hw_y]
                    refine hK3 (y + 1) _ _ (by omega) (by simp [upF, Fr.get, Up.refl]) ⟨by omega, rfl, fun j hj => ?_, fun j hj => ?_⟩
                    · by_cases hjy : j = y
                      · subst hjy; rw [exy]; omega
                      · exact hr1 j (by omega)
                    · by_cases hjy : j = y
                      · subst hjy; rw [eyx]; omega
                      · exact hc1 j (by omega)
                  · have f2 : (decide (0 ≤ atN sq y x) && decide (atN sq y x ≤ (s : Int) - 1)) = false := by
                      rw [Bool.and_eq_false_iff, decide_eq_false_iff_not, decide_eq_false_iff_not]; omega
                    rw [f2]
                    have fin := h H3 (List.prefix_refl _)
                    rw [sqB_no (fun hh => by have := hh.2.2 x (by omega); rw [hn] at this; have := ordL_in this hys; rw [eyx] at this; omega)] at fin
                    simp (maxSteps := 1000000) [go_sem]
                    exact fin
                · have f1 : (decide (0 ≤ atN sq x y) && decide (atN sq x y ≤ (s : Int) - 1)) = false := by
                    rw [Bool.and_eq_false_iff, decide_eq_false_iff_not, decide_eq_false_iff_not]; omega
                  rw [f1]
                  have fin := h H3 (List.prefix_refl _)
                  rw [sqB_no (fun hh => by have := hh.2.1 x (by omega); rw [hn] at this; have := ordL_in this hys; rw [exy] at this; omega)] at fin
                  simp (maxSteps := 1000000) [go_sem, undef]
                  exact fin
              · have : y = s := by omega
                subst this
                have er : (rowN sq x).take y = rowN sq x := List.take_of_length_le (by rw [hlen x hxs]; exact Nat.le_refl _)
                have ec : (colN sq x).take y = colN sq x := List.take_of_length_le (by rw [hcl]; exact Nat.le_refl _)
                rw [er, ec]
                have hr2 : ∀ z ∈ rowN sq x, 0 ≤ z ∧ z < y := by rw [← er]; exact take_in hr1
                have hc2 : ∀ z ∈ colN sq x, 0 ≤ z ∧ z < y := by rw [← ec]; exact take_in hc1
                have kr := ordL_mask (hlen x hxs) hr2
                have kc := ordL_mask (hcl x) hc2
                have hpy : 2 ^ y < 2 ^ 62 := Nat.pow_lt_pow_right (by omega) (by omega)
                have hpy0 : 0 < 2 ^ y := Nat.pow_pos (by omega)
                have uy : IntKind.u64.wrap (y : Int) = y := by rw [IntKind.wrap_u64]; omega
                have ny : min y 64 = y := by omega
                have sy := pow_i64 (n := y) (by omega)
                generalize maskL (rowN sq x) = R at *
                generalize maskL (colN sq x) = C at *
                generalize hY : 2 ^ y = Y at *
                have hY2 : ((2 : Int) ^ y) = (Y : Int) := by rw [← hY, Int.natCast_pow]; rfl
                have wY : IntKind.i64.wrap ((Y : Int) - 1) = (Y : Int) - 1 := i64w (by omega) (by omega)
                by_cases hR : R = Y - 1
                · have hRb : ((R : Int) != (Y : Int) - 1) = false := by rw [bne_eq_false_iff_eq]; omega
                  by_cases hC : C = Y - 1
                  · have hCb : ((C : Int) != (Y : Int) - 1) = false := by rw [bne_eq_false_iff_eq]; omega
                    simp (maxSteps := 1000000) [go_sem, uy, ny, sy, wY, hRb, hCb, hw_x]
                    refine hK2 (x + 1) _ _ (by omega) (by simp [upF, Fr.get, Up.refl]) ⟨by omega, rfl, fun j hj => ?_⟩
                    by_cases hjx : j = x
                    · subst hjx; exact ⟨kr.2 hR, kc.2 hC⟩
                    · exact hor j (by omega)
                  · have hCb : ((C : Int) != (Y : Int) - 1) = true := by rw [bne_iff_ne]; omega
                    have fin := h H3 (List.prefix_refl _)
                    rw [sqB_no (fun hh => by have := hh.2.2 x (by omega); rw [hn] at this; exact hC (kc.1 this))] at fin
                    simp (maxSteps := 1000000) [go_sem, uy, ny, sy, wY, hRb, hCb]
                    exact fin
                · have hRb : ((R : Int) != (Y : Int) - 1) = true := by rw [bne_iff_ne]; omega
                  have fin := h H3 (List.prefix_refl _)
                  rw [sqB_no (fun hh => by have := hh.2.1 x (by omega); rw [hn] at this; exact hR (kr.1 this))] at fin
                  simp (maxSteps := 1000000) [go_sem, undef, uy, ny, sy, wY, hRb]
                  exact fin
          · have : x = s := by omega
            subst this
            have fin := h H2 (List.prefix_refl _)
            rw [sqB_yes ⟨by omega, fun j hj => by rw [hn]; exact (hor j (by omega)).1, fun j hj => by rw [hn]; exact (hor j (by omega)).2⟩] at fin
            simp (maxSteps := 1000000) [go_sem]
            exact fin
  · have e1 : (decide ((2 : Int) ≤ sq.length) && decide ((sq.length : Int) ≤ 5)) = false := by
      rw [Bool.and_eq_false_iff, decide_eq_false_iff_not, decide_eq_false_iff_not]; omega
    rw [e1]
    have fin := h H (List.prefix_refl _)
    rw [sqB_no (fun hh => hin hh.1)] at fin
    simp (maxSteps := 1000000) [go_sem]
    exact fin

end Go.Proofs.Ytdfeoccjllljiaa
end

section
/- Arguments that are lists of blocks or lists of lists of numbers: their shapes, the guards on their size, their copies. -/
set_option linter.all false
set_option maxRecDepth 20000
set_option maxHeartbeats 4000000
namespace Go.Proofs.Ytdfeoccjllljiaa
open Go.Ab

theorem szIntss0_ok {H : Heap} {u : Value} {xss : List (List Int)} {k : Int} (hu : IntssAt0 H u xss) (hk0 : 0 ≤ k) (hk : k ≤ 1048576) (Post : Value → Heap → Prop)
    (h : Post (.int .i64 (if k < (xss.length + xss.flatten.length : Nat) then -1 else k - (xss.length + xss.flatten.length : Nat))) H) :
    ACalls Try.prog 35 [u, .int .i64 k] H Post := by
  obtain ⟨i, o, vs, rfl, hvl, h1, h2, h3⟩ := hu
  refine acalls_vc (rs := [.tmp 4]) Try.func35 rfl rfl Try.ntmps35 rfl rfl ?_
  have hw : IntKind.i64.wrap (k - xss.length) = k - xss.length := i64w (by omega) (by omega)
  by_cases hlt : k < xss.length
  · rw [if_pos (by omega)] at h
    have hlt' : decide (k - (xss.length : Int) < 0) = true := decide_eq_true (by omega)
    simp (maxSteps := 1000000) [go_sem, hw, hlt', hlt]
    exact h
  have hlt' : decide (k - (xss.length : Int) < 0) = false := decide_eq_false (by omega)
  simp (maxSteps := 1000000) [go_sem, hw, hlt', hlt]
  refine AWp.loopVc (St := Nat) (fun s => [(0, lv 1 i o xss.length), (1, .int .i64 (k - xss.length - (off xss s : Nat))), (5, .int .i64 s)])
    (fun s H' => s ≤ xss.length ∧ H' = H ∧ (off xss s : Int) ≤ k - xss.length) (fun s => xss.length - s) 0 ?_ ?_ ?_
  · simp [upF, Fr.get, Up.refl, off_zero]
  · exact ⟨by omega, rfl, by rw [off_zero]; omega⟩
  · rintro K s H' ⟨hs, rfl, ho⟩ hK
    by_cases hls : s < xss.length
    · have hx := List.getElem?_eq_getElem hls
      have hv := List.getElem?_eq_getElem (show s < vs.length by omega)
      have hz := h2 s _ _ hv hx
      obtain ⟨xs, hxs⟩ : ∃ xs, xss[s] = xs := ⟨_, rfl⟩
      rw [hxs] at hx hz
      have hos := off_succ hx
      have hol := off_le' hx
      have c1 := h1.cell hv
      obtain ⟨v, hvv⟩ : ∃ v, vs[s]'(by omega) = v := ⟨_, rfl⟩
      rw [hvv] at c1 hz
      have hzo := hz
      obtain ⟨j, q, rfl, _, _⟩ := hzo
      have hw_s : IntKind.i64.wrap ((s : Int) + 1) = (s : Int) + 1 := i64w (by omega) (by omega)
      simp (maxSteps := 1000000) [go_sem, hls, c1]
      refine szInt64S0_ok hz (by omega) (by omega) _ ?_
      by_cases hb : k - (xss.length : Int) - (off xss s : Nat) < xs.length
      · rw [if_pos hb]
        rw [if_pos (by omega)] at h
        simp (maxSteps := 1000000) [go_sem]
        exact h
      · rw [if_neg hb]
        have hb' : decide (k - (xss.length : Int) - (off xss s : Nat) - (xs.length : Int) < 0) = false := decide_eq_false (by omega)
        simp (maxSteps := 1000000) [go_sem, hb', hw_s, hb]
        refine hK (s + 1) _ _ (by omega) ?_ ⟨by omega, rfl, by omega⟩
        have e : k - (xss.length : Int) - (off xss (s + 1) : Nat) = k - (xss.length : Int) - (off xss s : Nat) - (xs.length : Int) := by omega
        simp [upF, Fr.get, Up.refl, e]
    · have : s = xss.length := by omega
      subst this
      rw [off_all] at ho ⊢
      rw [if_neg (by omega)] at h
      obtain ⟨T, hT⟩ : ∃ T, xss.flatten.length = T := ⟨_, rfl⟩
      rw [hT] at h ⊢
      simp (maxSteps := 1000000) [go_sem]
      have e : k - ((xss.length + T : Nat) : Int) = k - (xss.length : Int) - (T : Nat) := by omega
      rw [e] at h
      exact h

theorem intss_at0 {H : Heap} {v : Value} {xss : List (List Int)} (h : IntssAt0 H v xss) (hl : xss.length + xss.flatten.length ≤ 1048576) : IntssAt H v xss :=
  h.at (by omega) fun xs hx => by
    obtain ⟨s, hs⟩ := List.mem_iff_getElem?.1 hx
    have := off_le' hs; omega

theorem toIntss_ok {H : Heap} {u : Value} {xss : List (List Int)} (hu : IntssAt H u xss) (hl : xss.length + xss.flatten.length ≤ 1048576) (Post : Value → Heap → Prop) (h : ∀ H' v, H <+: H' → RowsIn H.length H'.length H' v xss → Post v H') :
    ACalls Try.prog 37 [u] H Post := by
  obtain ⟨i, o, vs, rfl, hvl, h1, h2, h3⟩ := hu
  refine ACalls.res ?_
  refine acalls_vc (rs := [.tmp 2]) Try.func37 rfl rfl Try.ntmps37 rfl rfl ?_
  have hm : ∀ n, (madeCells #[Value.slice none 0 0] n).toList = List.replicate n (.slice none 0 0) := by
    intro n
    rw [made_same (v := .slice none 0 0) (by simp) (by intro i hi; simp at hi; subst hi; rfl)]
  simp (maxSteps := 1000000) [go_sem, hm]
  refine andK_intro (by omega) ?_
  have hlast : (H ++ [(⟨List.replicate xss.length (.slice none 0 0), true, true⟩ : Blk)])[H.length]? = some ⟨List.replicate xss.length (.slice none 0 0), true, true⟩ := by simp
  have hpl : H <+: H ++ [⟨List.replicate xss.length (.slice none 0 0), true, true⟩] := List.prefix_append _ _
  have hlen0 : (H ++ [(⟨List.replicate xss.length (.slice none 0 0), true, true⟩ : Blk)]).length = H.length + 1 := by simp
  generalize H ++ [(⟨List.replicate xss.length (.slice none 0 0), true, true⟩ : Blk)] = H0 at hlast hpl hlen0 ⊢
  refine AWp.loopVc (St := Nat × List (Nat × List Int)) (fun s => [(0, lv 1 i o xss.length), (3, .slice (some ⟨H.length, 0, none⟩) xss.length xss.length), (4, .int .i64 s.1)])
    (fun s H' => s.1 ≤ xss.length ∧ H <+: H' ∧ s.2.map (·.2) = xss.take s.1 ∧ H'[H.length]? = some ⟨s.2.map rowVal ++ List.replicate (xss.length - s.1) (.slice none 0 0), true, true⟩ ∧ Rows1 H' s.2 ∧ ∀ r ∈ s.2, r.2 ≠ [] → H.length < r.1 ∧ r.1 < H'.length)
    (fun s => xss.length - s.1) (0, []) ?_ ?_ ?_
  · simp [upF, Fr.get, Up.refl]
  · exact ⟨by simp, hpl, by simp, by simpa using hlast, ⟨by simp, by simp⟩, by simp⟩
  · rintro K ⟨s, rows⟩ H' ⟨hs, hp, hrm, hc, hr1, hri⟩ hK
    simp only at hs hp hrm hc hr1 hri
    have hrl : rows.length = s := by
      have := congrArg List.length hrm
      simp only [List.length_map, List.length_take] at this; omega
    by_cases hls : s < xss.length
    · have hx := List.getElem?_eq_getElem hls
      have hv := List.getElem?_eq_getElem (show s < vs.length by omega)
      have hz := h2 s _ _ hv hx
      obtain ⟨xs, hxs⟩ : ∃ xs, xss[s] = xs := ⟨_, rfl⟩
      rw [hxs] at hx hz
      have hol := off_le' hx
      have c1 := (h1.pre hp).cell hv
      obtain ⟨v, hvv⟩ : ∃ v, vs[s]'(by omega) = v := ⟨_, rfl⟩
      rw [hvv] at c1 hz
      have hzo := hz
      obtain ⟨j, q, rfl, _, _⟩ := hzo
      have hw_s : IntKind.i64.wrap ((s : Int) + 1) = (s : Int) + 1 := i64w (by omega) (by omega)
      simp (maxSteps := 1000000) [go_sem, hls, c1]
      refine toInt64S_ok (hz.pre hp) _ (by omega) ?_
      rintro H2 w rid hp2 hrid ⟨rfl, hown, hlx⟩
      have hlt := (List.getElem?_eq_some_iff.1 hc).1
      have hc2 := Same.get (S := fun _ => False) (Same.of_prefix hp2) hc (fun h => h)
      have hcl : s < (rows.map rowVal ++ List.replicate (xss.length - s) (Value.slice none 0 0)).length := by simp; omega
      have hset : (rows.map rowVal ++ List.replicate (xss.length - s) (Value.slice none 0 0)).set s (lv 1 rid 0 xs.length) = (rows ++ [(rid, xs)]).map rowVal ++ List.replicate (xss.length - (s + 1)) (.slice none 0 0) := by
        obtain ⟨m, hm⟩ : ∃ m, xss.length - s = m + 1 := ⟨xss.length - s - 1, by omega⟩
        have hm2 : xss.length - (s + 1) = m := by omega
        rw [hm, hm2, List.set_append, if_neg (by simp; omega), List.length_map, hrl, Nat.sub_self, List.replicate_succ, List.set_cons_zero, List.map_append, List.append_assoc]
        rfl
      have s2 : storeAt H2 H.length s [lv 1 rid 0 xs.length] = some (H2.set H.length ⟨(rows ++ [(rid, xs)]).map rowVal ++ List.replicate (xss.length - (s + 1)) (.slice none 0 0), true, true⟩) := by
        rw [storeAt_of hc2 rfl rfl (by simp only [List.length_singleton]; omega) (by simp [Value.oneCell']), over_one hcl, hset]
      have hS : Same (fun j => j = H.length) H2 (H2.set H.length ⟨(rows ++ [(rid, xs)]).map rowVal ++ List.replicate (xss.length - (s + 1)) (.slice none 0 0), true, true⟩) := Same.set
      have fin := fun fr' hf => hK (s + 1, rows ++ [(rid, xs)]) fr' (H2.set H.length ⟨(rows ++ [(rid, xs)]).map rowVal ++ List.replicate (xss.length - (s + 1)) (.slice none 0 0), true, true⟩) (by simp only; omega) hf ⟨by simp only; omega, ((Same.of_prefix (hp.trans hp2)).trans hS).prefix (by omega), by
          simp only [List.map_append, List.map_cons, List.map_nil, hrm]
          rw [List.take_succ_eq_append_getElem hls, hxs], by rw [List.getElem?_set_self (List.getElem?_eq_some_iff.1 hc2).1], ?_, ?_⟩
      · generalize H2.set H.length ⟨(rows ++ [(rid, xs)]).map rowVal ++ List.replicate (xss.length - (s + 1)) (.slice none 0 0), true, true⟩ = H3 at s2 fin
        simp (maxSteps := 1000000) [go_sem, hls, s2, hw_s]
        exact fin _ (by simp [upF, Fr.get, Up.refl])
      · have hle2 := hp2.length_le
        constructor
        · intro r hm
          rcases List.mem_append.1 hm with hm | hm
          · by_cases hne : r.2 = []
            · exact .inl hne
            · refine (hr1.1 r hm).imp (fun h => h) fun hb => ?_
              have := hri r hm hne
              exact hS.get (Same.get (S := fun _ => False) (Same.of_prefix hp2) hb (fun h => h)) (by omega)
          · simp at hm; subst hm
            refine hown.imp (fun h => h) fun hb => ?_
            exact hS.get hb (by simp only; omega)
        · intro a b r t ha hb hab hrn htn
          have key : ∀ (a : Nat) (r : Nat × List Int), (rows ++ [(rid, xs)])[a]? = some r → (a < rows.length ∧ rows[a]? = some r) ∨ (a = rows.length ∧ r = (rid, xs)) := by
            intro a r ha
            rcases Nat.lt_or_ge a rows.length with h | h
            · rw [List.getElem?_append_left h] at ha; exact .inl ⟨h, ha⟩
            · rw [List.getElem?_append_right h] at ha
              cases hk : a - rows.length with
              | zero => rw [hk] at ha; simp at ha; exact .inr ⟨by omega, ha.symm⟩
              | succ k => rw [hk] at ha; simp at ha
          rcases key a r ha with ⟨g1, g1'⟩ | ⟨g1, rfl⟩
          · rcases key b t hb with ⟨g2, g2'⟩ | ⟨g2, rfl⟩
            · exact hr1.2 a b r t g1' g2' hab hrn htn
            · have := (hri r (List.mem_of_getElem? g1') hrn).2; simp only; omega
          · rcases key b t hb with ⟨g2, g2'⟩ | ⟨g2, rfl⟩
            · have := (hri t (List.mem_of_getElem? g2') htn).2; simp only; omega
            · omega
      · intro r hm hne
        have hle2 := hp2.length_le
        rw [List.length_set]
        rcases List.mem_append.1 hm with hm | hm
        · have := hri r hm hne; omega
        · simp at hm; subst hm
          have hb := hown.resolve_left hne
          exact ⟨by simp only; omega, (List.getElem?_eq_some_iff.1 hb).1⟩
    · have : s = xss.length := by omega
      subst this
      rw [List.take_length] at hrm
      have hlt := (List.getElem?_eq_some_iff.1 hc).1
      simp only [Nat.sub_self, List.replicate_zero, List.append_nil] at hc
      have hrows : RowsIn H.length H'.length H' (lv 1 H.length 0 xss.length) xss := by
        refine ⟨H.length, rows, by rw [hrl], (Holds.at ⟨true, hc⟩), hr1, fun r hm hne => ⟨by have := hri r hm hne; omega, by have := hri r hm hne; exact ⟨by omega, this.2⟩⟩, hrm, fun _ => ⟨Nat.le_refl _, hlt⟩, by omega, by omega⟩
      simp (maxSteps := 1000000) [go_sem]
      refine ⟨lv 1 H.length 0 xss.length, Up.ex (by omega) ?_, h H' _ hp hrows⟩
      right
      have := Holds.cells (H := H') (i := H.length) (o := 0) (n := xss.length) ⟨true, hc⟩ (by simp [hrl])
      rw [Nat.mul_one, this]; rfl

end Go.Proofs.Ytdfeoccjllljiaa
end

section
/- Kinds of squares: both sides. -/
set_option linter.all false
set_option maxRecDepth 20000
set_option maxHeartbeats 8000000
namespace Go.Proofs.Ytdfeoccjllljiaa
open Go.Ab Go.Sort

def commR (n : Nat) (sq : List (List Int)) (x y : Nat) : Bool := (List.range y).all fun y => atN sq x y == atN sq y x
def commP (n : Nat) (sq : List (List Int)) (x : Nat) : Bool := (List.range x).all fun x => commR n sq x n
def idemP (sq : List (List Int)) (x : Nat) : Bool := (List.range x).all fun x : Nat => atN sq x x == (x : Int)
def halfP (n : Nat) (sq : List (List Int)) (x : Nat) : Bool := (((n % 2 : Nat) : Int) == 0) && (List.range x).all fun x : Nat => atN sq x x == ((x % (n / 2) : Nat) : Int)
theorem commR_succ (n : Nat) (sq : List (List Int)) (x y : Nat) : commR n sq x (y + 1) = (commR n sq x y && (atN sq x y == atN sq y x)) := by simp [commR, List.range_succ]
theorem commP_succ (n : Nat) (sq : List (List Int)) (x : Nat) : commP n sq (x + 1) = (commP n sq x && commR n sq x n) := by simp [commP, List.range_succ]
theorem idemP_succ (sq : List (List Int)) (x : Nat) : idemP sq (x + 1) = (idemP sq x && (atN sq x x == (x : Int))) := by simp [idemP, List.range_succ]
theorem halfP_succ (n : Nat) (sq : List (List Int)) (x : Nat) : halfP n sq (x + 1) = (halfP n sq x && (atN sq x x == ((x % (n / 2) : Nat) : Int))) := by simp [halfP, List.range_succ, Bool.and_assoc]

theorem implKinds_ok {H : Heap} {i o : Nat} {sq : List (List Int)} (hu : IntssAt H (lv 1 i o sq.length) sq) (hS : IsSq sq) (Post : Value → Heap → Prop)
    (h : Post (.tuple #[.bool (commP sq.length sq sq.length), .bool (idemP sq sq.length), .bool (halfP sq.length sq sq.length)]) H) :
    ACalls Try.prog 100 [lv 1 i o sq.length] H Post := by
  have hrow := @sq_row H i o sq hu
  obtain ⟨hin, hr, hc⟩ := hS
  have hlen : ∀ x, x < sq.length → (rowN sq x).length = sq.length := fun x hx => by have := (hr x hx).1; omega
  obtain ⟨n, hn⟩ : ∃ n, sq.length = n := ⟨_, rfl⟩
  rw [hn] at hin hrow h hlen ⊢
  obtain ⟨m, hm⟩ : ∃ m, n / 2 = m := ⟨_, rfl⟩
  refine acalls_vc (rs := [.tmp 2, .tmp 3, .tmp 4]) Try.func100 rfl rfl Try.ntmps100 rfl rfl ?_
  have w2 : IntKind.i64.wrap ((n : Int) / 2) = (m : Int) := by rw [i64w (by omega) (by omega)]; omega
  have hmx : ¬ ((m : Int) < 1) := by omega
  have hmx2 : ¬ (m < 1) := by omega
  have hm0 : ¬ (m = 0) := by omega
  have e2 : (n : Int).tmod 2 = ((n % 2 : Nat) : Int) := by rw [Int.tmod_eq_emod_of_nonneg (by omega)]; omega
  simp (maxSteps := 1000000) [go_sem, w2, hmx, hmx2, e2]
  refine AWp.loopVc (St := Nat) (fun x => [(0, lv 1 i o n), (5, .int .i64 n), (6, .int .i64 m), (7, .bool (commP n sq x)), (8, .bool (idemP sq x)), (9, .bool (halfP n sq x)), (20, .int .i64 n), (21, .int .i64 x)])
    (fun x H' => x ≤ n ∧ H' = H) (fun x => n - x) 0 ?_ ?_ ?_
  · simp [upF, Fr.get, Up.refl, commP, idemP, halfP, e2]
  · exact ⟨by omega, rfl⟩
  · rintro K x H' ⟨hx, rfl⟩ hK
    by_cases hxn : x < n
    · obtain ⟨ix, ox, cx, hatx⟩ := hrow hxn (List.prefix_refl H')
      rw [hlen x hxn] at cx
      have lxx := sq_at hatx (y := x) (by rw [hlen x hxn]; exact hxn)
      have hw_x : IntKind.i64.wrap ((x : Int) + 1) = (x : Int) + 1 := i64w (by omega) (by omega)
      obtain ⟨C, hC⟩ : ∃ C, commP n sq x = C := ⟨_, rfl⟩
      obtain ⟨I, hI⟩ : ∃ I, idemP sq x = I := ⟨_, rfl⟩
      obtain ⟨F, hF⟩ : ∃ F, halfP n sq x = F := ⟨_, rfl⟩
      rw [hC, hI, hF]
      have xm : (x : Int).tmod (m : Int) = ((x % m : Nat) : Int) := by rw [Int.tmod_eq_emod_of_nonneg (by omega)]; rfl
      simp (maxSteps := 1000000) [go_sem, hxn]
      refine AWp.loopVc (St := Nat) (fun y => [(0, lv 1 i o n), (5, .int .i64 n), (6, .int .i64 m), (7, .bool (C && commR n sq x y)), (8, .bool (I)), (9, .bool (F)), (10, .int .i64 x), (20, .int .i64 n), (21, .int .i64 x), (24, .int .i64 n), (25, .int .i64 y)])
        (fun y H2 => y ≤ n ∧ H2 = H') (fun y => n - y) 0 ?_ ?_ ?_
      · simp [upF, Fr.get, Up.refl, commR]
      · exact ⟨by omega, rfl⟩
      · rintro K2 y H2 ⟨hy, rfl⟩ hK2
        by_cases hyn : y < n
        · obtain ⟨iy, oy, cy, haty⟩ := hrow hyn (List.prefix_refl H2)
          rw [hlen y hyn] at cy
          have lxy := sq_at hatx (y := y) (by rw [hlen x hxn]; exact hyn)
          have lyx := sq_at haty (y := x) (by rw [hlen y hyn]; exact hxn)
          have hw_y : IntKind.i64.wrap ((y : Int) + 1) = (y : Int) + 1 := i64w (by omega) (by omega)
          have hR := commR_succ n sq x y
          obtain ⟨R, hRe⟩ : ∃ R, (C && commR n sq x y) = R := ⟨_, rfl⟩
          have hR2 : (C && commR n sq x (y + 1)) = (R && (atN sq x y == atN sq y x)) := by rw [hR, ← Bool.and_assoc, hRe]
          rw [hRe]
          cases R with
          | true =>
            simp (maxSteps := 1000000) [go_sem, hyn, hxn]
            refine AWp.draw mixed [(0, false), (1, false), (2, false), (3, false), (4, false), (5, false), (6, false), (7, false), (8, false), (9, false), (10, false), (11, false), (12, false), (13, false), (14, false), (15, false), (16, false), (17, false), (18, false)] (by kernel_rfl) ?_
            simp (maxSteps := 1000000) [go_sem, hxn, hyn, cx, cy, lxy, lyx, hw_y]
            exact hK2 (y + 1) _ _ (by omega) (by simp only [hR2]; simp [upF, Fr.get, Up.refl]) ⟨by omega, rfl⟩
          | false =>
            simp (maxSteps := 1000000) [go_sem, hyn, hxn]
            refine AWp.draw mixed [(0, false), (1, false), (2, false), (3, false), (4, false), (5, false), (6, false), (7, false), (8, false), (9, false), (10, false), (11, false), (12, false), (13, false), (14, false), (15, false), (16, false), (17, false), (18, false)] (by kernel_rfl) ?_
            simp (maxSteps := 1000000) [go_sem, undef, hxn, hyn, hw_y]
            exact hK2 (y + 1) _ _ (by omega) (by simp only [hR2]; simp [upF, Fr.get, Up.refl]) ⟨by omega, rfl⟩
        · have : y = n := by omega
          subst this
          have hcs : commP y sq (x + 1) = (C && commR y sq x y) := by rw [commP_succ, hC]
          have his : idemP sq (x + 1) = (I && (atN sq x x == (x : Int))) := by rw [idemP_succ, hI]
          have hhs : halfP y sq (x + 1) = (F && (atN sq x x == ((x % m : Nat) : Int))) := by rw [halfP_succ, hF, hm]
          have fin := hK (x + 1)
          simp only [hcs, his, hhs] at fin
          generalize (C && commR y sq x y) = D at *
          cases I <;> cases F
          all_goals
            simp (maxSteps := 1000000) [go_sem, undef, hxn, cx, lxx]
            refine AWp.draw mixed [(0, false), (1, false), (2, false), (3, false), (4, false), (5, false), (6, false), (7, false), (8, false), (9, false), (10, false), (11, false), (12, false), (13, false), (14, false)] (by kernel_rfl) ?_
            simp (maxSteps := 1000000) [go_sem, undef, hxn, cx, lxx, w2, hm0, xm, hw_x]
            first
              | exact fin _ _ (by omega) (by simp [upF, Fr.get, Up.refl]) ⟨by omega, rfl⟩
              | exact andK_intro (by omega) (fin _ _ (by omega) (by simp [upF, Fr.get, Up.refl]) ⟨by omega, rfl⟩)
    · have : x = n := by omega
      subst this
      simp (maxSteps := 1000000) [go_sem]
      exact h

theorem specKinds_ok {H : Heap} {i o : Nat} {sq : List (List Int)} (hu : IntssAt H (lv 1 i o sq.length) sq) (hS : IsSq sq) (Post : Value → Heap → Prop)
    (h : Post (.tuple #[.bool (commP sq.length sq sq.length), .bool (idemP sq sq.length), .bool (halfP sq.length sq sq.length)]) H) :
    ACalls Try.prog 98 [lv 1 i o sq.length] H Post := by
  have hrow := @sq_row H i o sq hu
  obtain ⟨hin, hr, hc⟩ := hS
  have hlen : ∀ x, x < sq.length → (rowN sq x).length = sq.length := fun x hx => by have := (hr x hx).1; omega
  obtain ⟨n, hn⟩ : ∃ n, sq.length = n := ⟨_, rfl⟩
  rw [hn] at hin hrow h hlen ⊢
  obtain ⟨m, hm⟩ : ∃ m, n / 2 = m := ⟨_, rfl⟩
  refine acalls_vc (rs := [.tmp 2, .tmp 3, .tmp 4]) Try.func98 rfl rfl Try.ntmps98 rfl rfl ?_
  have w2 : IntKind.i64.wrap ((n : Int) / 2) = (m : Int) := by rw [i64w (by omega) (by omega)]; omega
  have hmx : ¬ ((m : Int) < 1) := by omega
  have hmx2 : ¬ (m < 1) := by omega
  have hm0 : ¬ (m = 0) := by omega
  have e2 : (n : Int).tmod 2 = ((n % 2 : Nat) : Int) := by rw [Int.tmod_eq_emod_of_nonneg (by omega)]; omega
  simp (maxSteps := 1000000) [go_sem, w2, hmx, hmx2, e2]
  refine AWp.loopVc (St := Nat) (fun x => [(0, lv 1 i o n), (5, .int .i64 n), (6, .bool (commP n sq x)), (7, .bool (idemP sq x)), (8, .bool (halfP n sq x)), (9, .int .i64 x)])
    (fun x H' => x ≤ n ∧ H' = H) (fun x => n - x) 0 ?_ ?_ ?_
  · simp [upF, Fr.get, Up.refl, commP, idemP, halfP, e2]
  · exact ⟨by omega, rfl⟩
  · rintro K x H' ⟨hx, rfl⟩ hK
    by_cases hxn : x < n
    · obtain ⟨ix, ox, cx, hatx⟩ := hrow hxn (List.prefix_refl H')
      rw [hlen x hxn] at cx
      have lxx := sq_at hatx (y := x) (by rw [hlen x hxn]; exact hxn)
      have hw_x : IntKind.i64.wrap ((x : Int) + 1) = (x : Int) + 1 := i64w (by omega) (by omega)
      obtain ⟨C, hC⟩ : ∃ C, commP n sq x = C := ⟨_, rfl⟩
      obtain ⟨I, hI⟩ : ∃ I, idemP sq x = I := ⟨_, rfl⟩
      obtain ⟨F, hF⟩ : ∃ F, halfP n sq x = F := ⟨_, rfl⟩
      rw [hC, hI, hF]
      have xm : (x : Int).tmod (m : Int) = ((x % m : Nat) : Int) := by rw [Int.tmod_eq_emod_of_nonneg (by omega)]; rfl
      simp (maxSteps := 1000000) [go_sem, hxn]
      refine AWp.loopVc (St := Nat) (fun y => [(0, lv 1 i o n), (5, .int .i64 n), (6, .bool (C && commR n sq x y)), (7, .bool (I)), (8, .bool (F)), (9, .int .i64 x), (10, .int .i64 y)])
        (fun y H2 => y ≤ n ∧ H2 = H') (fun y => n - y) 0 ?_ ?_ ?_
      · simp [upF, Fr.get, Up.refl, commR]
      · exact ⟨by omega, rfl⟩
      · rintro K2 y H2 ⟨hy, rfl⟩ hK2
        by_cases hyn : y < n
        · obtain ⟨iy, oy, cy, haty⟩ := hrow hyn (List.prefix_refl H2)
          rw [hlen y hyn] at cy
          have lxy := sq_at hatx (y := y) (by rw [hlen x hxn]; exact hyn)
          have lyx := sq_at haty (y := x) (by rw [hlen y hyn]; exact hxn)
          have hw_y : IntKind.i64.wrap ((y : Int) + 1) = (y : Int) + 1 := i64w (by omega) (by omega)
          have hR := commR_succ n sq x y
          obtain ⟨R, hRe⟩ : ∃ R, (C && commR n sq x y) = R := ⟨_, rfl⟩
          have hR2 : (C && commR n sq x (y + 1)) = (R && (atN sq x y == atN sq y x)) := by rw [hR, ← Bool.and_assoc, hRe]
          rw [hRe]
          cases R with
          | true =>
            simp (maxSteps := 1000000) [go_sem, hyn, hxn]
            refine AWp.draw mixed [(0, false), (1, false), (2, false), (3, false), (4, false), (5, false), (6, false), (7, false), (8, false), (9, false), (10, false), (11, false), (12, false), (13, false), (14, false), (15, false), (16, false), (17, false), (18, false)] (by kernel_rfl) ?_
            simp (maxSteps := 1000000) [go_sem, hxn, hyn, cx, cy, lxy, lyx, hw_y]
            exact hK2 (y + 1) _ _ (by omega) (by simp only [hR2]; simp [upF, Fr.get, Up.refl]) ⟨by omega, rfl⟩
          | false =>
            simp (maxSteps := 1000000) [go_sem, hyn, hxn]
            refine AWp.draw mixed [(0, false), (1, false), (2, false), (3, false), (4, false), (5, false), (6, false), (7, false), (8, false), (9, false), (10, false), (11, false), (12, false), (13, false), (14, false), (15, false), (16, false), (17, false), (18, false)] (by kernel_rfl) ?_
            simp (maxSteps := 1000000) [go_sem, undef, hxn, hyn, hw_y]
            exact hK2 (y + 1) _ _ (by omega) (by simp only [hR2]; simp [upF, Fr.get, Up.refl]) ⟨by omega, rfl⟩
        · have : y = n := by omega
          subst this
          have hcs : commP y sq (x + 1) = (C && commR y sq x y) := by rw [commP_succ, hC]
          have his : idemP sq (x + 1) = (I && (atN sq x x == (x : Int))) := by rw [idemP_succ, hI]
          have hhs : halfP y sq (x + 1) = (F && (atN sq x x == ((x % m : Nat) : Int))) := by rw [halfP_succ, hF, hm]
          have fin := hK (x + 1)
          simp only [hcs, his, hhs] at fin
          generalize (C && commR y sq x y) = D at *
          cases I <;> cases F
          all_goals
            simp (maxSteps := 1000000) [go_sem, undef, hxn, cx, lxx]
            refine AWp.draw mixed [(0, false), (1, false), (2, false), (3, false), (4, false), (5, false), (6, false), (7, false), (8, false), (9, false), (10, false), (11, false), (12, false), (13, false), (14, false), (15, false)] (by kernel_rfl) ?_
            simp (maxSteps := 1000000) [go_sem, undef, hxn, cx, lxx, w2, hm0, xm, hw_x]
            first
              | exact fin _ _ (by omega) (by simp [upF, Fr.get, Up.refl]) ⟨by omega, rfl⟩
              | exact andK_intro (by omega) (fin _ _ (by omega) (by simp [upF, Fr.get, Up.refl]) ⟨by omega, rfl⟩)
    · have : x = n := by omega
      subst this
      simp (maxSteps := 1000000) [go_sem]
      exact h

end Go.Proofs.Ytdfeoccjllljiaa
end

section
/- SquareKinds: both sides. -/
set_option linter.all false
set_option maxRecDepth 20000
set_option maxHeartbeats 8000000
namespace Go.Proofs.Ytdfeoccjllljiaa
open Go.Ab Go.Sort

def bitB (b : Bool) : Int := if b then 1 else 0
theorem implOne_ok {H : Heap} {b : Bool} (Post : Value → Heap → Prop) (h : Post (.int .i64 (bitB b)) H) : ACalls Try.prog 101 [.bool b] H Post := by
  refine acalls_vc (rs := [.tmp 2]) Try.func101 rfl rfl Try.ntmps101 rfl rfl ?_
  cases b <;> (simp (maxSteps := 1000000) [go_sem]; exact h)
theorem specOne_ok {H : Heap} {b : Bool} (Post : Value → Heap → Prop) (h : Post (.int .i64 (bitB b)) H) : ACalls Try.prog 99 [.bool b] H Post := by
  refine acalls_vc (rs := [.tmp 2]) Try.func99 rfl rfl Try.ntmps99 rfl rfl ?_
  cases b <;> (simp (maxSteps := 1000000) [go_sem]; exact h)
noncomputable def rKinds (sq : List (List Int)) : List Int × Int := if sqB sq then ([bitB (commP sq.length sq sq.length), bitB (idemP sq sq.length), bitB (halfP sq.length sq sq.length)], 0) else ([], 2)
theorem implSquareKinds_ok {H : Heap} {u : Value} {sq : List (List Int)} (hu : IntssAt H u sq) (hl : sq.length + sq.flatten.length ≤ 1048576) (h64 : ∀ xs ∈ sq, ∀ x ∈ xs, In64 x) (Post : Value → Heap → Prop)
    (h : ∀ H' w, H <+: H' → IntsIn H.length H'.length H' w (rKinds sq).1 → Post (.tuple #[w, .int .i64 (rKinds sq).2]) H') :
    ACalls Try.prog 41 [u] H Post := by
  obtain ⟨i, o, rfl⟩ : ∃ i o, u = lv 1 i o sq.length := by obtain ⟨i, o, _, e, _⟩ := hu; exact ⟨i, o, e⟩
  refine ACalls.res ?_
  refine acalls_vc (rs := [.tmp 2, .tmp 3]) Try.func41 rfl rfl Try.ntmps41 rfl rfl ?_
  simp (maxSteps := 1000000) [go_sem]
  refine implIsSquare_ok hu hl h64 _ ?_
  intro H1 hp1
  cases hs : sqB sq with
  | false =>
    have hr : rKinds sq = ([], 2) := by rw [rKinds, hs]; rfl
    have fin := h H1 (lv 1 0 0 0) hp1 (by rw [hr]; exact IntsIn.nil _ _ _)
    rw [hr] at fin
    simp (maxSteps := 1000000) [go_sem]
    exact ⟨_, Up.tuple (ys := #[lv 1 0 0 0, .int .i64 2]) ⟨Up.nil _ _ _ _, Up.refl _ _, trivial⟩, fin⟩
  | true =>
    have hr : rKinds sq = ([bitB (commP sq.length sq sq.length), bitB (idemP sq sq.length), bitB (halfP sq.length sq sq.length)], 0) := by rw [rKinds, hs]; rfl
    rw [hr] at h
    simp (maxSteps := 1000000) [go_sem]
    refine implKinds_ok (hu.pre hp1) (sqB_iff.1 hs) _ ?_
    generalize commP sq.length sq sq.length = a at *
    generalize idemP sq sq.length = b at *
    generalize halfP sq.length sq sq.length = c at *
    simp (maxSteps := 1000000) [go_sem]
    refine implOne_ok _ ?_
    simp (maxSteps := 1000000) [go_sem]
    refine implOne_ok _ ?_
    simp (maxSteps := 1000000) [go_sem]
    refine implOne_ok _ ?_
    have hp2 : H1 <+: H1 ++ [⟨[.int .i64 (bitB a), .int .i64 (bitB b), .int .i64 (bitB c)], true, true⟩] := List.prefix_append _ _
    have hb : (H1 ++ [(⟨[.int .i64 (bitB a), .int .i64 (bitB b), .int .i64 (bitB c)], true, true⟩ : Blk)])[H1.length]? = some ⟨ints [bitB a, bitB b, bitB c], true, true⟩ := by simp [ints]
    have hlen : (H1 ++ [(⟨[.int .i64 (bitB a), .int .i64 (bitB b), .int .i64 (bitB c)], true, true⟩ : Blk)]).length = H1.length + 1 := by simp
    have fin := h (H1 ++ [⟨[.int .i64 (bitB a), .int .i64 (bitB b), .int .i64 (bitB c)], true, true⟩]) (lv 1 H1.length 0 3) (hp1.trans hp2) ⟨H1.length, ⟨rfl, .inr hb, by simp⟩, fun _ => ⟨hp1.length_le, by rw [hlen]; omega⟩⟩
    have hup : Up (H1 ++ [⟨[.int .i64 (bitB a), .int .i64 (bitB b), .int .i64 (bitB c)], true, true⟩]) (.slice (some ⟨H1.length, 0, none⟩) 3 3) (lv 1 H1.length 0 3) := Up.ex (by omega) (.inr (by rw [cellsAt_of hb rfl (by simp [ints])]; rfl))
    generalize bitB a = A at *
    generalize bitB b = B at *
    generalize bitB c = C at *
    simp (maxSteps := 1000000) [go_sem]
    exact ⟨_, Up.tuple (ys := #[lv 1 H1.length 0 3, .int .i64 0]) ⟨hup, Up.refl _ _, trivial⟩, fin⟩

theorem specSquareKinds_ok {H : Heap} {u : Value} {sq : List (List Int)} (hu : IntssAt H u sq) (hl : sq.length + sq.flatten.length ≤ 1048576) (h64 : ∀ xs ∈ sq, ∀ x ∈ xs, In64 x) (Post : Value → Heap → Prop)
    (h : ∀ H' w, H <+: H' → IntsIn H.length H'.length H' w (rKinds sq).1 → Post (.tuple #[w, .int .i64 (rKinds sq).2]) H') :
    ACalls Try.prog 40 [u] H Post := by
  obtain ⟨i, o, rfl⟩ : ∃ i o, u = lv 1 i o sq.length := by obtain ⟨i, o, _, e, _⟩ := hu; exact ⟨i, o, e⟩
  refine ACalls.res ?_
  refine acalls_vc (rs := [.tmp 2, .tmp 3]) Try.func40 rfl rfl Try.ntmps40 rfl rfl ?_
  simp (maxSteps := 1000000) [go_sem]
  refine l02Square_ok hu hl _ ?_
  intro H1 hp1
  cases hs : sqB sq with
  | false =>
    have hr : rKinds sq = ([], 2) := by rw [rKinds, hs]; rfl
    have fin := h H1 (lv 1 0 0 0) hp1 (by rw [hr]; exact IntsIn.nil _ _ _)
    rw [hr] at fin
    simp (maxSteps := 1000000) [go_sem]
    exact ⟨_, Up.tuple (ys := #[lv 1 0 0 0, .int .i64 2]) ⟨Up.nil _ _ _ _, Up.refl _ _, trivial⟩, fin⟩
  | true =>
    have hr : rKinds sq = ([bitB (commP sq.length sq sq.length), bitB (idemP sq sq.length), bitB (halfP sq.length sq sq.length)], 0) := by rw [rKinds, hs]; rfl
    rw [hr] at h
    simp (maxSteps := 1000000) [go_sem]
    refine specKinds_ok (hu.pre hp1) (sqB_iff.1 hs) _ ?_
    generalize commP sq.length sq sq.length = a at *
    generalize idemP sq sq.length = b at *
    generalize halfP sq.length sq sq.length = c at *
    simp (maxSteps := 1000000) [go_sem]
    refine specOne_ok _ ?_
    simp (maxSteps := 1000000) [go_sem]
    refine specOne_ok _ ?_
    simp (maxSteps := 1000000) [go_sem]
    refine specOne_ok _ ?_
    have hp2 : H1 <+: H1 ++ [⟨[.int .i64 (bitB a), .int .i64 (bitB b), .int .i64 (bitB c)], true, true⟩] := List.prefix_append _ _
    have hb : (H1 ++ [(⟨[.int .i64 (bitB a), .int .i64 (bitB b), .int .i64 (bitB c)], true, true⟩ : Blk)])[H1.length]? = some ⟨ints [bitB a, bitB b, bitB c], true, true⟩ := by simp [ints]
    have hlen : (H1 ++ [(⟨[.int .i64 (bitB a), .int .i64 (bitB b), .int .i64 (bitB c)], true, true⟩ : Blk)]).length = H1.length + 1 := by simp
    have fin := h (H1 ++ [⟨[.int .i64 (bitB a), .int .i64 (bitB b), .int .i64 (bitB c)], true, true⟩]) (lv 1 H1.length 0 3) (hp1.trans hp2) ⟨H1.length, ⟨rfl, .inr hb, by simp⟩, fun _ => ⟨hp1.length_le, by rw [hlen]; omega⟩⟩
    have hup : Up (H1 ++ [⟨[.int .i64 (bitB a), .int .i64 (bitB b), .int .i64 (bitB c)], true, true⟩]) (.slice (some ⟨H1.length, 0, none⟩) 3 3) (lv 1 H1.length 0 3) := Up.ex (by omega) (.inr (by rw [cellsAt_of hb rfl (by simp [ints])]; rfl))
    generalize bitB a = A at *
    generalize bitB b = B at *
    generalize bitB c = C at *
    simp (maxSteps := 1000000) [go_sem]
    exact ⟨_, Up.tuple (ys := #[lv 1 H1.length 0 3, .int .i64 0]) ⟨hup, Up.refl _ _, trivial⟩, fin⟩

end Go.Proofs.Ytdfeoccjllljiaa
end

section
/- The law on SquareKinds, in abstract terms: its code returns true, for every input. -/
set_option linter.all false
set_option maxRecDepth 20000
set_option maxHeartbeats 8000000
namespace Go.Proofs.Ytdfeoccjllljiaa
open Go.Ab

theorem lawFnExactSquareKinds (H : Heap) (avs : List Value) (h : argsSay [shIntss] H avs) : ACalls Try.prog 7 avs H fun v _ => v = .bool true := by
  obtain ⟨_, _, rfl, a0, rfl⟩ := h
  obtain ⟨x0, hz0, hw0⟩ := says_shIntss a0
  have hz0c := hz0
  obtain ⟨i0, o0, vs0, rfl, _⟩ := hz0c
  have qz0 : H <+: H := List.prefix_refl _
  refine acalls_vc (rs := [.tmp 2]) Try.func7 rfl rfl Try.ntmps7 rfl rfl ?_
  try simp (maxSteps := 1000000) [go_sem, sysV]
  obtain ⟨Z0, hZ0⟩ : ∃ Z, x0.length + x0.flatten.length = Z := ⟨_, rfl⟩
  refine szIntss0_ok (hz0.pre qz0) (by omega) (by omega) _ ?_
  rw [hZ0]
  by_cases hbig0 : (1048576 : Int) < Z0
  · simp (maxSteps := 1000000) [go_sem, hbig0, sysV]
  have hneg0 : decide ((1048576 : Int) - Z0 < 0) = false := by simp; omega
  have hl0 : x0.length + x0.flatten.length ≤ 1048576 := by omega
  have hq0 := intss_at0 hz0 hl0
  try simp (maxSteps := 1000000) [go_sem, hbig0, hneg0, sysV]
  refine toIntss_ok (hq0.pre qz0) hl0 _ ?_
  intro H1 wo1 hp1 hoo1
  replace qz0 := qz0.trans hp1
  have hlH1 := hp1.length_le
  try simp (maxSteps := 1000000) [go_sem, hbig0, hneg0, sysV]
  refine specSquareKinds_ok hoo1.read hl0 hw0 _ ?_
  intro H2 wH2_0 hp2 hoH2_0
  replace hoo1 := hoo1.pre hp2
  replace qz0 := qz0.trans hp2
  have hlH2 := hp2.length_le
  try simp (maxSteps := 1000000) [go_sem, hbig0, hneg0, sysV]
  refine toIntss_ok (hq0.pre qz0) hl0 _ ?_
  intro H3 wo3 hp3 hoo3
  replace hoo1 := hoo1.pre hp3
  replace hoH2_0 := hoH2_0.pre hp3
  replace qz0 := qz0.trans hp3
  have hlH3 := hp3.length_le
  try simp (maxSteps := 1000000) [go_sem, hbig0, hneg0, sysV]
  refine implSquareKinds_ok hoo3.read hl0 hw0 _ ?_
  intro H4 wH4_0 hp4 hoH4_0
  replace hoo1 := hoo1.pre hp4
  replace hoH2_0 := hoH2_0.pre hp4
  replace hoo3 := hoo3.pre hp4
  replace qz0 := qz0.trans hp4
  have hlH4 := hp4.length_le
  try simp (maxSteps := 1000000) [go_sem, hbig0, hneg0, sysV]
  refine eqInt64S_ok hoH4_0.read hoH2_0.read _ ?_
  try simp (maxSteps := 1000000) [go_sem, hbig0, hneg0, sysV]
  refine toIntss_ok (hq0.pre qz0) hl0 _ ?_
  intro H5 wo5 hp5 hoo5
  replace hoo1 := hoo1.pre hp5
  replace hoH2_0 := hoH2_0.pre hp5
  replace hoo3 := hoo3.pre hp5
  replace hoH4_0 := hoH4_0.pre hp5
  replace qz0 := qz0.trans hp5
  have hlH5 := hp5.length_le
  try simp (maxSteps := 1000000) [go_sem, hbig0, hneg0, sysV]
  refine eqInt64SS_ok hoo3.read hoo5.read _ ?_
  try simp (maxSteps := 1000000) [go_sem, hbig0, hneg0, sysV]
  obtain ⟨To3, hTo3⟩ : ∃ T : Nat, T = (x0).flatten.length := ⟨_, rfl⟩
  have hTbo3 : To3 ≤ 1048576 := by omega
  refine markIntss_ok hoo3 hTo3 (by omega) (by omega) _ ?_
  intro H6 hs6 mk6
  replace hoo1 := hoo1.keep hs6 (by rintro j ⟨h1, h2⟩ ⟨h3, h4⟩; omega)
  replace hoH2_0 := hoH2_0.keep hs6 (by rintro j ⟨h1, h2⟩ ⟨h3, h4⟩; omega)
  replace hoH4_0 := hoH4_0.keep hs6 (by rintro j ⟨h1, h2⟩ ⟨h3, h4⟩; omega)
  replace hoo5 := hoo5.keep hs6 (by rintro j ⟨h1, h2⟩ ⟨h3, h4⟩; omega)
  replace qz0 := ((Same.of_prefix qz0).trans hs6).prefix (by rintro j hj ⟨h1, h2⟩; omega)
  have hlH6 := hs6.1
  have hng6 : decide ((1 : Int) + (To3 : Int) < 0) = false := by simp only [decide_eq_false_iff_not]; omega
  try simp only [Int.natCast_mul, Int.cast_ofNat_Int] at hng6
  try simp (maxSteps := 1000000) [go_sem, hbig0, hneg0, hng6, sysV]
  refine eqInt64S_ok hoH4_0.read hoH2_0.read _ ?_
  try simp (maxSteps := 1000000) [go_sem, hbig0, hneg0, hng6, sysV]
  refine markInts_ok hoH4_0 (by omega) (by omega) _ ?_
  intro H7 hs7 mk7
  replace hoo1 := hoo1.keep hs7 (by rintro j ⟨h1, h2⟩ ⟨h3, h4⟩; omega)
  replace hoH2_0 := hoH2_0.keep hs7 (by rintro j ⟨h1, h2⟩ ⟨h3, h4⟩; omega)
  replace mk6 := mk6.keep hs7 (by rintro j ⟨h1, h2⟩ ⟨h3, h4⟩; omega)
  replace hoo5 := hoo5.keep hs7 (by rintro j ⟨h1, h2⟩ ⟨h3, h4⟩; omega)
  replace qz0 := ((Same.of_prefix qz0).trans hs7).prefix (by rintro j hj ⟨h1, h2⟩; omega)
  have hlH7 := hs7.1
  have hng7 : decide ((1 : Int) + (((rKinds x0).1).length : Nat) < 0) = false := by simp only [decide_eq_false_iff_not]; omega
  try simp only [Int.natCast_mul, Int.cast_ofNat_Int] at hng7
  try simp (maxSteps := 1000000) [go_sem, hbig0, hneg0, hng6, hng7, sysV]
  refine heldInts_ok mk7 (by omega) (by omega) _ ?_
  try simp (maxSteps := 1000000) [go_sem, hbig0, hneg0, hng6, hng7, sysV]
  refine toIntss_ok (hq0.pre qz0) hl0 _ ?_
  intro H8 wo8 hp8 hoo8
  replace hoo1 := hoo1.pre hp8
  replace hoH2_0 := hoH2_0.pre hp8
  replace mk6 := mk6.pre hp8
  replace mk7 := mk7.pre hp8
  replace hoo5 := hoo5.pre hp8
  replace qz0 := qz0.trans hp8
  have hlH8 := hp8.length_le
  try simp (maxSteps := 1000000) [go_sem, hbig0, hneg0, hng6, hng7, sysV]
  refine implSquareKinds_ok hoo8.read hl0 hw0 _ ?_
  intro H9 wH9_0 hp9 hoH9_0
  replace hoo1 := hoo1.pre hp9
  replace hoH2_0 := hoH2_0.pre hp9
  replace mk6 := mk6.pre hp9
  replace mk7 := mk7.pre hp9
  replace hoo5 := hoo5.pre hp9
  replace hoo8 := hoo8.pre hp9
  replace qz0 := qz0.trans hp9
  have hlH9 := hp9.length_le
  try simp (maxSteps := 1000000) [go_sem, hbig0, hneg0, hng6, hng7, sysV]
  refine eqInt64S_ok hoH9_0.read hoH2_0.read _ ?_
  try simp (maxSteps := 1000000) [go_sem, hbig0, hneg0, hng6, hng7, sysV]
  refine heldInts_ok mk7 (by omega) (by omega) _ ?_
  try simp (maxSteps := 1000000) [go_sem, hbig0, hneg0, hng6, hng7, sysV]

end Go.Proofs.Ytdfeoccjllljiaa
end
