/- Part 9 of what the proof of the law FnExactTypeOf rests on: contracts of functions of the program, for every argument that each names; no statement of the seat is proved here. -/
import Derived.Test.YtakkmkinfeddeaaFnExactTypeOfPart8

section
/- Sorting by a function: pdqsort. -/
set_option linter.all false
set_option maxRecDepth 20000
set_option maxHeartbeats 8000000
namespace Go.Proofs.Ytakkmkinfeddeaa
open Go.Ab Go.Sort

theorem pdqI_ok {lt : Int → Int → Bool} {g : FuncId} {fs cs : List Value} {Q : Int → Prop} {n : Nat} (hS : SWO lt) (hl : n ≤ 1048576) : ∀ (N : Nat) {H : Heap} {id a b limit : Nat} {d : Array Int}, b - a ≤ N → Arr cellsI H id d → d.size = n → a ≤ b → b ≤ n → limit ≤ 64 → Below lt a b d → QA Q d →
    Cmp Try.prog valI lt g fs cs Q id H → ∀ (Post : Value → Heap → Prop), (∀ H' d', Same (fun k => k = id) H H' → Arr cellsI H' id d' → PermIn a b d d' → SortedIn lt a b d' → Post (.tuple #[]) H') →
    ACalls Try.prog 210 [lv 1 id 0 n, .int .i64 a, .int .i64 b, .int .i64 limit, .func (.func g) fs.toArray cs.toArray] H Post := by
  intro N
  induction N using Nat.strongRecOn with
  | _ N ih =>
  intro H id a b limit d hN hA hn hab hb hlim hBel hQ hC Post h
  refine acalls_vc (rs := []) Try.func210 rfl rfl Try.ntmps210 rfl rfl ?_
  simp (maxSteps := 1000000) [go_sem]
  refine AWp.loopA (St := Nat × Nat × Nat × Bool × Bool × Array Int) (fun s => [(0, lv 1 id 0 n), (1, .int .i64 s.1), (2, .int .i64 s.2.1), (3, .int .i64 s.2.2.1), (4, .func (.func g) fs.toArray cs.toArray), (10, .bool s.2.2.2.1), (11, .bool s.2.2.2.2.1)])
    (fun s H' => a ≤ s.1 ∧ s.1 ≤ s.2.1 ∧ s.2.1 ≤ b ∧ s.2.2.1 ≤ 64 ∧ s.2.2.2.2.2.size = n ∧ QA Q s.2.2.2.2.2 ∧ Same (fun k => k = id) H H' ∧ Arr cellsI H' id s.2.2.2.2.2 ∧ Below lt s.1 s.2.1 s.2.2.2.2.2 ∧
      ∀ R, PermIn s.1 s.2.1 s.2.2.2.2.2 R → SortedIn lt s.1 s.2.1 R → PermIn a b d R ∧ SortedIn lt a b R) (fun s => s.2.1 - s.1) (a, b, limit, true, true, d) ?_ ?_ ?_
  · simp [upF, Fr.get, Up.refl]
  · exact ⟨Nat.le_refl _, hab, Nat.le_refl _, hlim, hn, hQ, Same.refl _ _, hA, hBel, fun R h1 h2 => ⟨h1, h2⟩⟩
  · rintro K ⟨a1, b1, li, wb, wp, d1⟩ H1 ⟨haa, hab1, hbb, hli, hsz, hQ1, hS1, hA1, hB1, hfin⟩ hK
    simp only at haa hab1 hbb hli hsz hQ1 hS1 hA1 hB1 hfin
    obtain ⟨l, hll⟩ : ∃ l, l = b1 - a1 := ⟨_, rfl⟩
    have w0 : IntKind.i64.wrap ((b1 : Int) - a1) = (l : Int) := by rw [hll, i64w (by omega) (by omega)]; omega
    refine AWp.block ?_
    -- the length
    refine AWp.ofVc ?_
    simp (maxSteps := 1000000) [go_sem, w0]
    by_cases h12 : l ≤ 12
    · have h12' : (l : Int) ≤ 12 := by omega
      refine AWp.ofVc ?_
      simp (maxSteps := 1000000) [go_sem, h12, h12']
      refine insI_ok hA1 hsz hl (by omega) (by omega) hQ1 (hC.keep hS1) _ ?_
      intro H2 hS2 hA2
      obtain ⟨f1, f2⟩ := insertionSort_holds hS d1 a1 b1 (by omega) (by omega)
      obtain ⟨f3, f4⟩ := hfin _ f1 f2
      have fin := h H2 _ (hS1.trans hS2) hA2 f3 f4
      simp (maxSteps := 1000000) [go_sem]
      exact fin
    have h12' : ¬ ((l : Int) ≤ 12) := by omega
    refine AWp.ofVc ?_
    simp (maxSteps := 1000000) [go_sem, h12, h12']
    by_cases hl0 : li = 0
    · subst hl0
      refine AWp.ofVc ?_
      simp (maxSteps := 1000000) [go_sem]
      refine heapI_ok hA1 hsz hl (by omega) (by omega) hQ1 (hC.keep hS1) _ ?_
      intro H2 hS2 hA2
      obtain ⟨f1, f2⟩ := heapSort_holds hS d1 a1 b1 (by omega) (by omega)
      obtain ⟨f3, f4⟩ := hfin _ f1 f2
      have fin := h H2 _ (hS1.trans hS2) hA2 f3 f4
      simp (maxSteps := 1000000) [go_sem]
      exact fin
    have hl0' : ((li : Int) == 0) = false := by rw [beq_eq_false_iff_ne]; omega
    refine AWp.ofVc ?_
    simp (maxSteps := 1000000) [go_sem, hl0, hl0']
    -- the patterns
    refine AWp.seqCut (St := Nat × Array Int) (fun s => [(0, lv 1 id 0 n), (1, .int .i64 a1), (2, .int .i64 b1), (3, .int .i64 s.1), (4, .func (.func g) fs.toArray cs.toArray), (10, .bool wb), (11, .bool wp), (12, .int .i64 l)])
      (fun s H' => s.1 ≤ 64 ∧ QA Q s.2 ∧ Same (fun k => k = id) H H' ∧ Arr cellsI H' id s.2 ∧ PermIn a1 b1 d1 s.2) ?_ ?_
    · intro KE hKE
      cases wb with
      | true =>
        simp (maxSteps := 1000000) [go_sem]
        exact hKE (li, d1) _ _ (by simp [upF, Fr.get, Up.refl]) ⟨hli, hQ1, hS1, hA1, permIn_refl _ _ _⟩
      | false =>
        obtain ⟨lj, hlj⟩ : ∃ lj, lj = li - 1 := ⟨_, rfl⟩
        have wl : IntKind.i64.wrap ((li : Int) - 1) = (lj : Int) := by rw [hlj, i64w (by omega) (by omega)]; omega
        simp (maxSteps := 1000000) [go_sem]
        refine breakI_ok hA1 hsz hl (by omega) (by omega) hQ1 _ ?_
        intro H2 d2 hS2 hA2 hQ2 hP2
        simp (maxSteps := 1000000) [go_sem, wl]
        exact hKE (lj, d2) _ _ (by simp [upF, Fr.get, Up.refl]) ⟨by simp only; omega, hQ2, hS1.trans hS2, hA2, hP2⟩
    rintro ⟨lj, d2⟩ H2 ⟨hlj, hQ2, hS2, hA2, hP2⟩
    simp only at hlj hQ2 hS2 hA2 hP2 ⊢
    have hsz2 : d2.size = n := by rw [hP2.1]; exact hsz
    -- the pivot
    refine AWp.ofVc ?_
    simp (maxSteps := 1000000) [go_sem]
    refine pivotI_ok hA2 hsz2 hl (by omega) (by omega) hQ2 (hC.keep hS2) _ ?_
    intro H3 p t hp3 hpr
    have hS3 := hS2.via (Same.of_prefix (S := fun _ => False) hp3) (fun _ _ h => h.elim)
    have hA3 := hA2.pre hp3
    simp (maxSteps := 1000000) [go_sem]
    refine AWp.seqCut (St := Nat × Int × Array Int) (fun s => [(0, lv 1 id 0 n), (1, .int .i64 a1), (2, .int .i64 b1), (3, .int .i64 lj), (4, .func (.func g) fs.toArray cs.toArray), (10, .bool wb), (11, .bool wp), (12, .int .i64 l), (13, .int .i64 s.1), (14, .int .i64 s.2.1)])
      (fun s H' => a1 ≤ s.1 ∧ s.1 < b1 ∧ QA Q s.2.2 ∧ Same (fun k => k = id) H H' ∧ Arr cellsI H' id s.2.2 ∧ PermIn a1 b1 d2 s.2.2) ?_ ?_
    · intro KE hKE
      by_cases ht : t = 2
      · subst ht
        obtain ⟨p2, hp2⟩ : ∃ p2, p2 = b1 - 1 - (p - a1) := ⟨_, rfl⟩
        have w1 : IntKind.i64.wrap ((b1 : Int) - 1) = (b1 : Int) - 1 := i64w (by omega) (by omega)
        have w2 : IntKind.i64.wrap ((p : Int) - a1) = (p : Int) - a1 := i64w (by omega) (by omega)
        have w3 : IntKind.i64.wrap ((b1 : Int) - 1 - ((p : Int) - a1)) = (p2 : Int) := by rw [hp2, i64w (by omega) (by omega)]; omega
        simp (maxSteps := 1000000) [go_sem]
        refine reverseI_ok hA3 hsz2 hl (by omega) (by omega) _ ?_
        intro H4 hS4 hA4
        have hP4 := reverseRange_holds d2 a1 b1 (by omega) (by omega)
        simp (maxSteps := 1000000) [go_sem, w1, w2, w3]
        exact hKE (p2, 1, reverseRange d2 a1 b1) _ _ (by simp [upF, Fr.get, Up.refl]) ⟨by simp only; omega, by simp only; omega, QA_perm (by omega) hP4 hQ2, hS3.trans hS4, hA4, hP4⟩
      · have ht' : (t == 2) = false := by rw [beq_eq_false_iff_ne]; exact ht
        simp (maxSteps := 1000000) [go_sem, ht, ht']
        exact hKE (p, t, d2) _ _ (by simp [upF, Fr.get, Up.refl]) ⟨hpr.1, hpr.2, hQ2, hS3, hA3, permIn_refl _ _ _⟩
    rintro ⟨q, u, d3⟩ H4 ⟨hq1, hq2, hQ3, hS4, hA4, hP3⟩
    simp only at hq1 hq2 hQ3 hS4 hA4 hP3 ⊢
    have hsz3 : d3.size = n := by rw [hP3.1]; exact hsz2
    have hP13 := permIn_trans _ _ _ _ _ hP2 hP3
    have hB3 : Below lt a1 b1 d3 := hB1.perm (by omega) hP13
    -- it may be sorted
    refine AWp.seqCut (St := Array Int) (fun _ => [(0, lv 1 id 0 n), (1, .int .i64 a1), (2, .int .i64 b1), (3, .int .i64 lj), (4, .func (.func g) fs.toArray cs.toArray), (10, .bool wb), (11, .bool wp), (12, .int .i64 l), (13, .int .i64 q)])
      (fun d4 H' => QA Q d4 ∧ Same (fun k => k = id) H H' ∧ Arr cellsI H' id d4 ∧ PermIn a1 b1 d1 d4) ?_ ?_
    · intro KE hKE
      have skip := fun fr' hfr => hKE d3 fr' H4 hfr ⟨hQ3, hS4, hA4, hP13⟩
      cases wb with
      | false =>
        simp (maxSteps := 1000000) [go_sem, undef]
        exact skip _ (by simp [upF, Fr.get, Up.refl])
      | true =>
        cases wp with
        | false =>
          simp (maxSteps := 1000000) [go_sem, undef]
          exact skip _ (by simp [upF, Fr.get, Up.refl])
        | true =>
          by_cases hu : u = 1
          · subst hu
            simp (maxSteps := 1000000) [go_sem]
            refine partInsI_ok hA4 hsz3 hl (by omega) (by omega) hQ3 (hC.keep hS4) _ ?_
            intro H6 hS6 hA6
            obtain ⟨f1, f2⟩ := partialInsertionSort_holds hS d3 a1 b1 (by omega) (by omega) hB3
            generalize partialInsertionSort lt d3 a1 b1 = r at *
            obtain ⟨d4, ok⟩ := r
            simp only at hA6 f1 f2 ⊢
            have hP14 := permIn_trans _ _ _ _ _ hP13 f1
            cases ok with
            | true =>
              obtain ⟨f3, f4⟩ := hfin _ hP14 (f2 rfl)
              have fin := h H6 _ (hS4.trans hS6) hA6 f3 f4
              simp (maxSteps := 1000000) [go_sem]
              exact fin
            | false =>
              simp (maxSteps := 1000000) [go_sem]
              exact hKE d4 _ _ (by simp [upF, Fr.get, Up.refl]) ⟨QA_perm (by omega) f1 hQ3, hS4.trans hS6, hA6, hP14⟩
          · have hu' : (u == 1) = false := by rw [beq_eq_false_iff_ne]; exact hu
            simp (maxSteps := 1000000) [go_sem, hu, hu']
            exact skip _ (by simp [upF, Fr.get, Up.refl])
    rintro d4 H6 ⟨hQ4, hS6, hA6, hP4⟩
    clear hA4 hA3 hA2 hS2 hS3 hS4 hP2 hP3 hP13 hQ2 hQ3 hB3
    have hsz4 : d4.size = n := by rw [hP4.1]; exact hsz
    have hB4 : Below lt a1 b1 d4 := hB1.perm (by omega) hP4
    have hfin4 : ∀ R, PermIn a1 b1 d4 R → SortedIn lt a1 b1 R → PermIn a b d R ∧ SortedIn lt a b R := fun R r1 r2 => hfin R (permIn_trans _ _ _ _ _ hP4 r1) r2
    -- the element ahead
    refine AWp.seqCut (St := Unit) (fun _ => [(0, lv 1 id 0 n), (1, .int .i64 a1), (2, .int .i64 b1), (3, .int .i64 lj), (4, .func (.func g) fs.toArray cs.toArray), (10, .bool wb), (11, .bool wp), (12, .int .i64 l), (13, .int .i64 q)])
      (fun _ H' => Same (fun k => k = id) H H' ∧ Arr cellsI H' id d4) ?_ ?_
    · intro KE hKE
      by_cases ha0 : a1 = 0
      · subst ha0
        simp (maxSteps := 1000000) [go_sem]
        refine AWp.draw mixed [(0, false), (1, false), (2, false), (3, false), (4, false), (5, false), (6, false), (7, false), (8, false), (9, false), (10, false), (11, false), (12, false), (13, false), (14, false), (15, false), (16, false)] (by kernel_rfl) ?_
        simp (maxSteps := 1000000) [go_sem, undef]
        exact hKE () _ _ (by simp [upF, Fr.get, Up.refl]) ⟨hS6, hA6⟩
      · obtain ⟨r, hr⟩ : ∃ r, a1 - 1 = r := ⟨_, rfl⟩
        have wr : IntKind.i64.wrap ((a1 : Int) - 1) = (r : Int) := by rw [← hr, i64w (by omega) (by omega)]; omega
        have ha0' : (0 : Int) < a1 := by omega
        have ha1' : 0 < a1 := by omega
        have hi1 : r < d4.size := by omega
        have hi0 : q < d4.size := by omega
        have n1 : r < n := by omega
        have n0 : q < n := by omega
        have c1 := hA6.load cellsI_len hi1
        have c0 := hA6.load cellsI_len hi0
        have q1 := hQ4 _ hi1
        have q0 := hQ4 _ hi0
        obtain ⟨x, hx⟩ : ∃ x, d4[r]! = x := ⟨_, rfl⟩
        obtain ⟨y, hy⟩ : ∃ y, d4[q]! = y := ⟨_, rfl⟩
        rw [hx] at c1 q1
        rw [hy] at c0 q0
        simp only [cellsI, Nat.mul_one, Row.val] at c1 c0
        simp (maxSteps := 1000000) [go_sem]
        refine AWp.draw mixed [(0, false), (1, false), (2, false), (3, false), (4, false), (5, false), (6, false), (7, false), (8, false), (9, false), (10, false), (11, false), (12, false), (13, false), (14, false), (15, false), (16, false)] (by kernel_rfl) ?_
        simp (maxSteps := 1000000) [go_sem, ha0, ha0', ha1', c1, c0, n1, n0, wr]
        refine hC H6 x y _ hS6 q1 q0 ?_
        intro H7 c hp7 hc
        have hS7 := hS6.via (Same.of_prefix (S := fun _ => False) hp7) (fun _ _ h => h.elim)
        have hA7 := hA6.pre hp7
        cases hl' : lt x y with
        | true =>
          rw [hl'] at hc
          have hc0 := hc
          simp only [decide_eq_true_eq, decide_eq_false_iff_not] at hc0
          simp (maxSteps := 1000000) [go_sem, hc, hc0]
          exact hKE () _ _ (by simp [upF, Fr.get, Up.refl]) ⟨hS7, hA7⟩
        | false =>
          rw [hl'] at hc
          have hc0 := hc
          simp only [decide_eq_true_eq, decide_eq_false_iff_not] at hc0
          have hnl : lt d4[a1 - 1]! d4[q]! = false := by rw [hr, hx, hy]; exact hl'
          simp (maxSteps := 1000000) [go_sem, hc, hc0]
          refine partEqI_ok hA7 hsz4 hl hq1 hq2 (by omega) hQ4 (hC.keep hS7) _ ?_
          intro H8 hS8 hA8
          obtain ⟨⟨mid, d5⟩, he⟩ : ∃ r, partitionEqual lt d4 a1 b1 q = r := ⟨_, rfl⟩
          rw [he] at hA8 ⊢
          have hA8 : Arr cellsI H8 id d5 := hA8
          obtain ⟨r1, r2, r3, r4, r5⟩ := round_eq hS (partitionEqual_holds lt) ha1' hq1 hq2 (by omega) hB4 hnl he
          have hP5 : PermIn a1 b1 d4 d5 := by
            have := (partitionEqual_holds lt hS d4 a1 b1 q hq1 hq2 (by omega) (fun i hi hi' => by
              rcases hB4 with h0 | hB
              · omega
              · exact hS.ntrans _ _ _ (hB i hi hi') hnl)).2.2.1
            rw [he] at this; exact this
          simp (maxSteps := 1000000) [go_sem]
          exact hK (mid, b1, lj, wb, wp, d5) _ _ (by simp only; omega) (by simp [upF, Fr.get, Up.refl]) ⟨by simp only; omega, r2, hbb, hlj, by simp only; omega, QA_perm (by omega) hP5 hQ4, hS7.trans hS8, hA8, r4, fun R R1 R2 => by obtain ⟨g1, g2⟩ := r5 R R1 R2; exact hfin4 R g1 g2⟩
    rintro _ H7 ⟨hS7, hA7⟩
    refine AWp.ofVc ?_
    simp (maxSteps := 1000000) [go_sem]
    refine partI_ok hA7 hsz4 hl hq1 hq2 (by omega) hQ4 (hC.keep hS7) _ ?_
    intro H8 hS8 hA8
    obtain ⟨⟨mid, ap, d5⟩, he⟩ : ∃ r, partition lt d4 a1 b1 q = r := ⟨_, rfl⟩
    rw [he] at hA8 ⊢
    have hA8 : Arr cellsI H8 id d5 := hA8
    obtain ⟨r1, r2, r3, r4, r5, r6, r7⟩ := round_part hS (partition_holds lt) hq1 hq2 (by omega) hB4 he
    have hP5 : PermIn a1 b1 d4 d5 := by
      have := (partition_holds lt hS d4 a1 b1 q hq1 hq2 (by omega)).2.2.1
      rw [he] at this; exact this
    have hQ5 := QA_perm (by omega) hP5 hQ4
    have hS8 := hS7.trans hS8
    obtain ⟨ll, hll2⟩ : ∃ ll, ll = mid - a1 := ⟨_, rfl⟩
    obtain ⟨lr, hlr⟩ : ∃ lr, lr = b1 - mid := ⟨_, rfl⟩
    obtain ⟨m1, hm1⟩ : ∃ m1, m1 = mid + 1 := ⟨_, rfl⟩
    have w1 : IntKind.i64.wrap ((mid : Int) - a1) = (ll : Int) := by rw [hll2, i64w (by omega) (by omega)]; omega
    have w2 : IntKind.i64.wrap ((b1 : Int) - mid) = (lr : Int) := by rw [hlr, i64w (by omega) (by omega)]; omega
    have w3 : IntKind.i64.wrap ((l : Int) / 8) = (l : Int) / 8 := i64w (by omega) (by omega)
    have w4 : IntKind.i64.wrap ((mid : Int) + 1) = (m1 : Int) := by rw [hm1, i64w (by omega) (by omega)]; omega
    simp (maxSteps := 1000000) [go_sem]
    refine vc_sound _ _ _ _ ?_
    by_cases hlr2 : ll < lr
    · have hlr2' : (ll : Int) < lr := by omega
      simp (maxSteps := 1000000) [go_sem, w1, w2, w3, hlr2, hlr2']
      refine ih (mid - a1) (by omega) (Nat.le_refl _) hA8 (by omega) r1 (by omega) hlj r4 hQ5 (hC.keep hS8) _ ?_
      intro H9 d6 hS9 hA9 hP6 hs6
      obtain ⟨g1, g2⟩ := r6 d6 hP6 hs6
      simp (maxSteps := 1000000) [go_sem, w4]
      refine hK (m1, b1, lj, decide ((l : Int) / 8 ≤ ll), ap, d6) _ _ (by simp only; omega) (by simp [upF, Fr.get, Up.refl]) ⟨by simp only; omega, by simp only; omega, hbb, hlj, by simp only; rw [hP6.1]; omega, QA_perm (by omega) hP6 hQ5, hS8.trans hS9, hA9, by simp only [hm1]; exact g1, ?_⟩
      simp only [hm1]
      intro R R1 R2
      obtain ⟨k1, k2⟩ := g2 R R1 R2
      exact hfin4 R k1 k2
    · have hlr2' : ¬ ((ll : Int) < lr) := by omega
      simp (maxSteps := 1000000) [go_sem, w1, w2, w3, w4, hlr2, hlr2']
      refine ih (b1 - m1) (by omega) (Nat.le_refl _) hA8 (by omega) (by omega) (by omega) hlj (by rw [hm1]; exact r5) hQ5 (hC.keep hS8) _ ?_
      intro H9 d6 hS9 hA9 hP6 hs6
      rw [hm1] at hP6 hs6
      obtain ⟨g1, g2⟩ := r7 d6 hP6 hs6
      simp (maxSteps := 1000000) [go_sem]
      refine hK (a1, mid, lj, decide ((l : Int) / 8 ≤ lr), ap, d6) _ _ (by simp only; omega) (by simp [upF, Fr.get, Up.refl]) ⟨haa, r1, by simp only; omega, hlj, by simp only; rw [hP6.1]; omega, QA_perm (by omega) hP6 hQ5, hS8.trans hS9, hA9, g1, ?_⟩
      intro R R1 R2
      obtain ⟨k1, k2⟩ := g2 R R1 R2
      exact hfin4 R k1 k2

end Go.Proofs.Ytakkmkinfeddeaa
end

section
/- Sorting by a function: slices.SortFunc. -/
set_option linter.all false
set_option maxRecDepth 20000
set_option maxHeartbeats 8000000
namespace Go.Proofs.Ytakkmkinfeddeaa
open Go.Ab Go.Sort

theorem w64_0I : IntKind.i64.wrap 0 = 0 := i64w (by omega) (by omega)
theorem w64_1I : IntKind.i64.wrap 1 = 1 := i64w (by omega) (by omega)
theorem wu64_0I : IntKind.u64.wrap 0 = 0 := by rw [IntKind.wrap_u64]; omega
theorem ins0I_ok {H : Heap} {id : Nat} {fv : Value} (Post : Value → Heap → Prop) (h : Post (.tuple #[]) H) :
    ACalls Try.prog 219 [lv 1 id 0 0, .int .i64 0, .int .i64 0, fv] H Post := by
  refine acalls_vc (rs := []) Try.func219 rfl rfl Try.ntmps219 rfl rfl ?_
  simp (maxSteps := 1000000) [go_sem, w64_0I, w64_1I]
  refine AWp.loopVc (St := Unit) (fun _ => [(2, .int .i64 0), (8, .int .i64 1)]) (fun _ H' => H' = H) (fun _ => 0) () ?_ ?_ ?_
  · simp [upF, Fr.get, Up.refl]
  · rfl
  · rintro K _ H' rfl hK
    simp (maxSteps := 1000000) [go_sem, w64_0I, w64_1I]
    exact h
theorem pdq0I_ok {H : Heap} {id : Nat} {fv : Value} {l : Int} (Post : Value → Heap → Prop) (h : Post (.tuple #[]) H) :
    ACalls Try.prog 210 [lv 1 id 0 0, .int .i64 0, .int .i64 0, .int .i64 l, fv] H Post := by
  refine acalls_vc (rs := []) Try.func210 rfl rfl Try.ntmps210 rfl rfl ?_
  simp (maxSteps := 1000000) [go_sem, w64_0I, w64_1I]
  refine AWp.loopA (St := Unit) (fun _ => [(0, lv 1 id 0 0), (1, .int .i64 0), (2, .int .i64 0), (4, fv)]) (fun _ H' => H' = H) (fun _ => 0) () ?_ ?_ ?_
  · simp [upF, Fr.get, Up.refl]
  · rfl
  · rintro K _ H' rfl hK
    refine AWp.block ?_
    refine AWp.ofVc ?_
    simp (maxSteps := 1000000) [go_sem, w64_0I, w64_1I]
    refine AWp.ofVc ?_
    simp (maxSteps := 1000000) [go_sem, w64_0I, w64_1I]
    refine ins0I_ok _ ?_
    simp (maxSteps := 1000000) [go_sem, w64_0I, w64_1I]
    exact h

/-- slices.SortFunc: afterwards the same elements are there, ascending. -/
theorem sortFuncI_ok {H : Heap} {id n : Nat} {l : List Int} {lt : Int → Int → Bool} {g : FuncId} {fs cs : List Value} {Q : Int → Prop} (hS : SWO lt) (hA : OL 1 H id (l.flatMap cellsI) n) (hn : l.length = n) (hl : n ≤ 1048576) (hQ : ∀ x ∈ l, Q x)
    (hC : Cmp Try.prog valI lt g fs cs Q id H) (Post : Value → Heap → Prop)
    (h : ∀ (H' : Heap) (l' : List Int), Same (fun k => k = id) H H' → OL 1 H' id (l'.flatMap cellsI) n → l'.Perm l → l'.Pairwise (fun x y => lt y x = false) → Post (.tuple #[]) H') :
    ACalls Try.prog 188 [lv 1 id 0 n, .func (.func g) fs.toArray cs.toArray] H Post := by
  refine acalls_vc (rs := []) Try.func188 rfl rfl Try.ntmps188 rfl rfl ?_
  have w1 : IntKind.u64.wrap (n : Int) = n := by rw [IntKind.wrap_u64]; omega
  rcases hA.2 with ⟨h0, hg⟩ | hb
  · subst h0
    have hnil : l = [] := List.eq_nil_of_length_eq_zero hn
    subst hnil
    simp (maxSteps := 1000000) [go_sem, wu64_0I]
    refine bitsLenC_ok (x := 0) (by omega) _ ?_
    simp (maxSteps := 1000000) [go_sem]
    refine pdq0I_ok _ ?_
    simp (maxSteps := 1000000) [go_sem]
    exact h H [] (Same.refl _ _) hA (List.Perm.refl _) List.Pairwise.nil
  · have hA' : Arr cellsI H id l.toArray := by unfold Arr; simpa using hb
    have hQ' : QA Q l.toArray := by
      intro k hk
      rw [getElem!_pos l.toArray k hk]
      exact hQ _ (by simp)
    simp (maxSteps := 1000000) [go_sem, w1]
    refine bitsLenC_ok (by omega) _ ?_
    have hb64 : bitsLen n ≤ 64 := bitsLen_lt (by omega)
    simp (maxSteps := 1000000) [go_sem]
    refine pdqI_ok hS hl n (a := 0) (limit := bitsLen n) (by omega) hA' (by simpa using hn) (Nat.zero_le _) (Nat.le_refl _) hb64 (.inl rfl) hQ' hC _ ?_
    intro H' d' hS' hA2 hP hs
    have hsz : d'.size = n := by rw [hP.1]; simpa using hn
    have hp := perm_list (by simpa using hn) hP
    have fin := h H' d'.toList hS' ⟨by rw [flat_len cellsI_len, Array.length_toList, hsz], .inr hA2⟩ (by simpa using hp) (sorted_list hsz hs)
    simp (maxSteps := 1000000) [go_sem]
    exact fin

end Go.Proofs.Ytakkmkinfeddeaa
end

section
/- Types of pairs of points: the tested program's side; TypeOf. -/
set_option linter.all false
set_option maxRecDepth 20000
set_option maxHeartbeats 8000000
namespace Go.Proofs.Ytakkmkinfeddeaa
open Go.Ab Go.Sort

def gtI (x y : Int) : Bool := decide (y < x)
theorem swoGt : SWO gtI := by
  refine ⟨fun x => ?_, fun x y z h1 h2 => ?_, fun x y z h1 h2 => ?_⟩ <;> simp only [gtI, decide_eq_true_eq, decide_eq_false_iff_not] at * <;> omega
theorem typeCmp {id : Nat} {H : Heap} : Cmp Try.prog valI gtI 189 [] [] (fun _ => True) id H := by
  intro H x y Post _ _ _ h
  show ACalls Try.prog 189 [.int .i64 x, .int .i64 y] H Post
  refine acalls_vc (rs := [.tmp 4]) Try.func189 rfl rfl Try.ntmps189 rfl rfl ?_
  simp (maxSteps := 1000000) [go_sem]
  refine cmpCompare_ok _ ?_
  have fin := fun c hc => h H c (List.prefix_refl _) hc
  have key : ∀ c : Int, (c = if y < x then -1 else if x < y then 1 else 0) → decide (c < 0) = gtI x y := by
    intro c hc
    subst hc
    unfold gtI
    by_cases h1 : y < x
    · simp [h1]
    · by_cases h2 : x < y <;> simp [h1, h2]
  have fin := fin _ (key _ rfl)
  generalize (if y < x then (-1 : Int) else if x < y then 1 else 0) = c at *
  simp (maxSteps := 1000000) [go_sem]
  exact fin

theorem typeOf_ok {H : Heap} {u : Value} {gid : Nat} {gs : List Int} {v a b : Nat} {bs : List Bk} (hu : u.oneCell' = true) (hS : IsSys v bs) (hf : fullB v bs = true) (hga : GridAt H gid gs) (hgo : GridOf gs bs) (hab : a ≠ b) (ha : a < v) (hb : b < v) (Post : Value → Heap → Prop)
    (h : ∀ H' w, H <+: H' → IntsIn H.length H'.length H' w (descI (cycLens v a b bs)) → Post w H') :
    ACalls Try.prog 142 [sysV v u, .pointer (some ⟨gid, 0, none⟩), .int .i64 a, .int .i64 b] H Post := by
  have hv := hS.1
  have hlen := cycLens_len v a b bs
  refine ACalls.res ?_
  refine acalls_vc (rs := [.tmp 8]) Try.func142 rfl rfl Try.ntmps142 rfl rfl ?_
  simp (maxSteps := 1000000) [go_sem, sysV, hu]
  have hp0 : H <+: H ++ [⟨[.int .i64 v, u], true, true⟩] := List.prefix_append _ _
  generalize H ++ [(⟨[.int .i64 v, u], true, true⟩ : Blk)] = H0 at hp0 ⊢
  refine cycles_ok hu hS hf (hga.keep hp0) hgo hab ha hb _ ?_
  intro H1 w hp1 hw
  have hr := hw.read
  obtain ⟨xss, hxss⟩ : ∃ x, x = cycRows (thr bs a) (thr bs b) (upTo 0 v) [a, b, thr bs a b] := ⟨_, rfl⟩
  have hcl : cycLens v a b bs = xss.map fun r => (r.length : Int) := by rw [hxss]; rfl
  rw [← hxss] at hr hw
  rw [hcl] at h hlen
  have hxl : xss.length ≤ v := by simpa using hlen
  obtain ⟨i, o, ew, hrow⟩ : ∃ i o, w = lv 1 i o xss.length ∧ ∀ k, (hk : k < xss.length) → ∀ {H' : Heap}, H1 <+: H' → ∃ i' o', cellsAt H' i (o + k) 1 = some [lv 1 i' o' xss[k].length] ∧ IntsAt H' (lv 1 i' o' xss[k].length) xss[k] := by
    obtain ⟨i, o, vs, h1, h2, h3, h4, h5⟩ := hr
    refine ⟨i, o, h1, fun k hk H' hp => ?_⟩
    have hv : vs[k]? = some (vs[k]'(by omega)) := List.getElem?_eq_getElem (by omega)
    obtain ⟨i', o', e1, e2, e3⟩ := h4 k _ xss[k] hv (List.getElem?_eq_getElem hk)
    have c := (h3.pre hp).cell hv
    rw [e1] at c
    exact ⟨i', o', c, i', o', rfl, e2.pre hp, e3⟩
  subst ew
  simp (maxSteps := 1000000) [go_sem]
  refine AWp.addGhost ?_
  refine AWp.loopVc (St := Nat × Nat) (fun s => [(9, lv 1 s.2 0 s.1), (16, lv 1 i o xss.length), (17, .int .i64 xss.length), (18, .int .i64 s.1)])
    (fun s H' => s.1 ≤ xss.length ∧ Bl 1 H1 H' s.2 (ints ((xss.take s.1).map fun r => (r.length : Int))) s.1) (fun s => xss.length - s.1) (0, H1.length) ?_ ?_ ?_
  · simp [upF, Fr.get, Up.refl, Up.nil]
  · exact ⟨by simp, by simpa [ints] using Bl.ghost 1 H1⟩
  · rintro K ⟨s, id⟩ H' ⟨hs, hbl⟩ hK
    simp only at hs hbl
    by_cases hlt : s < xss.length
    · obtain ⟨i', o', c1, _, _, _, _, hz⟩ := hrow s hlt hbl.1
      have hw_s : IntKind.i64.wrap ((s : Int) + 1) = (s : Int) + 1 := i64w (by omega) (by omega)
      have hsn : (xss.take (s + 1)).map (fun r => (r.length : Int)) = (xss.take s).map (fun r => (r.length : Int)) ++ [(xss[s].length : Int)] := by rw [List.take_succ_eq_append_getElem hlt, List.map_append]; rfl
      generalize xss[s].length = m at *
      obtain ⟨hsrc, H4, hap, hbl4⟩ := hbl.push (xs := [.int .i64 (m : Int)]) (by omega) rfl
      rw [show ints ((xss.take s).map fun r => (r.length : Int)) ++ [Value.int .i64 (m : Int)] = ints ((xss.take (s + 1)).map fun r => (r.length : Int)) by rw [hsn, ← ints_append]; rfl] at hbl4
      simp (maxSteps := 1000000) [go_sem, hlt, c1, hsrc, hap, hw_s]
      exact andK_intro (by omega) (hK (s + 1, H'.length + 1) _ _ (by simp only; omega) (by simp [upF, Fr.get, Up.refl]) ⟨by simp only; omega, hbl4⟩)
    · have : s = xss.length := by omega
      subst this
      rw [List.take_length] at hbl
      have hol := hbl.2.1
      have e0 : ints (xss.map fun r => (r.length : Int)) = (xss.map fun r => (r.length : Int)).flatMap cellsI := by
        generalize (xss.map fun r => (r.length : Int)) = l
        induction l with
        | nil => rfl
        | cons x l ih => simp only [ints, List.map_cons, List.flatMap_cons, cellsI] at ih ⊢; rw [ih]; rfl
      rw [e0] at hol
      simp (maxSteps := 1000000) [go_sem]
      refine sortFuncI_ok (fs := []) (cs := []) (Q := fun _ => True) (l := xss.map fun r => (r.length : Int)) swoGt hol (by simp) (by omega) (fun _ _ => trivial) typeCmp _ ?_
      intro H2 l2 hs2 hol2 hperm hsorted
      have e2 : l2 = descI (xss.map fun r => (r.length : Int)) := desc_uniq hperm (hsorted.imp fun h => by simp only [gtI, decide_eq_false_iff_not] at h; omega)
      have e3 : l2.flatMap cellsI = ints l2 := by
        generalize l2 = l
        induction l with
        | nil => rfl
        | cons x l ih => simp only [ints, List.map_cons, List.flatMap_cons, cellsI] at ih ⊢; rw [ih]; rfl
      rw [e3, e2] at hol2
      have hle := (hp0.trans hp1).length_le
      have hp2 : H <+: H2 := ((Same.of_prefix (hp0.trans (hp1.trans hbl.1))).trans hs2).prefix (by have := hbl.2.2; intro j hj e; omega)
      have hlast : IntsIn H.length H2.length H2 (lv 1 id 0 xss.length) (descI (xss.map fun r => (r.length : Int))) := by
        have hdl : (descI (xss.map fun r => (r.length : Int))).length = xss.length := by rw [descI_length, List.length_map]
        refine ⟨id, ⟨by rw [hdl], ?_, by rw [hdl]; omega⟩, fun _ => ⟨by have := hbl.2.2; omega, hol2.lt⟩⟩
        rcases hol2.2 with ⟨e, _⟩ | e
        · left; exact List.eq_nil_of_length_eq_zero (by rw [hdl]; exact e)
        · right; exact e
      have fin := h H2 _ hp2 hlast
      simp (maxSteps := 1000000) [go_sem]
      exact ⟨_, Up.refl _ _, fin⟩

noncomputable def rTyp (p : Int) (bs : List Bk) (a b : Int) : List Int × Int :=
  if pairCode p bs a b = 0 then (if fullB p bs then (descI (cycLens p.toNat a.toNat b.toNat bs), 0) else ([], 5)) else ([], pairCode p bs a b)

theorem implTypeOf_ok {H : Heap} {u : Value} {p a b : Int} {bs : List Bk} (hu : BlocksAt H u bs) (hl : bs.length ≤ 1048576) (ha : In64 a) (hb : In64 b) (Post : Value → Heap → Prop)
    (h : ∀ H' w, H <+: H' → IntsIn H.length H'.length H' w (rTyp p bs a b).1 → Post (.tuple #[w, .int .i64 (rTyp p bs a b).2]) H') :
    ACalls Try.prog 68 [sysV p u, .int .i64 a, .int .i64 b] H Post := by
  refine ACalls.res ?_
  refine acalls_vc (rs := [.tmp 6, .tmp 7]) Try.func68 rfl rfl Try.ntmps68 rfl rfl ?_
  simp (maxSteps := 1000000) [go_sem, sysV, hu.one]
  have hp0 : H <+: H ++ [⟨[.int .i64 p, u], true, true⟩] := List.prefix_append _ _
  have hx0 := Holds.last H [.int .i64 p, u]
  generalize H ++ [(⟨[.int .i64 p, u], true, true⟩ : Blk)] = H0 at hp0 hx0 ⊢
  have bad : ∀ (H' : Heap) (c : Int), H <+: H' → rTyp p bs a b = ([], c) → ∃ v', Up H' (.tuple #[.slice none 0 0, .int .i64 c]) v' ∧ Post v' H' := by
    intro H' c hp hr
    refine ⟨_, Up.tuple (ys := #[lv 1 0 0 0, .int .i64 c]) ⟨Up.nil _ _ _ _, Up.refl _ _, trivial⟩, ?_⟩
    have := h H' (lv 1 0 0 0) hp (by rw [hr]; exact IntsIn.nil _ _ _)
    rwa [hr] at this
  refine pairCode_ok (hu.pre hp0) _ ?_
  intro H1 hp1
  obtain ⟨d0, d1, d2⟩ := (hx0.pre hp1).sys
  by_cases hc : pairCode p bs a b = 0
  · obtain ⟨hS, ⟨ha0, ha1⟩, ⟨hb0, hb1⟩, hab⟩ := pairCode_good hc
    have hp := hS.1
    simp (maxSteps := 1000000) [go_sem, hc, d0]
    refine fullCode_ok (hu.pre (hp0.trans hp1)) hp hl _ ?_
    intro H2 hp2
    obtain ⟨d0, d1, d2⟩ := (hx0.pre (hp1.trans hp2)).sys
    cases hf : fullB p bs with
    | false =>
      simp (maxSteps := 1000000) [go_sem]
      exact bad H2 5 (hp0.trans (hp1.trans hp2)) (by simp [rTyp, hc, hf])
    | true =>
      obtain ⟨v, rfl⟩ : ∃ n : Nat, p = n := ⟨p.toNat, by omega⟩
      obtain ⟨x, rfl⟩ : ∃ n : Nat, a = n := ⟨a.toNat, by omega⟩
      obtain ⟨y, rfl⟩ : ∃ n : Nat, b = n := ⟨b.toNat, by omega⟩
      simp (maxSteps := 1000000) [go_sem]
      refine AWp.draw mixed [(0, false), (1, false), (3, false), (4, false), (2, true), (5, false), (6, false), (7, false)] (by kernel_rfl) ?_
      simp (maxSteps := 1000000) [go_sem, d0]
      refine sysGrid_ok (hu.pre (hp0.trans (hp1.trans hp2))) hS.good15 hS.2.2.2 _ ?_
      intro H3 gid gs hp3 _ hga hgo
      simp (maxSteps := 1000000) [go_sem, hp3]
      refine typeOf_ok hu.one hS hf hga hgo (by omega) (by omega) (by omega) _ ?_
      intro H4 w hp4 hw
      have hpre := hp0.trans (hp1.trans (hp2.trans hp3))
      have hr : rTyp v bs x y = (descI (cycLens v x y bs), 0) := by simp [rTyp, hc, hf]
      have fin := h H4 w (hpre.trans hp4) (by rw [hr]; exact hw.wider hpre.length_le)
      rw [hr] at fin
      simp (maxSteps := 1000000) [go_sem, hp4]
      exact ⟨_, Up.refl _ _, fin⟩
  · have hc2 : (pairCode p bs a b != 0) = true := by simpa using hc
    simp (maxSteps := 1000000) [go_sem, hc2]
    exact bad H1 _ (hp0.trans hp1) (by simp [rTyp, hc])

theorem specTypeOf_ok {H : Heap} {u : Value} {p a b : Int} {bs : List Bk} (hu : BlocksAt H u bs) (hl : bs.length ≤ 1048576) (ha : In64 a) (hb : In64 b) (Post : Value → Heap → Prop)
    (h : ∀ H' w, H <+: H' → IntsIn H.length H'.length H' w (rTyp p bs a b).1 → Post (.tuple #[w, .int .i64 (rTyp p bs a b).2]) H') :
    ACalls Try.prog 67 [sysV p u, .int .i64 a, .int .i64 b] H Post := by
  refine ACalls.res ?_
  refine acalls_vc (rs := [.tmp 6, .tmp 7]) Try.func67 rfl rfl Try.ntmps67 rfl rfl ?_
  simp (maxSteps := 1000000) [go_sem, sysV, hu.one]
  have hp0 : H <+: H ++ [⟨[.int .i64 p, u], true, true⟩] := List.prefix_append _ _
  have hx0 := Holds.last H [.int .i64 p, u]
  generalize H ++ [(⟨[.int .i64 p, u], true, true⟩ : Blk)] = H0 at hp0 hx0 ⊢
  have bad : ∀ (H' : Heap) (c : Int), H <+: H' → rTyp p bs a b = ([], c) → ∃ v', Up H' (.tuple #[.slice none 0 0, .int .i64 c]) v' ∧ Post v' H' := by
    intro H' c hp hr
    refine ⟨_, Up.tuple (ys := #[lv 1 0 0 0, .int .i64 c]) ⟨Up.nil _ _ _ _, Up.refl _ _, trivial⟩, ?_⟩
    have := h H' (lv 1 0 0 0) hp (by rw [hr]; exact IntsIn.nil _ _ _)
    rwa [hr] at this
  refine l03Code_ok (hu.pre hp0) hl ha hb _ ?_
  intro H1 hp1
  obtain ⟨d0, d1, d2⟩ := (hx0.pre hp1).sys
  by_cases hc : pairCode p bs a b = 0
  · obtain ⟨hS, ⟨ha0, ha1⟩, ⟨hb0, hb1⟩, hab⟩ := pairCode_good hc
    have hp := hS.1
    cases hf : fullB p bs with
    | false =>
      have e : cCode p bs a b = 5 := by simp [cCode, hc, hf]
      simp (maxSteps := 1000000) [go_sem, e]
      exact bad H1 5 (hp0.trans hp1) (by simp [rTyp, hc, hf])
    | true =>
      have e : cCode p bs a b = 0 := by simp [cCode, hc, hf]
      obtain ⟨v, rfl⟩ : ∃ n : Nat, p = n := ⟨p.toNat, by omega⟩
      obtain ⟨x, rfl⟩ : ∃ n : Nat, a = n := ⟨a.toNat, by omega⟩
      obtain ⟨y, rfl⟩ : ∃ n : Nat, b = n := ⟨b.toNat, by omega⟩
      simp (maxSteps := 1000000) [go_sem, e, d0]
      refine l03Type_ok (hu.pre (hp0.trans hp1)) hS hf (by omega) (by omega) (by omega) _ ?_
      intro H4 w hp4 hw
      have hpre := hp0.trans hp1
      have hr : rTyp v bs x y = (descI (cycLens v x y bs), 0) := by simp [rTyp, hc, hf]
      have fin := h H4 w (hpre.trans hp4) (by rw [hr]; exact hw.wider hpre.length_le)
      rw [hr] at fin
      simp (maxSteps := 1000000) [go_sem, hp4]
      exact ⟨_, Up.refl _ _, fin⟩
  · have e : cCode p bs a b = pairCode p bs a b := by simp [cCode, hc]
    have hc2 : (pairCode p bs a b != 0) = true := by simpa using hc
    simp (maxSteps := 1000000) [go_sem, e, hc2]
    exact bad H1 _ (hp0.trans hp1) (by simp [rTyp, hc])

end Go.Proofs.Ytakkmkinfeddeaa
end

section
/- The law on TypeOf, in abstract terms: its code returns true, for every input. -/
set_option linter.all false
set_option maxRecDepth 20000
namespace Go.Proofs.Ytakkmkinfeddeaa
open Go.Ab

theorem lawFnExactTypeOf (H : Heap) (avs : List Value) (h : argsSay [shSystem, shInt, shInt] H avs) : ACalls Try.prog 15 avs H fun v _ => v = .bool true := by
  obtain ⟨_, _, rfl, a0, _, _, rfl, a1, _, _, rfl, a2, rfl⟩ := h
  obtain ⟨p0, u0, b0, rfl, hp00, hz0, hw0⟩ := says_shSystem a0
  have one0 : u0.oneCell' = true := by obtain ⟨i, o, rfl, _⟩ := hz0; rfl
  obtain ⟨n1, rfl, hn1⟩ := says_shInt' a1
  obtain ⟨n2, rfl, hn2⟩ := says_shInt' a2
  refine acalls_vc (rs := [.tmp 6]) Try.func15 rfl rfl Try.ntmps15 rfl rfl ?_
  try simp (maxSteps := 1000000) [go_sem, one0, sysV]
  have hp1 : H <+: H ++ [(⟨[.int .i64 p0, u0], true, true⟩ : Blk)] := List.prefix_append _ _
  have bx0 : Holds (H ++ [(⟨[.int .i64 p0, u0], true, true⟩ : Blk)]) (H.length) [.int .i64 p0, u0] := ⟨true, by simp⟩
  have hbH1 : (H ++ [(⟨[.int .i64 p0, u0], true, true⟩ : Blk)]).length = H.length + 1 := by simp
  generalize H ++ [(⟨[.int .i64 p0, u0], true, true⟩ : Blk)] = H1 at hp1 hbH1 bx0 ⊢
  have hlH1 := hp1.length_le
  have qz0 := hp1
  obtain ⟨d0a, d0b, d0c⟩ := bx0.sys
  refine szSystem0_ok (hz0.pre qz0) (by omega) (by omega) _ ?_
  intro H2 hp2
  replace bx0 := bx0.pre hp2
  replace qz0 := qz0.trans hp2
  have hlH2 := hp2.length_le
  obtain ⟨d0a, d0b, d0c⟩ := bx0.sys
  by_cases hbig0 : (1048576 : Int) < b0.length
  · simp (maxSteps := 1000000) [go_sem, hbig0, one0, sysV]
  have hneg0 : decide ((1048576 : Int) - b0.length < 0) = false := by simp; omega
  have hl0 : b0.length ≤ 1048576 := by omega
  have hq0 := hz0.at (by omega)
  try simp (maxSteps := 1000000) [go_sem, hbig0, hneg0, one0, sysV, d0a, d0b, d0c]
  refine toSys_ok (hq0.pre qz0) hl0 _ ?_
  intro H3 wo3 hp3 hoo3
  replace bx0 := bx0.pre hp3
  replace qz0 := qz0.trans hp3
  have hlH3 := hp3.length_le
  obtain ⟨d0a, d0b, d0c⟩ := bx0.sys
  try simp (maxSteps := 1000000) [go_sem, hbig0, hneg0, one0, sysV, d0a, d0b, d0c]
  refine specTypeOf_ok hoo3.read hl0 hn1 hn2 _ ?_
  intro H4 wH4_0 hp4 hoH4_0
  replace bx0 := bx0.pre hp4
  replace hoo3 := hoo3.pre hp4
  replace qz0 := qz0.trans hp4
  have hlH4 := hp4.length_le
  obtain ⟨d0a, d0b, d0c⟩ := bx0.sys
  try simp (maxSteps := 1000000) [go_sem, hbig0, hneg0, one0, sysV, d0a, d0b, d0c]
  refine toSys_ok (hq0.pre qz0) hl0 _ ?_
  intro H5 wo5 hp5 hoo5
  replace bx0 := bx0.pre hp5
  replace hoo3 := hoo3.pre hp5
  replace hoH4_0 := hoH4_0.pre hp5
  replace qz0 := qz0.trans hp5
  have hlH5 := hp5.length_le
  obtain ⟨d0a, d0b, d0c⟩ := bx0.sys
  have one_o5 : wo5.oneCell' = true := hoo5.read.one
  try simp (maxSteps := 1000000) [go_sem, hbig0, hneg0, one0, one_o5, sysV, d0a, d0b, d0c]
  have bxo5 := Holds.last H5 [.int .i64 p0, wo5]
  have hp6 : H5 <+: H5 ++ [(⟨[.int .i64 p0, wo5], true, true⟩ : Blk)] := List.prefix_append _ _
  have hbH6 : (H5 ++ [(⟨[.int .i64 p0, wo5], true, true⟩ : Blk)]).length = H5.length + 1 := by simp
  generalize H5 ++ [(⟨[.int .i64 p0, wo5], true, true⟩ : Blk)] = H6 at bxo5 hp6 hbH6 ⊢
  replace bx0 := bx0.pre hp6
  replace hoo3 := hoo3.pre hp6
  replace hoH4_0 := hoH4_0.pre hp6
  replace hoo5 := hoo5.pre hp6
  replace qz0 := qz0.trans hp6
  have hlH6 := hp6.length_le
  obtain ⟨d0a, d0b, d0c⟩ := bx0.sys
  obtain ⟨eo5a, eo5b, eo5c⟩ := bxo5.sys
  try simp (maxSteps := 1000000) [go_sem, hbig0, hneg0, one0, one_o5, sysV, d0a, d0b, d0c, eo5a, eo5b, eo5c]
  refine implTypeOf_ok hoo5.read hl0 hn1 hn2 _ ?_
  intro H7 wH7_0 hp7 hoH7_0
  replace bx0 := bx0.pre hp7
  replace bxo5 := bxo5.pre hp7
  replace hoo3 := hoo3.pre hp7
  replace hoH4_0 := hoH4_0.pre hp7
  replace hoo5 := hoo5.pre hp7
  replace qz0 := qz0.trans hp7
  have hlH7 := hp7.length_le
  obtain ⟨d0a, d0b, d0c⟩ := bx0.sys
  obtain ⟨eo5a, eo5b, eo5c⟩ := bxo5.sys
  try simp (maxSteps := 1000000) [go_sem, hbig0, hneg0, one0, one_o5, sysV, d0a, d0b, d0c, eo5a, eo5b, eo5c]
  refine eqInt64S_ok hoH7_0.read hoH4_0.read _ ?_
  try simp (maxSteps := 1000000) [go_sem, hbig0, hneg0, one0, one_o5, sysV, d0a, d0b, d0c, eo5a, eo5b, eo5c]
  refine AWp.draw mixed [(0, false), (1, false), (2, true), (3, false), (4, false)] (by kernel_rfl) ?_
  try simp (maxSteps := 1000000) [go_sem, hbig0, hneg0, one0, one_o5, sysV, d0a, d0b, d0c, eo5a, eo5b, eo5c]
  refine toSys_ok (hq0.pre qz0) hl0 _ ?_
  intro H8 wo8 hp8 hoo8
  replace bx0 := bx0.pre hp8
  replace bxo5 := bxo5.pre hp8
  replace hoo3 := hoo3.pre hp8
  replace hoH4_0 := hoH4_0.pre hp8
  replace hoo5 := hoo5.pre hp8
  replace hoH7_0 := hoH7_0.pre hp8
  replace qz0 := qz0.trans hp8
  have hlH8 := hp8.length_le
  obtain ⟨d0a, d0b, d0c⟩ := bx0.sys
  obtain ⟨eo5a, eo5b, eo5c⟩ := bxo5.sys
  try simp (maxSteps := 1000000) [go_sem, hbig0, hneg0, hp8, one0, one_o5, sysV, d0a, d0b, d0c, eo5a, eo5b, eo5c]
  refine eqSystem_ok hoo5.read hoo8.read _ ?_
  intro H9 hp9
  replace bx0 := bx0.pre hp9
  replace bxo5 := bxo5.pre hp9
  replace hoo3 := hoo3.pre hp9
  replace hoH4_0 := hoH4_0.pre hp9
  replace hoo5 := hoo5.pre hp9
  replace hoH7_0 := hoH7_0.pre hp9
  replace hoo8 := hoo8.pre hp9
  replace qz0 := qz0.trans hp9
  have hlH9 := hp9.length_le
  obtain ⟨d0a, d0b, d0c⟩ := bx0.sys
  obtain ⟨eo5a, eo5b, eo5c⟩ := bxo5.sys
  try simp (maxSteps := 1000000) [go_sem, hbig0, hneg0, hp8, one0, one_o5, sysV, d0a, d0b, d0c, eo5a, eo5b, eo5c]
  refine markSys_ok hoo5 (by omega) (by omega) _ ?_
  intro H10 hs10 mk10
  replace bx0 := bx0.keepS hs10 (by rintro ⟨h1, h2⟩; omega)
  replace bxo5 := bxo5.keepS hs10 (by rintro ⟨h1, h2⟩; omega)
  replace hoo3 := hoo3.keep hs10 (by rintro j ⟨h1, h2⟩ ⟨h3, h4⟩; omega)
  replace hoH4_0 := hoH4_0.keep hs10 (by rintro j ⟨h1, h2⟩ ⟨h3, h4⟩; omega)
  replace hoH7_0 := hoH7_0.keep hs10 (by rintro j ⟨h1, h2⟩ ⟨h3, h4⟩; omega)
  replace hoo8 := hoo8.keep hs10 (by rintro j ⟨h1, h2⟩ ⟨h3, h4⟩; omega)
  replace qz0 := ((Same.of_prefix qz0).trans hs10).prefix (by rintro j hj ⟨h1, h2⟩; omega)
  have hlH10 := hs10.1
  obtain ⟨d0a, d0b, d0c⟩ := bx0.sys
  obtain ⟨eo5a, eo5b, eo5c⟩ := bxo5.sys
  have hng10 : decide ((1 : Int) + ((b0).length * 3 : Nat) < 0) = false := by simp only [decide_eq_false_iff_not]; omega
  try simp only [Int.natCast_mul, Int.cast_ofNat_Int] at hng10
  try simp (maxSteps := 1000000) [go_sem, hbig0, hneg0, hng10, hp8, one0, one_o5, sysV, d0a, d0b, d0c, eo5a, eo5b, eo5c]
  refine eqInt64S_ok hoH7_0.read hoH4_0.read _ ?_
  try simp (maxSteps := 1000000) [go_sem, hbig0, hneg0, hng10, hp8, one0, one_o5, sysV, d0a, d0b, d0c, eo5a, eo5b, eo5c]
  refine markInts_ok hoH7_0 (by omega) (by omega) _ ?_
  intro H11 hs11 mk11
  replace bx0 := bx0.keepS hs11 (by rintro ⟨h1, h2⟩; omega)
  replace bxo5 := bxo5.keepS hs11 (by rintro ⟨h1, h2⟩; omega)
  replace hoo3 := hoo3.keep hs11 (by rintro j ⟨h1, h2⟩ ⟨h3, h4⟩; omega)
  replace hoH4_0 := hoH4_0.keep hs11 (by rintro j ⟨h1, h2⟩ ⟨h3, h4⟩; omega)
  replace mk10 := mk10.keep hs11 (by rintro j ⟨h1, h2⟩ ⟨h3, h4⟩; omega)
  replace hoo8 := hoo8.keep hs11 (by rintro j ⟨h1, h2⟩ ⟨h3, h4⟩; omega)
  replace qz0 := ((Same.of_prefix qz0).trans hs11).prefix (by rintro j hj ⟨h1, h2⟩; omega)
  have hlH11 := hs11.1
  obtain ⟨d0a, d0b, d0c⟩ := bx0.sys
  obtain ⟨eo5a, eo5b, eo5c⟩ := bxo5.sys
  have hng11 : decide ((1 : Int) + (((rTyp p0 b0 n1 n2).1).length : Nat) < 0) = false := by simp only [decide_eq_false_iff_not]; omega
  try simp only [Int.natCast_mul, Int.cast_ofNat_Int] at hng11
  try simp (maxSteps := 1000000) [go_sem, hbig0, hneg0, hng10, hng11, hp8, one0, one_o5, sysV, d0a, d0b, d0c, eo5a, eo5b, eo5c]
  refine heldInts_ok mk11 (by omega) (by omega) _ ?_
  try simp (maxSteps := 1000000) [go_sem, hbig0, hneg0, hng10, hng11, hp8, one0, one_o5, sysV, d0a, d0b, d0c, eo5a, eo5b, eo5c]
  refine toSys_ok (hq0.pre qz0) hl0 _ ?_
  intro H12 wo12 hp12 hoo12
  replace bx0 := bx0.pre hp12
  replace bxo5 := bxo5.pre hp12
  replace hoo3 := hoo3.pre hp12
  replace hoH4_0 := hoH4_0.pre hp12
  replace mk10 := mk10.pre hp12
  replace mk11 := mk11.pre hp12
  replace hoo8 := hoo8.pre hp12
  replace qz0 := qz0.trans hp12
  have hlH12 := hp12.length_le
  obtain ⟨d0a, d0b, d0c⟩ := bx0.sys
  obtain ⟨eo5a, eo5b, eo5c⟩ := bxo5.sys
  try simp (maxSteps := 1000000) [go_sem, hbig0, hneg0, hng10, hng11, hp8, one0, one_o5, sysV, d0a, d0b, d0c, eo5a, eo5b, eo5c]
  refine implTypeOf_ok hoo12.read hl0 hn1 hn2 _ ?_
  intro H13 wH13_0 hp13 hoH13_0
  replace bx0 := bx0.pre hp13
  replace bxo5 := bxo5.pre hp13
  replace hoo3 := hoo3.pre hp13
  replace hoH4_0 := hoH4_0.pre hp13
  replace mk10 := mk10.pre hp13
  replace mk11 := mk11.pre hp13
  replace hoo8 := hoo8.pre hp13
  replace hoo12 := hoo12.pre hp13
  replace qz0 := qz0.trans hp13
  have hlH13 := hp13.length_le
  obtain ⟨d0a, d0b, d0c⟩ := bx0.sys
  obtain ⟨eo5a, eo5b, eo5c⟩ := bxo5.sys
  try simp (maxSteps := 1000000) [go_sem, hbig0, hneg0, hng10, hng11, hp8, one0, one_o5, sysV, d0a, d0b, d0c, eo5a, eo5b, eo5c]
  refine eqInt64S_ok hoH13_0.read hoH4_0.read _ ?_
  try simp (maxSteps := 1000000) [go_sem, hbig0, hneg0, hng10, hng11, hp8, one0, one_o5, sysV, d0a, d0b, d0c, eo5a, eo5b, eo5c]
  refine heldInts_ok mk11 (by omega) (by omega) _ ?_
  try simp (maxSteps := 1000000) [go_sem, hbig0, hneg0, hng10, hng11, hp8, one0, one_o5, sysV, d0a, d0b, d0c, eo5a, eo5b, eo5c]

end Go.Proofs.Ytakkmkinfeddeaa
end
