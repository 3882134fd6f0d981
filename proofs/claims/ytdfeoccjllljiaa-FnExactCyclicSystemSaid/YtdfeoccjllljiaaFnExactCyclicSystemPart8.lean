/- Part 8 of what the proof of the law FnExactCyclicSystem rests on: contracts of functions of the program, for every argument that each names; no statement of the seat is proved here. -/
import Derived.Test.YtdfeoccjllljiaaFnExactCyclicSystemPart7

section
/- Sorting by a function: pdqsort. -/
set_option linter.all false
set_option maxRecDepth 20000
set_option maxHeartbeats 8000000
namespace Go.Proofs.Ytdfeoccjllljiaa
open Go.Ab Go.Sort

theorem pdqB_ok {lt : Bk → Bk → Bool} {g : FuncId} {fs cs : List Value} {Q : Bk → Prop} {n : Nat} (hS : SWO lt) (hl : n ≤ 1048576) : ∀ (N : Nat) {H : Heap} {id a b limit : Nat} {d : Array Bk}, b - a ≤ N → Arr Bk.cells H id d → d.size = n → a ≤ b → b ≤ n → limit ≤ 64 → Below lt a b d → QA Q d →
    Cmp Try.prog Bk.val lt g fs cs Q id H → ∀ (Post : Value → Heap → Prop), (∀ H' d', Same (fun k => k = id) H H' → Arr Bk.cells H' id d' → PermIn a b d d' → SortedIn lt a b d' → Post (.tuple #[]) H') →
    ACalls Try.prog 201 [lv 3 id 0 n, .int .i64 a, .int .i64 b, .int .i64 limit, .func (.func g) fs.toArray cs.toArray] H Post := by
  intro N
  induction N using Nat.strongRecOn with
  | _ N ih =>
  intro H id a b limit d hN hA hn hab hb hlim hBel hQ hC Post h
  refine acalls_vc (rs := []) Try.func201 rfl rfl Try.ntmps201 rfl rfl ?_
  simp (maxSteps := 1000000) [go_sem]
  refine AWp.loopA (St := Nat × Nat × Nat × Bool × Bool × Array Bk) (fun s => [(0, lv 3 id 0 n), (1, .int .i64 s.1), (2, .int .i64 s.2.1), (3, .int .i64 s.2.2.1), (4, .func (.func g) fs.toArray cs.toArray), (10, .bool s.2.2.2.1), (11, .bool s.2.2.2.2.1)])
    (fun s H' => a ≤ s.1 ∧ s.1 ≤ s.2.1 ∧ s.2.1 ≤ b ∧ s.2.2.1 ≤ 64 ∧ s.2.2.2.2.2.size = n ∧ QA Q s.2.2.2.2.2 ∧ Same (fun k => k = id) H H' ∧ Arr Bk.cells H' id s.2.2.2.2.2 ∧ Below lt s.1 s.2.1 s.2.2.2.2.2 ∧
      ∀ R, PermIn s.1 s.2.1 s.2.2.2.2.2 R → SortedIn lt s.1 s.2.1 R → PermIn a b d R ∧ SortedIn lt a b R) (fun s => s.2.1 - s.1) (a, b, limit, true, true, d) ?_ ?_ ?_
  · simp [upF, Fr.get, Up.refl]
  · exact ⟨Nat.le_refl _, hab, Nat.le_refl _, hlim, hn, hQ, Same.refl _ _, hA, hBel, fun R h1 h2 => ⟨h1, h2⟩⟩
  · rintro K ⟨a1, b1, li, wb, wp, d1⟩ H1 ⟨haa, hab1, hbb, hli, hsz, hQ1, hS1, hA1, hB1, hfin⟩ hK
    simp only at haa hab1 hbb hli hsz hQ1 hS1 hA1 hB1 hfin
    obtain ⟨l, hll⟩ : ∃ l, l = b1 - a1 := ⟨_, rfl⟩
    have w0 : IntKind.i64.wrap ((b1 : Int) - a1) = (l : Int) := by rw [hll, i64w (by omega) (by omega)]; omega
    refine AWp.block ?_
    -- the length
    refine AWp.ofVc ?_
    simp (maxSteps := 1000000) [go_sem, w0]
    by_cases h12 : l ≤ 12
    · have h12' : (l : Int) ≤ 12 := by omega
      refine AWp.ofVc ?_
      simp (maxSteps := 1000000) [go_sem, h12, h12']
      refine insB_ok hA1 hsz hl (by omega) (by omega) hQ1 (hC.keep hS1) _ ?_
      intro H2 hS2 hA2
      obtain ⟨f1, f2⟩ := insertionSort_holds hS d1 a1 b1 (by omega) (by omega)
      obtain ⟨f3, f4⟩ := hfin _ f1 f2
      have fin := h H2 _ (hS1.trans hS2) hA2 f3 f4
      simp (maxSteps := 1000000) [go_sem]
      exact fin
    have h12' : ¬ ((l : Int) ≤ 12) := by omega
    refine AWp.ofVc ?_
    simp (maxSteps := 1000000) [go_sem, h12, h12']
    by_cases hl0 : li = 0
    · subst hl0
      refine AWp.ofVc ?_
      simp (maxSteps := 1000000) [go_sem]
      refine heapB_ok hA1 hsz hl (by omega) (by omega) hQ1 (hC.keep hS1) _ ?_
      intro H2 hS2 hA2
      obtain ⟨f1, f2⟩ := heapSort_holds hS d1 a1 b1 (by omega) (by omega)
      obtain ⟨f3, f4⟩ := hfin _ f1 f2
      have fin := h H2 _ (hS1.trans hS2) hA2 f3 f4
      simp (maxSteps := 1000000) [go_sem]
      exact fin
    have hl0' : ((li : Int) == 0) = false := by rw [beq_eq_false_iff_ne]; omega
    refine AWp.ofVc ?_
    simp (maxSteps := 1000000) [go_sem, hl0, hl0']
    -- the patterns
    refine AWp.seqCut (St := Nat × Array Bk) (fun s => [(0, lv 3 id 0 n), (1, .int .i64 a1), (2, .int .i64 b1), (3, .int .i64 s.1), (4, .func (.func g) fs.toArray cs.toArray), (10, .bool wb), (11, .bool wp), (12, .int .i64 l)])
      (fun s H' => s.1 ≤ 64 ∧ QA Q s.2 ∧ Same (fun k => k = id) H H' ∧ Arr Bk.cells H' id s.2 ∧ PermIn a1 b1 d1 s.2) ?_ ?_
    · intro KE hKE
      cases wb with
      | true =>
        simp (maxSteps := 1000000) [go_sem]
        exact hKE (li, d1) _ _ (by simp [upF, Fr.get, Up.refl]) ⟨hli, hQ1, hS1, hA1, permIn_refl _ _ _⟩
      | false =>
        obtain ⟨lj, hlj⟩ : ∃ lj, lj = li - 1 := ⟨_, rfl⟩
        have wl : IntKind.i64.wrap ((li : Int) - 1) = (lj : Int) := by rw [hlj, i64w (by omega) (by omega)]; omega
        simp (maxSteps := 1000000) [go_sem]
        refine breakB_ok hA1 hsz hl (by omega) (by omega) hQ1 _ ?_
        intro H2 d2 hS2 hA2 hQ2 hP2
        simp (maxSteps := 1000000) [go_sem, wl]
        exact hKE (lj, d2) _ _ (by simp [upF, Fr.get, Up.refl]) ⟨by simp only; omega, hQ2, hS1.trans hS2, hA2, hP2⟩
    rintro ⟨lj, d2⟩ H2 ⟨hlj, hQ2, hS2, hA2, hP2⟩
    simp only at hlj hQ2 hS2 hA2 hP2 ⊢
    have hsz2 : d2.size = n := by rw [hP2.1]; exact hsz
    -- the pivot
    refine AWp.ofVc ?_
    simp (maxSteps := 1000000) [go_sem]
    refine pivotB_ok hA2 hsz2 hl (by omega) (by omega) hQ2 (hC.keep hS2) _ ?_
    intro H3 p t hp3 hpr
    have hS3 := hS2.via (Same.of_prefix (S := fun _ => False) hp3) (fun _ _ h => h.elim)
    have hA3 := hA2.pre hp3
    simp (maxSteps := 1000000) [go_sem]
    refine AWp.seqCut (St := Nat × Int × Array Bk) (fun s => [(0, lv 3 id 0 n), (1, .int .i64 a1), (2, .int .i64 b1), (3, .int .i64 lj), (4, .func (.func g) fs.toArray cs.toArray), (10, .bool wb), (11, .bool wp), (12, .int .i64 l), (13, .int .i64 s.1), (14, .int .i64 s.2.1)])
      (fun s H' => a1 ≤ s.1 ∧ s.1 < b1 ∧ QA Q s.2.2 ∧ Same (fun k => k = id) H H' ∧ Arr Bk.cells H' id s.2.2 ∧ PermIn a1 b1 d2 s.2.2) ?_ ?_
    · intro KE hKE
      by_cases ht : t = 2
      · subst ht
        obtain ⟨p2, hp2⟩ : ∃ p2, p2 = b1 - 1 - (p - a1) := ⟨_, rfl⟩
        have w1 : IntKind.i64.wrap ((b1 : Int) - 1) = (b1 : Int) - 1 := i64w (by omega) (by omega)
        have w2 : IntKind.i64.wrap ((p : Int) - a1) = (p : Int) - a1 := i64w (by omega) (by omega)
        have w3 : IntKind.i64.wrap ((b1 : Int) - 1 - ((p : Int) - a1)) = (p2 : Int) := by rw [hp2, i64w (by omega) (by omega)]; omega
        simp (maxSteps := 1000000) [go_sem]
        refine reverseB_ok hA3 hsz2 hl (by omega) (by omega) _ ?_
        intro H4 hS4 hA4
        have hP4 := reverseRange_holds d2 a1 b1 (by omega) (by omega)
        simp (maxSteps := 1000000) [go_sem, w1, w2, w3]
        exact hKE (p2, 1, reverseRange d2 a1 b1) _ _ (by simp [upF, Fr.get, Up.refl]) ⟨by simp only; omega, by simp only; omega, QA_perm (by omega) hP4 hQ2, hS3.trans hS4, hA4, hP4⟩
      · have ht' : (t == 2) = false := by rw [beq_eq_false_iff_ne]; exact ht
        simp (maxSteps := 1000000) [go_sem, ht, ht']
        exact hKE (p, t, d2) _ _ (by simp [upF, Fr.get, Up.refl]) ⟨hpr.1, hpr.2, hQ2, hS3, hA3, permIn_refl _ _ _⟩
    rintro ⟨q, u, d3⟩ H4 ⟨hq1, hq2, hQ3, hS4, hA4, hP3⟩
    simp only at hq1 hq2 hQ3 hS4 hA4 hP3 ⊢
    have hsz3 : d3.size = n := by rw [hP3.1]; exact hsz2
    have hP13 := permIn_trans _ _ _ _ _ hP2 hP3
    have hB3 : Below lt a1 b1 d3 := hB1.perm (by omega) hP13
    -- it may be sorted
    refine AWp.seqCut (St := Array Bk) (fun _ => [(0, lv 3 id 0 n), (1, .int .i64 a1), (2, .int .i64 b1), (3, .int .i64 lj), (4, .func (.func g) fs.toArray cs.toArray), (10, .bool wb), (11, .bool wp), (12, .int .i64 l), (13, .int .i64 q)])
      (fun d4 H' => QA Q d4 ∧ Same (fun k => k = id) H H' ∧ Arr Bk.cells H' id d4 ∧ PermIn a1 b1 d1 d4) ?_ ?_
    · intro KE hKE
      have skip := fun fr' hfr => hKE d3 fr' H4 hfr ⟨hQ3, hS4, hA4, hP13⟩
      cases wb with
      | false =>
        simp (maxSteps := 1000000) [go_sem, undef]
        exact skip _ (by simp [upF, Fr.get, Up.refl])
      | true =>
        cases wp with
        | false =>
          simp (maxSteps := 1000000) [go_sem, undef]
          exact skip _ (by simp [upF, Fr.get, Up.refl])
        | true =>
          by_cases hu : u = 1
          · subst hu
            simp (maxSteps := 1000000) [go_sem]
            refine partInsB_ok hA4 hsz3 hl (by omega) (by omega) hQ3 (hC.keep hS4) _ ?_
            intro H6 hS6 hA6
            obtain ⟨f1, f2⟩ := partialInsertionSort_holds hS d3 a1 b1 (by omega) (by omega) hB3
            generalize partialInsertionSort lt d3 a1 b1 = r at *
            obtain ⟨d4, ok⟩ := r
            simp only at hA6 f1 f2 ⊢
            have hP14 := permIn_trans _ _ _ _ _ hP13 f1
            cases ok with
            | true =>
              obtain ⟨f3, f4⟩ := hfin _ hP14 (f2 rfl)
              have fin := h H6 _ (hS4.trans hS6) hA6 f3 f4
              simp (maxSteps := 1000000) [go_sem]
              exact fin
            | false =>
              simp (maxSteps := 1000000) [go_sem]
              exact hKE d4 _ _ (by simp [upF, Fr.get, Up.refl]) ⟨QA_perm (by omega) f1 hQ3, hS4.trans hS6, hA6, hP14⟩
          · have hu' : (u == 1) = false := by rw [beq_eq_false_iff_ne]; exact hu
            simp (maxSteps := 1000000) [go_sem, hu, hu']
            exact skip _ (by simp [upF, Fr.get, Up.refl])
    rintro d4 H6 ⟨hQ4, hS6, hA6, hP4⟩
    clear hA4 hA3 hA2 hS2 hS3 hS4 hP2 hP3 hP13 hQ2 hQ3 hB3
    have hsz4 : d4.size = n := by rw [hP4.1]; exact hsz
    have hB4 : Below lt a1 b1 d4 := hB1.perm (by omega) hP4
    have hfin4 : ∀ R, PermIn a1 b1 d4 R → SortedIn lt a1 b1 R → PermIn a b d R ∧ SortedIn lt a b R := fun R r1 r2 => hfin R (permIn_trans _ _ _ _ _ hP4 r1) r2
    -- the element ahead
    refine AWp.seqCut (St := Unit) (fun _ => [(0, lv 3 id 0 n), (1, .int .i64 a1), (2, .int .i64 b1), (3, .int .i64 lj), (4, .func (.func g) fs.toArray cs.toArray), (10, .bool wb), (11, .bool wp), (12, .int .i64 l), (13, .int .i64 q)])
      (fun _ H' => Same (fun k => k = id) H H' ∧ Arr Bk.cells H' id d4) ?_ ?_
    · intro KE hKE
      by_cases ha0 : a1 = 0
      · subst ha0
        simp (maxSteps := 1000000) [go_sem]
        refine AWp.draw mixed [(0, false), (1, false), (2, false), (3, false), (4, false), (5, false), (6, false), (7, false), (8, false), (9, false), (10, false), (11, false), (12, false), (13, false), (14, false), (15, false), (16, false)] (by kernel_rfl) ?_
        simp (maxSteps := 1000000) [go_sem, undef]
        exact hKE () _ _ (by simp [upF, Fr.get, Up.refl]) ⟨hS6, hA6⟩
      · obtain ⟨r, hr⟩ : ∃ r, a1 - 1 = r := ⟨_, rfl⟩
        have wr : IntKind.i64.wrap ((a1 : Int) - 1) = (r : Int) := by rw [← hr, i64w (by omega) (by omega)]; omega
        have ha0' : (0 : Int) < a1 := by omega
        have ha1' : 0 < a1 := by omega
        have hi1 : r < d4.size := by omega
        have hi0 : q < d4.size := by omega
        have n1 : r < n := by omega
        have n0 : q < n := by omega
        have c1 := hA6.load Bk.cells_len hi1
        have c0 := hA6.load Bk.cells_len hi0
        have q1 := hQ4 _ hi1
        have q0 := hQ4 _ hi0
        obtain ⟨x, hx⟩ : ∃ x, d4[r]! = x := ⟨_, rfl⟩
        obtain ⟨y, hy⟩ : ∃ y, d4[q]! = y := ⟨_, rfl⟩
        rw [hx] at c1 q1
        rw [hy] at c0 q0
        simp only [Bk.cells, Nat.mul_one, Row.val] at c1 c0
        simp (maxSteps := 1000000) [go_sem]
        refine AWp.draw mixed [(0, false), (1, false), (2, false), (3, false), (4, false), (5, false), (6, false), (7, false), (8, false), (9, false), (10, false), (11, false), (12, false), (13, false), (14, false), (15, false), (16, false)] (by kernel_rfl) ?_
        simp (maxSteps := 1000000) [go_sem, ha0, ha0', ha1', c1, c0, n1, n0, wr]
        refine hC H6 x y _ hS6 q1 q0 ?_
        intro H7 c hp7 hc
        have hS7 := hS6.via (Same.of_prefix (S := fun _ => False) hp7) (fun _ _ h => h.elim)
        have hA7 := hA6.pre hp7
        cases hl' : lt x y with
        | true =>
          rw [hl'] at hc
          have hc0 := hc
          simp only [decide_eq_true_eq, decide_eq_false_iff_not] at hc0
          simp (maxSteps := 1000000) [go_sem, hc, hc0]
          exact hKE () _ _ (by simp [upF, Fr.get, Up.refl]) ⟨hS7, hA7⟩
        | false =>
          rw [hl'] at hc
          have hc0 := hc
          simp only [decide_eq_true_eq, decide_eq_false_iff_not] at hc0
          have hnl : lt d4[a1 - 1]! d4[q]! = false := by rw [hr, hx, hy]; exact hl'
          simp (maxSteps := 1000000) [go_sem, hc, hc0]
          refine partEqB_ok hA7 hsz4 hl hq1 hq2 (by omega) hQ4 (hC.keep hS7) _ ?_
          intro H8 hS8 hA8
          obtain ⟨⟨mid, d5⟩, he⟩ : ∃ r, partitionEqual lt d4 a1 b1 q = r := ⟨_, rfl⟩
          rw [he] at hA8 ⊢
          have hA8 : Arr Bk.cells H8 id d5 := hA8
          obtain ⟨r1, r2, r3, r4, r5⟩ := round_eq hS (partitionEqual_holds lt) ha1' hq1 hq2 (by omega) hB4 hnl he
          have hP5 : PermIn a1 b1 d4 d5 := by
            have := (partitionEqual_holds lt hS d4 a1 b1 q hq1 hq2 (by omega) (fun i hi hi' => by
              rcases hB4 with h0 | hB
              · omega
              · exact hS.ntrans _ _ _ (hB i hi hi') hnl)).2.2.1
            rw [he] at this; exact this
          simp (maxSteps := 1000000) [go_sem]
          exact hK (mid, b1, lj, wb, wp, d5) _ _ (by simp only; omega) (by simp [upF, Fr.get, Up.refl]) ⟨by simp only; omega, r2, hbb, hlj, by simp only; omega, QA_perm (by omega) hP5 hQ4, hS7.trans hS8, hA8, r4, fun R R1 R2 => by obtain ⟨g1, g2⟩ := r5 R R1 R2; exact hfin4 R g1 g2⟩
    rintro _ H7 ⟨hS7, hA7⟩
    refine AWp.ofVc ?_
    simp (maxSteps := 1000000) [go_sem]
    refine partB_ok hA7 hsz4 hl hq1 hq2 (by omega) hQ4 (hC.keep hS7) _ ?_
    intro H8 hS8 hA8
    obtain ⟨⟨mid, ap, d5⟩, he⟩ : ∃ r, partition lt d4 a1 b1 q = r := ⟨_, rfl⟩
    rw [he] at hA8 ⊢
    have hA8 : Arr Bk.cells H8 id d5 := hA8
    obtain ⟨r1, r2, r3, r4, r5, r6, r7⟩ := round_part hS (partition_holds lt) hq1 hq2 (by omega) hB4 he
    have hP5 : PermIn a1 b1 d4 d5 := by
      have := (partition_holds lt hS d4 a1 b1 q hq1 hq2 (by omega)).2.2.1
      rw [he] at this; exact this
    have hQ5 := QA_perm (by omega) hP5 hQ4
    have hS8 := hS7.trans hS8
    obtain ⟨ll, hll2⟩ : ∃ ll, ll = mid - a1 := ⟨_, rfl⟩
    obtain ⟨lr, hlr⟩ : ∃ lr, lr = b1 - mid := ⟨_, rfl⟩
    obtain ⟨m1, hm1⟩ : ∃ m1, m1 = mid + 1 := ⟨_, rfl⟩
    have w1 : IntKind.i64.wrap ((mid : Int) - a1) = (ll : Int) := by rw [hll2, i64w (by omega) (by omega)]; omega
    have w2 : IntKind.i64.wrap ((b1 : Int) - mid) = (lr : Int) := by rw [hlr, i64w (by omega) (by omega)]; omega
    have w3 : IntKind.i64.wrap ((l : Int) / 8) = (l : Int) / 8 := i64w (by omega) (by omega)
    have w4 : IntKind.i64.wrap ((mid : Int) + 1) = (m1 : Int) := by rw [hm1, i64w (by omega) (by omega)]; omega
    simp (maxSteps := 1000000) [go_sem]
    refine vc_sound _ _ _ _ ?_
    by_cases hlr2 : ll < lr
    · have hlr2' : (ll : Int) < lr := by omega
      simp (maxSteps := 1000000) [go_sem, w1, w2, w3, hlr2, hlr2']
      refine ih (mid - a1) (by omega) (Nat.le_refl _) hA8 (by omega) r1 (by omega) hlj r4 hQ5 (hC.keep hS8) _ ?_
      intro H9 d6 hS9 hA9 hP6 hs6
      obtain ⟨g1, g2⟩ := r6 d6 hP6 hs6
      simp (maxSteps := 1000000) [go_sem, w4]
      refine hK (m1, b1, lj, decide ((l : Int) / 8 ≤ ll), ap, d6) _ _ (by simp only; omega) (by simp [upF, Fr.get, Up.refl]) ⟨by simp only; omega, by simp only; omega, hbb, hlj, by simp only; rw [hP6.1]; omega, QA_perm (by omega) hP6 hQ5, hS8.trans hS9, hA9, by simp only [hm1]; exact g1, ?_⟩
      simp only [hm1]
      intro R R1 R2
      obtain ⟨k1, k2⟩ := g2 R R1 R2
      exact hfin4 R k1 k2
    · have hlr2' : ¬ ((ll : Int) < lr) := by omega
      simp (maxSteps := 1000000) [go_sem, w1, w2, w3, w4, hlr2, hlr2']
      refine ih (b1 - m1) (by omega) (Nat.le_refl _) hA8 (by omega) (by omega) (by omega) hlj (by rw [hm1]; exact r5) hQ5 (hC.keep hS8) _ ?_
      intro H9 d6 hS9 hA9 hP6 hs6
      rw [hm1] at hP6 hs6
      obtain ⟨g1, g2⟩ := r7 d6 hP6 hs6
      simp (maxSteps := 1000000) [go_sem]
      refine hK (a1, mid, lj, decide ((l : Int) / 8 ≤ lr), ap, d6) _ _ (by simp only; omega) (by simp [upF, Fr.get, Up.refl]) ⟨haa, r1, by simp only; omega, hlj, by simp only; rw [hP6.1]; omega, QA_perm (by omega) hP6 hQ5, hS8.trans hS9, hA9, g1, ?_⟩
      intro R R1 R2
      obtain ⟨k1, k2⟩ := g2 R R1 R2
      exact hfin4 R k1 k2

end Go.Proofs.Ytdfeoccjllljiaa
end

section
/- Sorting by a function: slices.SortFunc. -/
set_option linter.all false
set_option maxRecDepth 20000
set_option maxHeartbeats 8000000
namespace Go.Proofs.Ytdfeoccjllljiaa
open Go.Ab Go.Sort

theorem w64_0B : IntKind.i64.wrap 0 = 0 := i64w (by omega) (by omega)
theorem w64_1B : IntKind.i64.wrap 1 = 1 := i64w (by omega) (by omega)
theorem wu64_0B : IntKind.u64.wrap 0 = 0 := by rw [IntKind.wrap_u64]; omega
theorem ins0B_ok {H : Heap} {id : Nat} {fv : Value} (Post : Value → Heap → Prop) (h : Post (.tuple #[]) H) :
    ACalls Try.prog 208 [lv 3 id 0 0, .int .i64 0, .int .i64 0, fv] H Post := by
  refine acalls_vc (rs := []) Try.func208 rfl rfl Try.ntmps208 rfl rfl ?_
  simp (maxSteps := 1000000) [go_sem, w64_0B, w64_1B]
  refine AWp.loopVc (St := Unit) (fun _ => [(2, .int .i64 0), (8, .int .i64 1)]) (fun _ H' => H' = H) (fun _ => 0) () ?_ ?_ ?_
  · simp [upF, Fr.get, Up.refl]
  · rfl
  · rintro K _ H' rfl hK
    simp (maxSteps := 1000000) [go_sem, w64_0B, w64_1B]
    exact h
theorem pdq0B_ok {H : Heap} {id : Nat} {fv : Value} {l : Int} (Post : Value → Heap → Prop) (h : Post (.tuple #[]) H) :
    ACalls Try.prog 201 [lv 3 id 0 0, .int .i64 0, .int .i64 0, .int .i64 l, fv] H Post := by
  refine acalls_vc (rs := []) Try.func201 rfl rfl Try.ntmps201 rfl rfl ?_
  simp (maxSteps := 1000000) [go_sem, w64_0B, w64_1B]
  refine AWp.loopA (St := Unit) (fun _ => [(0, lv 3 id 0 0), (1, .int .i64 0), (2, .int .i64 0), (4, fv)]) (fun _ H' => H' = H) (fun _ => 0) () ?_ ?_ ?_
  · simp [upF, Fr.get, Up.refl]
  · rfl
  · rintro K _ H' rfl hK
    refine AWp.block ?_
    refine AWp.ofVc ?_
    simp (maxSteps := 1000000) [go_sem, w64_0B, w64_1B]
    refine AWp.ofVc ?_
    simp (maxSteps := 1000000) [go_sem, w64_0B, w64_1B]
    refine ins0B_ok _ ?_
    simp (maxSteps := 1000000) [go_sem, w64_0B, w64_1B]
    exact h

/-- slices.SortFunc: afterwards the same elements are there, ascending. -/
theorem sortFuncB_ok {H : Heap} {id n : Nat} {l : List Bk} {lt : Bk → Bk → Bool} {g : FuncId} {fs cs : List Value} {Q : Bk → Prop} (hS : SWO lt) (hA : OL 3 H id (l.flatMap Bk.cells) n) (hn : l.length = n) (hl : n ≤ 1048576) (hQ : ∀ x ∈ l, Q x)
    (hC : Cmp Try.prog Bk.val lt g fs cs Q id H) (Post : Value → Heap → Prop)
    (h : ∀ (H' : Heap) (l' : List Bk), Same (fun k => k = id) H H' → OL 3 H' id (l'.flatMap Bk.cells) n → l'.Perm l → l'.Pairwise (fun x y => lt y x = false) → Post (.tuple #[]) H') :
    ACalls Try.prog 185 [lv 3 id 0 n, .func (.func g) fs.toArray cs.toArray] H Post := by
  refine acalls_vc (rs := []) Try.func185 rfl rfl Try.ntmps185 rfl rfl ?_
  have w1 : IntKind.u64.wrap (n : Int) = n := by rw [IntKind.wrap_u64]; omega
  rcases hA.2 with ⟨h0, hg⟩ | hb
  · subst h0
    have hnil : l = [] := List.eq_nil_of_length_eq_zero hn
    subst hnil
    simp (maxSteps := 1000000) [go_sem, wu64_0B]
    refine bitsLenC_ok (x := 0) (by omega) _ ?_
    simp (maxSteps := 1000000) [go_sem]
    refine pdq0B_ok _ ?_
    simp (maxSteps := 1000000) [go_sem]
    exact h H [] (Same.refl _ _) hA (List.Perm.refl _) List.Pairwise.nil
  · have hA' : Arr Bk.cells H id l.toArray := by unfold Arr; simpa using hb
    have hQ' : QA Q l.toArray := by
      intro k hk
      rw [getElem!_pos l.toArray k hk]
      exact hQ _ (by simp)
    simp (maxSteps := 1000000) [go_sem, w1]
    refine bitsLenC_ok (by omega) _ ?_
    have hb64 : bitsLen n ≤ 64 := bitsLen_lt (by omega)
    simp (maxSteps := 1000000) [go_sem]
    refine pdqB_ok hS hl n (a := 0) (limit := bitsLen n) (by omega) hA' (by simpa using hn) (Nat.zero_le _) (Nat.le_refl _) hb64 (.inl rfl) hQ' hC _ ?_
    intro H' d' hS' hA2 hP hs
    have hsz : d'.size = n := by rw [hP.1]; simpa using hn
    have hp := perm_list (by simpa using hn) hP
    have fin := h H' d'.toList hS' ⟨by rw [flat_len Bk.cells_len, Array.length_toList, hsz], .inr hA2⟩ (by simpa using hp) (sorted_list hsz hs)
    simp (maxSteps := 1000000) [go_sem]
    exact fin

end Go.Proofs.Ytdfeoccjllljiaa
end

section
/- Results that are lists of lists, held alone; marks on them. -/
set_option linter.all false
set_option maxRecDepth 20000
namespace Go.Proofs.Ytdfeoccjllljiaa
open Go.Ab

def RowsIn (a b : Nat) (H : Heap) (v : Value) (xss : List (List Int)) : Prop :=
  ∃ (id : Nat) (rows : List (Nat × List Int)), v = lv 1 id 0 rows.length ∧ At H id 0 (rows.map rowVal) ∧ Rows1 H rows ∧ (∀ r ∈ rows, r.2 ≠ [] → r.1 ≠ id ∧ Span a b r.1) ∧ rows.map (·.2) = xss ∧ (rows ≠ [] → Span a b id) ∧ xss.flatten.length ≤ 140737488355328 ∧ rows.length ≤ 140737488355328
/-- Lists of numbers that were marked. -/
def MarkRows (a b : Nat) (H : Heap) (v : Value) (k : Int) (xss : List (List Int)) : Prop :=
  ∃ (id : Nat) (rows : List (Nat × List Int)), v = lv 1 id 0 rows.length ∧ At H id 0 (rows.map rowVal) ∧ (∀ r ∈ rows, At H r.1 0 (ints r.2) ∧ (r.2 ≠ [] → Span a b r.1)) ∧ rows.map (·.2) = marked k xss ∧ (rows ≠ [] → Span a b id) ∧ xss.flatten.length ≤ 140737488355328 ∧ rows.length ≤ 140737488355328

theorem flat_le {rows : List (Nat × List Int)} {r : Nat × List Int} (h : r ∈ rows) : r.2.length ≤ (rows.map (·.2)).flatten.length := by
  exact (List.sublist_flatten_of_mem (List.mem_map_of_mem (f := fun r : Nat × List Int => r.2) h)).length_le
theorem At.keepS {H H' : Heap} {S : Nat → Prop} (hs : Same S H H') {i o : Nat} {cs : List Value} (h : At H i o cs) (hi : cs ≠ [] → ¬ S i) : At H' i o cs := by
  rcases h with h0 | h
  · exact .inl h0
  · by_cases hc : cs = []
    · exact .inl hc
    · right
      obtain ⟨blk, hb, hbl, hbn, he⟩ := cellsAt_inv h
      rw [cellsAt_of (hs.get hb (hi hc)) hbl hbn, ← he]
theorem RowsIn.own {a b : Nat} {H : Heap} {v : Value} {xss : List (List Int)} (h : RowsIn a b H v xss) : ∃ rows, OwnRows H v rows ∧ rows.map (·.2) = xss ∧ ∀ r ∈ rows, r.2 ≠ [] → Span a b r.1 := by
  obtain ⟨id, rows, h1, h2, h3, h4, h5, h6, h7, h8⟩ := h
  exact ⟨rows, ⟨id, h1, h2, h3, fun r hr hn => (h4 r hr hn).1, h8, fun r hr => by have := flat_le hr; rw [h5] at this; omega⟩, h5, fun r hr hn => (h4 r hr hn).2⟩
theorem RowsIn.keep {a b : Nat} {H H' : Heap} {v : Value} {xss : List (List Int)} (h : RowsIn a b H v xss) {S : Nat → Prop} (hs : Same S H H') (hd : ∀ j, Span a b j → ¬ S j) : RowsIn a b H' v xss := by
  obtain ⟨id, rows, h1, h2, h3, h4, h5, h6, h7, h8⟩ := h
  refine ⟨id, rows, h1, At.keepS hs h2 (fun hn => hd _ (h6 (by rintro rfl; exact hn rfl))), ⟨fun r hr => ?_, h3.2⟩, h4, h5, h6, h7, h8⟩
  by_cases hn : r.2 = []
  · exact .inl hn
  · exact .inr (hs.get ((h3.1 r hr).resolve_left hn) (hd _ (h4 r hr hn).2))
theorem MarkRows.keep {a b : Nat} {H H' : Heap} {v : Value} {k : Int} {xss : List (List Int)} (h : MarkRows a b H v k xss) {S : Nat → Prop} (hs : Same S H H') (hd : ∀ j, Span a b j → ¬ S j) : MarkRows a b H' v k xss := by
  obtain ⟨id, rows, h1, h2, h3, h5, h6, h7, h8⟩ := h
  refine ⟨id, rows, h1, At.keepS hs h2 (fun hn => hd _ (h6 (by rintro rfl; exact hn rfl))), fun r hr => ⟨At.keepS hs (h3 r hr).1 (fun hn => hd _ ((h3 r hr).2 (by intro e; rw [e] at hn; exact hn rfl))), (h3 r hr).2⟩, h5, h6, h7, h8⟩
theorem RowsIn.pre {a b : Nat} {H H' : Heap} (hp : H <+: H') {v : Value} {xss : List (List Int)} (h : RowsIn a b H v xss) : RowsIn a b H' v xss := h.keep (S := fun _ => False) (Same.of_prefix hp) (fun _ _ h => h)
theorem MarkRows.pre {a b : Nat} {H H' : Heap} (hp : H <+: H') {v : Value} {k : Int} {xss : List (List Int)} (h : MarkRows a b H v k xss) : MarkRows a b H' v k xss := h.keep (S := fun _ => False) (Same.of_prefix hp) (fun _ _ h => h)
theorem RowsIn.read {a b : Nat} {H : Heap} {v : Value} {xss : List (List Int)} (h : RowsIn a b H v xss) : IntssAt H v xss := by
  obtain ⟨rows, h1, h2, _⟩ := h.own; exact h2 ▸ h1.read
theorem RowsIn.one {a b : Nat} {H : Heap} {v : Value} {xss : List (List Int)} (h : RowsIn a b H v xss) : v.oneCell' = true := by
  obtain ⟨id, rows, rfl, _⟩ := h; rfl
theorem RowsIn.nil (a b : Nat) (H : Heap) : RowsIn a b H (lv 1 0 0 0) [] := ⟨0, [], rfl, .inl rfl, ⟨by simp, by simp⟩, by simp, rfl, fun h => absurd rfl h, by simp, by simp⟩
theorem RowsIn.wider {a b c : Nat} {H : Heap} {v : Value} {xss : List (List Int)} (h : RowsIn a b H v xss) (hc : c ≤ a) : RowsIn c b H v xss := by
  obtain ⟨id, rows, h1, h2, h3, h4, h5, h6, h7, h8⟩ := h
  exact ⟨id, rows, h1, h2, h3, fun r hr hn => ⟨(h4 r hr hn).1, Nat.le_trans hc (h4 r hr hn).2.1, (h4 r hr hn).2.2⟩, h5, fun hn => ⟨Nat.le_trans hc (h6 hn).1, (h6 hn).2⟩, h7, h8⟩
theorem MarkRows.one {a b : Nat} {H : Heap} {v : Value} {k : Int} {xss : List (List Int)} (h : MarkRows a b H v k xss) : v.oneCell' = true := by
  obtain ⟨id, rows, rfl, _⟩ := h; rfl
theorem MarkRows.read {a b : Nat} {H : Heap} {v : Value} {k : Int} {xss : List (List Int)} (h : MarkRows a b H v k xss) : IntssAt H v (marked k xss) := by
  obtain ⟨id, rows, rfl, h2, h3, h5, h6, h7, h8⟩ := h
  have hl : rows.length = (marked k xss).length := by rw [← h5, List.length_map]
  refine ⟨id, 0, rows.map rowVal, by rw [hl], by simp [hl], h2, ?_, by omega⟩
  intro j u ys hu hx
  rw [← h5] at hx
  simp only [List.getElem?_map, Option.map_eq_some_iff] at hu hx
  obtain ⟨r, hr, rfl⟩ := hu
  obtain ⟨r', hr', rfl⟩ := hx
  rw [hr] at hr'; cases hr'
  have hm := List.mem_of_getElem? hr
  refine ⟨r.1, 0, rfl, (h3 r hm).1, ?_⟩
  have := flat_le hm
  rw [h5, marked_total] at this; omega

/-- What a call has built. -/
theorem _root_.Go.Ab.Build.inn {H H' : Heap} {oid : Nat} {rows : List (Nat × List Int)} (h : Build H H' oid rows) (hl : (rows.map (·.2)).flatten.length ≤ 140737488355328) (hl' : rows.length ≤ 140737488355328) : RowsIn H.length H'.length H' (lv 1 oid 0 rows.length) (rows.map (·.2)) :=
  ⟨oid, rows, rfl, h.ol.at, h.rows1, fun r hr _ => ⟨(h.ids r hr).2.2, (h.ids r hr).1, (h.ids r hr).2.1⟩, rfl, fun _ => ⟨h.ge, h.ol.lt⟩, hl, hl'⟩

theorem lv_inj {e i j o q n : Nat} (h : lv e i o n = lv e j q n) : i = j ∧ o = q := by
  cases h; exact ⟨rfl, rfl⟩

theorem markIntss_ok {a b T : Nat} {H : Heap} {v : Value} {xss : List (List Int)} {k : Int} (h : RowsIn a b H v xss) (hT : T = xss.flatten.length) (hk0 : 0 ≤ k) (hk : k ≤ 1000000000) (Post : Value → Heap → Prop)
    (hP : ∀ H', Same (Span a b) H H' → MarkRows a b H' v k xss → Post (.int .i64 (k + T)) H') : ACalls Try.prog 43 [v, .int .i64 k] H Post := by
  subst hT
  obtain ⟨id, rows, rfl, h2, h3, h4, h5, h6, h7, h8⟩ := h
  have hown : OwnRows H (lv 1 id 0 rows.length) rows := ⟨id, rfl, h2, h3, fun r hr hn => (h4 r hr hn).1, h8, fun r hr => by have := flat_le hr; rw [h5] at this; omega⟩
  refine markInt64SS_ok hown hk0 (by rw [h5]; omega) _ ?_
  intro H' hl hs hm
  rw [h5] at hm ⊢
  have h2' : At H' id 0 (rows.map rowVal) := At.keepS hs h2 (fun _ => by rintro ⟨r, hr, hn, e⟩; exact (h4 r hr hn).1 e)
  refine hP H' (hs.mono fun j _ ⟨r, hr, hn, e⟩ => e ▸ (h4 r hr hn).2) ?_
  obtain ⟨i, o, vs, e1, e2, e3, e4, e5⟩ := hm
  have hml : (marked k xss).length = rows.length := by rw [marked_length, ← h5, List.length_map]
  rw [hml] at e1 e2 e5
  obtain ⟨rfl, rfl⟩ := lv_inj e1
  have hvs : vs = rows.map rowVal := by
    rcases h2' with hz | h2'
    · rw [hz]; have : rows.length = 0 := by simpa using congrArg List.length hz
      exact List.eq_nil_of_length_eq_zero (by omega)
    · rcases e3 with hz | e3
      · rw [hz] at e2 ⊢
        have : rows = [] := List.eq_nil_of_length_eq_zero (by simpa using e2.symm)
        rw [this]; rfl
      · rw [e2] at e3; rw [List.length_map] at h2'; rw [e3] at h2'; exact Option.some.inj h2'
  subst hvs
  have hrow : ∀ j, j < rows.length → ∃ r ys, rows[j]? = some r ∧ (marked k xss)[j]? = some ys ∧ ys.length = r.2.length := by
    intro j hj
    have hr : rows[j]? = some rows[j] := List.getElem?_eq_getElem hj
    have hx : xss[j]? = some rows[j].2 := by rw [← h5, List.getElem?_map, hr]; rfl
    refine ⟨rows[j], upFrom (k + (off xss j : Int)) rows[j].2.length, hr, by rw [marked_get, hx]; rfl, by rw [upFrom_length]⟩
  refine ⟨id, (List.range rows.length).map (fun j => ((rows.getD j (0, [])).1, (marked k xss).getD j [])), by simp, ?_, ?_, ?_, ?_, h7, by simpa using h8⟩
  · have e : ((List.range rows.length).map (fun j => ((rows.getD j (0, [])).1, (marked k xss).getD j []))).map rowVal = rows.map rowVal := by
      apply List.ext_getElem?
      intro j
      by_cases hj : j < rows.length
      · obtain ⟨r, ys, hr, hy, hyl⟩ := hrow j hj
        simp [List.getElem?_map, List.getElem?_range hj, hr, hy, rowVal, hyl, List.getD_eq_getElem?_getD]
      · rw [List.getElem?_eq_none (by simp; omega), List.getElem?_eq_none (by simp; omega)]
    rw [e]; exact h2'
  · intro r hr
    obtain ⟨j, hj, rfl⟩ := List.mem_map.1 hr
    rw [List.mem_range] at hj
    obtain ⟨r, ys, hr', hy, hyl⟩ := hrow j hj
    have hat := e4 j (rowVal r) ys (by rw [List.getElem?_map, hr']; rfl) hy
    obtain ⟨i', o', f1, f2, f3⟩ := hat
    rw [hyl] at f1
    obtain ⟨rfl, rfl⟩ := lv_inj (show lv 1 r.1 0 r.2.length = _ from f1)
    simp only [List.getD_eq_getElem?_getD, hr', hy, Option.getD_some]
    exact ⟨f2, fun hn => (h4 r (List.mem_of_getElem? hr') (by intro e; rw [e] at hyl; exact hn (List.eq_nil_of_length_eq_zero hyl))).2⟩
  · apply List.ext_getElem?
    intro j
    by_cases hj : j < rows.length
    · obtain ⟨r, ys, hr, hy, hyl⟩ := hrow j hj
      simp [List.getElem?_map, List.getElem?_range hj, hy, List.getD_eq_getElem?_getD]
    · rw [List.getElem?_eq_none (by simp; omega), List.getElem?_eq_none (by omega)]
  · intro hn
    exact h6 (by rintro rfl; exact hn rfl)

end Go.Proofs.Ytdfeoccjllljiaa
end

section
/- Lists of lists that are built by literals; heaps of which less is said. No statement of the seat is proved here; it holds for every program. -/
set_option linter.all false
namespace Go.Ab

def upH (H H' : Heap) : Prop := ∀ B w0 ρ w, R B w0 ρ H w → R B w0 ρ H' w
theorem upH.refl (H : Heap) : upH H H := fun _ _ _ _ h => h
theorem upH.cells {H : Heap} {id : Nat} {cs cs' : List Value} {li ow : Bool} (hb : H[id]? = some ⟨cs, li, ow⟩) (hl : cs'.length = cs.length)
    (hu : ∀ (k : Nat) (v v' : Value), cs[k]? = some v → cs'[k]? = some v' → Up H v v') : upH H (H.set id ⟨cs', li, ow⟩) := by
  intro B w0 ρ w hR
  have hlt := (List.getElem?_eq_some_iff.1 hb).1
  have key : ∀ (i : Nat) (b : Blk), (H.set id ⟨cs', li, ow⟩)[i]? = some b → (i = id ∧ b = ⟨cs', li, ow⟩) ∨ (i ≠ id ∧ H[i]? = some b) := by
    intro i b h
    by_cases e : i = id
    · subst e; rw [List.getElem?_set_self hlt] at h; exact .inl ⟨rfl, (Option.some.inj h).symm⟩
    · rw [List.getElem?_set_ne (fun h => e h.symm)] at h; exact .inr ⟨e, h⟩
  -- the block that stood there
  have old : ∀ (i : Nat) (b : Blk), (H.set id ⟨cs', li, ow⟩)[i]? = some b → ∃ b', H[i]? = some b' ∧ b'.live = b.live ∧ b'.own = b.own := by
    intro i b h
    rcases key i b h with ⟨rfl, rfl⟩ | ⟨_, h⟩
    · exact ⟨_, hb, rfl, rfl⟩
    · exact ⟨b, h, rfl, rfl⟩
  refine ⟨by rw [List.length_set]; exact hR.len, hR.below, hR.base, ?_, ?_, ?_⟩
  · intro i b l h hl' hlive
    rcases key i b h with ⟨rfl, rfl⟩ | ⟨_, h⟩
    · obtain ⟨arr, elem, fz, h1, h2, h3, h4⟩ := hR.blk i _ l hb hl' hlive
      refine ⟨arr, elem, fz, h1, h2, ?_, h4⟩
      intro k v hk
      have hk' : k < cs.length := by have := (List.getElem?_eq_some_iff.1 hk).1; simp only at this; omega
      obtain ⟨h5, cv, h6, h7⟩ := h3 k cs[k] (List.getElem?_eq_getElem hk')
      have h8 := hu k _ v (List.getElem?_eq_getElem hk') hk _ _ _ _ _ hR h7
      exact ⟨by rw [h8.oneCell, ← h7.oneCell]; exact h5, cv, h6, h8⟩
    · exact hR.blk i b l h hl' hlive
  · intro i j b c l m hij h1 h2 h3 h4 h5 h6 h7
    obtain ⟨b', e1, e2, e3⟩ := old i b h1
    obtain ⟨c', f1, f2, f3⟩ := old j c h2
    exact hR.apart i j b' c' l m hij e1 f1 h3 h4 (by rw [e2]; exact h5) (by rw [f2]; exact h6) (by rw [e3]; exact h7)
  · intro i b l h1 h2 h3 h4
    obtain ⟨b', e1, e2, e3⟩ := old i b h1
    exact hR.ghost i b' l e1 h2 (by rw [e2]; exact h3) (by rw [e3]; exact h4)

def rowX (r : Nat × List Int) : Value := .slice (some ⟨r.1, 0, none⟩) r.2.length r.2.length

/-- A list of lists while it is built. -/
structure BuildX (H0 H : Heap) (oid : Nat) (rows : List (Nat × List Int)) : Prop where
  pre : H0 <+: H
  ol : OL 1 H oid (rows.map rowX) rows.length
  ge : H0.length ≤ oid
  rows1 : Rows1 H rows
  ids : ∀ r ∈ rows, H0.length ≤ r.1 ∧ r.1 < H.length ∧ r.1 ≠ oid

theorem BuildX.start (H : Heap) : BuildX H (H ++ [⟨[], false, false⟩]) H.length [] :=
  ⟨List.prefix_append _ _, OL.ghost 1 H, Nat.le_refl _, ⟨by simp, by simp⟩, by simp⟩

theorem BuildX.of_ol {H0 H : Heap} {oid : Nat} (hp : H0 <+: H) (h : OL 1 H oid [] 0) (hg : H0.length ≤ oid) : BuildX H0 H oid [] :=
  ⟨hp, h, hg, ⟨by simp, by simp⟩, by simp⟩

theorem BuildX.push {H0 H1 H2 : Heap} {oid rid : Nat} {rows : List (Nat × List Int)} {xs : List Int} (h : BuildX H0 H1 oid rows) (hp : H1 <+: H2) (hr : OL 1 H2 rid (ints xs) xs.length) (hrid : H1.length ≤ rid) :
    cellsAt (H2 ++ [⟨[(.slice (some ⟨rid, 0, none⟩) xs.length xs.length)], true, true⟩]) H2.length 0 1 = some [(.slice (some ⟨rid, 0, none⟩) xs.length xs.length)] ∧
    ∃ H4, appendH (H2 ++ [⟨[(.slice (some ⟨rid, 0, none⟩) xs.length xs.length)], true, true⟩]) 1 (lv 1 oid 0 rows.length) 1 [(.slice (some ⟨rid, 0, none⟩) xs.length xs.length)] = some (lv 1 (H2.length + 1) 0 (rows.length + 1), H4) ∧ BuildX H0 H4 (H2.length + 1) (rows ++ [(rid, xs)]) := by
  have hol' : OL 1 H2 oid (rows.map rowX) rows.length := h.ol.keep (S := fun _ => False) (Same.of_prefix hp) (fun h => h)
  obtain ⟨hsrc, H4, hap, hol4, hsame4, hlen4⟩ := hol'.push (xs := [(.slice (some ⟨rid, 0, none⟩) xs.length xs.length)]) (by omega) rfl
  have hoid := h.ol.lt
  have hle := hp.length_le
  have hle0 := h.pre.length_le
  have hlt := hr.lt
  refine ⟨hsrc, H4, hap, ⟨(show Same (fun j => j = oid) H0 H4 from (Same.of_prefix (h.pre.trans hp)).trans hsame4).prefix (by have := h.ge; omega), by simpa [rowX] using hol4, by omega, ⟨?_, ?_⟩, ?_⟩⟩
  · intro r hm
    rcases List.mem_append.1 hm with hm | hm
    · refine (h.rows1.1 r hm).imp (fun h => h) fun hb => ?_
      exact hsame4.get (Same.get (S := fun _ => False) (Same.of_prefix hp) hb (fun h => h)) (h.ids r hm).2.2
    · simp at hm; subst hm
      rcases hr.2 with ⟨h0, _⟩ | h0
      · exact .inl (List.eq_nil_of_length_eq_zero h0)
      · right
        exact hsame4.get h0 (by simp only; omega)
  · intro a b r t ha hb hab hrn htn
    have key : ∀ (a : Nat) (r : Nat × List Int), (rows ++ [(rid, xs)])[a]? = some r → (a < rows.length ∧ rows[a]? = some r) ∨ (a = rows.length ∧ r = (rid, xs)) := by
      intro a r ha
      rcases Nat.lt_or_ge a rows.length with h | h
      · rw [List.getElem?_append_left h] at ha; exact .inl ⟨h, ha⟩
      · rw [List.getElem?_append_right h] at ha
        cases hk : a - rows.length with
        | zero => rw [hk] at ha; simp at ha; exact .inr ⟨by omega, ha.symm⟩
        | succ k => rw [hk] at ha; simp at ha
    rcases key a r ha with ⟨h1, h1'⟩ | ⟨h1, rfl⟩
    · rcases key b t hb with ⟨h2, h2'⟩ | ⟨h2, rfl⟩
      · exact h.rows1.2 a b r t h1' h2' hab hrn htn
      · have := (h.ids r (List.mem_of_getElem? h1')).2.1; simp only; omega
    · rcases key b t hb with ⟨h2, h2'⟩ | ⟨h2, rfl⟩
      · have := (h.ids t (List.mem_of_getElem? h2')).2.1; simp only; omega
      · omega
  · intro r hm
    rcases List.mem_append.1 hm with hm | hm
    · have := h.ids r hm
      omega
    · simp at hm; subst hm; simp only; omega


theorem BuildX.keep {H0 H H' : Heap} {oid : Nat} {rows : List (Nat × List Int)} (h : BuildX H0 H oid rows) (hp : H <+: H') : BuildX H0 H' oid rows :=
  ⟨h.pre.trans hp, h.ol.keep (S := fun _ => False) (Same.of_prefix hp) (fun h => h), h.ge, ⟨fun r hr => (h.rows1.1 r hr).imp (fun h => h) fun hb => Same.get (S := fun _ => False) (Same.of_prefix hp) hb (fun h => h), h.rows1.2⟩,
    fun r hr => ⟨(h.ids r hr).1, Nat.lt_of_lt_of_le (h.ids r hr).2.1 hp.length_le, (h.ids r hr).2.2⟩⟩
/-- The list built, its rows as slices of unknown room. -/
theorem BuildX.fin {H0 H : Heap} {oid : Nat} {rows : List (Nat × List Int)} (h : BuildX H0 H oid rows) : ∃ H2, upH H H2 ∧ Build H0 H2 oid rows := by
  obtain ⟨hl, h0 | hb⟩ := h.ol
  · have : rows = [] := List.eq_nil_of_length_eq_zero h0.1
    subst this
    exact ⟨H, upH.refl H, Build.of_ol h.pre ⟨rfl, .inl ⟨rfl, h0.2⟩⟩ h.ge⟩
  · have hlt := (List.getElem?_eq_some_iff.1 hb).1
    refine ⟨H.set oid ⟨rows.map rowVal, true, true⟩, upH.cells hb (by simp) ?_, ?_, ⟨by simp, .inr (List.getElem?_set_self hlt)⟩, h.ge, ⟨?_, h.rows1.2⟩, ?_⟩
    · intro k v v' hv hv'
      simp only [List.getElem?_map, Option.map_eq_some_iff] at hv hv'
      obtain ⟨r, hr, rfl⟩ := hv
      obtain ⟨r', hr', rfl⟩ := hv'
      rw [hr] at hr'; cases hr'
      refine Up.ex (by omega) ?_
      rcases h.rows1.1 r (List.mem_of_getElem? hr) with e | e
      · left; rw [e]; rfl
      · right
        rw [cellsAt_of e rfl (by simp [ints])]; rfl
    · have hs : Same (fun j => j = oid) H (H.set oid ⟨rows.map rowVal, true, true⟩) := ⟨by simp, fun j hj hS => List.getElem?_set_ne (fun e => hS e.symm)⟩
      exact ((Same.of_prefix h.pre).trans hs).prefix (by intro j hj e; have := h.ge; omega)
    · intro r hr
      refine (h.rows1.1 r hr).imp (fun h => h) fun hb' => ?_
      rw [List.getElem?_set_ne (fun e => (h.ids r hr).2.2 e.symm)]; exact hb'
    · intro r hr
      have := h.ids r hr
      rw [List.length_set]; exact this

end Go.Ab
end

section
/- Two involutions without fixed points: going round by them in turn. Plain Lean, no program in sight. -/
set_option linter.all false
namespace Go.Ab

theorem nodup_len : ∀ (v : Nat) (l : List Nat), l.Nodup → (∀ x ∈ l, x < v) → l.length ≤ v
  | 0, l, _, h => by
    cases l with
    | nil => simp
    | cons x l => exact absurd (h x List.mem_cons_self) (by omega)
  | v + 1, l, hn, h => by
    by_cases hv : v ∈ l
    · have h1 := nodup_len v (l.erase v) (hn.erase v) fun x hx => by
        have := (List.Nodup.mem_erase_iff hn).1 hx
        have := h x this.2
        omega
      rw [List.length_erase_of_mem hv] at h1
      omega
    · have := nodup_len v l hn fun x hx => by
        have h2 := h x hx
        have : x ≠ v := fun e => hv (e ▸ hx)
        omega
      omega

/-- By f and by g in turn. -/
def alt (f g : Nat → Nat) (p : Nat) : Nat → Nat
  | 0 => p
  | k + 1 => if k % 2 = 0 then f (alt f g p k) else g (alt f g p k)

structure Turn (f g : Nat → Nat) (S : Nat → Prop) : Prop where
  fS : ∀ x, S x → S (f x)
  gS : ∀ x, S x → S (g x)
  ff : ∀ x, S x → f (f x) = x
  gg : ∀ x, S x → g (g x) = x
  fne : ∀ x, S x → f x ≠ x
  gne : ∀ x, S x → g x ≠ x

theorem alt_S {f g : Nat → Nat} {S : Nat → Prop} (h : Turn f g S) {p : Nat} (hp : S p) : ∀ k, S (alt f g p k)
  | 0 => hp
  | k + 1 => by
    simp only [alt]
    split
    · exact h.fS _ (alt_S h hp k)
    · exact h.gS _ (alt_S h hp k)
/-- As long as all are different, what comes next is new, or it is the first one, at an even place. -/
theorem alt_next {f g : Nat → Nat} {S : Nat → Prop} (h : Turn f g S) {p n : Nat} (hp : S p) (hd : ∀ i j, i < j → j ≤ n → alt f g p i ≠ alt f g p j) :
    (∀ j, j ≤ n → alt f g p j ≠ alt f g p (n + 1)) ∨ (alt f g p (n + 1) = p ∧ n % 2 = 1) := by
  by_cases hx : ∃ j, j ≤ n ∧ alt f g p j = alt f g p (n + 1)
  · obtain ⟨j, hj, e⟩ := hx
    right
    have inj : ∀ i k, i ≤ n → k ≤ n → alt f g p i = alt f g p k → i = k := by
      intro i k hi hk e
      rcases Nat.lt_trichotomy i k with h1 | h1 | h1
      · exact absurd e (hd i k h1 hk)
      · exact h1
      · exact absurd e.symm (hd k i h1 hi)
    have hS := alt_S h hp
    by_cases hn : n % 2 = 0
    · -- by f
      exfalso
      have e1 : alt f g p (n + 1) = f (alt f g p n) := by simp [alt, hn]
      rw [e1] at e
      by_cases hj2 : j % 2 = 0
      · -- j even: f of it is the next one
        have e2 : alt f g p (j + 1) = f (alt f g p j) := by simp [alt, hj2]
        have e3 : f (alt f g p j) = alt f g p n := by rw [e, h.ff _ (hS n)]
        by_cases hjn : j = n
        · subst hjn; exact h.fne _ (hS j) (by rw [e3])
        · rw [← e2] at e3
          have := inj (j + 1) n (by omega) (by omega) e3
          omega
      · obtain ⟨i, rfl⟩ : ∃ i, j = i + 1 := ⟨j - 1, by omega⟩
        have e2 : alt f g p (i + 1) = f (alt f g p i) := by simp only [alt]; rw [if_pos (by omega)]
        rw [e2] at e
        have := congrArg f e
        rw [h.ff _ (hS i), h.ff _ (hS n)] at this
        have := inj i n (by omega) (by omega) this
        omega
    · have e1 : alt f g p (n + 1) = g (alt f g p n) := by simp [alt, hn]
      rw [e1] at e ⊢
      by_cases hj0 : j = 0
      · subst hj0; exact ⟨e.symm, by omega⟩
      · exfalso
        by_cases hj2 : j % 2 = 1
        · have e2 : alt f g p (j + 1) = g (alt f g p j) := by simp only [alt]; rw [if_neg (by omega)]
          have e3 : g (alt f g p j) = alt f g p n := by rw [e, h.gg _ (hS n)]
          by_cases hjn : j = n
          · subst hjn; exact h.gne _ (hS j) (by rw [e3])
          · rw [← e2] at e3
            have := inj (j + 1) n (by omega) (by omega) e3
            omega
        · obtain ⟨i, rfl⟩ : ∃ i, j = i + 1 := ⟨j - 1, by omega⟩
          have e2 : alt f g p (i + 1) = g (alt f g p i) := by simp only [alt]; rw [if_neg (by omega)]
          rw [e2] at e
          have := congrArg g e
          rw [h.gg _ (hS i), h.gg _ (hS n)] at this
          have := inj i n (by omega) (by omega) this
          omega
  · left
    intro j hj e
    exact hx ⟨j, hj, e⟩
/-- The way comes back to its first point, at an even place, and all ahead are different. -/
theorem alt_back {f g : Nat → Nat} {S : Nat → Prop} (h : Turn f g S) {p v : Nat} (hp : S p) (hv : ∀ x, S x → x < v) :
    ∃ n, 2 ≤ n ∧ n % 2 = 0 ∧ n ≤ v ∧ alt f g p n = p ∧ ∀ i j, i < j → j < n → alt f g p i ≠ alt f g p j := by
  have len : ∀ n, (∀ i j, i < j → j < n → alt f g p i ≠ alt f g p j) → n ≤ v := by
    intro n hd
    have := nodup_len v ((List.range n).map (alt f g p)) ?_ ?_
    · simpa using this
    · refine List.pairwise_map.2 ?_
      rw [List.pairwise_iff_getElem]
      intro i j hi hj hij
      simp only [List.getElem_range]
      exact hd i j hij (by simpa using hj)
    · intro x hx
      obtain ⟨k, _, rfl⟩ := List.mem_map.1 hx
      exact hv _ (alt_S h hp k)
  -- going on until it comes back
  have go : ∀ m n, n + m = v → (∀ i j, i < j → j < n + 1 → alt f g p i ≠ alt f g p j) → ∃ n, 2 ≤ n ∧ n % 2 = 0 ∧ n ≤ v ∧ alt f g p n = p ∧ ∀ i j, i < j → j < n → alt f g p i ≠ alt f g p j := by
    intro m
    induction m with
    | zero => intro n hn hd; have := len (n + 1) hd; omega
    | succ m ih =>
      intro n hn hd
      rcases alt_next h hp (n := n) (fun i j hij hj => hd i j hij (by omega)) with h1 | ⟨h1, h2⟩
      · refine ih (n + 1) (by omega) ?_
        intro i j hij hj
        by_cases e : j = n + 1
        · subst e; exact h1 i (by omega)
        · exact hd i j hij (by omega)
      · exact ⟨n + 1, by omega, by omega, by have := len (n + 1) hd; omega, h1, hd⟩
  have hv0 := len 1 (by intro i j h1 h2; omega)
  exact go v 0 (by omega) (by intro i j h1 h2; omega)

end Go.Ab
end

section
/- All ways round, one after the other. Plain Lean. -/
set_option linter.all false
namespace Go.Ab

def IsCyc (f g : Nat → Nat) (p n : Nat) : Prop := 2 ≤ n ∧ n % 2 = 0 ∧ alt f g p n = p ∧ ∀ i j, i < j → j < n → alt f g p i ≠ alt f g p j
theorem IsCyc.uniq {f g : Nat → Nat} {p n m : Nat} (h : IsCyc f g p n) (h' : IsCyc f g p m) : n = m := by
  rcases Nat.lt_trichotomy n m with e | e | e
  · exact absurd (show alt f g p 0 = alt f g p n by rw [h.2.2.1]; rfl) (h'.2.2.2 0 n (by have := h.1; omega) e)
  · exact e
  · exact absurd (show alt f g p 0 = alt f g p m by rw [h'.2.2.1]; rfl) (h.2.2.2 0 m (by have := h'.1; omega) e)
open Classical in
noncomputable def cycN (f g : Nat → Nat) (p : Nat) : Nat := if h : ∃ n, IsCyc f g p n then Classical.choose h else 0
theorem cycN_ok {f g : Nat → Nat} {S : Nat → Prop} (h : Turn f g S) {p v : Nat} (hp : S p) (hv : ∀ x, S x → x < v) : IsCyc f g p (cycN f g p) ∧ cycN f g p ≤ v := by
  obtain ⟨n, h1, h2, h3, h4, h5⟩ := alt_back h hp hv
  have hex : ∃ n, IsCyc f g p n := ⟨n, h1, h2, h4, h5⟩
  have e : IsCyc f g p (cycN f g p) := by unfold cycN; rw [dif_pos hex]; exact Classical.choose_spec hex
  exact ⟨e, by rw [e.uniq ⟨h1, h2, h4, h5⟩]; exact h3⟩
noncomputable def cycL (f g : Nat → Nat) (p : Nat) : List Nat := (List.range (cycN f g p)).map (alt f g p)
theorem mem_cycL {f g : Nat → Nat} {p x : Nat} : x ∈ cycL f g p ↔ ∃ k, k < cycN f g p ∧ alt f g p k = x := by simp [cycL]
/-- A way round is closed. -/
theorem cycL_closed {f g : Nat → Nat} {S : Nat → Prop} (h : Turn f g S) {p v : Nat} (hp : S p) (hv : ∀ x, S x → x < v) {x : Nat} (hx : x ∈ cycL f g p) : f x ∈ cycL f g p ∧ g x ∈ cycL f g p := by
  obtain ⟨⟨n2, ne, nb, _⟩, _⟩ := cycN_ok h hp hv
  rw [mem_cycL] at hx ⊢
  rw [mem_cycL]
  obtain ⟨k, hk, rfl⟩ := hx
  have hS := alt_S h hp
  generalize cycN f g p = n at *
  by_cases hk2 : k % 2 = 0
  · refine ⟨⟨k + 1, by omega, by simp [alt, hk2]⟩, ?_⟩
    by_cases h0 : k = 0
    · subst h0
      obtain ⟨m, rfl⟩ : ∃ m, n = m + 1 := ⟨n - 1, by omega⟩
      have e : alt f g p (m + 1) = g (alt f g p m) := by simp only [alt]; rw [if_neg (by omega)]
      rw [e] at nb
      refine ⟨m, by omega, ?_⟩
      have := h.gg _ (hS m)
      rw [nb] at this
      exact this.symm
    · obtain ⟨m, rfl⟩ : ∃ m, k = m + 1 := ⟨k - 1, by omega⟩
      have e : alt f g p (m + 1) = g (alt f g p m) := by simp only [alt]; rw [if_neg (by omega)]
      exact ⟨m, by omega, by rw [e, h.gg _ (hS m)]⟩
  · obtain ⟨m, rfl⟩ : ∃ m, k = m + 1 := ⟨k - 1, by omega⟩
    have e : alt f g p (m + 1) = f (alt f g p m) := by simp only [alt]; rw [if_pos (by omega)]
    refine ⟨⟨m, by omega, by rw [e, h.ff _ (hS m)]⟩, ?_⟩
    have e2 : alt f g p (m + 1 + 1) = g (alt f g p (m + 1)) := by
      rw [show alt f g p (m + 1 + 1) = if (m + 1) % 2 = 0 then f (alt f g p (m + 1)) else g (alt f g p (m + 1)) from rfl, if_neg (by omega)]
    by_cases hn : m + 1 + 1 < n
    · exact ⟨m + 1 + 1, hn, e2⟩
    · have : m + 1 + 1 = n := by omega
      rw [this, nb] at e2
      exact ⟨0, by omega, e2⟩

/-- What was met already is closed: a point that was not met leads to none that was. -/
def Shut (f g : Nat → Nat) (S : Nat → Prop) (met : List Nat) : Prop := ∀ x, S x → x ∉ met → f x ∉ met ∧ g x ∉ met
theorem Shut.alt {f g : Nat → Nat} {S : Nat → Prop} {met : List Nat} (hm : Shut f g S met) (h : Turn f g S) {p : Nat} (hp : S p) (hpm : p ∉ met) : ∀ k, Go.Ab.alt f g p k ∉ met
  | 0 => hpm
  | k + 1 => by
    have ih := hm _ (alt_S h hp k) (hm.alt h hp hpm k)
    simp only [Go.Ab.alt]
    split
    · exact ih.1
    · exact ih.2
theorem Shut.next {f g : Nat → Nat} {S : Nat → Prop} {met : List Nat} (hm : Shut f g S met) (h : Turn f g S) {p v : Nat} (hp : S p) (hv : ∀ x, S x → x < v) : Shut f g S (met ++ cycL f g p) := by
  intro x hx hn
  simp only [List.mem_append, not_or] at hn ⊢
  have h1 := hm x hx hn.1
  refine ⟨⟨h1.1, fun hc => hn.2 ?_⟩, h1.2, fun hc => hn.2 ?_⟩
  · have := (cycL_closed h hp hv hc).1
    rwa [h.ff _ hx] at this
  · have := (cycL_closed h hp hv hc).2
    rwa [h.gg _ hx] at this

end Go.Ab
end

section
/- BlocksOn: the specification's side, and places on the other side. -/
set_option linter.all false
set_option maxRecDepth 20000
set_option maxHeartbeats 4000000
namespace Go.Proofs.Ytdfeoccjllljiaa
open Go.Ab

theorem put2 {H H0 H' : Heap} {id : Nat} {cs0 cs : List Value} (hp0 : H <+: H0) (hid : H.length ≤ id) (hb0 : H0[id]? = some ⟨cs0, true, true⟩) (h2 : cs0.length = 2) (hp : H0 <+: H') (hcl : cs.length = 2) (ho : cs.all Value.oneCell' = true) :
    storeAt H' id 0 cs = some (H'.set id ⟨cs, true, true⟩) ∧ cellsAt (H'.set id ⟨cs, true, true⟩) id 0 2 = some cs ∧ H <+: H'.set id ⟨cs, true, true⟩ ∧ Same (fun j => j = id) H' (H'.set id ⟨cs, true, true⟩) := by
  have hb' := Same.get (S := fun _ => False) (Same.of_prefix hp) hb0 (fun h => h)
  have hsame : Same (fun j => j = id) H' (H'.set id ⟨cs, true, true⟩) := ⟨by simp, fun j hj hS => List.getElem?_set_ne (fun e => hS e.symm)⟩
  refine ⟨?_, ?_, ((Same.of_prefix (hp0.trans hp)).trans hsame).prefix (by intro j hj he; omega), hsame⟩
  · rw [storeAt_of hb' rfl rfl (by simp [hcl, h2]) ho]
    match cs, hcl, cs0, h2 with
    | [x, y], _, [z, w], _ => simp [over]
  · have := Holds.cells (n := 2) (o := 0) (H := H'.set id ⟨cs, true, true⟩) ⟨true, List.getElem?_set_self (List.getElem?_eq_some_iff.1 hb').1⟩ (by omega)
    rw [this, List.drop_zero, List.take_of_length_le (by omega)]

end Go.Proofs.Ytdfeoccjllljiaa
end

section
/- CyclesOf: membership, and lists of lists kept while other blocks change. -/
set_option linter.all false
set_option maxRecDepth 20000
set_option maxHeartbeats 4000000
namespace Go.Proofs.Ytdfeoccjllljiaa
open Go.Ab

theorem _root_.Go.Ab.Build.keepS {H0 H H' : Heap} {oid : Nat} {rows : List (Nat × List Int)} {S : Nat → Prop} (h : Build H0 H oid rows) (hs : Same S H H') (h0 : ∀ j, S j → H0.length ≤ j) (ho : ¬ S oid) (hr : ∀ r ∈ rows, ¬ S r.1) : Build H0 H' oid rows :=
  ⟨((Same.of_prefix h.pre).trans hs).prefix (by intro j hj hS; have := h0 j hS; omega), h.ol.keep hs ho, h.ge,
    ⟨fun r hm => (h.rows1.1 r hm).imp (fun h => h) fun hb => hs.get hb (hr r hm), h.rows1.2⟩,
    fun r hm => ⟨(h.ids r hm).1, Nat.lt_of_lt_of_le (h.ids r hm).2.1 hs.1, (h.ids r hm).2.2⟩⟩

end Go.Proofs.Ytdfeoccjllljiaa
end

section
/- Sorting blocks, the tested program's side: slices.Clone over blocks, sorted, system. -/
set_option linter.all false
set_option maxRecDepth 20000
set_option maxHeartbeats 4000000
namespace Go.Proofs.Ytdfeoccjllljiaa
open Go.Ab Go.Sort

theorem tri_src {H : Heap} {i o : Nat} {bs : List Bk} (h : At H i o (tri bs)) : srcCells H 3 (lv 3 i o bs.length) = some (tri bs) := h.src (by rw [tri_length]) (by omega) _

theorem cloneB_oe {H : Heap} {u : Value} {xs : List Bk} (hu : BlocksAt H u xs) (hl : xs.length ≤ 1048576) (Post : Value → Heap → Prop) (h : ∀ H' w, H <+: H' → OE 3 H.length H' w (tri xs) xs.length → Post w H') :
    ACalls Try.prog 89 [u] H Post := by
  obtain ⟨i, o, rfl, h1, h2⟩ := hu
  by_cases hx : xs = []
  · subst hx
    refine acalls_body Try.func89 rfl rfl (by rw [Try.ntmps89]; exact Nat.le_of_ble_eq_true rfl) ?_
    rw [Try.ntmps89]
    refine AWp.seq (vc_sound _ _ _ _ ?_)
    simp (maxSteps := 1000000) [go_sem]
    refine AWp.seq (AWp.seq (AWp.regionS ?_))
    refine StepOK.of_v ?_
    simp (maxSteps := 1000000) [go_sem]
    refine StepOK.of_op rfl (ok_eqlNil2 rfl Try.underlying28 rfl rfl (by show (4 : Nat) < 8; decide) (fun b => ?_))
    refine AWp.cond (b := b) (by cases b <;> rfl) (fun _ => ?_) (fun _ => ?_)
    · refine vc_sound _ _ _ _ ?_
      simp (maxSteps := 1000000) [go_sem]
      exact h H _ (List.prefix_refl _) (OE.nil _ _ _)
    · refine vc_sound _ _ _ _ ?_
      simp (maxSteps := 1000000) [go_sem]
      refine vc_sound _ _ _ _ ?_
      simp (maxSteps := 1000000) [go_sem, appendH]
      exact h _ _ (List.prefix_append _ _) (OE.empty (Nat.le_refl _) (by simp))
  · have hp0 : H <+: H ++ [⟨[], true, true⟩] := List.prefix_append _ _
    have hsrc := tri_src (h1.pre hp0)
    have hm0 : xs.length ≠ 0 := by simpa using hx
    simp only [srcCells] at hsrc
    have he0 : OE 3 H.length (H ++ [(⟨[], true, true⟩ : Blk)]) (.slice (some ⟨H.length, 0, none⟩) 0 0) [] 0 := OE.empty (Nat.le_refl _) (by simp)
    obtain ⟨v, H2, hap, he2, hk2, hl2⟩ := he0.append (m := xs.length) (news := tri xs) (by omega) (by simp) (by rw [tri_length])
    generalize hm : xs.length = m at *
    refine acalls_vc (rs := [.tmp 2]) Try.func89 rfl rfl Try.ntmps89 rfl rfl ?_
    have hnil : nilOK (some ⟨i, o, some 3⟩) m = true := by simpa [nilOK] using hm0
    simp (maxSteps := 1000000) [go_sem, hnil, hsrc, hap]
    refine andK_intro (by omega) ?_
    simp only [List.nil_append, Nat.zero_add] at he2
    exact h H2 v (KeepL.prefix hp0 (Nat.le_refl _) hk2 hl2) he2
theorem blockCmp {id : Nat} {H : Heap} : Cmp Try.prog Bk.val before 170 [] [] (fun _ => True) id H := by
  intro H x y Post _ _ _ h
  show ACalls Try.prog 170 [x.val, y.val] H Post
  refine compare_ok _ ?_
  intro H' hp
  refine h H' _ hp ?_
  have := lexC_block x y
  cases hb : before x y with
  | true =>
    have : ¬ (0 ≤ lexC [x.a, x.b, x.c] [y.a, y.b, y.c]) := by rw [this, hb]; simp
    exact decide_eq_true (by omega)
  | false =>
    have := this.2 hb
    exact decide_eq_false (by omega)

theorem sortFunc0_ok {H : Heap} {id : Nat} {fv : Value} (Post : Value → Heap → Prop) (h : Post (.tuple #[]) H) : ACalls Try.prog 185 [lv 3 id 0 0, fv] H Post := by
  refine acalls_vc (rs := []) Try.func185 rfl rfl Try.ntmps185 rfl rfl ?_
  simp (maxSteps := 1000000) [go_sem, wu64_0B]
  refine bitsLenC_ok (x := 0) (by omega) _ ?_
  simp (maxSteps := 1000000) [go_sem]
  refine pdq0B_ok _ ?_
  simp (maxSteps := 1000000) [go_sem]
  exact h

theorem sorted_ok {H : Heap} {u : Value} {bs : List Bk} (hu : BlocksAt H u bs) (hl : bs.length ≤ 1048576) (Post : Value → Heap → Prop) (h : ∀ H' w, H <+: H' → BlocksIn H.length H'.length H' w (sortB bs) → Post w H') :
    ACalls Try.prog 166 [u] H Post := by
  refine ACalls.res ?_
  refine acalls_vc (rs := [.tmp 2]) Try.func166 rfl rfl Try.ntmps166 rfl rfl ?_
  simp (maxSteps := 1000000) [go_sem]
  refine cloneB_oe hu hl _ ?_
  intro H1 v hp1 he
  by_cases h0 : bs = []
  · subst h0
    have hs0 : sortB [] = [] := rfl
    have fin := fun (w : Value) (hw : Up H1 v w) (hb : BlocksIn H.length H1.length H1 w []) => (show ∃ v', Up H1 v v' ∧ Post v' H1 from ⟨w, hw, h H1 w hp1 (by rw [hs0]; exact hb)⟩)
    rcases he.2 with ⟨_, rfl⟩ | ⟨id, _, _, rfl, _⟩ | ⟨id, _, rfl, _⟩
    · have f := fin (lv 3 0 0 0) (Up.nil _ _ _ _) (BlocksIn.nil _ _ _)
      simp (maxSteps := 1000000) [go_sem]
      refine ACalls.up (args' := [lv 3 0 0 0, _]) ⟨Up.nil _ _ _ _, Up.refl _ _, trivial⟩ ?_
      refine sortFunc0_ok _ ?_
      simp (maxSteps := 1000000) [go_sem]
      exact f
    · have f := fin (lv 3 0 0 0) (Up.ex0 _ _ _ _ _ _) (BlocksIn.nil _ _ _)
      simp (maxSteps := 1000000) [go_sem]
      refine ACalls.up (args' := [lv 3 0 0 0, _]) ⟨Up.ex0 _ _ _ _ _ _, Up.refl _ _, trivial⟩ ?_
      refine sortFunc0_ok _ ?_
      simp (maxSteps := 1000000) [go_sem]
      exact f
    · have f := fin (lv 3 id 0 0) (Up.refl _ _) ⟨id, ⟨rfl, .inl rfl, by simp⟩, fun h => absurd rfl h⟩
      simp (maxSteps := 1000000) [go_sem]
      refine sortFunc0_ok _ ?_
      simp (maxSteps := 1000000) [go_sem]
      exact f
  · have hn0 : bs.length ≠ 0 := fun e => h0 (List.eq_nil_of_length_eq_zero e)
    rcases he.2 with ⟨e, _⟩ | ⟨id, e, _⟩ | ⟨id, hid, rfl, e⟩
    · exact absurd e hn0
    · exact absurd e hn0
    · have hb : H1[id]? = some ⟨tri bs, true, true⟩ := by
        rcases e with ⟨e, _⟩ | e
        · exact absurd e hn0
        · exact e
      simp (maxSteps := 1000000) [go_sem]
      refine sortFuncB_ok (fs := []) (cs := []) (Q := fun _ => True) (l := bs) swoB ⟨by rw [flat_len Bk.cells_len], .inr hb⟩ rfl hl (fun _ _ => trivial) blockCmp _ ?_
      intro H2 l2 hs2 hol hperm hsorted
      have e2 := sort_uniq hperm hsorted
      have hlen : (sortB bs).length = bs.length := sortB_length _ bs rfl
      have hp2 : H <+: H2 := ((Same.of_prefix hp1).trans hs2).prefix (by intro j hj e; omega)
      have hb2 : H2[id]? = some ⟨tri (sortB bs), true, true⟩ := by
        rcases hol.2 with ⟨e, _⟩ | e
        · exact absurd e hn0
        · rw [e2] at e; exact e
      have f := h H2 (lv 3 id 0 bs.length) hp2 ⟨id, ⟨by rw [hlen], .inr hb2, by rw [hlen]; omega⟩, fun _ => ⟨hid, (List.getElem?_eq_some_iff.1 hb2).1⟩⟩
      simp (maxSteps := 1000000) [go_sem]
      exact ⟨_, Up.refl _ _, f⟩

theorem implSystem_ok {H : Heap} {u : Value} {p : Int} {bs : List Bk} (hu : BlocksAt H u bs) (hl : bs.length ≤ 1048576) (Post : Value → Heap → Prop) (h : ∀ H' w, H <+: H' → BlocksIn H.length H'.length H' w (sortB bs) → Post (sysV p w) H') :
    ACalls Try.prog 123 [.int .i64 p, u] H Post := by
  refine acalls_vc (rs := [.cell 4 38]) Try.func123 rfl rfl Try.ntmps123 rfl rfl ?_
  simp (maxSteps := 1000000) [go_sem]
  have hp0 : H <+: H ++ [⟨[.int .i64 0, .slice none 0 0], true, true⟩] := List.prefix_append _ _
  have hb0 : (H ++ [(⟨[.int .i64 0, .slice none 0 0], true, true⟩ : Blk)])[H.length]? = some ⟨[.int .i64 0, .slice none 0 0], true, true⟩ := by simp
  have hlen : (H ++ [(⟨[.int .i64 0, .slice none 0 0], true, true⟩ : Blk)]).length = H.length + 1 := by simp
  generalize H ++ [(⟨[.int .i64 0, .slice none 0 0], true, true⟩ : Blk)] = H0 at hp0 hb0 hlen ⊢
  refine sorted_ok (hu.pre hp0) hl _ ?_
  intro H1 w hp1 hw
  have hw0 := hw
  obtain ⟨id, ⟨rfl, _⟩, _⟩ := hw
  obtain ⟨q1, q2, q3, q4⟩ := put2 (cs := [.int .i64 p, lv 3 id 0 (sortB bs).length]) hp0 (Nat.le_refl _) hb0 rfl hp1 rfl rfl
  simp (maxSteps := 1000000) [go_sem, q1, q2]
  refine h _ _ q3 ?_
  have := (hw0.keep q4 (fun j hj e => by have := hj.1; omega)).wider (c := H.length) (by omega)
  rw [List.length_set]
  exact this

end Go.Proofs.Ytdfeoccjllljiaa
end

section
/- SystemOf: the tested program's side. -/
set_option linter.all false
set_option maxRecDepth 20000
set_option maxHeartbeats 8000000
namespace Go.Proofs.Ytdfeoccjllljiaa
open Go.Ab Go.Sort

/-- A result that is no system is put into its cell. -/
theorem bad_sys {H H0 : Heap} {Post : Value → Heap → Prop} {r : (Int × List Bk) × Int} (hp0 : H <+: H0) {id : Nat} (hid : H.length ≤ id) (hb0 : H0[id]? = some ⟨[.int .i64 0, .slice none 0 0], true, true⟩)
    (h : ∀ H' w, H <+: H' → BlocksIn H.length H'.length H' w r.1.2 → Post (.tuple #[sysV r.1.1 w, .int .i64 r.2]) H') (H' : Heap) (c : Int) (hp : H0 <+: H') (hr : r = ((0, []), c)) :
    ∃ H2, storeAt H' id 0 [.int .i64 0, .slice none 0 0] = some H2 ∧ cellsAt H2 id 0 2 = some [.int .i64 0, .slice none 0 0] ∧ ∃ v', Up H2 (.tuple #[.agg #[.int .i64 0, .slice none 0 0], .int .i64 c]) v' ∧ Post v' H2 := by
  obtain ⟨q1, q2, q3, _⟩ := put2 (cs := [.int .i64 0, .slice none 0 0]) hp0 hid hb0 rfl hp rfl rfl
  refine ⟨_, q1, q2, _, Up.tuple (ys := #[sysV 0 (lv 3 0 0 0), .int .i64 c]) ⟨zeroSys, Up.refl _ _, trivial⟩, ?_⟩
  have := h _ (lv 3 0 0 0) q3 (by rw [hr]; exact BlocksIn.nil _ _ _)
  rwa [hr] at this

end Go.Proofs.Ytdfeoccjllljiaa
end

section
/- Arguments that are lists of blocks or lists of lists of numbers: their shapes, the guards on their size, their copies. -/
set_option linter.all false
set_option maxRecDepth 20000
set_option maxHeartbeats 4000000
namespace Go.Proofs.Ytdfeoccjllljiaa
open Go.Ab

theorem szIntss0_ok {H : Heap} {u : Value} {xss : List (List Int)} {k : Int} (hu : IntssAt0 H u xss) (hk0 : 0 ≤ k) (hk : k ≤ 1048576) (Post : Value → Heap → Prop)
    (h : Post (.int .i64 (if k < (xss.length + xss.flatten.length : Nat) then -1 else k - (xss.length + xss.flatten.length : Nat))) H) :
    ACalls Try.prog 35 [u, .int .i64 k] H Post := by
  obtain ⟨i, o, vs, rfl, hvl, h1, h2, h3⟩ := hu
  refine acalls_vc (rs := [.tmp 4]) Try.func35 rfl rfl Try.ntmps35 rfl rfl ?_
  have hw : IntKind.i64.wrap (k - xss.length) = k - xss.length := i64w (by omega) (by omega)
  by_cases hlt : k < xss.length
  · rw [if_pos (by omega)] at h
    have hlt' : decide (k - (xss.length : Int) < 0) = true := decide_eq_true (by omega)
    simp (maxSteps := 1000000) [go_sem, hw, hlt', hlt]
    exact h
  have hlt' : decide (k - (xss.length : Int) < 0) = false := decide_eq_false (by omega)
  simp (maxSteps := 1000000) [go_sem, hw, hlt', hlt]
  refine AWp.loopVc (St := Nat) (fun s => [(0, lv 1 i o xss.length), (1, .int .i64 (k - xss.length - (off xss s : Nat))), (5, .int .i64 s)])
    (fun s H' => s ≤ xss.length ∧ H' = H ∧ (off xss s : Int) ≤ k - xss.length) (fun s => xss.length - s) 0 ?_ ?_ ?_
  · simp [upF, Fr.get, Up.refl, off_zero]
  · exact ⟨by omega, rfl, by rw [off_zero]; omega⟩
  · rintro K s H' ⟨hs, rfl, ho⟩ hK
    by_cases hls : s < xss.length
    · have hx := List.getElem?_eq_getElem hls
      have hv := List.getElem?_eq_getElem (show s < vs.length by omega)
      have hz := h2 s _ _ hv hx
      obtain ⟨xs, hxs⟩ : ∃ xs, xss[s] = xs := ⟨_, rfl⟩
      rw [hxs] at hx hz
      have hos := off_succ hx
      have hol := off_le' hx
      have c1 := h1.cell hv
      obtain ⟨v, hvv⟩ : ∃ v, vs[s]'(by omega) = v := ⟨_, rfl⟩
      rw [hvv] at c1 hz
      have hzo := hz
      obtain ⟨j, q, rfl, _, _⟩ := hzo
      have hw_s : IntKind.i64.wrap ((s : Int) + 1) = (s : Int) + 1 := i64w (by omega) (by omega)
      simp (maxSteps := 1000000) [go_sem, hls, c1]
      refine szInt64S0_ok hz (by omega) (by omega) _ ?_
      by_cases hb : k - (xss.length : Int) - (off xss s : Nat) < xs.length
      · rw [if_pos hb]
        rw [if_pos (by omega)] at h
        simp (maxSteps := 1000000) [go_sem]
        exact h
      · rw [if_neg hb]
        have hb' : decide (k - (xss.length : Int) - (off xss s : Nat) - (xs.length : Int) < 0) = false := decide_eq_false (by omega)
        simp (maxSteps := 1000000) [go_sem, hb', hw_s, hb]
        refine hK (s + 1) _ _ (by omega) ?_ ⟨by omega, rfl, by omega⟩
        have e : k - (xss.length : Int) - (off xss (s + 1) : Nat) = k - (xss.length : Int) - (off xss s : Nat) - (xs.length : Int) := by omega
        simp [upF, Fr.get, Up.refl, e]
    · have : s = xss.length := by omega
      subst this
      rw [off_all] at ho ⊢
      rw [if_neg (by omega)] at h
      obtain ⟨T, hT⟩ : ∃ T, xss.flatten.length = T := ⟨_, rfl⟩
      rw [hT] at h ⊢
      simp (maxSteps := 1000000) [go_sem]
      have e : k - ((xss.length + T : Nat) : Int) = k - (xss.length : Int) - (T : Nat) := by omega
      rw [e] at h
      exact h

theorem intss_at0 {H : Heap} {v : Value} {xss : List (List Int)} (h : IntssAt0 H v xss) (hl : xss.length + xss.flatten.length ≤ 1048576) : IntssAt H v xss :=
  h.at (by omega) fun xs hx => by
    obtain ⟨s, hs⟩ := List.mem_iff_getElem?.1 hx
    have := off_le' hs; omega

theorem toIntss_ok {H : Heap} {u : Value} {xss : List (List Int)} (hu : IntssAt H u xss) (hl : xss.length + xss.flatten.length ≤ 1048576) (Post : Value → Heap → Prop) (h : ∀ H' v, H <+: H' → RowsIn H.length H'.length H' v xss → Post v H') :
    ACalls Try.prog 37 [u] H Post := by
  obtain ⟨i, o, vs, rfl, hvl, h1, h2, h3⟩ := hu
  refine ACalls.res ?_
  refine acalls_vc (rs := [.tmp 2]) Try.func37 rfl rfl Try.ntmps37 rfl rfl ?_
  have hm : ∀ n, (madeCells #[Value.slice none 0 0] n).toList = List.replicate n (.slice none 0 0) := by
    intro n
    rw [made_same (v := .slice none 0 0) (by simp) (by intro i hi; simp at hi; subst hi; rfl)]
  simp (maxSteps := 1000000) [go_sem, hm]
  refine andK_intro (by omega) ?_
  have hlast : (H ++ [(⟨List.replicate xss.length (.slice none 0 0), true, true⟩ : Blk)])[H.length]? = some ⟨List.replicate xss.length (.slice none 0 0), true, true⟩ := by simp
  have hpl : H <+: H ++ [⟨List.replicate xss.length (.slice none 0 0), true, true⟩] := List.prefix_append _ _
  have hlen0 : (H ++ [(⟨List.replicate xss.length (.slice none 0 0), true, true⟩ : Blk)]).length = H.length + 1 := by simp
  generalize H ++ [(⟨List.replicate xss.length (.slice none 0 0), true, true⟩ : Blk)] = H0 at hlast hpl hlen0 ⊢
  refine AWp.loopVc (St := Nat × List (Nat × List Int)) (fun s => [(0, lv 1 i o xss.length), (3, .slice (some ⟨H.length, 0, none⟩) xss.length xss.length), (4, .int .i64 s.1)])
    (fun s H' => s.1 ≤ xss.length ∧ H <+: H' ∧ s.2.map (·.2) = xss.take s.1 ∧ H'[H.length]? = some ⟨s.2.map rowVal ++ List.replicate (xss.length - s.1) (.slice none 0 0), true, true⟩ ∧ Rows1 H' s.2 ∧ ∀ r ∈ s.2, r.2 ≠ [] → H.length < r.1 ∧ r.1 < H'.length)
    (fun s => xss.length - s.1) (0, []) ?_ ?_ ?_
  · simp [upF, Fr.get, Up.refl]
  · exact ⟨by simp, hpl, by simp, by simpa using hlast, ⟨by simp, by simp⟩, by simp⟩
  · rintro K ⟨s, rows⟩ H' ⟨hs, hp, hrm, hc, hr1, hri⟩ hK
    simp only at hs hp hrm hc hr1 hri
    have hrl : rows.length = s := by
      have := congrArg List.length hrm
      simp only [List.length_map, List.length_take] at this; omega
    by_cases hls : s < xss.length
    · have hx := List.getElem?_eq_getElem hls
      have hv := List.getElem?_eq_getElem (show s < vs.length by omega)
      have hz := h2 s _ _ hv hx
      obtain ⟨xs, hxs⟩ : ∃ xs, xss[s] = xs := ⟨_, rfl⟩
      rw [hxs] at hx hz
      have hol := off_le' hx
      have c1 := (h1.pre hp).cell hv
      obtain ⟨v, hvv⟩ : ∃ v, vs[s]'(by omega) = v := ⟨_, rfl⟩
      rw [hvv] at c1 hz
      have hzo := hz
      obtain ⟨j, q, rfl, _, _⟩ := hzo
      have hw_s : IntKind.i64.wrap ((s : Int) + 1) = (s : Int) + 1 := i64w (by omega) (by omega)
      simp (maxSteps := 1000000) [go_sem, hls, c1]
      refine toInt64S_ok (hz.pre hp) _ (by omega) ?_
      rintro H2 w rid hp2 hrid ⟨rfl, hown, hlx⟩
      have hlt := (List.getElem?_eq_some_iff.1 hc).1
      have hc2 := Same.get (S := fun _ => False) (Same.of_prefix hp2) hc (fun h => h)
      have hcl : s < (rows.map rowVal ++ List.replicate (xss.length - s) (Value.slice none 0 0)).length := by simp; omega
      have hset : (rows.map rowVal ++ List.replicate (xss.length - s) (Value.slice none 0 0)).set s (lv 1 rid 0 xs.length) = (rows ++ [(rid, xs)]).map rowVal ++ List.replicate (xss.length - (s + 1)) (.slice none 0 0) := by
        obtain ⟨m, hm⟩ : ∃ m, xss.length - s = m + 1 := ⟨xss.length - s - 1, by omega⟩
        have hm2 : xss.length - (s + 1) = m := by omega
        rw [hm, hm2, List.set_append, if_neg (by simp; omega), List.length_map, hrl, Nat.sub_self, List.replicate_succ, List.set_cons_zero, List.map_append, List.append_assoc]
        rfl
      have s2 : storeAt H2 H.length s [lv 1 rid 0 xs.length] = some (H2.set H.length ⟨(rows ++ [(rid, xs)]).map rowVal ++ List.replicate (xss.length - (s + 1)) (.slice none 0 0), true, true⟩) := by
        rw [storeAt_of hc2 rfl rfl (by simp only [List.length_singleton]; omega) (by simp [Value.oneCell']), over_one hcl, hset]
      have hS : Same (fun j => j = H.length) H2 (H2.set H.length ⟨(rows ++ [(rid, xs)]).map rowVal ++ List.replicate (xss.length - (s + 1)) (.slice none 0 0), true, true⟩) := Same.set
      have fin := fun fr' hf => hK (s + 1, rows ++ [(rid, xs)]) fr' (H2.set H.length ⟨(rows ++ [(rid, xs)]).map rowVal ++ List.replicate (xss.length - (s + 1)) (.slice none 0 0), true, true⟩) (by simp only; omega) hf ⟨by simp only; omega, ((Same.of_prefix (hp.trans hp2)).trans hS).prefix (by omega), by
          simp only [List.map_append, List.map_cons, List.map_nil, hrm]
          rw [List.take_succ_eq_append_getElem hls, hxs], by rw [List.getElem?_set_self (List.getElem?_eq_some_iff.1 hc2).1], ?_, ?_⟩
      · generalize H2.set H.length ⟨(rows ++ [(rid, xs)]).map rowVal ++ List.replicate (xss.length - (s + 1)) (.slice none 0 0), true, true⟩ = H3 at s2 fin
        simp (maxSteps := 1000000) [go_sem, hls, s2, hw_s]
        exact fin _ (by simp [upF, Fr.get, Up.refl])
      · have hle2 := hp2.length_le
        constructor
        · intro r hm
          rcases List.mem_append.1 hm with hm | hm
          · by_cases hne : r.2 = []
            · exact .inl hne
            · refine (hr1.1 r hm).imp (fun h => h) fun hb => ?_
              have := hri r hm hne
              exact hS.get (Same.get (S := fun _ => False) (Same.of_prefix hp2) hb (fun h => h)) (by omega)
          · simp at hm; subst hm
            refine hown.imp (fun h => h) fun hb => ?_
            exact hS.get hb (by simp only; omega)
        · intro a b r t ha hb hab hrn htn
          have key : ∀ (a : Nat) (r : Nat × List Int), (rows ++ [(rid, xs)])[a]? = some r → (a < rows.length ∧ rows[a]? = some r) ∨ (a = rows.length ∧ r = (rid, xs)) := by
            intro a r ha
            rcases Nat.lt_or_ge a rows.length with h | h
            · rw [List.getElem?_append_left h] at ha; exact .inl ⟨h, ha⟩
            · rw [List.getElem?_append_right h] at ha
              cases hk : a - rows.length with
              | zero => rw [hk] at ha; simp at ha; exact .inr ⟨by omega, ha.symm⟩
              | succ k => rw [hk] at ha; simp at ha
          rcases key a r ha with ⟨g1, g1'⟩ | ⟨g1, rfl⟩
          · rcases key b t hb with ⟨g2, g2'⟩ | ⟨g2, rfl⟩
            · exact hr1.2 a b r t g1' g2' hab hrn htn
            · have := (hri r (List.mem_of_getElem? g1') hrn).2; simp only; omega
          · rcases key b t hb with ⟨g2, g2'⟩ | ⟨g2, rfl⟩
            · have := (hri t (List.mem_of_getElem? g2') htn).2; simp only; omega
            · omega
      · intro r hm hne
        have hle2 := hp2.length_le
        rw [List.length_set]
        rcases List.mem_append.1 hm with hm | hm
        · have := hri r hm hne; omega
        · simp at hm; subst hm
          have hb := hown.resolve_left hne
          exact ⟨by simp only; omega, (List.getElem?_eq_some_iff.1 hb).1⟩
    · have : s = xss.length := by omega
      subst this
      rw [List.take_length] at hrm
      have hlt := (List.getElem?_eq_some_iff.1 hc).1
      simp only [Nat.sub_self, List.replicate_zero, List.append_nil] at hc
      have hrows : RowsIn H.length H'.length H' (lv 1 H.length 0 xss.length) xss := by
        refine ⟨H.length, rows, by rw [hrl], (Holds.at ⟨true, hc⟩), hr1, fun r hm hne => ⟨by have := hri r hm hne; omega, by have := hri r hm hne; exact ⟨by omega, this.2⟩⟩, hrm, fun _ => ⟨Nat.le_refl _, hlt⟩, by omega, by omega⟩
      simp (maxSteps := 1000000) [go_sem]
      refine ⟨lv 1 H.length 0 xss.length, Up.ex (by omega) ?_, h H' _ hp hrows⟩
      right
      have := Holds.cells (H := H') (i := H.length) (o := 0) (n := xss.length) ⟨true, hc⟩ (by simp [hrl])
      rw [Nat.mul_one, this]; rfl

end Go.Proofs.Ytdfeoccjllljiaa
end

section
/- LeadsTo: both sides. -/
set_option linter.all false
set_option maxRecDepth 20000
set_option maxHeartbeats 8000000
namespace Go.Proofs.Ytdfeoccjllljiaa
open Go.Ab Go.Sort

instance : DecidableEq Bk := fun x y => decidable_of_iff _ (Bk.eq3 x y).symm
end Go.Proofs.Ytdfeoccjllljiaa
end

section
/- Trades: the tested program's side of the pairs. -/
set_option linter.all false
set_option maxRecDepth 20000
set_option maxHeartbeats 4000000
namespace Go.Proofs.Ytdfeoccjllljiaa
open Go.Ab Go.Sort

theorem intsOf2 (a b : Int) : intsOf .i64 [.int .i64 a, .int .i64 b] = some [a, b] := by simp [intsOf]
attribute [go_sem] intsOf2

end Go.Proofs.Ytdfeoccjllljiaa
end

section
/- Trades as arguments and results: shapes, sizes, copies, equality, marks. -/
set_option linter.all false
set_option maxRecDepth 20000
set_option maxHeartbeats 8000000
namespace Go.Proofs.Ytdfeoccjllljiaa
open Go.Ab

def TradeAt0 (H : Heap) (u w : Value) (o i : List Bk) : Prop := BlocksAt0 H u o ∧ BlocksAt0 H w i
def TradeAt (H : Heap) (u w : Value) (o i : List Bk) : Prop := BlocksAt H u o ∧ BlocksAt H w i
theorem TradeAt0.pre {H H' : Heap} (hp : H <+: H') {u w : Value} {o i : List Bk} (h : TradeAt0 H u w o i) : TradeAt0 H' u w o i := ⟨h.1.pre hp, h.2.pre hp⟩
theorem TradeAt.pre {H H' : Heap} (hp : H <+: H') {u w : Value} {o i : List Bk} (h : TradeAt H u w o i) : TradeAt H' u w o i := ⟨h.1.pre hp, h.2.pre hp⟩
theorem TradeAt0.at {H : Heap} {u w : Value} {o i : List Bk} (h : TradeAt0 H u w o i) (hl : o.length ≤ 1048576 ∧ i.length ≤ 1048576) : TradeAt H u w o i := ⟨h.1.at (by omega), h.2.at (by omega)⟩
def TradeIn (a b : Nat) (H : Heap) (u w : Value) (o i : List Bk) : Prop := ∃ m, a ≤ m ∧ m ≤ b ∧ BlocksIn a m H u o ∧ BlocksIn m b H w i
theorem TradeIn.keep {a b : Nat} {H H' : Heap} {u w : Value} {o i : List Bk} (h : TradeIn a b H u w o i) {S : Nat → Prop} (hs : Same S H H') (hd : ∀ j, Span a b j → ¬ S j) : TradeIn a b H' u w o i := by
  obtain ⟨m, h1, h2, h3, h4⟩ := h
  exact ⟨m, h1, h2, h3.keep hs (fun j hj => hd j ⟨hj.1, by have := hj.2; omega⟩), h4.keep hs (fun j hj => hd j ⟨by have := hj.1; omega, hj.2⟩)⟩
theorem TradeIn.pre {a b : Nat} {H H' : Heap} (hp : H <+: H') {u w : Value} {o i : List Bk} (h : TradeIn a b H u w o i) : TradeIn a b H' u w o i := h.keep (S := fun _ => False) (Same.of_prefix hp) (fun _ _ h => h)
theorem TradeIn.read {a b : Nat} {H : Heap} {u w : Value} {o i : List Bk} (h : TradeIn a b H u w o i) : TradeAt H u w o i := by obtain ⟨m, _, _, h3, h4⟩ := h; exact ⟨h3.read, h4.read⟩
theorem TradeAt.one {H : Heap} {u w : Value} {o i : List Bk} (h : TradeAt H u w o i) : u.oneCell' = true ∧ w.oneCell' = true := ⟨h.1.one, h.2.one⟩
theorem TradeIn.wider {a b c : Nat} {H : Heap} {u w : Value} {o i : List Bk} (h : TradeIn a b H u w o i) (hc : c ≤ a) : TradeIn c b H u w o i := by
  obtain ⟨m, h1, h2, h3, h4⟩ := h; exact ⟨m, by omega, h2, h3.wider hc, h4⟩
theorem TradeIn.nil {a b : Nat} (h : a ≤ b) (H : Heap) : TradeIn a b H (lv 3 0 0 0) (lv 3 0 0 0) [] [] := ⟨a, Nat.le_refl _, h, BlocksIn.nil _ _ _, BlocksIn.nil _ _ _⟩
def MarkTr (a b : Nat) (H : Heap) (u w : Value) (k : Int) (n m : Nat) : Prop := ∃ c, a ≤ c ∧ c ≤ b ∧ MarkIn 3 a c H u k n ∧ MarkIn 3 c b H w (k + (n * 3 : Nat)) m
theorem MarkTr.keep {a b : Nat} {H H' : Heap} {u w : Value} {k : Int} {n m : Nat} (h : MarkTr a b H u w k n m) {S : Nat → Prop} (hs : Same S H H') (hd : ∀ j, Span a b j → ¬ S j) : MarkTr a b H' u w k n m := by
  obtain ⟨c, h1, h2, h3, h4⟩ := h
  exact ⟨c, h1, h2, h3.keep hs (fun j hj => hd j ⟨hj.1, by have := hj.2; omega⟩), h4.keep hs (fun j hj => hd j ⟨by have := hj.1; omega, hj.2⟩)⟩
theorem MarkTr.pre {a b : Nat} {H H' : Heap} (hp : H <+: H') {u w : Value} {k : Int} {n m : Nat} (h : MarkTr a b H u w k n m) : MarkTr a b H' u w k n m := h.keep (S := fun _ => False) (Same.of_prefix hp) (fun _ _ h => h)

end Go.Proofs.Ytdfeoccjllljiaa
end

section
/- The blocks of a list that are not in another one: both sides (slices.DeleteFunc over blocks). -/
set_option linter.all false
set_option maxRecDepth 20000
set_option maxHeartbeats 8000000
namespace Go.Proofs.Ytdfeoccjllljiaa
open Go.Ab Go.Sort

/-- A block of which only the first cells are told. -/
theorem _root_.Go.Ab.upH.cut {H : Heap} {id : Nat} {cs cs' : List Value} {li ow : Bool} (hb : H[id]? = some ⟨cs ++ cs', li, ow⟩) : upH H (H.set id ⟨cs, li, ow⟩) := by
  intro B w0 ρ w hR
  have hlt := (List.getElem?_eq_some_iff.1 hb).1
  have key : ∀ (i : Nat) (b : Blk), (H.set id ⟨cs, li, ow⟩)[i]? = some b → (i = id ∧ b = ⟨cs, li, ow⟩) ∨ (i ≠ id ∧ H[i]? = some b) := by
    intro i b h
    by_cases e : i = id
    · subst e; rw [List.getElem?_set_self hlt] at h; exact .inl ⟨rfl, (Option.some.inj h).symm⟩
    · rw [List.getElem?_set_ne (fun h => e h.symm)] at h; exact .inr ⟨e, h⟩
  have old : ∀ (i : Nat) (b : Blk), (H.set id ⟨cs, li, ow⟩)[i]? = some b → ∃ b', H[i]? = some b' ∧ b'.live = b.live ∧ b'.own = b.own := by
    intro i b h
    rcases key i b h with ⟨rfl, rfl⟩ | ⟨_, h⟩
    · exact ⟨_, hb, rfl, rfl⟩
    · exact ⟨b, h, rfl, rfl⟩
  refine ⟨by rw [List.length_set]; exact hR.len, hR.below, hR.base, ?_, ?_, ?_⟩
  · intro i b l h hl' hlive
    rcases key i b h with ⟨rfl, rfl⟩ | ⟨_, h⟩
    · obtain ⟨arr, elem, fz, h1, h2, h3, h4⟩ := hR.blk i _ l hb hl' hlive
      refine ⟨arr, elem, fz, h1, h2, ?_, h4⟩
      intro k v hk
      exact h3 k v (by rw [List.getElem?_append_left (List.getElem?_eq_some_iff.1 hk).1]; exact hk)
    · exact hR.blk i b l h hl' hlive
  · intro i j b c l m hij h1 h2 h3 h4 h5 h6 h7
    obtain ⟨b', e1, e2, e3⟩ := old i b h1
    obtain ⟨c', f1, f2, f3⟩ := old j c h2
    exact hR.apart i j b' c' l m hij e1 f1 h3 h4 (by rw [e2]; exact h5) (by rw [f2]; exact h6) (by rw [e3]; exact h7)
  · intro i b l h1 h2 h3 h4
    obtain ⟨b', e1, e2, e3⟩ := old i b h1
    exact hR.ghost i b' l e1 h2 (by rw [e2]; exact h3) (by rw [e3]; exact h4)

end Go.Proofs.Ytdfeoccjllljiaa
end

section
/- Regions whose order is open, with operations that hang on nothing (a new cell, an empty list): at each effect ahead of such a one, both ways are shown. It holds for every program. -/
set_option linter.all false
namespace Go.Ab
open Go.RowKit (Below)

def pairOKF (ops : Array Oper) (fs : List Nat) (ms : List Nat) (x y : Nat × Bool) : Bool :=
  match ops[x.1]?, ops[y.1]? with
  | some p, some q =>
    let d := (ms.getD y.1 0).testBit x.1
    !directTo p y.1 && x.1 != y.1 &&
    (match isR p.op with
     | true => (d || indep ops p q) && (isR q.op || y.2 || !readsH p.op || d)
     | false => d || (fs.contains y.1 && y.2 && !isR q.op))
  | _, _ => false
def pairsOKF (ops : Array Oper) (fs : List Nat) (ms : List Nat) : List (Nat × Bool) → Bool
  | [] => true
  | x :: l => l.all (pairOKF ops fs ms x) && pairsOKF ops fs ms l
def drawOKF (ops : Array Oper) (fs : List Nat) (canon : List (Nat × Bool)) : Bool :=
  let ms := masksGo ops.toList []
  pairsOKF ops fs ms canon && edgesOK ops && decide (canon.length = ops.size) && canon.all (fun x => decide (x.1 < ops.size)) && (List.range ops.size).all (fun i => (canon.map (·.1)).contains i)

section
variable {P : Program} {N : Nat} {ops : Array Oper} {K : Fr → Heap → Prop} {fs : List Nat}

/-- With both ways at each effect. -/
def vF (P : Program) (N : Nat) (ops : Array Oper) (fs : List Nat) (K : Fr → Heap → Prop) : Nat → List (Nat × Bool) → Fr → Heap → Prop
  | _, [], fr, H => K fr H
  | 0, _ :: _, _, _ => False
  | n + 1, (i, fl) :: l, fr, H => match ops[i]? with
    | none => False
    | some o => match isR o.op with
      | true => vstep P N ops o (vF P N ops fs K n l) fr H
      | false => vstep P N ops o (eK fl H (vF P N ops fs K n l)) fr H ∧
          ∀ f, f ∈ fs → f ∈ l.map (·.1) → ∃ o', ops[f]? = some o' ∧ isR o'.op = false ∧ vstep P N ops o' (eK true H (vF P N ops fs K n ((i, fl) :: l.filter fun y => y.1 != f))) fr H

theorem vstep_closed {o : Oper} {T : Fr → Heap → Prop} (hT : Closed T) {f g : Fr} {H : Heap} (hfg : feq f g) (h : vstep P N ops o T f H) : vstep P N ops o T g H := by
  cases hR : isR o.op with
  | true =>
    obtain ⟨v, h1, h2⟩ := vstep_R hR hT h
    exact h2 g H _ hT (agreeG.of_feq hfg) (fun _ => List.prefix_refl _) (hT _ _ _ (hfg.put _ _) h1)
  | false =>
    refine vstep_weak (vstep_E hT h (agreeG.of_feq hfg)) ?_
    rintro f' h' ⟨v, h1, h2⟩
    exact hT _ _ _ ((hfg.put _ _).trans h1) h2
theorem eK_closed {fl : Bool} {H : Heap} {T : Fr → Heap → Prop} (hT : Closed T) : Closed (eK fl H T) := by
  intro f g h' hfg hk
  cases fl with
  | true => exact ⟨hk.1, hT _ _ _ hfg hk.2⟩
  | false => exact hT _ _ _ hfg hk
theorem vF_closed (hK : Closed K) : ∀ n l, Closed (vF P N ops fs K n l)
  | 0, [] => hK
  | n + 1, [] => hK
  | 0, _ :: _ => fun _ _ _ _ h => h
  | n + 1, (i, fl) :: l => by
    intro f g H hfg h
    simp only [vF] at h ⊢
    split at h
    · exact h.elim
    · rename_i o ho
      cases hR : isR o.op with
      | true => simp only [hR] at h ⊢; exact vstep_closed (vF_closed hK n l) hfg h
      | false =>
        simp only [hR] at h ⊢
        refine ⟨vstep_closed (eK_closed (vF_closed hK n l)) hfg h.1, fun f hf hm => ?_⟩
        obtain ⟨o', h1, h2, h3⟩ := h.2 f hf hm
        exact ⟨o', h1, h2, vstep_closed (eK_closed (vF_closed hK n _)) hfg h3⟩

/-- Reads one after the other. -/
def seqR (P : Program) (N : Nat) (ops : Array Oper) (T : Fr → Heap → Prop) : List (Nat × Bool) → Fr → Heap → Prop
  | [], fr, H => T fr H
  | (j, _) :: l, fr, H => match ops[j]? with
    | none => False
    | some p => vstep P N ops p (seqR P N ops T l) fr H
theorem seqR_closed {T : Fr → Heap → Prop} (hT : Closed T) : ∀ l, Closed (seqR P N ops T l)
  | [] => hT
  | (j, fj) :: l => by
    intro f g H hfg h
    simp only [seqR] at h ⊢
    split at h
    · exact h.elim
    · exact vstep_closed (seqR_closed hT l) hfg h
theorem vF_seqR {n : Nat} {rest : List (Nat × Bool)} : ∀ (l1 : List (Nat × Bool)) (fr : Fr) (H : Heap), (∀ x ∈ l1, ∃ p, ops[x.1]? = some p ∧ isR p.op = true) →
    (vF P N ops fs K (l1.length + n) (l1 ++ rest) fr H ↔ seqR P N ops (vF P N ops fs K n rest) l1 fr H)
  | [], fr, H, _ => by simp [seqR]
  | (j, fj) :: l1, fr, H, hl => by
    obtain ⟨p, hp, hR⟩ := hl (j, fj) (by simp)
    have ih := fun fr H => vF_seqR (n := n) (rest := rest) l1 fr H fun x hx => hl x (by simp [hx])
    rw [show ((j, fj) :: l1).length + n = (l1.length + n) + 1 by simp; omega]
    simp only [List.cons_append, vF, seqR, hp, hR]
    exact ⟨fun h => vstep_weak h fun f h => (ih f h).1, fun h => vstep_weak h fun f h => (ih f h).2⟩

theorem front_gen {o : Oper} {fl : Bool} {T T' : Fr → Heap → Prop} (hT : Closed T) (hT' : Closed T') (hstep : ∀ fr H, T fr H → vstep P N ops o (fun f h => rel o fl H h ∧ T' f h) fr H) : ∀ (l1 : List (Nat × Bool)) (fr : Fr) (H : Heap),
    (∀ x ∈ l1, ∃ p, ops[x.1]? = some p ∧ isR p.op = true ∧ indep ops p o = true ∧ (readsH p.op = true → isR o.op = true ∨ fl = true)) →
    seqR P N ops T l1 fr H → vstep P N ops o (fun f h => rel o fl H h ∧ seqR P N ops T' l1 f h) fr H
  | [], fr, H, _, h => hstep fr H h
  | (j, fj) :: l1, fr, H, hl, h => by
    obtain ⟨p, hp, hR, hin, hrd⟩ := hl (j, fj) (by simp)
    simp only [seqR, hp] at h ⊢
    have hc1 := seqR_closed (P := P) (N := N) (ops := ops) hT l1
    have hc2 := seqR_closed (P := P) (N := N) (ops := ops) hT' l1
    obtain ⟨v, h1, h2⟩ := vstep_R hR hc1 h
    have ih := front_gen hT hT' hstep l1 (fr.put p.dst v) H (fun x hx => hl x (by simp [hx])) h1
    obtain ⟨i1, i2, i3⟩ := indep_spec hin
    have hcK : Closed (fun f h => rel o fl H h ∧ seqR P N ops T' l1 f h) := fun f g h hfg hk => ⟨hk.1, hc2 _ _ _ hfg hk.2⟩
    have hag : agreeG ops o (fr.put p.dst v) fr := agreeG.symm (agreeG.put i1)
    refine vstep_weak (vstep_E hcK ih hag) ?_
    rintro f h' ⟨u, hf, hrel, hv⟩
    refine ⟨hrel, ?_⟩
    have hvE : vstep P N ops p (seqR P N ops T' l1) (fr.put o.dst u) h' := by
      refine h2 (fr.put o.dst u) h' _ hc2 (agreeG.put i2) (fun hr => hrel (hrd hr)) ?_
      exact hc2 _ _ _ (put_comm fr i3 v u) hv
    exact vstep_closed hc2 hf hvE

theorem eK_rel {o : Oper} {fl : Bool} {T : Fr → Heap → Prop} {fr : Fr} {H : Heap} (hR : isR o.op = false) (h : vstep P N ops o (eK fl H T) fr H) : vstep P N ops o (fun f h => rel o fl H h ∧ T f h) fr H := by
  refine vstep_weak h ?_
  intro f h' hk
  cases fl with
  | true => exact ⟨fun _ => hk.1, hk.2⟩
  | false => exact ⟨fun e => by simp [hR] at e, hk⟩

/-- What is behind reads only comes first. -/
theorem vF_front (hK : Closed K) {n i : Nat} {fl : Bool} {l1 l2 : List (Nat × Bool)} {o : Oper} (ho : ops[i]? = some o) {fr : Fr} {H : Heap}
    (hl1 : ∀ x ∈ l1, ∃ p, ops[x.1]? = some p ∧ isR p.op = true ∧ indep ops p o = true ∧ (readsH p.op = true → isR o.op = true ∨ fl = true))
    (h : vF P N ops fs K (l1.length + (n + 1)) (l1 ++ (i, fl) :: l2) fr H) : vstep P N ops o (fun f h => rel o fl H h ∧ vF P N ops fs K (l1.length + n) (l1 ++ l2) f h) fr H := by
  have hl1' : ∀ x ∈ l1, ∃ p, ops[x.1]? = some p ∧ isR p.op = true := fun x hx => by obtain ⟨p, h1, h2, _⟩ := hl1 x hx; exact ⟨p, h1, h2⟩
  rw [vF_seqR l1 fr H hl1'] at h
  have hstep : ∀ fr H, vF P N ops fs K (n + 1) ((i, fl) :: l2) fr H → vstep P N ops o (fun f h => rel o fl H h ∧ vF P N ops fs K n l2 f h) fr H := by
    intro fr H h
    simp only [vF, ho] at h
    cases hR : isR o.op with
    | true =>
      simp only [hR] at h
      obtain ⟨v, h1, h2⟩ := vstep_R hR (vF_closed hK n l2) h
      refine h2 fr H _ ?_ (fun _ _ => rfl) (fun _ => List.prefix_refl _) ⟨fun _ => List.prefix_refl _, h1⟩
      intro f g h hfg hk
      exact ⟨hk.1, vF_closed hK n l2 _ _ _ hfg hk.2⟩
    | false => simp only [hR] at h; exact eK_rel hR h.1
  refine vstep_weak (front_gen (vF_closed hK _ _) (vF_closed hK n l2) hstep l1 fr H hl1 h) ?_
  rintro f h' ⟨h1, h2⟩
  exact ⟨h1, (vF_seqR l1 f h' hl1').2 h2⟩
/-- What hangs on nothing comes ahead of the first effect. -/
theorem vF_float (hK : Closed K) {n i f : Nat} {fl : Bool} {r1 l2 : List (Nat × Bool)} {o o' : Oper} (ho : ops[i]? = some o) (hE : isR o.op = false) (hf : ops[f]? = some o') (hff : f ∈ fs) (hfl : f ∈ l2.map (·.1)) {fr : Fr} {H : Heap}
    (hl1 : ∀ x ∈ r1, ∃ p, ops[x.1]? = some p ∧ isR p.op = true ∧ indep ops p o' = true)
    (h : vF P N ops fs K (r1.length + (n + 1)) (r1 ++ (i, fl) :: l2) fr H) : vstep P N ops o' (fun f' h => rel o' true H h ∧ vF P N ops fs K (r1.length + n) (r1 ++ (i, fl) :: l2.filter fun y => y.1 != f) f' h) fr H := by
  have hl1' : ∀ x ∈ r1, ∃ p, ops[x.1]? = some p ∧ isR p.op = true := fun x hx => by obtain ⟨p, h1, h2, _⟩ := hl1 x hx; exact ⟨p, h1, h2⟩
  rw [vF_seqR r1 fr H hl1'] at h
  have hstep : ∀ fr H, vF P N ops fs K (n + 1) ((i, fl) :: l2) fr H → vstep P N ops o' (fun f' h => rel o' true H h ∧ vF P N ops fs K n ((i, fl) :: l2.filter fun y => y.1 != f) f' h) fr H := by
    intro fr H h
    simp only [vF, ho, hE] at h
    obtain ⟨o2, h1, h2, h3⟩ := h.2 f hff hfl
    rw [hf] at h1; cases h1
    exact eK_rel h2 h3
  refine vstep_weak (front_gen (vF_closed hK _ _) (vF_closed hK n _) hstep r1 fr H (fun x hx => by obtain ⟨p, h1, h2, h3⟩ := hl1 x hx; exact ⟨p, h1, h2, h3, fun _ => .inr rfl⟩) h) ?_
  rintro f h' ⟨h1, h2⟩
  exact ⟨h1, (vF_seqR r1 f h' hl1').2 h2⟩

theorem pairsOKF_spec {ms : List Nat} : ∀ {l1 : List (Nat × Bool)} {y : Nat × Bool} {l2 : List (Nat × Bool)}, pairsOKF ops fs ms (l1 ++ y :: l2) = true → (∀ x ∈ l1, pairOKF ops fs ms x y = true) ∧ (∀ z ∈ l2, pairOKF ops fs ms y z = true) ∧ pairsOKF ops fs ms (l1 ++ l2) = true
  | [], y, l2, h => by
    simp only [List.nil_append, pairsOKF, Bool.and_eq_true, List.all_eq_true] at h
    exact ⟨by simp, h.1, h.2⟩
  | x :: l1, y, l2, h => by
    simp only [List.cons_append, pairsOKF, Bool.and_eq_true, List.all_eq_true] at h ⊢
    obtain ⟨h1, h2⟩ := h
    obtain ⟨h3, h4, h5⟩ := pairsOKF_spec h2
    refine ⟨fun z hz => ?_, h4, fun z hz => h1 z ?_, h5⟩
    · rcases List.mem_cons.1 hz with rfl | hz
      · exact h1 y (by simp)
      · exact h3 z hz
    · rcases List.mem_append.1 hz with hz | hz
      · simp [hz]
      · simp [hz]

/-- The first effect of a list. -/
theorem first_effect : ∀ (l : List (Nat × Bool)), (∀ x ∈ l, ∃ p, ops[x.1]? = some p) → (∀ x ∈ l, ∃ p, ops[x.1]? = some p ∧ isR p.op = true) ∨
    ∃ r1 e o r2, l = r1 ++ e :: r2 ∧ ops[e.1]? = some o ∧ isR o.op = false ∧ ∀ x ∈ r1, ∃ p, ops[x.1]? = some p ∧ isR p.op = true
  | [], _ => .inl (by simp)
  | x :: l, h => by
    obtain ⟨p, hp⟩ := h x (by simp)
    cases hR : isR p.op with
    | false => exact .inr ⟨[], x, p, l, rfl, hp, hR, by simp⟩
    | true =>
      rcases first_effect l fun y hy => h y (by simp [hy]) with h1 | ⟨r1, e, o, r2, rfl, h2, h3, h4⟩
      · left
        intro y hy
        rcases List.mem_cons.1 hy with rfl | hy
        · exact ⟨p, hp, hR⟩
        · exact h1 y hy
      · refine .inr ⟨x :: r1, e, o, r2, rfl, h2, h3, fun y hy => ?_⟩
        rcases List.mem_cons.1 hy with rfl | hy
        · exact ⟨p, hp, hR⟩
        · exact h4 y hy

theorem drawF_any {B : Nat} {w0 : World} {Q : Exit → Act → World → Prop} (hK : Closed K) (hedge : edgesOK ops = true) : ∀ (n : Nat) (listed : Array Bool) (l : List (Nat × Bool)) (fr : Fr) (H : Heap) (ρ : Rho) (w : World) (a : Act),
    listed.size = ops.size → l.length = n → pairsOKF ops fs (masksGo ops.toList []) l = true → (∀ x ∈ l, x.1 < ops.size ∧ listed.getD x.1 true = false) → (∀ i, i < ops.size → listed.getD i true = false → ∃ x ∈ l, x.1 = i) →
    (∀ (j : Nat) (o : Oper), ops[j]? = some o → listed.getD j false = true → ∀ e ∈ o.after.toList, Region.binds .any e = true → listed.getD e.on false = true) →
    vF P N ops fs K n l fr H → R B w0 ρ H w → FR N ρ fr a →
    (∀ (ρ' : Rho) (fr' : Fr) (H' : Heap) (a' : Act) (w' : World), ρ <+: ρ' → K fr' H' → R B w0 ρ' H' w' → FR N ρ' fr' a' → Q .normal a' w') → wpAny P .any ops Q n listed a w := by
  intro n
  have getD2 : ∀ (listed : Array Bool) (i : Nat), listed.size = ops.size → i < ops.size → listed.getD i true = listed.getD i false := by
    intro listed i h1 h2
    simp [Array.getD_eq_getD_getElem?, h1, h2]
  induction n with
  | zero =>
    intro listed l fr H ρ w a hsz hl hp hin hall hcl hv hR hF hq
    have : l = [] := List.eq_nil_of_length_eq_zero hl
    subst this
    refine ⟨?_, hq ρ fr H a w (List.prefix_refl _) hv hR hF⟩
    rw [List.eq_nil_iff_forall_not_mem]
    intro i hi
    simp only [Region.ready, List.mem_filter, List.mem_range, Bool.and_eq_true, Bool.not_eq_true'] at hi
    obtain ⟨x, hx, _⟩ := hall i hi.1 hi.2.1
    simp at hx
  | succ n ih =>
    intro listed l fr H ρ w a hsz hl hp hin hall hcl hv hR hF hq
    refine ⟨?_, ?_⟩
    · intro hnil
      exfalso
      match l, hl with
      | (i, fl) :: l, hl =>
        obtain ⟨h1, h2⟩ := hin (i, fl) (by simp)
        have hi : i ∈ Region.ready .any ops listed := by
          simp only [Region.ready, List.mem_filter, List.mem_range, Bool.and_eq_true, Bool.not_eq_true']
          refine ⟨h1, h2, ?_⟩
          rw [Array.getElem?_eq_getElem h1]
          simp only [Option.map_some, Option.getD_some, Array.all_eq_true']
          intro e he
          rw [Bool.or_eq_true, Bool.not_eq_true']
          by_cases hb : Region.binds .any e = true
          · right
            have hedge' := List.all_eq_true.1 hedge i (by simpa using h1)
            simp only [Array.getElem?_eq_getElem h1, List.all_eq_true] at hedge'
            have he' := hedge' e (by simpa using he)
            simp only [hb, Bool.not_true, Bool.false_or, Bool.and_eq_true, decide_eq_true_eq, bne_iff_ne, ne_eq] at he'
            rw [← getD2 listed e.on hsz he'.1]
            cases hg : listed.getD e.on true with
            | true => rfl
            | false =>
              obtain ⟨x, hx, hxe⟩ := hall e.on he'.1 hg
              rcases List.mem_cons.1 hx with rfl | hx
              · exact absurd hxe.symm he'.2
              · have hpo := (pairsOKF_spec (l1 := []) hp).2.1 x hx
                have hx1 := (hin x (by simp [hx])).1
                simp only [pairOKF, Array.getElem?_eq_getElem h1, Array.getElem?_eq_getElem hx1, Bool.and_eq_true, Bool.not_eq_true'] at hpo
                have hd := hpo.1.1
                simp only [directTo, List.any_eq_false, Bool.and_eq_true, beq_iff_eq, not_and] at hd
                exact absurd hxe.symm (hd e (by simpa using he) hb)
          · left; simpa using hb
        rw [hnil] at hi
        simp at hi
    · intro i hi
      simp only [Region.ready, List.mem_filter, List.mem_range, Bool.and_eq_true, Bool.not_eq_true'] at hi
      obtain ⟨hilt, hnl, hrdy⟩ := hi
      rw [Array.getElem?_eq_getElem hilt] at hrdy
      simp only [Option.map_some, Option.getD_some, Array.all_eq_true'] at hrdy
      have ho : ops[i]? = some ops[i] := Array.getElem?_eq_getElem hilt
      obtain ⟨x, hx, hxi⟩ := hall i hilt hnl
      obtain ⟨l1, l2, rfl⟩ := List.append_of_mem hx
      obtain ⟨i', fl⟩ := x
      simp only at hxi
      subst hxi
      obtain ⟨hp1, hp2, hp3⟩ := pairsOKF_spec hp
      have hpre : ∀ e ∈ (ops[i']).after.toList, Region.binds .any e = true → listed.getD e.on false = true := by
        intro e he hb
        have := hrdy e (by simpa using he)
        simpa [hb] using this
      have hdep : ∀ y ∈ l1, ¬ ((masksGo ops.toList []).getD i' 0).testBit y.1 = true := by
        intro y hy hb
        have := masks_sound (ops := ops) (fun j => listed.getD j false = true) hcl ops.toList [] (fun j _ => by simp) (fun j o p hj => by simp at hj) i' _ y.1 ho hb hpre
        obtain ⟨hy1, hy2⟩ := hin y (by simp [hy])
        rw [getD2 listed y.1 hsz hy1] at hy2
        rw [hy2] at this; cases this
      have hR1 : ∀ y ∈ l1, ∀ p, ops[y.1]? = some p → isR p.op = true → indep ops p ops[i'] = true ∧ (readsH p.op = true → isR (ops[i']).op = true ∨ fl = true) := by
        intro y hy p hp' hRp
        have hy1 := (hin y (by simp [hy])).1
        have hpo := hp1 y hy
        have hd := hdep y hy
        simp only [pairOKF, hp', ho, Bool.and_eq_true] at hpo
        have hpo2 := hpo.2
        simp only [Bool.not_eq_true] at hd
        simp only [hRp, hd, Bool.false_or, Bool.or_false, Bool.and_eq_true, Bool.or_eq_true, Bool.not_eq_true'] at hpo2
        refine ⟨hpo2.1, fun hr => ?_⟩
        rcases hpo2.2 with (h | h) | h
        · exact .inl h
        · exact .inr h
        · rw [hr] at h; cases h
      have hE1 : ∀ y ∈ l1, ∀ p, ops[y.1]? = some p → isR p.op = false → i' ∈ fs ∧ fl = true ∧ isR (ops[i']).op = false := by
        intro y hy p hp' hRp
        have hpo := hp1 y hy
        have hd := hdep y hy
        simp only [pairOKF, hp', ho, Bool.and_eq_true] at hpo
        have hpo2 := hpo.2
        simp only [Bool.not_eq_true] at hd
        simp only [hRp, hd, Bool.false_or, Bool.and_eq_true, Bool.not_eq_true', List.contains_iff_mem] at hpo2
        exact ⟨hpo2.1.1, hpo2.1.2, hpo2.2⟩
      have hnd : ∀ y ∈ l1 ++ l2, y.1 ≠ i' := by
        intro y hy e
        rcases List.mem_append.1 hy with hy | hy
        · have hpo := hp1 y hy
          have hy1 := (hin y (by simp [hy])).1
          simp [pairOKF, Array.getElem?_eq_getElem hy1, ho, e] at hpo
        · have hpo := hp2 y hy
          have hy1 := (hin y (by simp [hy])).1
          simp [pairOKF, Array.getElem?_eq_getElem hy1, ho, e] at hpo
      have hstep : vstep P N ops ops[i'] (fun f h => rel ops[i'] fl H h ∧ vF P N ops fs K n (l1 ++ l2) f h) fr H := by
        simp only [List.length_append, List.length_cons] at hl
        rcases first_effect (ops := ops) l1 (fun x hx => ⟨_, Array.getElem?_eq_getElem (hin x (by simp [hx])).1⟩) with hall1 | ⟨r1, e, oe, r2, rfl, he1, he2, he3⟩
        · rw [show n = l1.length + l2.length by omega]
          rw [show n + 1 = l1.length + (l2.length + 1) by omega] at hv
          exact vF_front hK ho (fun x hx => by obtain ⟨p, h1, h2⟩ := hall1 x hx; obtain ⟨h3, h4⟩ := hR1 x hx p h1 h2; exact ⟨p, h1, h2, h3, h4⟩) hv
        · obtain ⟨hif, hfl, hEi⟩ := hE1 e (by simp) oe he1 he2
          subst hfl
          simp only [List.length_append, List.length_cons] at hl
          rw [show n + 1 = r1.length + ((r2.length + 1 + l2.length) + 1) by omega, List.append_assoc, List.cons_append] at hv
          have hfilt : (r2 ++ (i', true) :: l2).filter (fun y => y.1 != i') = r2 ++ l2 := by
            rw [List.filter_append, List.filter_cons]
            simp only [bne_self_eq_false, Bool.false_eq_true, if_false]
            rw [List.filter_eq_self.2, List.filter_eq_self.2]
            · intro y hy; simpa using hnd y (by simp [hy])
            · intro y hy; simpa using hnd y (by simp [hy])
          have := vF_float (f := i') hK he1 he2 ho hif (by simp) (fun x hx => by
            obtain ⟨p, h1, h2⟩ := he3 x hx
            exact ⟨p, h1, h2, (hR1 x (by simp [hx]) p h1 h2).1⟩) hv
          rw [hfilt] at this
          rw [show n = r1.length + (r2.length + 1 + l2.length) by omega, List.append_assoc, List.cons_append]
          exact this
      unfold wpOp
      rw [ho]
      refine vstep_sound hstep hR hF Q ?_
      rintro ρ' fr' H' a' w' hpre' ⟨_, hv'⟩ hR' hF'
      refine ih (listed.setIfInBounds i' true) (l1 ++ l2) fr' H' ρ' w' a' (by simpa using hsz) (by simp at hl ⊢; omega) hp3 ?_ ?_ ?_ hv' hR' hF' (fun ρ'' f'' H'' a'' w'' h1 => hq ρ'' f'' H'' a'' w'' (hpre'.trans h1))
      · intro y hy
        have hne := hnd y hy
        obtain ⟨h1, h2⟩ := hin y (by rcases List.mem_append.1 hy with hy | hy <;> simp [hy])
        exact ⟨h1, by rw [getD_set_ne _ (fun e => hne e.symm)]; exact h2⟩
      · intro j hj hnj
        by_cases e : i' = j
        · subst e
          exfalso
          have : (listed.setIfInBounds i' true).getD i' true = true := by simp [Array.getD_eq_getD_getElem?]
          rw [this] at hnj; cases hnj
        · rw [getD_set_ne _ e] at hnj
          obtain ⟨y, hy, rfl⟩ := hall j hj hnj
          refine ⟨y, ?_, rfl⟩
          rcases List.mem_append.1 hy with hy | hy
          · simp [hy]
          · rcases List.mem_cons.1 hy with rfl | hy
            · exact absurd rfl e
            · simp [hy]
      · intro j o hj hlj e he hb
        by_cases e' : i' = j
        · subst e'
          rw [ho] at hj; cases hj
          exact getD_set_true (hpre e he hb)
        · rw [getD_set_ne _ e'] at hlj
          exact getD_set_true (hcl j o hj hlj e he hb)

/-- Both ways, written out. -/
inductive Tree
  | nil
  | one (i : Nat) (fl : Bool) (t : Tree)
  | two (i : Nat) (fl : Bool) (t : Tree) (f : Nat) (t' : Tree)

def vT (P : Program) (N : Nat) (ops : Array Oper) (K : Fr → Heap → Prop) : Tree → Fr → Heap → Prop
  | .nil, fr, H => K fr H
  | .one i fl t, fr, H => match ops[i]? with
    | none => False
    | some o => match isR o.op with
      | true => vstep P N ops o (vT P N ops K t) fr H
      | false => vstep P N ops o (eK fl H (vT P N ops K t)) fr H
  | .two i fl t f t', fr, H => match ops[i]?, ops[f]? with
    | some o, some o' => vstep P N ops o (eK fl H (vT P N ops K t)) fr H ∧ vstep P N ops o' (eK true H (vT P N ops K t')) fr H
    | _, _ => False
def treeOK (ops : Array Oper) (fs : List Nat) : Tree → List (Nat × Bool) → Bool
  | .nil, l => l.isEmpty
  | .one i fl t, (j, fl') :: l => i == j && fl == fl' && ((match ops[i]? with | some o => isR o.op | none => false) || fs.all fun f => !(l.map (·.1)).contains f) && treeOK ops fs t l
  | .two i fl t f t', (j, fl') :: l => i == j && fl == fl' && (match ops[i]?, ops[f]? with | some o, some o' => !isR o.op && !isR o'.op | _, _ => false) && (fs.all fun g => g == f || !(l.map (·.1)).contains g) && treeOK ops fs t l && treeOK ops fs t' ((j, fl') :: l.filter fun y => y.1 != f)
  | _, [] => false
theorem vT_vF : ∀ (t : Tree) (n : Nat) (l : List (Nat × Bool)) (fr : Fr) (H : Heap), l.length ≤ n → (∀ x y, x ∈ l → y ∈ l → x.1 = y.1 → x = y) → treeOK ops fs t l = true → vT P N ops K t fr H → vF P N ops fs K n l fr H := by
  intro t
  induction t with
  | nil =>
    intro n l fr H hn _ hok h
    cases l with
    | nil => cases n <;> exact h
    | cons x l => simp [treeOK] at hok
  | one i fl t ih =>
    intro n l fr H hn hu hok h
    cases l with
    | nil => simp [treeOK] at hok
    | cons x l =>
      obtain ⟨j, fl'⟩ := x
      simp only [treeOK, Bool.and_eq_true, beq_iff_eq] at hok
      obtain ⟨⟨⟨rfl, rfl⟩, hfl⟩, hok⟩ := hok
      cases n with
      | zero => simp at hn
      | succ n =>
        simp only [List.length_cons] at hn
        have hu' : ∀ x y, x ∈ l → y ∈ l → x.1 = y.1 → x = y := fun x y hx hy => hu x y (by simp [hx]) (by simp [hy])
        simp only [vT] at h
        simp only [vF]
        cases ho : ops[i]? with
        | none => simp [ho] at h
        | some o =>
          simp only [ho] at h hfl ⊢
          cases hR : isR o.op with
          | true => simp only [hR] at h ⊢; exact vstep_weak h fun f h => ih n l f h (by omega) hu' hok
          | false =>
            simp only [hR, Bool.false_or, List.all_eq_true] at h hfl ⊢
            refine ⟨vstep_weak h fun f h' hk => ?_, fun f hf hm => ?_⟩
            · cases fl with
              | true => exact ⟨hk.1, ih n l f h' (by omega) hu' hok hk.2⟩
              | false => exact ih n l f h' (by omega) hu' hok hk
            · have := hfl f hf
              simp only [Bool.not_eq_true', List.contains_eq_mem, decide_eq_false_iff_not] at this
              exact absurd hm this
  | two i fl t f t' ih ih' =>
    intro n l fr H hn hu hok h
    cases l with
    | nil => simp [treeOK] at hok
    | cons x l =>
      obtain ⟨j, fl'⟩ := x
      simp only [treeOK, Bool.and_eq_true, beq_iff_eq] at hok
      obtain ⟨⟨⟨⟨⟨rfl, rfl⟩, hE⟩, hfl⟩, hok⟩, hok'⟩ := hok
      cases n with
      | zero => simp at hn
      | succ n =>
        simp only [List.length_cons] at hn
        have hu' : ∀ x y, x ∈ l → y ∈ l → x.1 = y.1 → x = y := fun x y hx hy => hu x y (by simp [hx]) (by simp [hy])
        simp only [vT] at h
        simp only [vF]
        cases ho : ops[i]? with
        | none => simp [ho] at h
        | some o =>
          cases ho' : ops[f]? with
          | none => simp [ho, ho'] at h
          | some o' =>
            simp only [ho, ho', Bool.and_eq_true, Bool.not_eq_true'] at h hE ⊢
            simp only [hE.1]
            refine ⟨vstep_weak h.1 fun g h' hk => ?_, fun g hg hm => ?_⟩
            · cases fl with
              | true => exact ⟨hk.1, ih n l g h' (by omega) hu' hok hk.2⟩
              | false => exact ih n l g h' (by omega) hu' hok hk
            · rw [List.all_eq_true] at hfl
              have hgf := hfl g hg
              simp only [Bool.or_eq_true, beq_iff_eq, Bool.not_eq_true', List.contains_eq_mem, decide_eq_false_iff_not] at hgf
              have : g = f := hgf.resolve_right (fun e => e hm)
              subst this
              refine ⟨o', ho', hE.2, vstep_weak h.2 fun q h' hk => ⟨hk.1, ih' n _ q h' ?_ ?_ hok' hk.2⟩⟩
              · obtain ⟨z, hz, hzg⟩ := List.mem_map.1 hm
                have : (l.filter fun y => y.1 != g).length < l.length := by
                  rw [List.length_filter_lt_length_iff_exists]
                  exact ⟨z, hz, by simp [hzg]⟩
                simp only [List.length_cons]; omega
              · intro x y hx hy
                refine hu x y ?_ ?_
                · rcases List.mem_cons.1 hx with rfl | hx
                  · simp
                  · exact List.mem_cons_of_mem _ (List.mem_filter.1 hx).1
                · rcases List.mem_cons.1 hy with rfl | hy
                  · simp
                  · exact List.mem_cons_of_mem _ (List.mem_filter.1 hy).1

theorem AWp.drawF {id : Nat} {fr : Fr} {H : Heap} {Q : Exit → Fr → Heap → Prop} (hm : P.follows .mixedOrders = true) (fs : List Nat) (canon : List (Nat × Bool)) (t : Tree) (hok : (drawOKF ops fs canon && treeOK ops fs t canon) = true) (h : vT P N ops (Q .normal) t fr H) : AWp P N (.region id ops true) Q fr H := by
  intro B w0 ρ w a hR hF
  simp only [drawOKF, Bool.and_eq_true, decide_eq_true_eq, List.all_eq_true, List.mem_range, List.contains_iff_mem, List.mem_map] at hok
  obtain ⟨⟨⟨⟨⟨h1, h2⟩, h3⟩, h4⟩, h5⟩, h6⟩ := hok
  refine wp_region_any hm ?_
  let K : Fr → Heap → Prop := fun f h => ∃ g, feq g f ∧ Q .normal g h
  have hK : Closed K := fun f g h hfg ⟨k, hk, hq⟩ => ⟨k, hk.trans hfg, hq⟩
  have hu : ∀ x y, x ∈ canon → y ∈ canon → x.1 = y.1 → x = y := by
    intro x y hx hy e
    obtain ⟨l1, l2, rfl⟩ := List.append_of_mem hx
    obtain ⟨hp1, hp2, _⟩ := pairsOKF_spec h1
    rcases List.mem_append.1 hy with hy | hy
    · have := hp1 y hy
      unfold pairOKF at this
      split at this
      · simp [e] at this
      · cases this
    · rcases List.mem_cons.1 hy with rfl | hy
      · rfl
      · have := hp2 y hy
        unfold pairOKF at this
        split at this
        · simp [e] at this
        · cases this
  have hv : vF P N ops fs K ops.size canon fr H := by
    refine vT_vF t ops.size canon fr H (by omega) hu h6 ?_
    have weak : ∀ (t : Tree) (fr : Fr) (H : Heap), vT P N ops (Q .normal) t fr H → vT P N ops K t fr H := by
      intro t
      induction t with
      | nil => exact fun fr H h => ⟨fr, feq.rfl' _, h⟩
      | one i fl t ih =>
        intro fr H h
        simp only [vT] at h ⊢
        split at h
        · exact h
        · rename_i o ho
          cases hR : isR o.op with
          | true => simp only [hR] at h ⊢; exact vstep_weak h ih
          | false =>
            simp only [hR] at h ⊢
            refine vstep_weak h ?_
            intro f h' hk
            cases fl with
            | true => exact ⟨hk.1, ih _ _ hk.2⟩
            | false => exact ih _ _ hk
      | two i fl t f t' ih ih' =>
        intro fr H h
        simp only [vT] at h ⊢
        split at h
        · rename_i o o' ho ho'
          refine ⟨vstep_weak h.1 ?_, vstep_weak h.2 fun f h' hk => ⟨hk.1, ih' _ _ hk.2⟩⟩
          intro f h' hk
          cases fl with
          | true => exact ⟨hk.1, ih _ _ hk.2⟩
          | false => exact ih _ _ hk
        · exact h
    exact weak t fr H h
  have hgt : ∀ i, i < ops.size → (Array.replicate ops.size false).getD i true = false := by
    intro i hi
    simp [Array.getD_eq_getD_getElem?, hi]
  refine drawF_any (B := B) (w0 := w0) hK h2 ops.size (Array.replicate ops.size false) canon fr H ρ w.drew a (by simp) h3 h1 ?_ ?_ ?_ hv hR.drew hF ?_
  · intro x hx
    exact ⟨h4 x hx, hgt x.1 (h4 x hx)⟩
  · intro i hi _
    obtain ⟨x, hx, rfl⟩ := h5 i hi
    exact ⟨x, hx, rfl⟩
  · intro j o hj hl
    rw [Array.getD_eq_getD_getElem?, Array.getElem?_replicate] at hl
    split at hl <;> simp at hl
  · rintro ρ' fr' H' a' w' hp ⟨g, hg, hq⟩ hR' hF'
    exact ⟨ρ', g, H', hp, hR', hF'.feq hg.symm, hq⟩

/-! The words of such a tree, for simp. -/

def vTK (P : Program) (N : Nat) (ops : Array Oper) (K : Fr → Heap → Prop) (t : Tree) (fr : Fr) (H : Heap) : Prop := vT P N ops K t fr H
def eTK (P : Program) (N : Nat) (ops : Array Oper) (K : Fr → Heap → Prop) (t : Tree) (fl : Bool) (H : Heap) (fr : Fr) (H' : Heap) : Prop :=
  match fl with
  | true => andK (H <+: H') (vT P N ops K t fr H')
  | false => vT P N ops K t fr H'
def vTo (P : Program) (N : Nat) (ops : Array Oper) (K : Fr → Heap → Prop) (t : Tree) (fl : Bool) (fr : Fr) (H : Heap) (o : Oper) : Prop :=
  match isR o.op with
  | true => vstep P N ops o (vTK P N ops K t) fr H
  | false => vstep P N ops o (eTK P N ops K t fl H) fr H
def vTe (P : Program) (N : Nat) (ops : Array Oper) (K : Fr → Heap → Prop) (t : Tree) (fl : Bool) (fr : Fr) (H : Heap) (o : Oper) : Prop := vstep P N ops o (eTK P N ops K t fl H) fr H

theorem vT_nil (K : Fr → Heap → Prop) (fr : Fr) (H : Heap) : vT P N ops K .nil fr H = K fr H := rfl
theorem eTK_eq (K : Fr → Heap → Prop) (t : Tree) (fl : Bool) (H : Heap) : eK fl H (vT P N ops K t) = eTK P N ops K t fl H := by
  funext f h
  cases fl <;> rfl
theorem vT_one (K : Fr → Heap → Prop) (i : Nat) (fl : Bool) (t : Tree) (fr : Fr) (H : Heap) : vT P N ops K (.one i fl t) fr H = bindO ops[i]? (vTo P N ops K t fl fr H) := by
  simp only [vT]
  cases ops[i]? with
  | none => simp [bindO]
  | some o =>
    simp only [bindO_some, vTo]
    cases isR o.op with
    | true => rfl
    | false => simp only [eTK_eq]
theorem vT_two {i : Nat} {fl : Bool} {t : Tree} {f : Nat} {t' : Tree} {K : Fr → Heap → Prop} {fr : Fr} {H : Heap} (h1 : bindO ops[i]? (vTe P N ops K t fl fr H)) (h2 : bindO ops[f]? (vTe P N ops K t' true fr H)) : vT P N ops K (.two i fl t f t') fr H := by
  simp only [vT]
  cases ho : ops[i]? with
  | none => simp [ho, bindO] at h1
  | some o =>
    cases ho' : ops[f]? with
    | none => simp [ho', bindO] at h2
    | some o' =>
      simp only [ho, ho', bindO_some, vTe] at h1 h2 ⊢
      exact ⟨by rw [eTK_eq]; exact h1, by rw [eTK_eq]; exact h2⟩

attribute [go_sem] vTK eTK vTo vTe vT_nil vT_one

end
end Go.Ab
end
