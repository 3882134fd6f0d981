/- Part 9 of what the proof of the law FnMadeSystems rests on: contracts of functions of the program, for every argument that each names; no statement of the seat is proved here. -/
import Derived.Test.YtfnegaedkomcgaaGreatFnMadeSystemsPart8

set_option linter.all false
set_option maxRecDepth 20000
set_option maxHeartbeats 8000000
section
namespace Go.Proofs.YtfnegaedkomcgaaGreat
open Go.Ab Go.Sort

theorem pdqB_ok {lt : Bk -> Bk -> Bool} {g : FuncId} {fs cs : List Value} {Q : Bk -> Prop} {n : Nat} (hS : SWO lt) (hl : n <= 1048576) : ∀ (N : Nat) {H : Heap} {id a b limit : Nat} {d : Array Bk}, b - a <= N -> Arr Bk.cells H id d -> d.size = n -> a <= b -> b <= n -> limit <= 64 -> Below lt a b d -> QA Q d ->
    Cmp Tryz.prog Bk.val lt g fs cs Q id H -> ∀ (Post : Value -> Heap -> Prop), (∀ H' d', Same (fun k => k = id) H H' -> Arr Bk.cells H' id d' -> PermIn a b d d' -> SortedIn lt a b d' -> Post (.tuple #[]) H') ->
    ACalls Tryz.prog 161 [lv 3 id 0 n, .int .i64 a, .int .i64 b, .int .i64 limit, .func (.func g) fs.toArray cs.toArray] H Post := by
  intro N
  induction N using Nat.strongRecOn with
  | _ N ih =>
  intro H id a b limit d hN hA hn hab hb hlim hBel hQ hC Post h
  refine acalls_vc (rs := []) Tryz.func161 rfl rfl Tryz.ntmps161 rfl rfl ?_
  simp (maxSteps := 1000000) [go_sem]
  refine AWp.loopA (St := Nat × Nat × Nat × Bool × Bool × Array Bk) (fun s => [(0, lv 3 id 0 n), (1, .int .i64 s.1), (2, .int .i64 s.2.1), (3, .int .i64 s.2.2.1), (4, .func (.func g) fs.toArray cs.toArray), (10, .bool s.2.2.2.1), (11, .bool s.2.2.2.2.1)])
    (fun s H' => a <= s.1 /\ s.1 <= s.2.1 /\ s.2.1 <= b /\ s.2.2.1 <= 64 /\ s.2.2.2.2.2.size = n /\ QA Q s.2.2.2.2.2 /\ Same (fun k => k = id) H H' /\ Arr Bk.cells H' id s.2.2.2.2.2 /\ Below lt s.1 s.2.1 s.2.2.2.2.2 /\
      ∀ R, PermIn s.1 s.2.1 s.2.2.2.2.2 R -> SortedIn lt s.1 s.2.1 R -> PermIn a b d R /\ SortedIn lt a b R) (fun s => s.2.1 - s.1) (a, b, limit, true, true, d) ?_ ?_ ?_
  · simp [upF, Fr.get, Up.refl]
  · exact ⟨Nat.le_refl _, hab, Nat.le_refl _, hlim, hn, hQ, Same.refl _ _, hA, hBel, fun R h1 h2 => ⟨h1, h2⟩⟩
  · rintro K ⟨a1, b1, li, wb, wp, d1⟩ H1 ⟨haa, hab1, hbb, hli, hsz, hQ1, hS1, hA1, hB1, hfin⟩ hK
    simp only at haa hab1 hbb hli hsz hQ1 hS1 hA1 hB1 hfin
    obtain ⟨l, hll⟩ : ∃ l, l = b1 - a1 := ⟨_, rfl⟩
    have w0 : IntKind.i64.wrap ((b1 : Int) - a1) = (l : Int) := by rw [hll, i64w (by omega) (by omega)]; omega
    refine AWp.block ?_
    refine AWp.ofVc ?_
    simp (maxSteps := 1000000) [go_sem, w0]
    by_cases h12 : l <= 12
    · have h12' : (l : Int) <= 12 := by omega
      refine AWp.ofVc ?_
      simp (maxSteps := 1000000) [go_sem, h12, h12']
      refine insB_ok hA1 hsz hl (by omega) (by omega) hQ1 (hC.keep hS1) _ ?_
      intro H2 hS2 hA2
      obtain ⟨f1, f2⟩ := insertionSort_holds hS d1 a1 b1 (by omega) (by omega)
      obtain ⟨f3, f4⟩ := hfin _ f1 f2
      have fin := h H2 _ (hS1.trans hS2) hA2 f3 f4
      simp (maxSteps := 1000000) [go_sem]
      exact fin
    have h12' : ¬ ((l : Int) <= 12) := by omega
    refine AWp.ofVc ?_
    simp (maxSteps := 1000000) [go_sem, h12, h12']
    by_cases hl0 : li = 0
    · subst hl0
      refine AWp.ofVc ?_
      simp (maxSteps := 1000000) [go_sem]
      refine heapB_ok hA1 hsz hl (by omega) (by omega) hQ1 (hC.keep hS1) _ ?_
      intro H2 hS2 hA2
      obtain ⟨f1, f2⟩ := heapSort_holds hS d1 a1 b1 (by omega) (by omega)
      obtain ⟨f3, f4⟩ := hfin _ f1 f2
      have fin := h H2 _ (hS1.trans hS2) hA2 f3 f4
      simp (maxSteps := 1000000) [go_sem]
      exact fin
    have hl0' : ((li : Int) == 0) = false := by rw [beq_eq_false_iff_ne]; omega
    refine AWp.ofVc ?_
    simp (maxSteps := 1000000) [go_sem, hl0, hl0']
    refine AWp.seqCut (St := Nat × Array Bk) (fun s => [(0, lv 3 id 0 n), (1, .int .i64 a1), (2, .int .i64 b1), (3, .int .i64 s.1), (4, .func (.func g) fs.toArray cs.toArray), (10, .bool wb), (11, .bool wp), (12, .int .i64 l)])
      (fun s H' => s.1 <= 64 /\ QA Q s.2 /\ Same (fun k => k = id) H H' /\ Arr Bk.cells H' id s.2 /\ PermIn a1 b1 d1 s.2) ?_ ?_
    · intro KE hKE
      cases wb with
      | true =>
        simp (maxSteps := 1000000) [go_sem]
        exact hKE (li, d1) _ _ (by simp [upF, Fr.get, Up.refl]) ⟨hli, hQ1, hS1, hA1, permIn_refl _ _ _⟩
      | false =>
        obtain ⟨lj, hlj⟩ : ∃ lj, lj = li - 1 := ⟨_, rfl⟩
        have wl : IntKind.i64.wrap ((li : Int) - 1) = (lj : Int) := by rw [hlj, i64w (by omega) (by omega)]; omega
        simp (maxSteps := 1000000) [go_sem]
        refine breakB_ok hA1 hsz hl (by omega) (by omega) hQ1 _ ?_
        intro H2 d2 hS2 hA2 hQ2 hP2
        simp (maxSteps := 1000000) [go_sem, wl]
        exact hKE (lj, d2) _ _ (by simp [upF, Fr.get, Up.refl]) ⟨by simp only; omega, hQ2, hS1.trans hS2, hA2, hP2⟩
    rintro ⟨lj, d2⟩ H2 ⟨hlj, hQ2, hS2, hA2, hP2⟩
    simp only at hlj hQ2 hS2 hA2 hP2 ⊢
    have hsz2 : d2.size = n := by rw [hP2.1]; exact hsz
    refine AWp.ofVc ?_
    simp (maxSteps := 1000000) [go_sem]
    refine pivotB_ok hA2 hsz2 hl (by omega) (by omega) hQ2 (hC.keep hS2) _ ?_
    intro H3 p t hp3 hpr
    have hS3 := hS2.via (Same.of_prefix (S := fun _ => False) hp3) (fun _ _ h => h.elim)
    have hA3 := hA2.pre hp3
    simp (maxSteps := 1000000) [go_sem]
    refine AWp.seqCut (St := Nat × Int × Array Bk) (fun s => [(0, lv 3 id 0 n), (1, .int .i64 a1), (2, .int .i64 b1), (3, .int .i64 lj), (4, .func (.func g) fs.toArray cs.toArray), (10, .bool wb), (11, .bool wp), (12, .int .i64 l), (13, .int .i64 s.1), (14, .int .i64 s.2.1)])
      (fun s H' => a1 <= s.1 /\ s.1 < b1 /\ QA Q s.2.2 /\ Same (fun k => k = id) H H' /\ Arr Bk.cells H' id s.2.2 /\ PermIn a1 b1 d2 s.2.2) ?_ ?_
    · intro KE hKE
      by_cases ht : t = 2
      · subst ht
        obtain ⟨p2, hp2⟩ : ∃ p2, p2 = b1 - 1 - (p - a1) := ⟨_, rfl⟩
        have w1 : IntKind.i64.wrap ((b1 : Int) - 1) = (b1 : Int) - 1 := i64w (by omega) (by omega)
        have w2 : IntKind.i64.wrap ((p : Int) - a1) = (p : Int) - a1 := i64w (by omega) (by omega)
        have w3 : IntKind.i64.wrap ((b1 : Int) - 1 - ((p : Int) - a1)) = (p2 : Int) := by rw [hp2, i64w (by omega) (by omega)]; omega
        simp (maxSteps := 1000000) [go_sem]
        refine reverseB_ok hA3 hsz2 hl (by omega) (by omega) _ ?_
        intro H4 hS4 hA4
        have hP4 := reverseRange_holds d2 a1 b1 (by omega) (by omega)
        simp (maxSteps := 1000000) [go_sem, w1, w2, w3]
        exact hKE (p2, 1, reverseRange d2 a1 b1) _ _ (by simp [upF, Fr.get, Up.refl]) ⟨by simp only; omega, by simp only; omega, QA_perm (by omega) hP4 hQ2, hS3.trans hS4, hA4, hP4⟩
      · have ht' : (t == 2) = false := by rw [beq_eq_false_iff_ne]; exact ht
        simp (maxSteps := 1000000) [go_sem, ht, ht']
        exact hKE (p, t, d2) _ _ (by simp [upF, Fr.get, Up.refl]) ⟨hpr.1, hpr.2, hQ2, hS3, hA3, permIn_refl _ _ _⟩
    rintro ⟨q, u, d3⟩ H4 ⟨hq1, hq2, hQ3, hS4, hA4, hP3⟩
    simp only at hq1 hq2 hQ3 hS4 hA4 hP3 ⊢
    have hsz3 : d3.size = n := by rw [hP3.1]; exact hsz2
    have hP13 := permIn_trans _ _ _ _ _ hP2 hP3
    have hB3 : Below lt a1 b1 d3 := hB1.perm (by omega) hP13
    refine AWp.seqCut (St := Array Bk) (fun _ => [(0, lv 3 id 0 n), (1, .int .i64 a1), (2, .int .i64 b1), (3, .int .i64 lj), (4, .func (.func g) fs.toArray cs.toArray), (10, .bool wb), (11, .bool wp), (12, .int .i64 l), (13, .int .i64 q)])
      (fun d4 H' => QA Q d4 /\ Same (fun k => k = id) H H' /\ Arr Bk.cells H' id d4 /\ PermIn a1 b1 d1 d4) ?_ ?_
    · intro KE hKE
      have skip := fun fr' hfr => hKE d3 fr' H4 hfr ⟨hQ3, hS4, hA4, hP13⟩
      cases wb with
      | false =>
        simp (maxSteps := 1000000) [go_sem, undef]
        exact skip _ (by simp [upF, Fr.get, Up.refl])
      | true =>
        cases wp with
        | false =>
          simp (maxSteps := 1000000) [go_sem, undef]
          exact skip _ (by simp [upF, Fr.get, Up.refl])
        | true =>
          by_cases hu : u = 1
          · subst hu
            simp (maxSteps := 1000000) [go_sem]
            refine partInsB_ok hA4 hsz3 hl (by omega) (by omega) hQ3 (hC.keep hS4) _ ?_
            intro H6 hS6 hA6
            obtain ⟨f1, f2⟩ := partialInsertionSort_holds hS d3 a1 b1 (by omega) (by omega) hB3
            generalize partialInsertionSort lt d3 a1 b1 = r at *
            obtain ⟨d4, ok⟩ := r
            simp only at hA6 f1 f2 ⊢
            have hP14 := permIn_trans _ _ _ _ _ hP13 f1
            cases ok with
            | true =>
              obtain ⟨f3, f4⟩ := hfin _ hP14 (f2 rfl)
              have fin := h H6 _ (hS4.trans hS6) hA6 f3 f4
              simp (maxSteps := 1000000) [go_sem]
              exact fin
            | false =>
              simp (maxSteps := 1000000) [go_sem]
              exact hKE d4 _ _ (by simp [upF, Fr.get, Up.refl]) ⟨QA_perm (by omega) f1 hQ3, hS4.trans hS6, hA6, hP14⟩
          · have hu' : (u == 1) = false := by rw [beq_eq_false_iff_ne]; exact hu
            simp (maxSteps := 1000000) [go_sem, hu, hu']
            exact skip _ (by simp [upF, Fr.get, Up.refl])
    rintro d4 H6 ⟨hQ4, hS6, hA6, hP4⟩
    clear hA4 hA3 hA2 hS2 hS3 hS4 hP2 hP3 hP13 hQ2 hQ3 hB3
    have hsz4 : d4.size = n := by rw [hP4.1]; exact hsz
    have hB4 : Below lt a1 b1 d4 := hB1.perm (by omega) hP4
    have hfin4 : ∀ R, PermIn a1 b1 d4 R -> SortedIn lt a1 b1 R -> PermIn a b d R /\ SortedIn lt a b R := fun R r1 r2 => hfin R (permIn_trans _ _ _ _ _ hP4 r1) r2
    refine AWp.seqCut (St := Unit) (fun _ => [(0, lv 3 id 0 n), (1, .int .i64 a1), (2, .int .i64 b1), (3, .int .i64 lj), (4, .func (.func g) fs.toArray cs.toArray), (10, .bool wb), (11, .bool wp), (12, .int .i64 l), (13, .int .i64 q)])
      (fun _ H' => Same (fun k => k = id) H H' /\ Arr Bk.cells H' id d4) ?_ ?_
    · intro KE hKE
      by_cases ha0 : a1 = 0
      · subst ha0
        simp (maxSteps := 1000000) [go_sem]
        refine AWp.draw mixed [(0, false), (1, false), (2, false), (3, false), (4, false), (5, false), (6, false), (7, false), (8, false), (9, false), (10, false), (11, false), (12, false), (13, false), (14, false), (15, false), (16, false)] (by kernel_rfl) ?_
        simp (maxSteps := 1000000) [go_sem, undef]
        exact hKE () _ _ (by simp [upF, Fr.get, Up.refl]) ⟨hS6, hA6⟩
      · obtain ⟨r, hr⟩ : ∃ r, a1 - 1 = r := ⟨_, rfl⟩
        have wr : IntKind.i64.wrap ((a1 : Int) - 1) = (r : Int) := by rw [<- hr, i64w (by omega) (by omega)]; omega
        have ha0' : (0 : Int) < a1 := by omega
        have ha1' : 0 < a1 := by omega
        have hi1 : r < d4.size := by omega
        have hi0 : q < d4.size := by omega
        have n1 : r < n := by omega
        have n0 : q < n := by omega
        have c1 := hA6.load Bk.cells_len hi1
        have c0 := hA6.load Bk.cells_len hi0
        have q1 := hQ4 _ hi1
        have q0 := hQ4 _ hi0
        obtain ⟨x, hx⟩ : ∃ x, d4[r]! = x := ⟨_, rfl⟩
        obtain ⟨y, hy⟩ : ∃ y, d4[q]! = y := ⟨_, rfl⟩
        rw [hx] at c1 q1
        rw [hy] at c0 q0
        simp only [Bk.cells, Nat.mul_one, Row.val] at c1 c0
        simp (maxSteps := 1000000) [go_sem]
        refine AWp.draw mixed [(0, false), (1, false), (2, false), (3, false), (4, false), (5, false), (6, false), (7, false), (8, false), (9, false), (10, false), (11, false), (12, false), (13, false), (14, false), (15, false), (16, false)] (by kernel_rfl) ?_
        simp (maxSteps := 1000000) [go_sem, ha0, ha0', ha1', c1, c0, n1, n0, wr]
        refine hC H6 x y _ hS6 q1 q0 ?_
        intro H7 c hp7 hc
        have hS7 := hS6.via (Same.of_prefix (S := fun _ => False) hp7) (fun _ _ h => h.elim)
        have hA7 := hA6.pre hp7
        cases hl' : lt x y with
        | true =>
          rw [hl'] at hc
          have hc0 := hc
          simp only [decide_eq_true_eq, decide_eq_false_iff_not] at hc0
          simp (maxSteps := 1000000) [go_sem, hc, hc0]
          exact hKE () _ _ (by simp [upF, Fr.get, Up.refl]) ⟨hS7, hA7⟩
        | false =>
          rw [hl'] at hc
          have hc0 := hc
          simp only [decide_eq_true_eq, decide_eq_false_iff_not] at hc0
          have hnl : lt d4[a1 - 1]! d4[q]! = false := by rw [hr, hx, hy]; exact hl'
          simp (maxSteps := 1000000) [go_sem, hc, hc0]
          refine partEqB_ok hA7 hsz4 hl hq1 hq2 (by omega) hQ4 (hC.keep hS7) _ ?_
          intro H8 hS8 hA8
          obtain ⟨⟨mid, d5⟩, he⟩ : ∃ r, partitionEqual lt d4 a1 b1 q = r := ⟨_, rfl⟩
          rw [he] at hA8 ⊢
          have hA8 : Arr Bk.cells H8 id d5 := hA8
          obtain ⟨r1, r2, r3, r4, r5⟩ := round_eq hS (partitionEqual_holds lt) ha1' hq1 hq2 (by omega) hB4 hnl he
          have hP5 : PermIn a1 b1 d4 d5 := by
            have := (partitionEqual_holds lt hS d4 a1 b1 q hq1 hq2 (by omega) (fun i hi hi' => by
              rcases hB4 with h0 | hB
              · omega
              · exact hS.ntrans _ _ _ (hB i hi hi') hnl)).2.2.1
            rw [he] at this; exact this
          simp (maxSteps := 1000000) [go_sem]
          exact hK (mid, b1, lj, wb, wp, d5) _ _ (by simp only; omega) (by simp [upF, Fr.get, Up.refl]) ⟨by simp only; omega, r2, hbb, hlj, by simp only; omega, QA_perm (by omega) hP5 hQ4, hS7.trans hS8, hA8, r4, fun R R1 R2 => by obtain ⟨g1, g2⟩ := r5 R R1 R2; exact hfin4 R g1 g2⟩
    rintro _ H7 ⟨hS7, hA7⟩
    refine AWp.ofVc ?_
    simp (maxSteps := 1000000) [go_sem]
    refine partB_ok hA7 hsz4 hl hq1 hq2 (by omega) hQ4 (hC.keep hS7) _ ?_
    intro H8 hS8 hA8
    obtain ⟨⟨mid, ap, d5⟩, he⟩ : ∃ r, partition lt d4 a1 b1 q = r := ⟨_, rfl⟩
    rw [he] at hA8 ⊢
    have hA8 : Arr Bk.cells H8 id d5 := hA8
    obtain ⟨r1, r2, r3, r4, r5, r6, r7⟩ := round_part hS (partition_holds lt) hq1 hq2 (by omega) hB4 he
    have hP5 : PermIn a1 b1 d4 d5 := by
      have := (partition_holds lt hS d4 a1 b1 q hq1 hq2 (by omega)).2.2.1
      rw [he] at this; exact this
    have hQ5 := QA_perm (by omega) hP5 hQ4
    have hS8 := hS7.trans hS8
    obtain ⟨ll, hll2⟩ : ∃ ll, ll = mid - a1 := ⟨_, rfl⟩
    obtain ⟨lr, hlr⟩ : ∃ lr, lr = b1 - mid := ⟨_, rfl⟩
    obtain ⟨m1, hm1⟩ : ∃ m1, m1 = mid + 1 := ⟨_, rfl⟩
    have w1 : IntKind.i64.wrap ((mid : Int) - a1) = (ll : Int) := by rw [hll2, i64w (by omega) (by omega)]; omega
    have w2 : IntKind.i64.wrap ((b1 : Int) - mid) = (lr : Int) := by rw [hlr, i64w (by omega) (by omega)]; omega
    have w3 : IntKind.i64.wrap ((l : Int) / 8) = (l : Int) / 8 := i64w (by omega) (by omega)
    have w4 : IntKind.i64.wrap ((mid : Int) + 1) = (m1 : Int) := by rw [hm1, i64w (by omega) (by omega)]; omega
    simp (maxSteps := 1000000) [go_sem]
    refine vc_sound _ _ _ _ ?_
    by_cases hlr2 : ll < lr
    · have hlr2' : (ll : Int) < lr := by omega
      simp (maxSteps := 1000000) [go_sem, w1, w2, w3, hlr2, hlr2']
      refine ih (mid - a1) (by omega) (Nat.le_refl _) hA8 (by omega) r1 (by omega) hlj r4 hQ5 (hC.keep hS8) _ ?_
      intro H9 d6 hS9 hA9 hP6 hs6
      obtain ⟨g1, g2⟩ := r6 d6 hP6 hs6
      simp (maxSteps := 1000000) [go_sem, w4]
      refine hK (m1, b1, lj, decide ((l : Int) / 8 <= ll), ap, d6) _ _ (by simp only; omega) (by simp [upF, Fr.get, Up.refl]) ⟨by simp only; omega, by simp only; omega, hbb, hlj, by simp only; rw [hP6.1]; omega, QA_perm (by omega) hP6 hQ5, hS8.trans hS9, hA9, by simp only [hm1]; exact g1, ?_⟩
      simp only [hm1]
      intro R R1 R2
      obtain ⟨k1, k2⟩ := g2 R R1 R2
      exact hfin4 R k1 k2
    · have hlr2' : ¬ ((ll : Int) < lr) := by omega
      simp (maxSteps := 1000000) [go_sem, w1, w2, w3, w4, hlr2, hlr2']
      refine ih (b1 - m1) (by omega) (Nat.le_refl _) hA8 (by omega) (by omega) (by omega) hlj (by rw [hm1]; exact r5) hQ5 (hC.keep hS8) _ ?_
      intro H9 d6 hS9 hA9 hP6 hs6
      rw [hm1] at hP6 hs6
      obtain ⟨g1, g2⟩ := r7 d6 hP6 hs6
      simp (maxSteps := 1000000) [go_sem]
      refine hK (a1, mid, lj, decide ((l : Int) / 8 <= lr), ap, d6) _ _ (by simp only; omega) (by simp [upF, Fr.get, Up.refl]) ⟨haa, r1, by simp only; omega, hlj, by simp only; rw [hP6.1]; omega, QA_perm (by omega) hP6 hQ5, hS8.trans hS9, hA9, g1, ?_⟩
      intro R R1 R2
      obtain ⟨k1, k2⟩ := g2 R R1 R2
      exact hfin4 R k1 k2

end Go.Proofs.YtfnegaedkomcgaaGreat
end

section
namespace Go.Proofs.YtfnegaedkomcgaaGreat
open Go.Ab Go.Sort

theorem w64_0B : IntKind.i64.wrap 0 = 0 := i64w (by omega) (by omega)
theorem w64_1B : IntKind.i64.wrap 1 = 1 := i64w (by omega) (by omega)
theorem wu64_0B : IntKind.u64.wrap 0 = 0 := by rw [IntKind.wrap_u64]; omega
theorem ins0B_ok {H : Heap} {id : Nat} {fv : Value} (Post : Value -> Heap -> Prop) (h : Post (.tuple #[]) H) :
    ACalls Tryz.prog 172 [lv 3 id 0 0, .int .i64 0, .int .i64 0, fv] H Post := by
  refine acalls_vc (rs := []) Tryz.func172 rfl rfl Tryz.ntmps172 rfl rfl ?_
  simp (maxSteps := 1000000) [go_sem, w64_0B, w64_1B]
  refine AWp.loopVc (St := Unit) (fun _ => [(2, .int .i64 0), (8, .int .i64 1)]) (fun _ H' => H' = H) (fun _ => 0) () ?_ ?_ ?_
  · simp [upF, Fr.get, Up.refl]
  · rfl
  · rintro K _ H' rfl hK
    simp (maxSteps := 1000000) [go_sem, w64_0B, w64_1B]
    exact h
theorem pdq0B_ok {H : Heap} {id : Nat} {fv : Value} {l : Int} (Post : Value -> Heap -> Prop) (h : Post (.tuple #[]) H) :
    ACalls Tryz.prog 161 [lv 3 id 0 0, .int .i64 0, .int .i64 0, .int .i64 l, fv] H Post := by
  refine acalls_vc (rs := []) Tryz.func161 rfl rfl Tryz.ntmps161 rfl rfl ?_
  simp (maxSteps := 1000000) [go_sem, w64_0B, w64_1B]
  refine AWp.loopA (St := Unit) (fun _ => [(0, lv 3 id 0 0), (1, .int .i64 0), (2, .int .i64 0), (4, fv)]) (fun _ H' => H' = H) (fun _ => 0) () ?_ ?_ ?_
  · simp [upF, Fr.get, Up.refl]
  · rfl
  · rintro K _ H' rfl hK
    refine AWp.block ?_
    refine AWp.ofVc ?_
    simp (maxSteps := 1000000) [go_sem, w64_0B, w64_1B]
    refine AWp.ofVc ?_
    simp (maxSteps := 1000000) [go_sem, w64_0B, w64_1B]
    refine ins0B_ok _ ?_
    simp (maxSteps := 1000000) [go_sem, w64_0B, w64_1B]
    exact h

theorem sortFuncB_ok {H : Heap} {id n : Nat} {l : List Bk} {lt : Bk -> Bk -> Bool} {g : FuncId} {fs cs : List Value} {Q : Bk -> Prop} (hS : SWO lt) (hA : OL 3 H id (l.flatMap Bk.cells) n) (hn : l.length = n) (hl : n <= 1048576) (hQ : ∀ x ∈ l, Q x)
    (hC : Cmp Tryz.prog Bk.val lt g fs cs Q id H) (Post : Value -> Heap -> Prop)
    (h : ∀ (H' : Heap) (l' : List Bk), Same (fun k => k = id) H H' -> OL 3 H' id (l'.flatMap Bk.cells) n -> l'.Perm l -> l'.Pairwise (fun x y => lt y x = false) -> Post (.tuple #[]) H') :
    ACalls Tryz.prog 133 [lv 3 id 0 n, .func (.func g) fs.toArray cs.toArray] H Post := by
  refine acalls_vc (rs := []) Tryz.func133 rfl rfl Tryz.ntmps133 rfl rfl ?_
  have w1 : IntKind.u64.wrap (n : Int) = n := by rw [IntKind.wrap_u64]; omega
  rcases hA.2 with ⟨h0, hg⟩ | hb
  · subst h0
    have hnil : l = [] := List.eq_nil_of_length_eq_zero hn
    subst hnil
    simp (maxSteps := 1000000) [go_sem, wu64_0B]
    refine bitsLenC_ok (x := 0) (by omega) _ ?_
    simp (maxSteps := 1000000) [go_sem]
    refine pdq0B_ok _ ?_
    simp (maxSteps := 1000000) [go_sem]
    exact h H [] (Same.refl _ _) hA (List.Perm.refl _) List.Pairwise.nil
  · have hA' : Arr Bk.cells H id l.toArray := by unfold Arr; simpa using hb
    have hQ' : QA Q l.toArray := by
      intro k hk
      rw [getElem!_pos l.toArray k hk]
      exact hQ _ (by simp)
    simp (maxSteps := 1000000) [go_sem, w1]
    refine bitsLenC_ok (by omega) _ ?_
    have hb64 : bitsLen n <= 64 := bitsLen_lt (by omega)
    simp (maxSteps := 1000000) [go_sem]
    refine pdqB_ok hS hl n (a := 0) (limit := bitsLen n) (by omega) hA' (by simpa using hn) (Nat.zero_le _) (Nat.le_refl _) hb64 (.inl rfl) hQ' hC _ ?_
    intro H' d' hS' hA2 hP hs
    have hsz : d'.size = n := by rw [hP.1]; simpa using hn
    have hp := perm_list (by simpa using hn) hP
    have fin := h H' d'.toList hS' ⟨by rw [flat_len Bk.cells_len, Array.length_toList, hsz], .inr hA2⟩ (by simpa using hp) (sorted_list hsz hs)
    simp (maxSteps := 1000000) [go_sem]
    exact fin

end Go.Proofs.YtfnegaedkomcgaaGreat
end

section
namespace Go.Ab

def upH (H H' : Heap) : Prop := ∀ B w0 ρ w, R B w0 ρ H w -> R B w0 ρ H' w
theorem upH.cells {H : Heap} {id : Nat} {cs cs' : List Value} {li ow : Bool} (hb : H[id]? = some ⟨cs, li, ow⟩) (hl : cs'.length = cs.length)
    (hu : ∀ (k : Nat) (v v' : Value), cs[k]? = some v -> cs'[k]? = some v' -> Up H v v') : upH H (H.set id ⟨cs', li, ow⟩) := by
  intro B w0 ρ w hR
  have hlt := (List.getElem?_eq_some_iff.1 hb).1
  have key : ∀ (i : Nat) (b : Blk), (H.set id ⟨cs', li, ow⟩)[i]? = some b -> (i = id /\ b = ⟨cs', li, ow⟩) \/ (i ≠ id /\ H[i]? = some b) := by
    intro i b h
    by_cases e : i = id
    · subst e; rw [List.getElem?_set_self hlt] at h; exact .inl ⟨rfl, (Option.some.inj h).symm⟩
    · rw [List.getElem?_set_ne (fun h => e h.symm)] at h; exact .inr ⟨e, h⟩
  have old : ∀ (i : Nat) (b : Blk), (H.set id ⟨cs', li, ow⟩)[i]? = some b -> ∃ b', H[i]? = some b' /\ b'.live = b.live /\ b'.own = b.own := by
    intro i b h
    rcases key i b h with ⟨rfl, rfl⟩ | ⟨_, h⟩
    · exact ⟨_, hb, rfl, rfl⟩
    · exact ⟨b, h, rfl, rfl⟩
  refine ⟨by rw [List.length_set]; exact hR.len, hR.below, hR.base, ?_, ?_, ?_⟩
  · intro i b l h hl' hlive
    rcases key i b h with ⟨rfl, rfl⟩ | ⟨_, h⟩
    · obtain ⟨arr, elem, fz, h1, h2, h3, h4⟩ := hR.blk i _ l hb hl' hlive
      refine ⟨arr, elem, fz, h1, h2, ?_, h4⟩
      intro k v hk
      have hk' : k < cs.length := by have := (List.getElem?_eq_some_iff.1 hk).1; simp only at this; omega
      obtain ⟨h5, cv, h6, h7⟩ := h3 k cs[k] (List.getElem?_eq_getElem hk')
      have h8 := hu k _ v (List.getElem?_eq_getElem hk') hk _ _ _ _ _ hR h7
      exact ⟨by rw [h8.oneCell, <- h7.oneCell]; exact h5, cv, h6, h8⟩
    · exact hR.blk i b l h hl' hlive
  · intro i j b c l m hij h1 h2 h3 h4 h5 h6 h7
    obtain ⟨b', e1, e2, e3⟩ := old i b h1
    obtain ⟨c', f1, f2, f3⟩ := old j c h2
    exact hR.apart i j b' c' l m hij e1 f1 h3 h4 (by rw [e2]; exact h5) (by rw [f2]; exact h6) (by rw [e3]; exact h7)
  · intro i b l h1 h2 h3 h4
    obtain ⟨b', e1, e2, e3⟩ := old i b h1
    exact hR.ghost i b' l e1 h2 (by rw [e2]; exact h3) (by rw [e3]; exact h4)

end Go.Ab
end

section
namespace Go.Ab

def alt (f g : Nat -> Nat) (p : Nat) : Nat -> Nat
  | 0 => p
  | k + 1 => if k % 2 = 0 then f (alt f g p k) else g (alt f g p k)

end Go.Ab
end

section
namespace Go.Proofs.YtfnegaedkomcgaaGreat
open Go.Ab

theorem put2 {H H0 H' : Heap} {id : Nat} {cs0 cs : List Value} (hp0 : H <+: H0) (hid : H.length <= id) (hb0 : H0[id]? = some ⟨cs0, true, true⟩) (h2 : cs0.length = 2) (hp : H0 <+: H') (hcl : cs.length = 2) (ho : cs.all Value.oneCell' = true) :
    storeAt H' id 0 cs = some (H'.set id ⟨cs, true, true⟩) /\ cellsAt (H'.set id ⟨cs, true, true⟩) id 0 2 = some cs /\ H <+: H'.set id ⟨cs, true, true⟩ /\ Same (fun j => j = id) H' (H'.set id ⟨cs, true, true⟩) := by
  have hb' := pget hp hb0
  have hsame : Same (fun j => j = id) H' (H'.set id ⟨cs, true, true⟩) := ⟨by simp, fun j hj hS => List.getElem?_set_ne (fun e => hS e.symm)⟩
  refine ⟨?_, ?_, ((Same.of_prefix (hp0.trans hp)).trans hsame).prefix (by intro j hj he; omega), hsame⟩
  · rw [storeAt_of hb' rfl rfl (by simp [hcl, h2]) ho]
    match cs, hcl, cs0, h2 with
    | [x, y], _, [z, w], _ => simp [over]
  · have := Holds.cells (n := 2) (o := 0) (H := H'.set id ⟨cs, true, true⟩) ⟨true, List.getElem?_set_self (List.getElem?_eq_some_iff.1 hb').1⟩ (by omega)
    rw [this, List.drop_zero, List.take_of_length_le (by omega)]

theorem indexI_ok {H : Heap} {v : Value} {xs : List Int} {q : Int} (hv : IntsAt H v xs) (Post : Value -> Heap -> Prop) (h : Post (.int .i64 (plc xs q)) H) : ACalls Tryz.prog 65 [v, .int .i64 q] H Post := by
  obtain ⟨i, o, rfl, h1, h2⟩ := hv
  refine acalls_vc (rs := [.tmp 4]) Tryz.func65 rfl rfl Tryz.ntmps65 rfl rfl ?_
  simp (maxSteps := 1000000) [go_sem]
  refine AWp.loopVc (fun s : Nat => [(0, lv 1 i o xs.length), (1, .int .i64 q), (7, .int .i64 xs.length), (8, .int .i64 s)])
    (fun s H' => s <= xs.length /\ H' = H /\ ∀ y ∈ xs.take s, y ≠ q) (fun s => xs.length - s) 0 ?_ ?_ ?_
  · simp [upF, Fr.get, Up.refl]
  · exact ⟨by omega, rfl, by simp⟩
  · rintro K s H' ⟨hs, rfl, hall⟩ hK
    by_cases hlt : s < xs.length
    · have hx : xs[s]? = some xs[s] := List.getElem?_eq_getElem hlt
      have c1 := h1.cell (k := s) (v := .int .i64 xs[s]) (by simp [ints_get, hlt])
      have hw_s : IntKind.i64.wrap ((s : Int) + 1) = (s : Int) + 1 := i64w (by omega) (by omega)
      by_cases he : q = xs[s]
      · have e : (q == xs[s]) = true := by simpa using he
        simp (maxSteps := 1000000) [go_sem, hlt, c1, e]
        rwa [plc_at (k := s) (by rw [hx, he]) hall] at h
      · have e : (q == xs[s]) = false := by simpa using he
        simp (maxSteps := 1000000) [go_sem, hlt, c1, e, hw_s]
        refine hK (s + 1) _ _ (by omega) (by simp [upF, Fr.get, Up.refl]) ⟨by omega, rfl, ?_⟩
        intro y hy
        rw [List.take_succ_eq_append_getElem hlt, List.mem_append] at hy
        rcases hy with hy | hy
        · exact hall y hy
        · simp at hy; subst hy; exact fun e => he e.symm
    · have : s = xs.length := by omega
      subst this
      rw [List.take_length] at hall
      simp (maxSteps := 1000000) [go_sem]
      rwa [plc_none hall] at h

end Go.Proofs.YtfnegaedkomcgaaGreat
end

section
namespace Go.Proofs.YtfnegaedkomcgaaGreat
open Go.Ab Go.Sort

theorem tri_src {H : Heap} {i o : Nat} {bs : List Bk} (h : At H i o (tri bs)) : srcCells H 3 (lv 3 i o bs.length) = some (tri bs) := h.src (by rw [tri_length]) (by omega) _

theorem cloneB_oe {H : Heap} {u : Value} {xs : List Bk} (hu : BlocksAt H u xs) (hl : xs.length <= 1048576) (Post : Value -> Heap -> Prop) (h : ∀ H' w, H <+: H' -> OE 3 H.length H' w (tri xs) xs.length -> Post w H') :
    ACalls Tryz.prog 50 [u] H Post := by
  obtain ⟨i, o, rfl, h1, h2⟩ := hu
  by_cases hx : xs = []
  · subst hx
    refine acalls_body Tryz.func50 rfl rfl (by rw [Tryz.ntmps50]; exact Nat.le_of_ble_eq_true rfl) ?_
    rw [Tryz.ntmps50]
    refine AWp.seq (vc_sound _ _ _ _ ?_)
    simp (maxSteps := 1000000) [go_sem]
    refine AWp.seq (AWp.seq (AWp.regionS ?_))
    refine StepOK.of_v ?_
    simp (maxSteps := 1000000) [go_sem]
    refine StepOK.of_op rfl (ok_eqlNil2 rfl Tryz.underlying24 rfl rfl (by show (4 : Nat) < 8; decide) (fun b => ?_))
    refine AWp.cond (b := b) (by cases b <;> rfl) (fun _ => ?_) (fun _ => ?_)
    · refine vc_sound _ _ _ _ ?_
      simp (maxSteps := 1000000) [go_sem]
      exact h H _ (List.prefix_refl _) (OE.nil _ _ _)
    · refine vc_sound _ _ _ _ ?_
      simp (maxSteps := 1000000) [go_sem]
      refine vc_sound _ _ _ _ ?_
      simp (maxSteps := 1000000) [go_sem, appendH]
      exact h _ _ (List.prefix_append _ _) (OE.empty (Nat.le_refl _) (by simp))
  · have hp0 : H <+: H ++ [⟨[], true, true⟩] := List.prefix_append _ _
    have hsrc := tri_src (h1.pre hp0)
    have hm0 : xs.length ≠ 0 := by simpa using hx
    simp only [srcCells] at hsrc
    have he0 : OE 3 H.length (H ++ [(⟨[], true, true⟩ : Blk)]) (.slice (some ⟨H.length, 0, none⟩) 0 0) [] 0 := OE.empty (Nat.le_refl _) (by simp)
    obtain ⟨v, H2, hap, he2, hk2, hl2⟩ := he0.append (m := xs.length) (news := tri xs) (by omega) (by simp) (by rw [tri_length])
    generalize hm : xs.length = m at *
    refine acalls_vc (rs := [.tmp 2]) Tryz.func50 rfl rfl Tryz.ntmps50 rfl rfl ?_
    have hnil : nilOK (some ⟨i, o, some 3⟩) m = true := by simpa [nilOK] using hm0
    simp (maxSteps := 1000000) [go_sem, hnil, hsrc, hap]
    refine andK_intro (by omega) ?_
    simp only [List.nil_append, Nat.zero_add] at he2
    exact h H2 v (KeepL.prefix hp0 (Nat.le_refl _) hk2 hl2) he2
theorem blockCmp {id : Nat} {H : Heap} : Cmp Tryz.prog Bk.val before 128 [] [] (fun _ => True) id H := by
  intro H x y Post _ _ _ h
  show ACalls Tryz.prog 128 [x.val, y.val] H Post
  refine compare_ok _ ?_
  intro H' hp
  refine h H' _ hp ?_
  have := lexC_block x y
  cases hb : before x y with
  | true =>
    have : ¬ (0 <= lexC [x.a, x.b, x.c] [y.a, y.b, y.c]) := by rw [this, hb]; simp
    exact decide_eq_true (by omega)
  | false =>
    have := this.2 hb
    exact decide_eq_false (by omega)

theorem sortFunc0_ok {H : Heap} {id : Nat} {fv : Value} (Post : Value -> Heap -> Prop) (h : Post (.tuple #[]) H) : ACalls Tryz.prog 133 [lv 3 id 0 0, fv] H Post := by
  refine acalls_vc (rs := []) Tryz.func133 rfl rfl Tryz.ntmps133 rfl rfl ?_
  simp (maxSteps := 1000000) [go_sem, wu64_0B]
  refine bitsLenC_ok (x := 0) (by omega) _ ?_
  simp (maxSteps := 1000000) [go_sem]
  refine pdq0B_ok _ ?_
  simp (maxSteps := 1000000) [go_sem]
  exact h

theorem sorted_ok {H : Heap} {u : Value} {bs : List Bk} (hu : BlocksAt H u bs) (hl : bs.length <= 1048576) (Post : Value -> Heap -> Prop) (h : ∀ H' w, H <+: H' -> BlocksIn H.length H'.length H' w (sortB bs) -> Post w H') :
    ACalls Tryz.prog 104 [u] H Post := by
  refine ACalls.res ?_
  refine acalls_vc (rs := [.tmp 2]) Tryz.func104 rfl rfl Tryz.ntmps104 rfl rfl ?_
  simp (maxSteps := 1000000) [go_sem]
  refine cloneB_oe hu hl _ ?_
  intro H1 v hp1 he
  by_cases h0 : bs = []
  · subst h0
    have hs0 : sortB [] = [] := rfl
    have fin := fun (w : Value) (hw : Up H1 v w) (hb : BlocksIn H.length H1.length H1 w []) => (show ∃ v', Up H1 v v' /\ Post v' H1 from ⟨w, hw, h H1 w hp1 (by rw [hs0]; exact hb)⟩)
    rcases he.2 with ⟨_, rfl⟩ | ⟨id, _, _, rfl, _⟩ | ⟨id, _, rfl, _⟩
    · have f := fin (lv 3 0 0 0) (Up.nil _ _ _ _) (BlocksIn.nil _ _ _)
      simp (maxSteps := 1000000) [go_sem]
      refine ACalls.up (args' := [lv 3 0 0 0, _]) ⟨Up.nil _ _ _ _, Up.refl _ _, trivial⟩ ?_
      refine sortFunc0_ok _ ?_
      simp (maxSteps := 1000000) [go_sem]
      exact f
    · have f := fin (lv 3 0 0 0) (Up.ex0 _ _ _ _ _ _) (BlocksIn.nil _ _ _)
      simp (maxSteps := 1000000) [go_sem]
      refine ACalls.up (args' := [lv 3 0 0 0, _]) ⟨Up.ex0 _ _ _ _ _ _, Up.refl _ _, trivial⟩ ?_
      refine sortFunc0_ok _ ?_
      simp (maxSteps := 1000000) [go_sem]
      exact f
    · have f := fin (lv 3 id 0 0) (Up.refl _ _) ⟨id, ⟨rfl, .inl rfl, by simp⟩, fun h => absurd rfl h⟩
      simp (maxSteps := 1000000) [go_sem]
      refine sortFunc0_ok _ ?_
      simp (maxSteps := 1000000) [go_sem]
      exact f
  · have hn0 : bs.length ≠ 0 := fun e => h0 (List.eq_nil_of_length_eq_zero e)
    rcases he.2 with ⟨e, _⟩ | ⟨id, e, _⟩ | ⟨id, hid, rfl, e⟩
    · exact absurd e hn0
    · exact absurd e hn0
    · have hb : H1[id]? = some ⟨tri bs, true, true⟩ := by
        rcases e with ⟨e, _⟩ | e
        · exact absurd e hn0
        · exact e
      simp (maxSteps := 1000000) [go_sem]
      refine sortFuncB_ok (fs := []) (cs := []) (Q := fun _ => True) (l := bs) swoB ⟨by rw [flat_len Bk.cells_len], .inr hb⟩ rfl hl (fun _ _ => trivial) blockCmp _ ?_
      intro H2 l2 hs2 hol hperm hsorted
      have e2 := sort_uniq hperm hsorted
      have hlen : (sortB bs).length = bs.length := sortB_length _ bs rfl
      have hp2 : H <+: H2 := ((Same.of_prefix hp1).trans hs2).prefix (by intro j hj e; omega)
      have hb2 : H2[id]? = some ⟨tri (sortB bs), true, true⟩ := by
        rcases hol.2 with ⟨e, _⟩ | e
        · exact absurd e hn0
        · rw [e2] at e; exact e
      have f := h H2 (lv 3 id 0 bs.length) hp2 ⟨id, ⟨by rw [hlen], .inr hb2, by rw [hlen]; omega⟩, fun _ => ⟨hid, (List.getElem?_eq_some_iff.1 hb2).1⟩⟩
      simp (maxSteps := 1000000) [go_sem]
      exact ⟨_, Up.refl _ _, f⟩

theorem implSystem_ok {H : Heap} {u : Value} {p : Int} {bs : List Bk} (hu : BlocksAt H u bs) (hl : bs.length <= 1048576) (Post : Value -> Heap -> Prop) (h : ∀ H' w, H <+: H' -> BlocksIn H.length H'.length H' w (sortB bs) -> Post (sysV p w) H') :
    ACalls Tryz.prog 52 [.int .i64 p, u] H Post := by
  refine acalls_vc (rs := [.cell 4 26]) Tryz.func52 rfl rfl Tryz.ntmps52 rfl rfl ?_
  simp (maxSteps := 1000000) [go_sem]
  have hp0 : H <+: H ++ [⟨[.int .i64 0, .slice none 0 0], true, true⟩] := List.prefix_append _ _
  have hb0 : (H ++ [(⟨[.int .i64 0, .slice none 0 0], true, true⟩ : Blk)])[H.length]? = some ⟨[.int .i64 0, .slice none 0 0], true, true⟩ := by simp
  have hlen : (H ++ [(⟨[.int .i64 0, .slice none 0 0], true, true⟩ : Blk)]).length = H.length + 1 := by simp
  generalize H ++ [(⟨[.int .i64 0, .slice none 0 0], true, true⟩ : Blk)] = H0 at hp0 hb0 hlen ⊢
  refine sorted_ok (hu.pre hp0) hl _ ?_
  intro H1 w hp1 hw
  have hw0 := hw
  obtain ⟨id, ⟨rfl, _⟩, _⟩ := hw
  obtain ⟨q1, q2, q3, q4⟩ := put2 (cs := [.int .i64 p, lv 3 id 0 (sortB bs).length]) hp0 (Nat.le_refl _) hb0 rfl hp1 rfl rfl
  simp (maxSteps := 1000000) [go_sem, q1, q2]
  refine h _ _ q3 ?_
  have := (hw0.keep q4 (fun j hj e => by have := hj.1; omega)).wider (c := H.length) (by omega)
  rw [List.length_set]
  exact this

end Go.Proofs.YtfnegaedkomcgaaGreat
end

section
namespace Go.Proofs.YtfnegaedkomcgaaGreat
open Go.Ab Go.Sort

theorem bad_sys {H H0 : Heap} {Post : Value -> Heap -> Prop} {r : (Int × List Bk) × Int} (hp0 : H <+: H0) {id : Nat} (hid : H.length <= id) (hb0 : H0[id]? = some ⟨[.int .i64 0, .slice none 0 0], true, true⟩)
    (h : ∀ H' w, H <+: H' -> BlocksIn H.length H'.length H' w r.1.2 -> Post (.tuple #[sysV r.1.1 w, .int .i64 r.2]) H') (H' : Heap) (c : Int) (hp : H0 <+: H') (hr : r = ((0, []), c)) :
    ∃ H2, storeAt H' id 0 [.int .i64 0, .slice none 0 0] = some H2 /\ cellsAt H2 id 0 2 = some [.int .i64 0, .slice none 0 0] /\ ∃ v', Up H2 (.tuple #[.agg #[.int .i64 0, .slice none 0 0], .int .i64 c]) v' /\ Post v' H2 := by
  obtain ⟨q1, q2, q3, _⟩ := put2 (cs := [.int .i64 0, .slice none 0 0]) hp0 hid hb0 rfl hp rfl rfl
  refine ⟨_, q1, q2, _, Up.tuple (ys := #[sysV 0 (lv 3 0 0 0), .int .i64 c]) ⟨zeroSys, Up.refl _ _, trivial⟩, ?_⟩
  have := h _ (lv 3 0 0 0) q3 (by rw [hr]; exact BlocksIn.nil _ _ _)
  rwa [hr] at this

end Go.Proofs.YtfnegaedkomcgaaGreat
end

section
namespace Go.Proofs.YtfnegaedkomcgaaGreat
open Go.Ab Go.Sort

theorem wq1 : IntKind.i64.wrap 1 = 1 := i64w (by omega) (by omega)
theorem wq2 : IntKind.i64.wrap 2 = 2 := i64w (by omega) (by omega)
theorem wq3 : IntKind.i64.wrap 3 = 3 := i64w (by omega) (by omega)
end Go.Proofs.YtfnegaedkomcgaaGreat
end

section
namespace Go.Proofs.YtfnegaedkomcgaaGreat
open Go.Ab Go.Sort

def nthI (xs : List Int) (p : Int) : Int := xs.getD p.toNat 0
def renB (xs : List Int) (b : Bk) : Bk := blk (nthI xs b.a) (nthI xs b.b) (nthI xs b.c)
theorem nthI_in {xs : List Int} {n : Nat} (h : n < xs.length) : xs[n]? = some (nthI xs n) := by
  rw [nthI, Int.toNat_natCast, List.getD_eq_getElem?_getD, List.getElem?_eq_getElem h]; rfl
theorem OrdL.bound {p : Int} {xs : List Int} (h : OrdL p xs) (hp : p <= 15) {n : Nat} (hn : n < xs.length) : 0 <= nthI xs n /\ nthI xs n < 15 := by
  have := h.2.2 _ (List.mem_of_getElem? (nthI_in hn)); omega

end Go.Proofs.YtfnegaedkomcgaaGreat
end

section
namespace Go.Ab
open Go.RowKit (Below)
def offS (L : Nat -> Prop) (o : Op) (fr : Fr) : Prop := ∀ i, rdBlk o fr = some i -> L i
theorem offS_congr {L : Nat -> Prop} {o : Op} {fr fr' : Fr} (h : ∀ x, ev fr' x = ev fr x) (hoff : offS L o fr) : offS L o fr' := fun i hi => hoff i (by rw [<- hi]; exact rdBlk_congr fun x => (h x).symm)
theorem offS_agree {L : Nat -> Prop} {o : Op} {fr fr' : Fr} (h : agree o fr fr') (hoff : offS L o fr) : offS L o fr' := fun i hi => hoff i (by rw [<- hi]; exact (rdBlk_agree h).symm)
def KeepS (L : Nat -> Prop) (H h : Heap) : Prop := ∀ i, L i -> h[i]? = H[i]?

def eKS (L : Nat -> Prop) (fl : Bool) (H : Heap) (k : Fr -> Heap -> Prop) (f : Fr) (h : Heap) : Prop :=
  match fl with
  | true => andK (KeepS L H h) (k f h)
  | false => k f h

def vES (P : Program) (N : Nat) (ops : Array Oper) (L : Nat -> Prop) (K : Fr -> Heap -> Prop) : List (Nat × Bool) -> Fr -> Heap -> Prop
  | [], fr, H => K fr H
  | (i, fl) :: l, fr, H => match ops[i]? with
    | none => False
    | some o => match isR o.op with
      | true => offS L o.op fr /\ vstep P N ops o (vES P N ops L K l) fr H
      | false => vstep P N ops o (eKS L fl H (vES P N ops L K l)) fr H

section
variable {P : Program} {N : Nat} {ops : Array Oper} {L : Nat -> Prop} {K : Fr -> Heap -> Prop}

theorem vES_closed (hK : Closed K) : ∀ l, Closed (vES P N ops L K l)
  | [] => hK
  | (i, fl) :: l => by
    intro f g H hfg h
    have ih := vES_closed hK l
    simp only [vES] at h ⊢
    split at h
    · exact h.elim
    · rename_i o ho
      cases hR : isR o.op with
      | true =>
        simp only [hR] at h ⊢
        obtain ⟨hoff, h⟩ := h
        obtain ⟨v, h1, h2⟩ := vstep_RX hR ih h
        exact ⟨offS_congr (fun x => feq.ev hfg x) hoff, h2 g H _ ih (agreeG.of_feq hfg) (fun _ _ _ h => h) (ih _ _ _ (hfg.put _ _) h1)⟩
      | false =>
        simp only [hR] at h ⊢
        have hc : Closed (eKS L fl H (vES P N ops L K l)) := by
          intro f g h' hfg hk
          cases fl with
          | true => exact ⟨hk.1, ih _ _ _ hfg hk.2⟩
          | false => exact ih _ _ _ hfg hk
        refine vstep_weak (vstep_E hc h (agreeG.of_feq hfg)) ?_
        rintro f' h' ⟨v, h1, h2⟩
        exact hc _ _ _ ((hfg.put _ _).trans h1) h2

def relS (L : Nat -> Prop) (o : Oper) (fl : Bool) (H h : Heap) : Prop := (isR o.op = true \/ fl = true) -> KeepS L H h

theorem vES_head (hK : Closed K) {i : Nat} {fl : Bool} {l : List (Nat × Bool)} {fr : Fr} {H : Heap} {o : Oper} (ho : ops[i]? = some o) (h : vES P N ops L K ((i, fl) :: l) fr H) :
    vstep P N ops o (fun f h => relS L o fl H h /\ vES P N ops L K l f h) fr H := by
  simp only [vES, ho] at h
  cases hR : isR o.op with
  | true =>
    simp only [hR] at h
    obtain ⟨_, h⟩ := h
    obtain ⟨v, h1, h2⟩ := vstep_RX hR (vES_closed hK l) h
    refine h2 fr H _ ?_ (fun _ _ => rfl) (fun _ _ _ h => h) ⟨fun _ _ _ => rfl, h1⟩
    intro f g h hfg hk
    exact ⟨hk.1, vES_closed hK l _ _ _ hfg hk.2⟩
  | false =>
    simp only [hR] at h
    refine vstep_weak h ?_
    intro f h' hk
    cases fl with
    | true => exact ⟨fun _ => hk.1, hk.2⟩
    | false => exact ⟨fun e => by simp [hR] at e, hk⟩

theorem vES_front (hK : Closed K) {i : Nat} {fl : Bool} {l2 : List (Nat × Bool)} {o : Oper} (ho : ops[i]? = some o) : ∀ (l1 : List (Nat × Bool)) (fr : Fr) (H : Heap),
    (∀ x ∈ l1, ∃ p, ops[x.1]? = some p /\ isR p.op = true /\ indep ops p o = true /\ (readsH p.op = true -> isR o.op = true \/ fl = true)) ->
    vES P N ops L K (l1 ++ (i, fl) :: l2) fr H -> vstep P N ops o (fun f h => relS L o fl H h /\ vES P N ops L K (l1 ++ l2) f h) fr H
  | [], fr, H, _, h => vES_head hK ho h
  | (j, fj) :: l1, fr, H, hl, h => by
    obtain ⟨p, hp, hR, hin, hrd⟩ := hl (j, fj) (by simp)
    simp only [List.cons_append, vES, hp, hR] at h ⊢
    have hc1 := vES_closed (P := P) (N := N) (ops := ops) (L := L) hK (l1 ++ (i, fl) :: l2)
    have hc2 := vES_closed (P := P) (N := N) (ops := ops) (L := L) hK (l1 ++ l2)
    obtain ⟨hoff, h⟩ := h
    obtain ⟨v, h1, h2⟩ := vstep_RX hR hc1 h
    have ih := vES_front hK ho l1 (fr.put p.dst v) H (fun x hx => hl x (by simp [hx])) h1
    obtain ⟨i1, i2, i3⟩ := indep_spec hin
    have hcK : Closed (fun f h => relS L o fl H h /\ vES P N ops L K (l1 ++ l2) f h) := fun f g h hfg hk => ⟨hk.1, hc2 _ _ _ hfg hk.2⟩
    have hag : agreeG ops o (fr.put p.dst v) fr := agreeG.symm (agreeG.put i1)
    refine vstep_weak (vstep_E hcK ih hag) ?_
    rintro f h' ⟨u, hf, hrel, hv⟩
    refine ⟨hrel, ?_⟩
    have hvE : offS L p.op (fr.put o.dst u) /\ vstep P N ops p (vES P N ops L K (l1 ++ l2)) (fr.put o.dst u) h' := by
      refine ⟨offS_agree (agreeG.put i2).agree hoff, ?_⟩
      refine h2 (fr.put o.dst u) h' _ hc2 (agreeG.put i2) (fun i hi b hb => ?_) ?_
      · rw [hrel (hrd (by cases hr : readsH p.op with | true => rfl | false => rw [rdBlk_none hr] at hi; cases hi)) i (hoff i hi), hb]
      exact hc2 _ _ _ (put_comm fr i3 v u) hv
    have hfin := vES_closed (P := P) (N := N) (ops := ops) (L := L) hK ((j, fj) :: (l1 ++ l2)) (fr.put o.dst u) f h' hf (by simp only [vES, hp, hR]; exact hvE)
    simpa only [vES, hp, hR] using hfin

theorem draw_anyS {B : Nat} {w0 : World} {Q : Exit -> Act -> World -> Prop} (hK : Closed K) (hedge : edgesOK ops = true) : ∀ (n : Nat) (listed : Array Bool) (l : List (Nat × Bool)) (fr : Fr) (H : Heap) (ρ : Rho) (w : World) (a : Act),
    listed.size = ops.size -> l.length = n -> pairsOK ops (masksGo ops.toList []) l = true -> (∀ x ∈ l, x.1 < ops.size /\ listed.getD x.1 true = false) -> (∀ i, i < ops.size -> listed.getD i true = false -> ∃ x ∈ l, x.1 = i) ->
    (∀ (j : Nat) (o : Oper), ops[j]? = some o -> listed.getD j false = true -> ∀ e ∈ o.after.toList, Region.binds .any e = true -> listed.getD e.on false = true) ->
    vES P N ops L K l fr H -> R B w0 ρ H w -> FR N ρ fr a ->
    (∀ (ρ' : Rho) (fr' : Fr) (H' : Heap) (a' : Act) (w' : World), ρ <+: ρ' -> K fr' H' -> R B w0 ρ' H' w' -> FR N ρ' fr' a' -> Q .normal a' w') -> wpAny P .any ops Q n listed a w := by
  intro n
  have getD2 : ∀ (listed : Array Bool) (i : Nat), listed.size = ops.size -> i < ops.size -> listed.getD i true = listed.getD i false := by
    intro listed i h1 h2
    simp [Array.getD_eq_getD_getElem?, h1, h2]
  induction n with
  | zero =>
    intro listed l fr H ρ w a hsz hl hp hin hall hcl hv hR hF hq
    have : l = [] := List.eq_nil_of_length_eq_zero hl
    subst this
    refine ⟨?_, hq ρ fr H a w (List.prefix_refl _) hv hR hF⟩
    rw [List.eq_nil_iff_forall_not_mem]
    intro i hi
    simp only [Region.ready, List.mem_filter, List.mem_range, Bool.and_eq_true, Bool.not_eq_true'] at hi
    obtain ⟨x, hx, _⟩ := hall i hi.1 hi.2.1
    simp at hx
  | succ n ih =>
    intro listed l fr H ρ w a hsz hl hp hin hall hcl hv hR hF hq
    refine ⟨?_, ?_⟩
    · intro hnil
      exfalso
      match l, hl with
      | (i, fl) :: l, hl =>
        obtain ⟨h1, h2⟩ := hin (i, fl) (by simp)
        have hi : i ∈ Region.ready .any ops listed := by
          simp only [Region.ready, List.mem_filter, List.mem_range, Bool.and_eq_true, Bool.not_eq_true']
          refine ⟨h1, h2, ?_⟩
          rw [Array.getElem?_eq_getElem h1]
          simp only [Option.map_some, Option.getD_some, Array.all_eq_true']
          intro e he
          rw [Bool.or_eq_true, Bool.not_eq_true']
          by_cases hb : Region.binds .any e = true
          · right
            have hedge' := List.all_eq_true.1 hedge i (by simpa using h1)
            simp only [Array.getElem?_eq_getElem h1, List.all_eq_true] at hedge'
            have he' := hedge' e (by simpa using he)
            simp only [hb, Bool.not_true, Bool.false_or, Bool.and_eq_true, decide_eq_true_eq, bne_iff_ne, ne_eq] at he'
            rw [<- getD2 listed e.on hsz he'.1]
            cases hg : listed.getD e.on true with
            | true => rfl
            | false =>
              obtain ⟨x, hx, hxe⟩ := hall e.on he'.1 hg
              rcases List.mem_cons.1 hx with rfl | hx
              · exact absurd hxe.symm he'.2
              · have hpo := (pairsOK_spec (l1 := []) hp).2.1 x hx
                have hx1 := (hin x (by simp [hx])).1
                simp only [pairOK, Array.getElem?_eq_getElem h1, Array.getElem?_eq_getElem hx1, Bool.and_eq_true, Bool.not_eq_true'] at hpo
                have hd := hpo.1.1
                simp only [directTo, List.any_eq_false, Bool.and_eq_true, beq_iff_eq, not_and] at hd
                exact absurd hxe.symm (hd e (by simpa using he) hb)
          · left; simpa using hb
        rw [hnil] at hi
        simp at hi
    · intro i hi
      simp only [Region.ready, List.mem_filter, List.mem_range, Bool.and_eq_true, Bool.not_eq_true'] at hi
      obtain ⟨hilt, hnl, hrdy⟩ := hi
      rw [Array.getElem?_eq_getElem hilt] at hrdy
      simp only [Option.map_some, Option.getD_some, Array.all_eq_true'] at hrdy
      have ho : ops[i]? = some ops[i] := Array.getElem?_eq_getElem hilt
      obtain ⟨x, hx, hxi⟩ := hall i hilt hnl
      obtain ⟨l1, l2, rfl⟩ := List.append_of_mem hx
      obtain ⟨i', fl⟩ := x
      simp only at hxi
      subst hxi
      obtain ⟨hp1, hp2, hp3⟩ := pairsOK_spec hp
      have hpre : ∀ e ∈ (ops[i']).after.toList, Region.binds .any e = true -> listed.getD e.on false = true := by
        intro e he hb
        have := hrdy e (by simpa using he)
        simpa [hb] using this
      have hdep : ∀ y ∈ l1, ¬ ((masksGo ops.toList []).getD i' 0).testBit y.1 = true := by
        intro y hy hb
        have := masks_sound (ops := ops) (fun j => listed.getD j false = true) hcl ops.toList [] (fun j _ => by simp) (fun j o p hj => by simp at hj) i' _ y.1 ho hb hpre
        obtain ⟨hy1, hy2⟩ := hin y (by simp [hy])
        rw [getD2 listed y.1 hsz hy1] at hy2
        rw [hy2] at this; cases this
      have hl1 : ∀ y ∈ l1, ∃ p, ops[y.1]? = some p /\ isR p.op = true /\ indep ops p ops[i'] = true /\ (readsH p.op = true -> isR (ops[i']).op = true \/ fl = true) := by
        intro y hy
        have hy1 := (hin y (by simp [hy])).1
        have hpo := hp1 y hy
        have hd := hdep y hy
        refine ⟨ops[y.1], Array.getElem?_eq_getElem hy1, ?_⟩
        simp only [pairOK, Array.getElem?_eq_getElem hy1, ho, Bool.and_eq_true] at hpo
        have hpo2 := hpo.2
        simp only [Bool.not_eq_true] at hd
        cases hRp : isR (ops[y.1]).op with
        | false => simp only [hRp] at hpo2; rw [hd] at hpo2; cases hpo2
        | true =>
          simp only [hRp, hd, Bool.false_or, Bool.or_false, Bool.and_eq_true, Bool.or_eq_true, Bool.not_eq_true'] at hpo2
          refine ⟨rfl, hpo2.1, fun hr => ?_⟩
          rcases hpo2.2 with (h | h) | h
          · exact .inl h
          · exact .inr h
          · rw [hr] at h; cases h
      have hstep := vES_front hK ho l1 fr H hl1 hv
      unfold wpOp
      rw [ho]
      have hnd : ∀ y ∈ l1 ++ l2, y.1 ≠ i' := by
        intro y hy e
        rcases List.mem_append.1 hy with hy | hy
        · have hpo := hp1 y hy
          have hy1 := (hin y (by simp [hy])).1
          simp [pairOK, Array.getElem?_eq_getElem hy1, ho, e] at hpo
        · have hpo := hp2 y hy
          have hy1 := (hin y (by simp [hy])).1
          simp [pairOK, Array.getElem?_eq_getElem hy1, ho, e] at hpo
      refine vstep_sound hstep hR hF Q ?_
      rintro ρ' fr' H' a' w' hpre' ⟨_, hv'⟩ hR' hF'
      refine ih (listed.setIfInBounds i' true) (l1 ++ l2) fr' H' ρ' w' a' (by simpa using hsz) (by simp at hl ⊢; omega) hp3 ?_ ?_ ?_ hv' hR' hF' (fun ρ'' f'' H'' a'' w'' h1 => hq ρ'' f'' H'' a'' w'' (hpre'.trans h1))
      · intro y hy
        have hne := hnd y hy
        obtain ⟨h1, h2⟩ := hin y (by rcases List.mem_append.1 hy with hy | hy <;> simp [hy])
        exact ⟨h1, by rw [getD_set_ne _ (fun e => hne e.symm)]; exact h2⟩
      · intro j hj hnj
        by_cases e : i' = j
        · subst e
          exfalso
          have : (listed.setIfInBounds i' true).getD i' true = true := by simp [Array.getD_eq_getD_getElem?]
          rw [this] at hnj; cases hnj
        · rw [getD_set_ne _ e] at hnj
          obtain ⟨y, hy, rfl⟩ := hall j hj hnj
          refine ⟨y, ?_, rfl⟩
          rcases List.mem_append.1 hy with hy | hy
          · simp [hy]
          · rcases List.mem_cons.1 hy with rfl | hy
            · exact absurd rfl e
            · simp [hy]
      · intro j o hj hlj e he hb
        by_cases e' : i' = j
        · subst e'
          rw [ho] at hj; cases hj
          exact getD_set_true (hpre e he hb)
        · rw [getD_set_ne _ e'] at hlj
          exact getD_set_true (hcl j o hj hlj e he hb)

theorem AWp.drawS (L : Nat -> Prop) {id : Nat} {fr : Fr} {H : Heap} {Q : Exit -> Fr -> Heap -> Prop} (hm : P.follows .mixedOrders = true) (canon : List (Nat × Bool)) (hok : drawOK ops canon = true) (h : vES P N ops L (Q .normal) canon fr H) : AWp P N (.region id ops true) Q fr H := by
  intro B w0 ρ w a hR hF
  simp only [drawOK, Bool.and_eq_true, decide_eq_true_eq, List.all_eq_true, List.mem_range, List.contains_iff_mem, List.mem_map] at hok
  obtain ⟨⟨⟨⟨h1, h2⟩, h3⟩, h4⟩, h5⟩ := hok
  refine wp_region_any hm ?_
  let K : Fr -> Heap -> Prop := fun f h => ∃ g, feq g f /\ Q .normal g h
  have hK : Closed K := fun f g h hfg ⟨k, hk, hq⟩ => ⟨k, hk.trans hfg, hq⟩
  have hv : vES P N ops L K canon fr H := by
    have weak : ∀ (l : List (Nat × Bool)) (fr : Fr) (H : Heap), vES P N ops L (Q .normal) l fr H -> vES P N ops L K l fr H := by
      intro l
      induction l with
      | nil => exact fun fr H h => ⟨fr, feq.rfl' _, h⟩
      | cons x l ih =>
        obtain ⟨i, fl⟩ := x
        intro fr H h
        simp only [vES] at h ⊢
        split at h
        · exact h
        · rename_i o ho
          cases hR : isR o.op with
          | true => simp only [hR] at h ⊢; exact ⟨h.1, vstep_weak h.2 ih⟩
          | false =>
            simp only [hR] at h ⊢
            refine vstep_weak h ?_
            intro f h' hk
            cases fl with
            | true => exact ⟨hk.1, ih _ _ hk.2⟩
            | false => exact ih _ _ hk
    exact weak canon fr H h
  have hgt : ∀ i, i < ops.size -> (Array.replicate ops.size false).getD i true = false := by
    intro i hi
    simp [Array.getD_eq_getD_getElem?, hi]
  refine draw_anyS (B := B) (w0 := w0) hK h2 ops.size (Array.replicate ops.size false) canon fr H ρ w.drew a (by simp) h3 h1 ?_ ?_ ?_ hv hR.drew hF ?_
  · intro x hx
    exact ⟨h4 x hx, hgt x.1 (h4 x hx)⟩
  · intro i hi _
    obtain ⟨x, hx, rfl⟩ := h5 i hi
    exact ⟨x, hx, rfl⟩
  · intro j o hj hl
    rw [Array.getD_eq_getD_getElem?, Array.getElem?_replicate] at hl
    split at hl <;> simp at hl
  · rintro ρ' fr' H' a' w' hp ⟨g, hg, hq⟩ hR' hF'
    exact ⟨ρ', g, H', hp, hR', hF'.feq hg.symm, hq⟩

/-! The words of such an order, for simp. -/

def vESK (P : Program) (N : Nat) (ops : Array Oper) (L : Nat -> Prop) (K : Fr -> Heap -> Prop) (l : List (Nat × Bool)) (fr : Fr) (H : Heap) : Prop := vES P N ops L K l fr H
def eKSK (P : Program) (N : Nat) (ops : Array Oper) (L : Nat -> Prop) (K : Fr -> Heap -> Prop) (l : List (Nat × Bool)) (fl : Bool) (H : Heap) (fr : Fr) (H' : Heap) : Prop :=
  match fl with
  | true => andK (KeepS L H H') (vES P N ops L K l fr H')
  | false => vES P N ops L K l fr H'
def offBS (L : Nat -> Prop) (o : Op) (fr : Fr) : Prop := match rdBlk o fr with
  | some i => L i
  | none => True
theorem offBS_iff {L : Nat -> Prop} {o : Op} {fr : Fr} : offBS L o fr = offS L o fr := by
  unfold offBS offS
  cases rdBlk o fr with
  | none => simp
  | some i => simp
def vESo (P : Program) (N : Nat) (ops : Array Oper) (L : Nat -> Prop) (K : Fr -> Heap -> Prop) (l : List (Nat × Bool)) (fl : Bool) (fr : Fr) (H : Heap) (o : Oper) : Prop :=
  match isR o.op with
  | true => andK (offBS L o.op fr) (vstep P N ops o (vESK P N ops L K l) fr H)
  | false => vstep P N ops o (eKSK P N ops L K l fl H) fr H

theorem vES_nil (K : Fr -> Heap -> Prop) (fr : Fr) (H : Heap) : vES P N ops L K [] fr H = K fr H := rfl
theorem vES_cons (K : Fr -> Heap -> Prop) (i : Nat) (fl : Bool) (l : List (Nat × Bool)) (fr : Fr) (H : Heap) : vES P N ops L K ((i, fl) :: l) fr H = bindO ops[i]? (vESo P N ops L K l fl fr H) := by
  have e : eKS L fl H (vES P N ops L K l) = eKSK P N ops L K l fl H := by
    funext f h
    cases fl <;> rfl
  simp only [vES]
  cases ops[i]? with
  | none => simp [bindO]
  | some o =>
    simp only [bindO_some, vESo]
    cases isR o.op with
    | true => rw [offBS_iff]; rfl
    | false => simp only [e]

attribute [go_sem] vESK eKSK vESo vES_nil vES_cons offBS

end
end Go.Ab
end

section
namespace Go.Ab
open Go.RowKit (Below)

section
variable {P : Program} {N : Nat} {ops : Array Oper} {L : Nat -> Prop} {K : Fr -> Heap -> Prop} {fs : List Nat}

def vFS (P : Program) (N : Nat) (ops : Array Oper) (L : Nat -> Prop) (fs : List Nat) (K : Fr -> Heap -> Prop) : Nat -> List (Nat × Bool) -> Fr -> Heap -> Prop
  | _, [], fr, H => K fr H
  | 0, _ :: _, _, _ => False
  | n + 1, (i, fl) :: l, fr, H => match ops[i]? with
    | none => False
    | some o => match isR o.op with
      | true => offS L o.op fr /\ vstep P N ops o (vFS P N ops L fs K n l) fr H
      | false => vstep P N ops o (eKS L fl H (vFS P N ops L fs K n l)) fr H /\
          ∀ f, f ∈ fs -> f ∈ l.map (·.1) -> ∃ o', ops[f]? = some o' /\ isR o'.op = false /\ vstep P N ops o' (eKS L true H (vFS P N ops L fs K n ((i, fl) :: l.filter fun y => y.1 != f))) fr H

theorem eKS_closed {fl : Bool} {H : Heap} {T : Fr -> Heap -> Prop} (hT : Closed T) : Closed (eKS L fl H T) := by
  intro f g h' hfg hk
  cases fl with
  | true => exact ⟨hk.1, hT _ _ _ hfg hk.2⟩
  | false => exact hT _ _ _ hfg hk
theorem vFS_closed (hK : Closed K) : ∀ n l, Closed (vFS P N ops L fs K n l)
  | 0, [] => hK
  | n + 1, [] => hK
  | 0, _ :: _ => fun _ _ _ _ h => h
  | n + 1, (i, fl) :: l => by
    intro f g H hfg h
    simp only [vFS] at h ⊢
    split at h
    · exact h.elim
    · rename_i o ho
      cases hR : isR o.op with
      | true => simp only [hR] at h ⊢; exact ⟨offS_congr (fun x => feq.ev hfg x) h.1, vstep_closed (vFS_closed hK n l) hfg h.2⟩
      | false =>
        simp only [hR] at h ⊢
        refine ⟨vstep_closed (eKS_closed (vFS_closed hK n l)) hfg h.1, fun f hf hm => ?_⟩
        obtain ⟨o', h1, h2, h3⟩ := h.2 f hf hm
        exact ⟨o', h1, h2, vstep_closed (eKS_closed (vFS_closed hK n _)) hfg h3⟩

def seqRS (P : Program) (N : Nat) (ops : Array Oper) (L : Nat -> Prop) (T : Fr -> Heap -> Prop) : List (Nat × Bool) -> Fr -> Heap -> Prop
  | [], fr, H => T fr H
  | (j, _) :: l, fr, H => match ops[j]? with
    | none => False
    | some p => offS L p.op fr /\ vstep P N ops p (seqRS P N ops L T l) fr H
theorem seqRS_closed {T : Fr -> Heap -> Prop} (hT : Closed T) : ∀ l, Closed (seqRS P N ops L T l)
  | [] => hT
  | (j, fj) :: l => by
    intro f g H hfg h
    simp only [seqRS] at h ⊢
    split at h
    · exact h.elim
    · exact ⟨offS_congr (fun x => feq.ev hfg x) h.1, vstep_closed (seqRS_closed hT l) hfg h.2⟩
theorem vFS_seqRS {n : Nat} {rest : List (Nat × Bool)} : ∀ (l1 : List (Nat × Bool)) (fr : Fr) (H : Heap), (∀ x ∈ l1, ∃ p, ops[x.1]? = some p /\ isR p.op = true) ->
    (vFS P N ops L fs K (l1.length + n) (l1 ++ rest) fr H ↔ seqRS P N ops L (vFS P N ops L fs K n rest) l1 fr H)
  | [], fr, H, _ => by simp [seqRS]
  | (j, fj) :: l1, fr, H, hl => by
    obtain ⟨p, hp, hR⟩ := hl (j, fj) (by simp)
    have ih := fun fr H => vFS_seqRS (n := n) (rest := rest) l1 fr H fun x hx => hl x (by simp [hx])
    rw [show ((j, fj) :: l1).length + n = (l1.length + n) + 1 by simp; omega]
    simp only [List.cons_append, vFS, seqRS, hp, hR]
    exact ⟨fun h => ⟨h.1, vstep_weak h.2 fun f h => (ih f h).1⟩, fun h => ⟨h.1, vstep_weak h.2 fun f h => (ih f h).2⟩⟩

theorem frontS_gen {o : Oper} {fl : Bool} {T T' : Fr -> Heap -> Prop} (hT : Closed T) (hT' : Closed T') (hstep : ∀ fr H, T fr H -> vstep P N ops o (fun f h => relS L o fl H h /\ T' f h) fr H) : ∀ (l1 : List (Nat × Bool)) (fr : Fr) (H : Heap),
    (∀ x ∈ l1, ∃ p, ops[x.1]? = some p /\ isR p.op = true /\ indep ops p o = true /\ (readsH p.op = true -> isR o.op = true \/ fl = true)) ->
    seqRS P N ops L T l1 fr H -> vstep P N ops o (fun f h => relS L o fl H h /\ seqRS P N ops L T' l1 f h) fr H
  | [], fr, H, _, h => hstep fr H h
  | (j, fj) :: l1, fr, H, hl, h => by
    obtain ⟨p, hp, hR, hin, hrd⟩ := hl (j, fj) (by simp)
    simp only [seqRS, hp] at h ⊢
    have hc1 := seqRS_closed (P := P) (N := N) (ops := ops) (L := L) hT l1
    have hc2 := seqRS_closed (P := P) (N := N) (ops := ops) (L := L) hT' l1
    obtain ⟨hoff, h⟩ := h
    obtain ⟨v, h1, h2⟩ := vstep_RX hR hc1 h
    have ih := frontS_gen hT hT' hstep l1 (fr.put p.dst v) H (fun x hx => hl x (by simp [hx])) h1
    obtain ⟨i1, i2, i3⟩ := indep_spec hin
    have hcK : Closed (fun f h => relS L o fl H h /\ seqRS P N ops L T' l1 f h) := fun f g h hfg hk => ⟨hk.1, hc2 _ _ _ hfg hk.2⟩
    have hag : agreeG ops o (fr.put p.dst v) fr := agreeG.symm (agreeG.put i1)
    refine vstep_weak (vstep_E hcK ih hag) ?_
    rintro f h' ⟨u, hf, hrel, hv⟩
    have hvE : vstep P N ops p (seqRS P N ops L T' l1) (fr.put o.dst u) h' := by
      refine h2 (fr.put o.dst u) h' _ hc2 (agreeG.put i2) (fun i hi b hb => ?_) ?_
      · rw [hrel (hrd (by cases hr : readsH p.op with | true => rfl | false => rw [rdBlk_none hr] at hi; cases hi)) i (hoff i hi), hb]
      exact hc2 _ _ _ (put_comm fr i3 v u) hv
    exact ⟨hrel, offS_congr (fun x => feq.ev hf x) (offS_agree (agreeG.put i2).agree hoff), vstep_closed hc2 hf hvE⟩

theorem eKS_rel {o : Oper} {fl : Bool} {T : Fr -> Heap -> Prop} {fr : Fr} {H : Heap} (hR : isR o.op = false) (h : vstep P N ops o (eKS L fl H T) fr H) : vstep P N ops o (fun f h => relS L o fl H h /\ T f h) fr H := by
  refine vstep_weak h ?_
  intro f h' hk
  cases fl with
  | true => exact ⟨fun _ => hk.1, hk.2⟩
  | false => exact ⟨fun e => by simp [hR] at e, hk⟩

theorem vFS_front (hK : Closed K) {n i : Nat} {fl : Bool} {l1 l2 : List (Nat × Bool)} {o : Oper} (ho : ops[i]? = some o) {fr : Fr} {H : Heap}
    (hl1 : ∀ x ∈ l1, ∃ p, ops[x.1]? = some p /\ isR p.op = true /\ indep ops p o = true /\ (readsH p.op = true -> isR o.op = true \/ fl = true))
    (h : vFS P N ops L fs K (l1.length + (n + 1)) (l1 ++ (i, fl) :: l2) fr H) : vstep P N ops o (fun f h => relS L o fl H h /\ vFS P N ops L fs K (l1.length + n) (l1 ++ l2) f h) fr H := by
  have hl1' : ∀ x ∈ l1, ∃ p, ops[x.1]? = some p /\ isR p.op = true := fun x hx => by obtain ⟨p, h1, h2, _⟩ := hl1 x hx; exact ⟨p, h1, h2⟩
  rw [vFS_seqRS l1 fr H hl1'] at h
  have hstep : ∀ fr H, vFS P N ops L fs K (n + 1) ((i, fl) :: l2) fr H -> vstep P N ops o (fun f h => relS L o fl H h /\ vFS P N ops L fs K n l2 f h) fr H := by
    intro fr H h
    simp only [vFS, ho] at h
    cases hR : isR o.op with
    | true =>
      simp only [hR] at h
      obtain ⟨_, h⟩ := h
      obtain ⟨v, h1, h2⟩ := vstep_RX hR (vFS_closed hK n l2) h
      refine h2 fr H _ ?_ (fun _ _ => rfl) (fun _ _ _ h => h) ⟨fun _ _ _ => rfl, h1⟩
      intro f g h hfg hk
      exact ⟨hk.1, vFS_closed hK n l2 _ _ _ hfg hk.2⟩
    | false => simp only [hR] at h; exact eKS_rel hR h.1
  refine vstep_weak (frontS_gen (vFS_closed hK _ _) (vFS_closed hK n l2) hstep l1 fr H hl1 h) ?_
  rintro f h' ⟨h1, h2⟩
  exact ⟨h1, (vFS_seqRS l1 f h' hl1').2 h2⟩
theorem vFS_float (hK : Closed K) {n i f : Nat} {fl : Bool} {r1 l2 : List (Nat × Bool)} {o o' : Oper} (ho : ops[i]? = some o) (hE : isR o.op = false) (hf : ops[f]? = some o') (hff : f ∈ fs) (hfl : f ∈ l2.map (·.1)) {fr : Fr} {H : Heap}
    (hl1 : ∀ x ∈ r1, ∃ p, ops[x.1]? = some p /\ isR p.op = true /\ indep ops p o' = true)
    (h : vFS P N ops L fs K (r1.length + (n + 1)) (r1 ++ (i, fl) :: l2) fr H) : vstep P N ops o' (fun f' h => relS L o' true H h /\ vFS P N ops L fs K (r1.length + n) (r1 ++ (i, fl) :: l2.filter fun y => y.1 != f) f' h) fr H := by
  have hl1' : ∀ x ∈ r1, ∃ p, ops[x.1]? = some p /\ isR p.op = true := fun x hx => by obtain ⟨p, h1, h2, _⟩ := hl1 x hx; exact ⟨p, h1, h2⟩
  rw [vFS_seqRS r1 fr H hl1'] at h
  have hstep : ∀ fr H, vFS P N ops L fs K (n + 1) ((i, fl) :: l2) fr H -> vstep P N ops o' (fun f' h => relS L o' true H h /\ vFS P N ops L fs K n ((i, fl) :: l2.filter fun y => y.1 != f) f' h) fr H := by
    intro fr H h
    simp only [vFS, ho, hE] at h
    obtain ⟨o2, h1, h2, h3⟩ := h.2 f hff hfl
    rw [hf] at h1; cases h1
    exact eKS_rel h2 h3
  refine vstep_weak (frontS_gen (vFS_closed hK _ _) (vFS_closed hK n _) hstep r1 fr H (fun x hx => by obtain ⟨p, h1, h2, h3⟩ := hl1 x hx; exact ⟨p, h1, h2, h3, fun _ => .inr rfl⟩) h) ?_
  rintro f h' ⟨h1, h2⟩
  exact ⟨h1, (vFS_seqRS r1 f h' hl1').2 h2⟩

theorem drawFS_any {B : Nat} {w0 : World} {Q : Exit -> Act -> World -> Prop} (hK : Closed K) (hedge : edgesOK ops = true) : ∀ (n : Nat) (listed : Array Bool) (l : List (Nat × Bool)) (fr : Fr) (H : Heap) (ρ : Rho) (w : World) (a : Act),
    listed.size = ops.size -> l.length = n -> pairsOKF ops fs (masksGo ops.toList []) l = true -> (∀ x ∈ l, x.1 < ops.size /\ listed.getD x.1 true = false) -> (∀ i, i < ops.size -> listed.getD i true = false -> ∃ x ∈ l, x.1 = i) ->
    (∀ (j : Nat) (o : Oper), ops[j]? = some o -> listed.getD j false = true -> ∀ e ∈ o.after.toList, Region.binds .any e = true -> listed.getD e.on false = true) ->
    vFS P N ops L fs K n l fr H -> R B w0 ρ H w -> FR N ρ fr a ->
    (∀ (ρ' : Rho) (fr' : Fr) (H' : Heap) (a' : Act) (w' : World), ρ <+: ρ' -> K fr' H' -> R B w0 ρ' H' w' -> FR N ρ' fr' a' -> Q .normal a' w') -> wpAny P .any ops Q n listed a w := by
  intro n
  have getD2 : ∀ (listed : Array Bool) (i : Nat), listed.size = ops.size -> i < ops.size -> listed.getD i true = listed.getD i false := by
    intro listed i h1 h2
    simp [Array.getD_eq_getD_getElem?, h1, h2]
  induction n with
  | zero =>
    intro listed l fr H ρ w a hsz hl hp hin hall hcl hv hR hF hq
    have : l = [] := List.eq_nil_of_length_eq_zero hl
    subst this
    refine ⟨?_, hq ρ fr H a w (List.prefix_refl _) hv hR hF⟩
    rw [List.eq_nil_iff_forall_not_mem]
    intro i hi
    simp only [Region.ready, List.mem_filter, List.mem_range, Bool.and_eq_true, Bool.not_eq_true'] at hi
    obtain ⟨x, hx, _⟩ := hall i hi.1 hi.2.1
    simp at hx
  | succ n ih =>
    intro listed l fr H ρ w a hsz hl hp hin hall hcl hv hR hF hq
    refine ⟨?_, ?_⟩
    · intro hnil
      exfalso
      match l, hl with
      | (i, fl) :: l, hl =>
        obtain ⟨h1, h2⟩ := hin (i, fl) (by simp)
        have hi : i ∈ Region.ready .any ops listed := by
          simp only [Region.ready, List.mem_filter, List.mem_range, Bool.and_eq_true, Bool.not_eq_true']
          refine ⟨h1, h2, ?_⟩
          rw [Array.getElem?_eq_getElem h1]
          simp only [Option.map_some, Option.getD_some, Array.all_eq_true']
          intro e he
          rw [Bool.or_eq_true, Bool.not_eq_true']
          by_cases hb : Region.binds .any e = true
          · right
            have hedge' := List.all_eq_true.1 hedge i (by simpa using h1)
            simp only [Array.getElem?_eq_getElem h1, List.all_eq_true] at hedge'
            have he' := hedge' e (by simpa using he)
            simp only [hb, Bool.not_true, Bool.false_or, Bool.and_eq_true, decide_eq_true_eq, bne_iff_ne, ne_eq] at he'
            rw [<- getD2 listed e.on hsz he'.1]
            cases hg : listed.getD e.on true with
            | true => rfl
            | false =>
              obtain ⟨x, hx, hxe⟩ := hall e.on he'.1 hg
              rcases List.mem_cons.1 hx with rfl | hx
              · exact absurd hxe.symm he'.2
              · have hpo := (pairsOKF_spec (l1 := []) hp).2.1 x hx
                have hx1 := (hin x (by simp [hx])).1
                simp only [pairOKF, Array.getElem?_eq_getElem h1, Array.getElem?_eq_getElem hx1, Bool.and_eq_true, Bool.not_eq_true'] at hpo
                have hd := hpo.1.1
                simp only [directTo, List.any_eq_false, Bool.and_eq_true, beq_iff_eq, not_and] at hd
                exact absurd hxe.symm (hd e (by simpa using he) hb)
          · left; simpa using hb
        rw [hnil] at hi
        simp at hi
    · intro i hi
      simp only [Region.ready, List.mem_filter, List.mem_range, Bool.and_eq_true, Bool.not_eq_true'] at hi
      obtain ⟨hilt, hnl, hrdy⟩ := hi
      rw [Array.getElem?_eq_getElem hilt] at hrdy
      simp only [Option.map_some, Option.getD_some, Array.all_eq_true'] at hrdy
      have ho : ops[i]? = some ops[i] := Array.getElem?_eq_getElem hilt
      obtain ⟨x, hx, hxi⟩ := hall i hilt hnl
      obtain ⟨l1, l2, rfl⟩ := List.append_of_mem hx
      obtain ⟨i', fl⟩ := x
      simp only at hxi
      subst hxi
      obtain ⟨hp1, hp2, hp3⟩ := pairsOKF_spec hp
      have hpre : ∀ e ∈ (ops[i']).after.toList, Region.binds .any e = true -> listed.getD e.on false = true := by
        intro e he hb
        have := hrdy e (by simpa using he)
        simpa [hb] using this
      have hdep : ∀ y ∈ l1, ¬ ((masksGo ops.toList []).getD i' 0).testBit y.1 = true := by
        intro y hy hb
        have := masks_sound (ops := ops) (fun j => listed.getD j false = true) hcl ops.toList [] (fun j _ => by simp) (fun j o p hj => by simp at hj) i' _ y.1 ho hb hpre
        obtain ⟨hy1, hy2⟩ := hin y (by simp [hy])
        rw [getD2 listed y.1 hsz hy1] at hy2
        rw [hy2] at this; cases this
      have hR1 : ∀ y ∈ l1, ∀ p, ops[y.1]? = some p -> isR p.op = true -> indep ops p ops[i'] = true /\ (readsH p.op = true -> isR (ops[i']).op = true \/ fl = true) := by
        intro y hy p hp' hRp
        have hy1 := (hin y (by simp [hy])).1
        have hpo := hp1 y hy
        have hd := hdep y hy
        simp only [pairOKF, hp', ho, Bool.and_eq_true] at hpo
        have hpo2 := hpo.2
        simp only [Bool.not_eq_true] at hd
        simp only [hRp, hd, Bool.false_or, Bool.or_false, Bool.and_eq_true, Bool.or_eq_true, Bool.not_eq_true'] at hpo2
        refine ⟨hpo2.1, fun hr => ?_⟩
        rcases hpo2.2 with (h | h) | h
        · exact .inl h
        · exact .inr h
        · rw [hr] at h; cases h
      have hE1 : ∀ y ∈ l1, ∀ p, ops[y.1]? = some p -> isR p.op = false -> i' ∈ fs /\ fl = true /\ isR (ops[i']).op = false := by
        intro y hy p hp' hRp
        have hpo := hp1 y hy
        have hd := hdep y hy
        simp only [pairOKF, hp', ho, Bool.and_eq_true] at hpo
        have hpo2 := hpo.2
        simp only [Bool.not_eq_true] at hd
        simp only [hRp, hd, Bool.false_or, Bool.and_eq_true, Bool.not_eq_true', List.contains_iff_mem] at hpo2
        exact ⟨hpo2.1.1, hpo2.1.2, hpo2.2⟩
      have hnd : ∀ y ∈ l1 ++ l2, y.1 ≠ i' := by
        intro y hy e
        rcases List.mem_append.1 hy with hy | hy
        · have hpo := hp1 y hy
          have hy1 := (hin y (by simp [hy])).1
          simp [pairOKF, Array.getElem?_eq_getElem hy1, ho, e] at hpo
        · have hpo := hp2 y hy
          have hy1 := (hin y (by simp [hy])).1
          simp [pairOKF, Array.getElem?_eq_getElem hy1, ho, e] at hpo
      have hstep : vstep P N ops ops[i'] (fun f h => relS L ops[i'] fl H h /\ vFS P N ops L fs K n (l1 ++ l2) f h) fr H := by
        simp only [List.length_append, List.length_cons] at hl
        rcases first_effect (ops := ops) l1 (fun x hx => ⟨_, Array.getElem?_eq_getElem (hin x (by simp [hx])).1⟩) with hall1 | ⟨r1, e, oe, r2, rfl, he1, he2, he3⟩
        · rw [show n = l1.length + l2.length by omega]
          rw [show n + 1 = l1.length + (l2.length + 1) by omega] at hv
          exact vFS_front hK ho (fun x hx => by obtain ⟨p, h1, h2⟩ := hall1 x hx; obtain ⟨h3, h4⟩ := hR1 x hx p h1 h2; exact ⟨p, h1, h2, h3, h4⟩) hv
        · obtain ⟨hif, hfl, hEi⟩ := hE1 e (by simp) oe he1 he2
          subst hfl
          simp only [List.length_append, List.length_cons] at hl
          rw [show n + 1 = r1.length + ((r2.length + 1 + l2.length) + 1) by omega, List.append_assoc, List.cons_append] at hv
          have hfilt : (r2 ++ (i', true) :: l2).filter (fun y => y.1 != i') = r2 ++ l2 := by
            rw [List.filter_append, List.filter_cons]
            simp only [bne_self_eq_false, Bool.false_eq_true, if_false]
            rw [List.filter_eq_self.2, List.filter_eq_self.2]
            · intro y hy; simpa using hnd y (by simp [hy])
            · intro y hy; simpa using hnd y (by simp [hy])
          have := vFS_float (f := i') hK he1 he2 ho hif (by simp) (fun x hx => by
            obtain ⟨p, h1, h2⟩ := he3 x hx
            exact ⟨p, h1, h2, (hR1 x (by simp [hx]) p h1 h2).1⟩) hv
          rw [hfilt] at this
          rw [show n = r1.length + (r2.length + 1 + l2.length) by omega, List.append_assoc, List.cons_append]
          exact this
      unfold wpOp
      rw [ho]
      refine vstep_sound hstep hR hF Q ?_
      rintro ρ' fr' H' a' w' hpre' ⟨_, hv'⟩ hR' hF'
      refine ih (listed.setIfInBounds i' true) (l1 ++ l2) fr' H' ρ' w' a' (by simpa using hsz) (by simp at hl ⊢; omega) hp3 ?_ ?_ ?_ hv' hR' hF' (fun ρ'' f'' H'' a'' w'' h1 => hq ρ'' f'' H'' a'' w'' (hpre'.trans h1))
      · intro y hy
        have hne := hnd y hy
        obtain ⟨h1, h2⟩ := hin y (by rcases List.mem_append.1 hy with hy | hy <;> simp [hy])
        exact ⟨h1, by rw [getD_set_ne _ (fun e => hne e.symm)]; exact h2⟩
      · intro j hj hnj
        by_cases e : i' = j
        · subst e
          exfalso
          have : (listed.setIfInBounds i' true).getD i' true = true := by simp [Array.getD_eq_getD_getElem?]
          rw [this] at hnj; cases hnj
        · rw [getD_set_ne _ e] at hnj
          obtain ⟨y, hy, rfl⟩ := hall j hj hnj
          refine ⟨y, ?_, rfl⟩
          rcases List.mem_append.1 hy with hy | hy
          · simp [hy]
          · rcases List.mem_cons.1 hy with rfl | hy
            · exact absurd rfl e
            · simp [hy]
      · intro j o hj hlj e he hb
        by_cases e' : i' = j
        · subst e'
          rw [ho] at hj; cases hj
          exact getD_set_true (hpre e he hb)
        · rw [getD_set_ne _ e'] at hlj
          exact getD_set_true (hcl j o hj hlj e he hb)

def vTS (P : Program) (N : Nat) (ops : Array Oper) (L : Nat -> Prop) (K : Fr -> Heap -> Prop) : Tree -> Fr -> Heap -> Prop
  | .nil, fr, H => K fr H
  | .one i fl t, fr, H => match ops[i]? with
    | none => False
    | some o => match isR o.op with
      | true => offS L o.op fr /\ vstep P N ops o (vTS P N ops L K t) fr H
      | false => vstep P N ops o (eKS L fl H (vTS P N ops L K t)) fr H
  | .two i fl t f t', fr, H => match ops[i]?, ops[f]? with
    | some o, some o' => vstep P N ops o (eKS L fl H (vTS P N ops L K t)) fr H /\ vstep P N ops o' (eKS L true H (vTS P N ops L K t')) fr H
    | _, _ => False
/-! The words of such a tree, for simp. -/

def vTSK (P : Program) (N : Nat) (ops : Array Oper) (L : Nat -> Prop) (K : Fr -> Heap -> Prop) (t : Tree) (fr : Fr) (H : Heap) : Prop := vTS P N ops L K t fr H
def eTSK (P : Program) (N : Nat) (ops : Array Oper) (L : Nat -> Prop) (K : Fr -> Heap -> Prop) (t : Tree) (fl : Bool) (H : Heap) (fr : Fr) (H' : Heap) : Prop :=
  match fl with
  | true => andK (KeepS L H H') (vTS P N ops L K t fr H')
  | false => vTS P N ops L K t fr H'
def vTSo (P : Program) (N : Nat) (ops : Array Oper) (L : Nat -> Prop) (K : Fr -> Heap -> Prop) (t : Tree) (fl : Bool) (fr : Fr) (H : Heap) (o : Oper) : Prop :=
  match isR o.op with
  | true => andK (offBS L o.op fr) (vstep P N ops o (vTSK P N ops L K t) fr H)
  | false => vstep P N ops o (eTSK P N ops L K t fl H) fr H
def vTSe (P : Program) (N : Nat) (ops : Array Oper) (L : Nat -> Prop) (K : Fr -> Heap -> Prop) (t : Tree) (fl : Bool) (fr : Fr) (H : Heap) (o : Oper) : Prop := vstep P N ops o (eTSK P N ops L K t fl H) fr H

theorem vTS_nil (K : Fr -> Heap -> Prop) (fr : Fr) (H : Heap) : vTS P N ops L K .nil fr H = K fr H := rfl
theorem eTSK_eq (K : Fr -> Heap -> Prop) (t : Tree) (fl : Bool) (H : Heap) : eKS L fl H (vTS P N ops L K t) = eTSK P N ops L K t fl H := by
  funext f h
  cases fl <;> rfl
theorem vTS_one (K : Fr -> Heap -> Prop) (i : Nat) (fl : Bool) (t : Tree) (fr : Fr) (H : Heap) : vTS P N ops L K (.one i fl t) fr H = bindO ops[i]? (vTSo P N ops L K t fl fr H) := by
  simp only [vTS]
  cases ops[i]? with
  | none => simp [bindO]
  | some o =>
    simp only [bindO_some, vTSo]
    cases isR o.op with
    | true => rw [offBS_iff]; rfl
    | false => simp only [eTSK_eq]
attribute [go_sem] vTSK eTSK vTSo vTSe vTS_nil vTS_one

end
end Go.Ab
end

section
namespace Go.Proofs.YtfnegaedkomcgaaGreat
open Go.Ab Go.Sort

theorem common_self {v : Int} {x : Bk} (h : good v x = true) : common x x = 3 := by
  simp only [good, Bool.and_eq_true, decide_eq_true_eq] at h
  have e1 : x.a ≠ x.b := by omega
  have e2 : x.a ≠ x.c := by omega
  have e3 : x.b ≠ x.c := by omega
  simp [common, eq01, e1, e2, e3, e1.symm, e2.symm, e3.symm]
theorem before_tri {x y : Bk} (h1 : before x y = false) (h2 : before y x = false) : x = y := by
  rw [before_false] at h1 h2
  obtain ⟨a, b, c⟩ := x
  obtain ⟨d, e, f⟩ := y
  simp only at h1 h2
  have : a = d /\ b = e /\ c = f := by omega
  obtain ⟨rfl, rfl, rfl⟩ := this
  rfl
theorem fits_of_pair {l : List Bk} (h : l.Pairwise fun x y => common x y <= 1) : Fits l := by
  intro i k x y hki hx hy
  obtain ⟨hi, rfl⟩ := List.getElem?_eq_some_iff.1 hx
  obtain ⟨hk, rfl⟩ := List.getElem?_eq_some_iff.1 hy
  rw [common_comm]
  exact (List.pairwise_iff_getElem.1 h) k i hk hi hki
theorem pair_of_fits {l : List Bk} (h : Fits l) : l.Pairwise fun x y => common x y <= 1 := by
  rw [List.pairwise_iff_getElem]
  intro i j hi hj hij
  rw [common_comm]
  exact h j i l[j] l[i] hij (List.getElem?_eq_getElem hj) (List.getElem?_eq_getElem hi)
theorem sys_of_list {p : Int} {l : List Bk} (hp : 3 <= p /\ p <= 15) (hl : l.length <= 35) (hg : ∀ b ∈ l, good p b = true) (hc : l.Pairwise fun x y => common x y <= 1) (hs : l.Pairwise fun x y => before y x = false) : IsSys p l := by
  refine ⟨hp, hl, ?_, fits_of_pair hc⟩
  intro i x hx
  refine ⟨hg x (List.mem_of_getElem? hx), fun y hi hy => ?_⟩
  obtain ⟨h1, rfl⟩ := List.getElem?_eq_some_iff.1 hx
  obtain ⟨h2, rfl⟩ := List.getElem?_eq_some_iff.1 hy
  have ha := (List.pairwise_iff_getElem.1 hs) (i - 1) i h2 h1 (by omega)
  have hb := (List.pairwise_iff_getElem.1 hc) (i - 1) i h2 h1 (by omega)
  cases e : before l[i - 1] l[i] with
  | true => rfl
  | false =>
    have := before_tri e ha
    rw [this, common_self (hg _ (List.getElem_mem _))] at hb
    omega
theorem sys_of_perm {p : Int} {l : List Bk} (hp : 3 <= p /\ p <= 15) (hl : l.length <= 35) (hg : ∀ b ∈ l, good p b = true) (hc : l.Pairwise fun x y => common x y <= 1) : IsSys p (sortB l) := by
  have hperm := sortB_perm _ l rfl
  refine sys_of_list hp (by rw [hperm.length_eq]; exact hl) (fun b hb => hg b (hperm.mem_iff.1 hb)) ?_ (sortB_sorted _ l rfl)
  exact (hperm.symm.pairwise_iff (fun h => by rw [common_comm]; exact h)).1 hc

def pairOk : List Bk -> Bool
  | [] => true
  | x :: l => l.all (fun y => decide (common x y <= 1)) && pairOk l
theorem pairOk_iff : ∀ {l : List Bk}, pairOk l = true ↔ l.Pairwise fun x y => common x y <= 1
  | [] => by simp [pairOk]
  | x :: l => by simp [pairOk, pairOk_iff (l := l)]
def stsOk (p : Int) (l : List Bk) : Bool := decide (3 <= p) && decide (p <= 15) && decide (l.length <= 35) && l.all (good p) && pairOk l && fullB p l
theorem stsOk_sys {p : Int} {l : List Bk} (h : stsOk p l = true) : IsSys p (sortB l) /\ fullB p (sortB l) = true := by
  simp only [stsOk, Bool.and_eq_true, decide_eq_true_eq, List.all_eq_true] at h
  obtain ⟨⟨⟨⟨⟨h1, h2⟩, h3⟩, h4⟩, h5⟩, h6⟩ := h
  refine ⟨sys_of_perm ⟨h1, h2⟩ h3 h4 (pairOk_iff.1 h5), ?_⟩
  simpa [fullB, sortB_length _ l rfl] using h6

end Go.Proofs.YtfnegaedkomcgaaGreat
end

section
namespace Go.Proofs.YtfnegaedkomcgaaGreat
open Go.Ab Go.Sort

theorem intsOf2 (a b : Int) : intsOf .i64 [.int .i64 a, .int .i64 b] = some [a, b] := by simp [intsOf]
attribute [go_sem] intsOf2

end Go.Proofs.YtfnegaedkomcgaaGreat
end

section
namespace Go.Proofs.YtfnegaedkomcgaaGreat
open Go.Ab Go.Sort

def goSub {α : Type} (ok : α -> α -> Bool) (test : List α -> Bool) : List α -> List α -> Bool
  | [], acc => test acc
  | c :: cs, acc => goSub ok test cs acc && (if acc.all (fun x => ok x c) then goSub ok test cs (acc ++ [c]) else true)
theorem goSub_all {α : Type} {ok : α -> α -> Bool} {test : List α -> Bool} : ∀ (cs acc l : List α), goSub ok test cs acc = true -> l.Sublist cs -> (acc ++ l).Pairwise (fun x y => ok x y = true) -> test (acc ++ l) = true
  | [], acc, l, h, hl, _ => by
    have := List.sublist_nil.1 hl
    subst this; simpa [goSub] using h
  | c :: cs, acc, l, h, hl, hp => by
    simp only [goSub, Bool.and_eq_true] at h
    cases hl with
    | cons _ hl => exact goSub_all cs acc l h.1 hl hp
    | cons_cons _ hl =>
      rename_i l
      have h1 := (List.pairwise_append.1 hp).2.2
      rw [if_pos (List.all_eq_true.2 fun x hx => h1 x hx c (by simp))] at h
      have := goSub_all cs (acc ++ [c]) l h.2 hl (by simpa using hp)
      simpa using this

theorem asc_nodup {l : List Bk} (h : l.Pairwise fun x y => before x y = true) : l.Nodup := by
  refine List.Pairwise.imp (fun {x y} hxy e => ?_) h
  subst e
  have := before_asymm hxy
  rw [hxy] at this; cases this
theorem asc_weak {l : List Bk} (h : l.Pairwise fun x y => before x y = true) : l.Pairwise fun x y => before y x = false := h.imp fun hxy => before_asymm hxy
theorem asc_sub {l m : List Bk} (hl : l.Pairwise fun x y => before x y = true) (hm : m.Pairwise fun x y => before x y = true) (h : ∀ x ∈ l, x ∈ m) : l.Sublist m := by
  have hf : (m.filter fun x => decide (x ∈ l)).Pairwise fun x y => before x y = true := hm.sublist List.filter_sublist
  have hp : l.Perm (m.filter fun x => decide (x ∈ l)) := by
    rw [List.perm_ext_iff_of_nodup (asc_nodup hl) (asc_nodup hf)]
    intro x
    simp only [List.mem_filter, decide_eq_true_eq]
    exact ⟨fun hx => ⟨h x hx, hx⟩, fun hx => hx.2⟩
  have e1 := sort_uniq (List.Perm.refl _) (asc_weak hl)
  have e2 := sort_uniq hp.symm (asc_weak hf)
  rw [e1, <- e2]
  exact List.filter_sublist

def ascB (l : List Bk) : Bool := match l with
  | [] => true
  | x :: l => (match l with | [] => true | y :: _ => before x y) && ascB l
theorem ascB_pair : ∀ {l : List Bk}, ascB l = true -> l.Pairwise fun x y => before x y = true
  | [], _ => List.Pairwise.nil
  | [x], _ => List.pairwise_singleton _ _
  | x :: y :: l, h => by
    rw [ascB, Bool.and_eq_true] at h
    have ih := ascB_pair h.2
    refine List.pairwise_cons.2 ⟨fun z hz => ?_, ih⟩
    rcases List.mem_cons.1 hz with rfl | hz
    · exact h.1
    · exact before_trans h.1 ((List.pairwise_cons.1 ih).1 z hz)
theorem triples_asc : ∀ v, v < 16 -> ascB (triples v) = true := by decide +kernel
theorem triples_mem {v : Nat} {b : Bk} (h : good v b = true) : b ∈ triples v := by
  have hg := good_iff.1 h
  obtain ⟨a, b, c⟩ := b
  simp only at hg
  obtain ⟨x, rfl⟩ : ∃ n : Nat, a = n := ⟨a.toNat, by omega⟩
  obtain ⟨y, rfl⟩ : ∃ n : Nat, b = n := ⟨b.toNat, by omega⟩
  obtain ⟨z, rfl⟩ : ∃ n : Nat, c = n := ⟨c.toNat, by omega⟩
  simp only [triples, trip0, trip1, trip2, List.mem_flatMap, List.mem_map, mem_upTo]
  exact ⟨x, by omega, y, by omega, z, by omega, rfl⟩
theorem sys_triples {p : Nat} {bs : List Bk} (h : IsSys p bs) : bs.Sublist (triples p) :=
  asc_sub (asc_of _ rfl h.2.2.1) (ascB_pair (triples_asc p (by have := h.1; omega))) fun x hx => triples_mem (h.good x hx)

def pmask (b : Bk) : Nat := 2 ^ (b.a.toNat * 7 + b.b.toNat) ||| 2 ^ (b.a.toNat * 7 + b.c.toNat) ||| 2 ^ (b.b.toNat * 7 + b.c.toNat)
def okM (x y : Nat × Bk) : Bool := (x.1 &&& y.1) == 0
def candM (v : Nat) : List (Nat × Bk) := (triples v).map fun b => (pmask b, b)
theorem ok_common : ∀ x ∈ triples 7, ∀ y ∈ triples 7, common x y <= 1 -> (pmask x &&& pmask y) = 0 := by decide +kernel
theorem okM_of {v : Nat} (hv : v <= 7) {bs : List Bk} (h : IsSys v bs) : (bs.map fun b => (pmask b, b)).Pairwise fun x y => okM x y = true := by
  rw [List.pairwise_map]
  have hm : ∀ b ∈ bs, b ∈ triples 7 := fun b hb => triples_mem (by
    have := good_iff.1 (h.good b hb)
    exact good_iff.2 ⟨this.1, this.2.1, this.2.2.1, by omega⟩)
  refine List.Pairwise.imp_of_mem ?_ (pair_of_fits h.2.2.2)
  intro x y hx hy hc
  simp only [okM, beq_iff_eq]
  exact ok_common x (hm x hx) y (hm y hy) hc
theorem small_all {v : Nat} (hv : v <= 7) {test : List (Nat × Bk) -> Bool} (hgo : goSub okM test (candM v) [] = true) {bs : List Bk} (h : IsSys v bs) : test (bs.map fun b => (pmask b, b)) = true := by
  have := goSub_all (candM v) [] (bs.map fun b => (pmask b, b)) hgo (List.Sublist.map _ (sys_triples h)) (by simpa using okM_of hv h)
  simpa using this

end Go.Proofs.YtfnegaedkomcgaaGreat
end

section
namespace Go.Proofs.YtfnegaedkomcgaaGreat
open Go.Ab Go.Sort

instance : DecidableEq Bk := fun x y => decidable_of_iff _ (Bk.eq3 x y).symm
end Go.Proofs.YtfnegaedkomcgaaGreat
end

section
namespace Go.Proofs.YtfnegaedkomcgaaGreat
open Go.Ab Go.Sort

theorem sortB_len (bs : List Bk) : (sortB bs).length = bs.length := (sortB_perm _ bs rfl).length_eq
end Go.Proofs.YtfnegaedkomcgaaGreat
end

section
namespace Go.Proofs.YtfnegaedkomcgaaGreat
open Go.Ab Go.Sort

theorem emptyAppend {e L : Nat} {H : Heap} {id : Nat} (hL : L <= id) (hb : H[id]? = some ⟨[], true, true⟩) (he : 0 < e) {m : Nat} {news : List Value} (hn : news.length = m * e) :
  ∃ v' H', appendH H e (.slice (some ⟨id, 0, none⟩) 0 0) m news = some (v', H') /\ OE e L H' v' news m /\ H <+: H' := by
 have hid := (List.getElem?_eq_some_iff.1 hb).1
 by_cases hm : m = 0
 ·subst hm
  have : news = [] := List.eq_nil_of_length_eq_zero (by simpa using hn)
  subst this
  exact ⟨_, H, by simp [appendH], OE.empty hL hb, List.prefix_refl _⟩
 ·have hc : cellsAt H id 0 0 = some [] := by rw [cellsAt_of hb rfl (by simp)]; simp
  exact ⟨lv e H.length 0 m, H ++ [⟨news, true, true⟩], by simp [appendH, hm, hc], ⟨hn, .inr (.inr ⟨H.length, by omega, rfl, .inr (by simp)⟩)⟩, List.prefix_append _ _⟩

end Go.Proofs.YtfnegaedkomcgaaGreat
end
