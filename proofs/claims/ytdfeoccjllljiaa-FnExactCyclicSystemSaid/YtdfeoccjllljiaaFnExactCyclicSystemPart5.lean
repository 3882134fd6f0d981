/- Part 5 of what the proof of the law FnExactCyclicSystem rests on: contracts of functions of the program, for every argument that each names; no statement of the seat is proved here. -/
import Derived.Test.YtdfeoccjllljiaaFnExactCyclicSystemPart4

section
/- Sorting by a function: the insertion sort that gives up. -/
set_option linter.all false
set_option maxRecDepth 20000
set_option maxHeartbeats 8000000
namespace Go.Proofs.Ytdfeoccjllljiaa
open Go.Ab Go.Sort

theorem partInsO_ok {H : Heap} {id a b n : Nat} {d : Array Int} {lt : Int → Int → Bool} {Q : Int → Prop} (hA : Arr cellsI H id d) (hn : d.size = n) (hl : n ≤ 1048576) (hab : a < b) (hb : b ≤ n) (hQ : QA Q d)
    (hC : CmpO lt Q id H) (Post : Value → Heap → Prop) (h : ∀ H', Same (fun k => k = id) H H' → Arr cellsI H' id (partialInsertionSort lt d a b).1 → Post (.bool (partialInsertionSort lt d a b).2) H') :
    ACalls Try.prog 195 [lv 1 id 0 n, .int .i64 a, .int .i64 b] H Post := by
  refine acalls_vc (rs := [.tmp 6]) Try.func195 rfl rfl Try.ntmps195 rfl rfl ?_
  obtain ⟨a1, ha1⟩ : ∃ a1, a1 = a + 1 := ⟨_, rfl⟩
  have w1 : IntKind.i64.wrap ((a : Int) + 1) = (a1 : Int) := by rw [ha1, i64w (by omega) (by omega)]; omega
  have w0 : IntKind.i64.wrap ((b : Int) - a) = (b : Int) - a := i64w (by omega) (by omega)
  have e0 : partialInsertionSort lt d a b = partialIns lt a b 5 a1 d := by rw [ha1]; rfl
  rw [e0] at h
  simp (maxSteps := 1000000) [go_sem, w1]
  refine AWp.loopVc (St := Nat × Nat × Array Int) (fun s => [(0, lv 1 id 0 n), (1, .int .i64 a), (2, .int .i64 b), (7, .int .i64 s.2.1), (8, .int .i64 s.1)])
    (fun s H' => s.1 ≤ 5 ∧ a < s.2.1 ∧ s.2.1 ≤ b ∧ s.2.2.size = n ∧ QA Q s.2.2 ∧ Same (fun k => k = id) H H' ∧ Arr cellsI H' id s.2.2 ∧ partialIns lt a b (5 - s.1) s.2.1 s.2.2 = partialIns lt a b 5 a1 d) (fun s => 5 - s.1) (0, a1, d) ?_ ?_ ?_
  · simp [upF, Fr.get, Up.refl]
  · exact ⟨by simp, by simp only; omega, by simp only; omega, hn, hQ, Same.refl _ _, hA, rfl⟩
  · rintro K0 ⟨t, i, d1⟩ H1 ⟨ht, hai, hib, hsz, hQ1, hS1, hA1, hO⟩ hK0
    simp only at ht hai hib hsz hQ1 hS1 hA1 hO
    by_cases ht5 : t < 5
    · have ht5' : (t : Int) < 5 := by omega
      have hw_t : IntKind.i64.wrap ((t : Int) + 1) = (t : Int) + 1 := i64w (by omega) (by omega)
      obtain ⟨q, hq⟩ : ∃ q, 5 - t = q + 1 := ⟨4 - t, by omega⟩
      have hq2 : 5 - (t + 1) = q := by omega
      rw [hq, partialIns_succ] at hO
      obtain ⟨bd1, bd2⟩ := scanSorted_bd (lt := lt) (d := d1) (i := i) (b := b) hib
      simp (maxSteps := 1000000) [go_sem, ht5, ht5']
      refine AWp.loopCut (St := Nat) (St' := Unit) 2 (fun s => [(0, lv 1 id 0 n), (1, .int .i64 a), (2, .int .i64 b), (7, .int .i64 s), (8, .int .i64 t)])
        (fun s H2 => a < s ∧ s ≤ b ∧ Same (fun k => k = id) H H2 ∧ Arr cellsI H2 id d1 ∧ scanSorted lt d1 b s = scanSorted lt d1 b i) (fun s => b - s) i
        (fun _ => [(0, lv 1 id 0 n), (1, .int .i64 a), (2, .int .i64 b), (7, .int .i64 ((scanSorted lt d1 b i : Nat) : Int)), (8, .int .i64 t)])
        (fun _ H2 => Same (fun k => k = id) H H2 ∧ Arr cellsI H2 id d1) ?_ ?_ ?_ ?_
      · simp [upF, Fr.get, Up.refl]
      · exact ⟨hai, hib, hS1, hA1, rfl⟩
      · rintro K KE s H2 ⟨has, hsb, hS2, hA2, hP⟩ hK hKE
        by_cases hsb2 : s < b
        · have hsb3 : (s : Int) < b := by omega
          obtain ⟨p, hp⟩ : ∃ p, s - 1 = p := ⟨_, rfl⟩
          have wp : IntKind.i64.wrap ((s : Int) - 1) = (p : Int) := by rw [← hp, i64w (by omega) (by omega)]; omega
          have hw_s : IntKind.i64.wrap ((s : Int) + 1) = (s : Int) + 1 := i64w (by omega) (by omega)
          have hi1 : s < d1.size := by omega
          have hi0 : p < d1.size := by omega
          have n1 : s < n := by omega
          have n0 : p < n := by omega
          have c1 := hA2.load cellsI_len hi1
          have c0 := hA2.load cellsI_len hi0
          have q1 := hQ1 _ hi1
          have q0 := hQ1 _ hi0
          obtain ⟨x, hx⟩ : ∃ x, d1[s]! = x := ⟨_, rfl⟩
          obtain ⟨y, hy⟩ : ∃ y, d1[p]! = y := ⟨_, rfl⟩
          rw [hx] at c1 q1
          rw [hy] at c0 q0
          simp only [cellsI, Nat.mul_one, Row.val] at c1 c0
          refine AWp.draw mixed [(0, false), (1, false), (2, false), (3, false), (4, false), (5, false), (6, false), (7, false), (8, false), (9, false), (10, false), (11, false), (12, false), (13, false), (14, false), (15, false)] (by kernel_rfl) ?_
          simp (maxSteps := 1000000) [go_sem, hsb2, hsb3, c1, c0, n1, n0, wp]
          refine hC H2 x y _ hS2 q1 q0 ?_
          intro H3 c hp3 hc
          have hS3 := hS2.via (Same.of_prefix (S := fun _ => False) hp3) (fun _ _ h => h.elim)
          have hA3 := hA2.pre hp3
          cases hl' : lt x y with
          | false =>
            rw [hl'] at hc
            have hc0 := hc
            simp (maxSteps := 1000000) [go_sem, hc, hc0, hw_s]
            exact hK (s + 1) _ _ (by omega) (by simp [upF, Fr.get, Up.refl]) ⟨by omega, by omega, hS3, hA3, by rw [← hP]; exact (scanSorted_go hsb2 (by rw [hp, hx, hy]; exact hl')).symm⟩
          | true =>
            rw [hl'] at hc
            have hc0 := hc
            rw [scanSorted_stop (.inr (by rw [hp, hx, hy]; exact hl'))] at hP
            simp (maxSteps := 1000000) [go_sem, hc, hc0]
            exact hKE () _ _ (by simp [upF, Fr.get, Up.refl, hP]) ⟨hS3, hA3⟩
        · rw [scanSorted_stop (.inl (by omega))] at hP
          have hsb3 : ¬ ((s : Int) < b) := by omega
          refine AWp.draw mixed [(0, false), (1, false), (2, false), (3, false), (4, false), (5, false), (6, false), (7, false), (8, false), (9, false), (10, false), (11, false), (12, false), (13, false), (14, false), (15, false)] (by kernel_rfl) ?_
          simp (maxSteps := 1000000) [go_sem, undef, hsb2, hsb3]
          exact hKE () _ _ (by simp [upF, Fr.get, Up.refl, hP]) ⟨hS2, hA2⟩
      rintro _ H2 ⟨hS2, hA2⟩
      obtain ⟨i2, hi2⟩ : ∃ I, scanSorted lt d1 b i = I := ⟨_, rfl⟩
      rw [hi2] at bd1 bd2 hO ⊢
      by_cases hib2 : i2 = b
      · subst hib2
        rw [if_pos rfl] at hO
        rw [← hO] at h
        simp (maxSteps := 1000000) [go_sem]
        exact h H2 hS2 hA2
      · rw [if_neg hib2] at hO
        have hib3 : ((i2 : Int) == (b : Int)) = false := by rw [beq_eq_false_iff_ne]; omega
        by_cases h50 : b - a < 50
        · have h50' : (b : Int) - a < 50 := by omega
          rw [if_pos h50] at hO
          rw [← hO] at h
          simp (maxSteps := 1000000) [go_sem, hib2, hib3, w0, h50']
          exact h H2 hS2 hA2
        · have h50' : ¬ ((b : Int) - a < 50) := by omega
          rw [if_neg h50] at hO
          obtain ⟨p, hp⟩ : ∃ p, i2 - 1 = p := ⟨_, rfl⟩
          have wp : IntKind.i64.wrap ((i2 : Int) - 1) = (p : Int) := by rw [← hp, i64w (by omega) (by omega)]; omega
          have wia : IntKind.i64.wrap ((i2 : Int) - a) = (i2 : Int) - a := i64w (by omega) (by omega)
          have wbi : IntKind.i64.wrap ((b : Int) - i2) = (b : Int) - i2 := i64w (by omega) (by omega)
          have wi1 : IntKind.i64.wrap ((i2 : Int) + 1) = (i2 : Int) + 1 := i64w (by omega) (by omega)
          rw [hp] at hO
          have u1 : i2 < (d1).size := by omega
          have u2 : p < (d1).size := by omega
          have u3 : i2 < n := by omega
          have u4 : p < n := by omega
          have uca := (hA2).load cellsI_len u1
          have ucb := (hA2).load cellsI_len u2
          obtain ⟨H5, H6, us1, us0, hA6, hS6, ul⟩ := (hA2).swap cellsI_len cellsI_one u1 u2
          obtain ⟨ux, uhx⟩ : ∃ x, x = (d1)[i2]! := ⟨_, rfl⟩
          obtain ⟨uy, uhy⟩ : ∃ y, y = (d1)[p]! := ⟨_, rfl⟩
          rw [← uhx] at uca us0
          rw [← uhy] at ucb us1
          simp only [cellsI, Nat.mul_one, Row.val] at uca ucb us0 us1
          have hQ6 := hQ1.swp u1 u2
          have hsz6 : (swp d1 i2 p).size = n := by rw [size_swp]; exact hsz
          have hS6 := hS2.trans hS6
          simp (maxSteps := 1000000) [go_sem, hib2, hib3, w0, h50']
          refine AWp.draw mixed [(0, false), (1, false), (2, false), (3, false), (4, false), (5, false), (6, false), (7, false), (8, false), (9, false), (10, false), (11, false), (12, false), (13, false), (14, false), (15, false), (16, false), (17, false)] (by kernel_rfl) ?_
          simp (maxSteps := 1000000) [go_sem, uca, ucb, u3, u4, us1, us0, wp]
          generalize swp d1 i2 p = d2 at *
          clear uca ucb us1 us0
          by_cases hd : 2 ≤ i2 - a
          · have hd' : (2 : Int) ≤ (i2 : Int) - a := by omega
            have e1 : fixDown lt a i2 d2 = shiftDown lt p d2 := by unfold fixDown; rw [if_pos hd, hp]
            rw [e1] at hO
            simp (maxSteps := 1000000) [go_sem, wia, hd, hd', wp]
            refine AWp.loopCut (St := Nat × Array Int) (St' := Unit) 4 (fun s => [(0, lv 1 id 0 n), (1, .int .i64 a), (2, .int .i64 b), (7, .int .i64 i2), (8, .int .i64 t), (9, .int .i64 s.1)])
              (fun s H2 => s.1 ≤ p ∧ s.2.size = n ∧ QA Q s.2 ∧ Same (fun k => k = id) H H2 ∧ Arr cellsI H2 id s.2 ∧ shiftDown lt s.1 s.2 = shiftDown lt p d2) (fun s => s.1) (p, d2)
              (fun _ => [(0, lv 1 id 0 n), (1, .int .i64 a), (2, .int .i64 b), (7, .int .i64 i2), (8, .int .i64 t)])
              (fun _ H2 => Same (fun k => k = id) H H2 ∧ Arr cellsI H2 id (shiftDown lt p d2)) ?_ ?_ ?_ ?_
            · simp [upF, Fr.get, Up.refl]
            · exact ⟨Nat.le_refl _, hsz6, hQ6, hS6, hA6, rfl⟩
            · rintro K KE ⟨s, d3⟩ H7 ⟨hsp, hsz3, hQ3, hS7, hA7, hP⟩ hK hKE
              simp only at hsp hsz3 hQ3 hS7 hA7 hP
              cases s with
              | zero =>
                have hP' : d3 = shiftDown lt p d2 := hP
                simp (maxSteps := 1000000) [go_sem]
                exact hKE () _ _ (by simp [upF, Fr.get, Up.refl]) ⟨hS7, hP' ▸ hA7⟩
              | succ r =>
                have hi1 : r + 1 < d3.size := by omega
                have hi0 : r < d3.size := by omega
                have n1 : r + 1 < n := by omega
                have n0 : r < n := by omega
                have m1 : (r : Int) + 1 < n := by omega
                have z1 : (0 : Int) ≤ (r : Int) + 1 := by omega
                have z2 : (1 : Int) ≤ (r : Int) + 1 := by omega
                have hwr : IntKind.i64.wrap (r : Int) = (r : Int) := i64w (by omega) (by omega)
                have c1 := hA7.load cellsI_len hi1
                have c0 := hA7.load cellsI_len hi0
                have q1 := hQ3 _ hi1
                have q0 := hQ3 _ hi0
                obtain ⟨x, hx⟩ : ∃ x, d3[r + 1]! = x := ⟨_, rfl⟩
                obtain ⟨y, hy⟩ : ∃ y, d3[r]! = y := ⟨_, rfl⟩
                rw [hx] at c1 q1
                rw [hy] at c0 q0
                simp only [cellsI, Nat.mul_one, Row.val] at c1 c0
                simp (maxSteps := 1000000) [go_sem, z2]
                refine AWp.draw mixed [(0, false), (1, false), (2, false), (3, false), (4, false), (5, false), (6, false), (7, false), (8, false), (9, false), (10, false)] (by kernel_rfl) ?_
                simp (maxSteps := 1000000) [go_sem, c1, c0, n1, n0, m1, z1, hwr]
                refine hC H7 x y _ hS7 q1 q0 ?_
                intro H8 c hp8 hc
                have hS8 := hS7.via (Same.of_prefix (S := fun _ => False) hp8) (fun _ _ h => h.elim)
                have hA8 := hA7.pre hp8
                cases hl' : lt x y with
                | false =>
                  rw [hl'] at hc
                  have hc0 := hc
                  rw [shiftDown_stop (by rw [hx, hy]; exact hl')] at hP
                  simp (maxSteps := 1000000) [go_sem, hc, hc0]
                  exact hKE () _ _ (by simp [upF, Fr.get, Up.refl]) ⟨hS8, hP ▸ hA8⟩
                | true =>
                  rw [hl'] at hc
                  have hc0 := hc
                  rw [shiftDown_go (by rw [hx, hy]; exact hl')] at hP
                  have v1 : (r + 1) < (d3).size := by omega
                  have v2 : r < (d3).size := by omega
                  have v3 : (r + 1) < n := by omega
                  have v4 : r < n := by omega
                  have vca := (hA8).load cellsI_len v1
                  have vcb := (hA8).load cellsI_len v2
                  obtain ⟨H9, HA, vs1, vs0, hAA, hSA, vl⟩ := (hA8).swap cellsI_len cellsI_one v1 v2
                  obtain ⟨vx, vhx⟩ : ∃ x, x = (d3)[(r + 1)]! := ⟨_, rfl⟩
                  obtain ⟨vy, vhy⟩ : ∃ y, y = (d3)[r]! := ⟨_, rfl⟩
                  rw [← vhx] at vca vs0
                  rw [← vhy] at vcb vs1
                  simp only [cellsI, Nat.mul_one, Row.val] at vca vcb vs0 vs1
                  simp (maxSteps := 1000000) [go_sem, hc, hc0]
                  refine AWp.draw mixed [(0, false), (1, false), (2, false), (3, false), (4, false), (5, false), (6, false), (7, false), (8, false), (9, false), (10, false), (11, false), (12, false), (13, false), (14, false), (15, false), (16, false), (17, false)] (by kernel_rfl) ?_
                  simp (maxSteps := 1000000) [go_sem, vca, vcb, v3, v4, m1, z1, vs1, vs0, hwr]
                  exact hK (r, swp d3 (r + 1) r) _ _ (by simp only; omega) (by simp [upF, Fr.get, Up.refl]) ⟨by simp only; omega, by rw [size_swp]; exact hsz3, hQ3.swp v1 v2, hS8.trans hSA, hAA, hP⟩
            rintro _ H7 ⟨hS7, hA7⟩
            have hsz7 : (shiftDown lt p d2).size = n := by rw [shiftDown_size]; exact hsz6
            have hQ7 := shiftDown_QA (lt := lt) (j := p) (by omega) hQ6
            simp (maxSteps := 1000000) [go_sem]
            obtain ⟨d9, hd9⟩ : ∃ d9, shiftDown lt p d2 = d9 := ⟨_, rfl⟩
            have hA9 := hA7
            have hQ9 := hQ7
            have hz9 := hsz7
            rw [hd9] at hA9 hQ9 hz9 hO
            by_cases hu : 2 ≤ b - i2
            · have hu' : (2 : Int) ≤ (b : Int) - i2 := by omega
              have e2 : fixUp lt b i2 d9 = shiftUp lt b (i2 + 1) d9 := by unfold fixUp; rw [if_pos hu]
              rw [e2] at hO
              simp (maxSteps := 1000000) [go_sem, wbi, hu, hu', wi1]
              refine AWp.loopCut (St := Nat × Array Int) (St' := Unit) 6 (fun s => [(0, lv 1 id 0 n), (1, .int .i64 a), (2, .int .i64 b), (7, .int .i64 i2), (8, .int .i64 t), (10, .int .i64 s.1)])
                (fun s H2 => i2 < s.1 ∧ s.1 ≤ b ∧ s.2.size = n ∧ QA Q s.2 ∧ Same (fun k => k = id) H H2 ∧ Arr cellsI H2 id s.2 ∧ shiftUp lt b s.1 s.2 = shiftUp lt b (i2 + 1) d9) (fun s => b - s.1) (i2 + 1, d9)
                (fun _ => [(0, lv 1 id 0 n), (1, .int .i64 a), (2, .int .i64 b), (7, .int .i64 i2), (8, .int .i64 t)])
                (fun _ H2 => Same (fun k => k = id) H H2 ∧ Arr cellsI H2 id (shiftUp lt b (i2 + 1) d9)) ?_ ?_ ?_ ?_
              · simp [upF, Fr.get, Up.refl]
              · exact ⟨by simp only; omega, by simp only; omega, hz9, hQ9, hS7, hA9, rfl⟩
              · rintro K KE ⟨s, d3⟩ HB ⟨hsi, hsb, hsz3, hQ3, hSB, hAB, hP⟩ hK hKE
                simp only at hsi hsb hsz3 hQ3 hSB hAB hP
                by_cases hsb2 : s < b
                · have hsb3 : (s : Int) < b := by omega
                  obtain ⟨r, hr⟩ : ∃ r, s - 1 = r := ⟨_, rfl⟩
                  have wr : IntKind.i64.wrap ((s : Int) - 1) = (r : Int) := by rw [← hr, i64w (by omega) (by omega)]; omega
                  have hw_s : IntKind.i64.wrap ((s : Int) + 1) = (s : Int) + 1 := i64w (by omega) (by omega)
                  have hi1 : s < d3.size := by omega
                  have hi0 : r < d3.size := by omega
                  have n1 : s < n := by omega
                  have n0 : r < n := by omega
                  have c1 := hAB.load cellsI_len hi1
                  have c0 := hAB.load cellsI_len hi0
                  have q1 := hQ3 _ hi1
                  have q0 := hQ3 _ hi0
                  obtain ⟨x, hx⟩ : ∃ x, d3[s]! = x := ⟨_, rfl⟩
                  obtain ⟨y, hy⟩ : ∃ y, d3[r]! = y := ⟨_, rfl⟩
                  rw [hx] at c1 q1
                  rw [hy] at c0 q0
                  simp only [cellsI, Nat.mul_one, Row.val] at c1 c0
                  simp (maxSteps := 1000000) [go_sem, hsb2, hsb3]
                  refine AWp.draw mixed [(0, false), (1, false), (2, false), (3, false), (4, false), (5, false), (6, false), (7, false), (8, false), (9, false), (10, false)] (by kernel_rfl) ?_
                  simp (maxSteps := 1000000) [go_sem, c1, c0, n1, n0, wr]
                  refine hC HB x y _ hSB q1 q0 ?_
                  intro HC c hpC hc
                  have hSC := hSB.via (Same.of_prefix (S := fun _ => False) hpC) (fun _ _ h => h.elim)
                  have hAC := hAB.pre hpC
                  cases hl' : lt x y with
                  | false =>
                    rw [hl'] at hc
                    have hc0 := hc
                    rw [shiftUp_stop hsb2 (by rw [hr, hx, hy]; exact hl')] at hP
                    simp (maxSteps := 1000000) [go_sem, hc, hc0]
                    exact hKE () _ _ (by simp [upF, Fr.get, Up.refl]) ⟨hSC, hP ▸ hAC⟩
                  | true =>
                    rw [hl'] at hc
                    have hc0 := hc
                    rw [shiftUp_go hsb2 (by rw [hr, hx, hy]; exact hl'), hr] at hP
                    have v1 : s < (d3).size := by omega
                    have v2 : r < (d3).size := by omega
                    have v3 : s < n := by omega
                    have v4 : r < n := by omega
                    have vca := (hAC).load cellsI_len v1
                    have vcb := (hAC).load cellsI_len v2
                    obtain ⟨HD, HE, vs1, vs0, hAE, hSE, vl⟩ := (hAC).swap cellsI_len cellsI_one v1 v2
                    obtain ⟨vx, vhx⟩ : ∃ x, x = (d3)[s]! := ⟨_, rfl⟩
                    obtain ⟨vy, vhy⟩ : ∃ y, y = (d3)[r]! := ⟨_, rfl⟩
                    rw [← vhx] at vca vs0
                    rw [← vhy] at vcb vs1
                    simp only [cellsI, Nat.mul_one, Row.val] at vca vcb vs0 vs1
                    simp (maxSteps := 1000000) [go_sem, hc, hc0]
                    refine AWp.draw mixed [(0, false), (1, false), (2, false), (3, false), (4, false), (5, false), (6, false), (7, false), (8, false), (9, false), (10, false), (11, false), (12, false), (13, false), (14, false), (15, false), (16, false), (17, false)] (by kernel_rfl) ?_
                    simp (maxSteps := 1000000) [go_sem, vca, vcb, v3, v4, vs1, vs0, wr, hw_s]
                    exact hK (s + 1, swp d3 s r) _ _ (by simp only; omega) (by simp [upF, Fr.get, Up.refl]) ⟨by simp only; omega, by simp only; omega, by rw [size_swp]; exact hsz3, hQ3.swp v1 v2, hSC.trans hSE, hAE, hP⟩
                · rw [shiftUp_end (by omega)] at hP
                  have hsb3 : ¬ ((s : Int) < b) := by omega
                  simp (maxSteps := 1000000) [go_sem, hsb2, hsb3]
                  exact hKE () _ _ (by simp [upF, Fr.get, Up.refl]) ⟨hSB, hP ▸ hAB⟩
              rintro _ HB ⟨hSB, hAB⟩
              simp (maxSteps := 1000000) [go_sem, hw_t]
              exact hK0 (t + 1, i2, shiftUp lt b (i2 + 1) d9) _ _ (by simp only; omega) (by simp [upF, Fr.get, Up.refl]) ⟨by simp only; omega, by simp only; omega, bd2, by rw [shiftUp_size]; exact hz9, shiftUp_QA (by omega) hQ9, hSB, hAB, by simp only [hq2]; exact hO⟩
            · have hu' : ¬ ((2 : Int) ≤ (b : Int) - i2) := by omega
              have e2 : fixUp lt b i2 d9 = d9 := by unfold fixUp; rw [if_neg hu]
              rw [e2] at hO
              simp (maxSteps := 1000000) [go_sem, wbi, hu, hu', hw_t]
              exact hK0 (t + 1, i2, d9) _ _ (by simp only; omega) (by simp [upF, Fr.get, Up.refl]) ⟨by simp only; omega, by simp only; omega, bd2, hz9, hQ9, hS7, hA9, by simp only [hq2]; exact hO⟩
          · have hd' : ¬ ((2 : Int) ≤ (i2 : Int) - a) := by omega
            have e1 : fixDown lt a i2 d2 = d2 := by unfold fixDown; rw [if_neg hd]
            rw [e1] at hO
            simp (maxSteps := 1000000) [go_sem, wia, hd, hd']
            obtain ⟨d9, hd9⟩ : ∃ d9, d2 = d9 := ⟨_, rfl⟩
            have hA9 := hA6
            have hQ9 := hQ6
            have hz9 := hsz6
            rw [hd9] at hA9 hQ9 hz9 hO
            by_cases hu : 2 ≤ b - i2
            · have hu' : (2 : Int) ≤ (b : Int) - i2 := by omega
              have e2 : fixUp lt b i2 d9 = shiftUp lt b (i2 + 1) d9 := by unfold fixUp; rw [if_pos hu]
              rw [e2] at hO
              simp (maxSteps := 1000000) [go_sem, wbi, hu, hu', wi1]
              refine AWp.loopCut (St := Nat × Array Int) (St' := Unit) 6 (fun s => [(0, lv 1 id 0 n), (1, .int .i64 a), (2, .int .i64 b), (7, .int .i64 i2), (8, .int .i64 t), (10, .int .i64 s.1)])
                (fun s H2 => i2 < s.1 ∧ s.1 ≤ b ∧ s.2.size = n ∧ QA Q s.2 ∧ Same (fun k => k = id) H H2 ∧ Arr cellsI H2 id s.2 ∧ shiftUp lt b s.1 s.2 = shiftUp lt b (i2 + 1) d9) (fun s => b - s.1) (i2 + 1, d9)
                (fun _ => [(0, lv 1 id 0 n), (1, .int .i64 a), (2, .int .i64 b), (7, .int .i64 i2), (8, .int .i64 t)])
                (fun _ H2 => Same (fun k => k = id) H H2 ∧ Arr cellsI H2 id (shiftUp lt b (i2 + 1) d9)) ?_ ?_ ?_ ?_
              · simp [upF, Fr.get, Up.refl]
              · exact ⟨by simp only; omega, by simp only; omega, hz9, hQ9, hS6, hA9, rfl⟩
              · rintro K KE ⟨s, d3⟩ HB ⟨hsi, hsb, hsz3, hQ3, hSB, hAB, hP⟩ hK hKE
                simp only at hsi hsb hsz3 hQ3 hSB hAB hP
                by_cases hsb2 : s < b
                · have hsb3 : (s : Int) < b := by omega
                  obtain ⟨r, hr⟩ : ∃ r, s - 1 = r := ⟨_, rfl⟩
                  have wr : IntKind.i64.wrap ((s : Int) - 1) = (r : Int) := by rw [← hr, i64w (by omega) (by omega)]; omega
                  have hw_s : IntKind.i64.wrap ((s : Int) + 1) = (s : Int) + 1 := i64w (by omega) (by omega)
                  have hi1 : s < d3.size := by omega
                  have hi0 : r < d3.size := by omega
                  have n1 : s < n := by omega
                  have n0 : r < n := by omega
                  have c1 := hAB.load cellsI_len hi1
                  have c0 := hAB.load cellsI_len hi0
                  have q1 := hQ3 _ hi1
                  have q0 := hQ3 _ hi0
                  obtain ⟨x, hx⟩ : ∃ x, d3[s]! = x := ⟨_, rfl⟩
                  obtain ⟨y, hy⟩ : ∃ y, d3[r]! = y := ⟨_, rfl⟩
                  rw [hx] at c1 q1
                  rw [hy] at c0 q0
                  simp only [cellsI, Nat.mul_one, Row.val] at c1 c0
                  simp (maxSteps := 1000000) [go_sem, hsb2, hsb3]
                  refine AWp.draw mixed [(0, false), (1, false), (2, false), (3, false), (4, false), (5, false), (6, false), (7, false), (8, false), (9, false), (10, false)] (by kernel_rfl) ?_
                  simp (maxSteps := 1000000) [go_sem, c1, c0, n1, n0, wr]
                  refine hC HB x y _ hSB q1 q0 ?_
                  intro HC c hpC hc
                  have hSC := hSB.via (Same.of_prefix (S := fun _ => False) hpC) (fun _ _ h => h.elim)
                  have hAC := hAB.pre hpC
                  cases hl' : lt x y with
                  | false =>
                    rw [hl'] at hc
                    have hc0 := hc
                    rw [shiftUp_stop hsb2 (by rw [hr, hx, hy]; exact hl')] at hP
                    simp (maxSteps := 1000000) [go_sem, hc, hc0]
                    exact hKE () _ _ (by simp [upF, Fr.get, Up.refl]) ⟨hSC, hP ▸ hAC⟩
                  | true =>
                    rw [hl'] at hc
                    have hc0 := hc
                    rw [shiftUp_go hsb2 (by rw [hr, hx, hy]; exact hl'), hr] at hP
                    have v1 : s < (d3).size := by omega
                    have v2 : r < (d3).size := by omega
                    have v3 : s < n := by omega
                    have v4 : r < n := by omega
                    have vca := (hAC).load cellsI_len v1
                    have vcb := (hAC).load cellsI_len v2
                    obtain ⟨HD, HE, vs1, vs0, hAE, hSE, vl⟩ := (hAC).swap cellsI_len cellsI_one v1 v2
                    obtain ⟨vx, vhx⟩ : ∃ x, x = (d3)[s]! := ⟨_, rfl⟩
                    obtain ⟨vy, vhy⟩ : ∃ y, y = (d3)[r]! := ⟨_, rfl⟩
                    rw [← vhx] at vca vs0
                    rw [← vhy] at vcb vs1
                    simp only [cellsI, Nat.mul_one, Row.val] at vca vcb vs0 vs1
                    simp (maxSteps := 1000000) [go_sem, hc, hc0]
                    refine AWp.draw mixed [(0, false), (1, false), (2, false), (3, false), (4, false), (5, false), (6, false), (7, false), (8, false), (9, false), (10, false), (11, false), (12, false), (13, false), (14, false), (15, false), (16, false), (17, false)] (by kernel_rfl) ?_
                    simp (maxSteps := 1000000) [go_sem, vca, vcb, v3, v4, vs1, vs0, wr, hw_s]
                    exact hK (s + 1, swp d3 s r) _ _ (by simp only; omega) (by simp [upF, Fr.get, Up.refl]) ⟨by simp only; omega, by simp only; omega, by rw [size_swp]; exact hsz3, hQ3.swp v1 v2, hSC.trans hSE, hAE, hP⟩
                · rw [shiftUp_end (by omega)] at hP
                  have hsb3 : ¬ ((s : Int) < b) := by omega
                  simp (maxSteps := 1000000) [go_sem, hsb2, hsb3]
                  exact hKE () _ _ (by simp [upF, Fr.get, Up.refl]) ⟨hSB, hP ▸ hAB⟩
              rintro _ HB ⟨hSB, hAB⟩
              simp (maxSteps := 1000000) [go_sem, hw_t]
              exact hK0 (t + 1, i2, shiftUp lt b (i2 + 1) d9) _ _ (by simp only; omega) (by simp [upF, Fr.get, Up.refl]) ⟨by simp only; omega, by simp only; omega, bd2, by rw [shiftUp_size]; exact hz9, shiftUp_QA (by omega) hQ9, hSB, hAB, by simp only [hq2]; exact hO⟩
            · have hu' : ¬ ((2 : Int) ≤ (b : Int) - i2) := by omega
              have e2 : fixUp lt b i2 d9 = d9 := by unfold fixUp; rw [if_neg hu]
              rw [e2] at hO
              simp (maxSteps := 1000000) [go_sem, wbi, hu, hu', hw_t]
              exact hK0 (t + 1, i2, d9) _ _ (by simp only; omega) (by simp [upF, Fr.get, Up.refl]) ⟨by simp only; omega, by simp only; omega, bd2, hz9, hQ9, hS6, hA9, by simp only [hq2]; exact hO⟩
    · have ht5' : ¬ ((t : Int) < 5) := by omega
      have e : 5 - t = 0 := by omega
      rw [e] at hO
      have hO' : (d1, false) = partialIns lt a b 5 a1 d := hO
      rw [← hO'] at h
      simp (maxSteps := 1000000) [go_sem, ht5, ht5']
      exact h H1 hS1 hA1

end Go.Proofs.Ytdfeoccjllljiaa
end

section
/- bits.Len of small numbers, the next power of two, the next number drawn by xorshift. -/
set_option linter.all false
set_option maxRecDepth 20000
set_option maxHeartbeats 4000000
namespace Go.Proofs.Ytdfeoccjllljiaa
open Go.Ab Go.Sort

theorem fdivNN (a b : Nat) : ((a : Int).fdiv (b : Int)) = ((a / b : Nat) : Int) := by
  rw [Int.fdiv_eq_ediv_of_nonneg _ (by omega)]; rfl
/-- A table of lengths. -/
def tabOK (s : ByteArray) : Bool := (List.range 256).all fun y => match s[y]? with | some v => v.toNat == bitsLen y | none => false
theorem bindO_tab {s : ByteArray} {x : Nat} {K : UInt8 → Prop} (ht : tabOK s = true) (hx : x < 256) (h : ∀ v : UInt8, v.toNat = bitsLen x → K v) : bindO s[x]? K := by
  have := List.all_eq_true.1 ht x (List.mem_range.2 hx)
  revert this
  cases hs : s[x]? with
  | none => intro h; cases h
  | some v => intro h2; exact ⟨v, rfl, h v (by simpa using h2)⟩
theorem bitsLen_lt {x k : Nat} (h : x < 2 ^ k) : bitsLen x ≤ k := (bitsLen_le_iff x k).2 h
theorem bitsLen_shift {x k : Nat} (h : 0 < x / 2 ^ k) : bitsLen x = k + bitsLen (x / 2 ^ k) := by
  have key : ∀ m, bitsLen x ≤ k + m ↔ bitsLen (x / 2 ^ k) ≤ m := by
    intro m
    rw [bitsLen_le_iff, bitsLen_le_iff, Nat.div_lt_iff_lt_mul (Nat.two_pow_pos k), ← Nat.pow_add, Nat.add_comm m k]
  have h1 := (key (bitsLen (x / 2 ^ k))).2 (Nat.le_refl _)
  have h2 : k ≤ bitsLen x := by
    rcases Nat.lt_or_ge (bitsLen x) k with h3 | h3
    · have := (bitsLen_le_iff x k).1 (by omega)
      rw [Nat.div_eq_of_lt this] at h; omega
    · exact h3
  have h3 := (key (bitsLen x - k)).1 (by omega)
  omega

theorem len64_ok {H : Heap} {x : Nat} (hx : x < 2097152) (Post : Value → Heap → Prop) (h : Post (.int .i64 (bitsLen x : Nat)) H) : ACalls Try.prog 200 [.int .u64 x] H Post := by
  refine acalls_vc (rs := [.tmp 2]) Try.func200 rfl rfl Try.ntmps200 rfl rfl ?_
  have a1 : ¬ ((4294967296 : Int) ≤ x) := by omega
  have a6 : ¬ 4294967296 ≤ x := by omega
  by_cases h1 : x < 256
  · have a2 : ¬ ((65536 : Int) ≤ x) := by omega
    have a3 : ¬ ((256 : Int) ≤ x) := by omega
    have a4 : ¬ 65536 ≤ x := by omega
    have a5 : ¬ 256 ≤ x := by omega
    have w1 : IntKind.u8.wrap (x : Int) = x := by rw [IntKind.wrap_u8]; omega
    simp (maxSteps := 1000000) [go_sem, a1, a2, a3, a4, a5, a6, w1]
    refine bindO_tab (by kernel_rfl) h1 ?_
    intro v hv
    have hb := bitsLen_lt (x := x) (k := 8) (by omega)
    generalize bitsLen x = L at *
    have w2 : IntKind.i64.wrap (L : Int) = L := i64w (by omega) (by omega)
    simp (maxSteps := 1000000) [go_sem, hv, w2]
    exact h
  · by_cases h2 : x < 65536
    · have a2 : ¬ ((65536 : Int) ≤ x) := by omega
      have a3 : ((256 : Int) ≤ x) := by omega
      have a4 : ¬ 65536 ≤ x := by omega
      have a5 : 256 ≤ x := by omega
      obtain ⟨y, hy⟩ : ∃ y, y = x / 256 := ⟨_, rfl⟩
      have hsh := bitsLen_shift (x := x) (k := 8) (by show 0 < x / 256; omega)
      have hsh' : bitsLen x = 8 + bitsLen y := by rw [hy]; exact hsh
      rw [hsh'] at h
      have w0 : (x : Int).fdiv 256 = y := by rw [show (256 : Int) = ((256 : Nat) : Int) from rfl, fdivNN, hy]
      have w4 : IntKind.i64.wrap 8 = 8 := i64w (by omega) (by omega)
      have w1 : IntKind.u8.wrap (y : Int) = y := by rw [IntKind.wrap_u8]; omega
      have hb := bitsLen_lt (x := y) (k := 8) (by omega)
      simp (maxSteps := 1000000) [go_sem, a1, a2, a3, a4, a5, a6, w0, w1]
      refine bindO_tab (by kernel_rfl) (show y < 256 by omega) ?_
      intro v hv
      generalize bitsLen y = L at *
      have w2 : IntKind.i64.wrap (L : Int) = L := i64w (by omega) (by omega)
      have w3 : IntKind.i64.wrap (8 + (L : Int)) = 8 + (L : Int) := i64w (by omega) (by omega)
      simp (maxSteps := 1000000) [go_sem, hv, w2, w3, w4]
      simpa using h
    · have a2 : ((65536 : Int) ≤ x) := by omega
      have a3 : ((256 : Int) ≤ x) := by omega
      have a4 : 65536 ≤ x := by omega
      have a5 : 256 ≤ x := by omega
      obtain ⟨y, hy⟩ : ∃ y, y = x / 65536 := ⟨_, rfl⟩
      have hsh := bitsLen_shift (x := x) (k := 16) (by show 0 < x / 65536; omega)
      have hsh' : bitsLen x = 16 + bitsLen y := by rw [hy]; exact hsh
      rw [hsh'] at h
      have w0 : (x : Int).fdiv 65536 = y := by rw [show (65536 : Int) = ((65536 : Nat) : Int) from rfl, fdivNN, hy]
      have w4 : IntKind.i64.wrap 16 = 16 := i64w (by omega) (by omega)
      have w1 : IntKind.u8.wrap (y : Int) = y := by rw [IntKind.wrap_u8]; omega
      have hb := bitsLen_lt (x := y) (k := 8) (by omega)
      have a7 : ¬ ((256 : Int) ≤ y) := by omega
      have a8 : ¬ 256 ≤ y := by omega
      simp (maxSteps := 1000000) [go_sem, a1, a2, a3, a4, a5, a6, w0, w1, a7, a8]
      refine bindO_tab (by kernel_rfl) (show y < 256 by omega) ?_
      intro v hv
      generalize bitsLen y = L at *
      have w2 : IntKind.i64.wrap (L : Int) = L := i64w (by omega) (by omega)
      have w3 : IntKind.i64.wrap (16 + (L : Int)) = 16 + (L : Int) := i64w (by omega) (by omega)
      simp (maxSteps := 1000000) [go_sem, hv, w2, w3, w4]
      simpa using h

theorem bitsLenC_ok {H : Heap} {x : Nat} (hx : x < 2097152) (Post : Value → Heap → Prop) (h : Post (.int .i64 (bitsLen x : Nat)) H) : ACalls Try.prog 184 [.int .u64 x] H Post := by
  refine acalls_vc (rs := [.tmp 2]) Try.func184 rfl rfl Try.ntmps184 rfl rfl ?_
  have w1 : IntKind.u64.wrap (x : Int) = x := by rw [IntKind.wrap_u64]; omega
  simp (maxSteps := 1000000) [go_sem, w1]
  refine len64_ok hx _ ?_
  simp (maxSteps := 1000000) [go_sem]
  exact h

theorem nextPow_ok {H : Heap} {x : Nat} (h0 : 0 < x) (hx : x < 2097152) (Post : Value → Heap → Prop) (h : ∀ m : Nat, 0 < m → m ≤ 2 * x → Post (.int .u64 m) H) : ACalls Try.prog 204 [.int .i64 x] H Post := by
  refine acalls_vc (rs := [.tmp 2]) Try.func204 rfl rfl Try.ntmps204 rfl rfl ?_
  have w1 : IntKind.u64.wrap (x : Int) = x := by rw [IntKind.wrap_u64]; omega
  simp (maxSteps := 1000000) [go_sem, w1]
  refine bitsLenC_ok hx _ ?_
  have hp := two_pow_bitsLen_le h0
  have hb := bitsLen_lt (x := x) (k := 21) (by omega)
  have fin := h _ (Nat.two_pow_pos (bitsLen x)) hp
  have hcast : ((2 : Int) ^ bitsLen x) = ((2 ^ bitsLen x : Nat) : Int) := by rw [Int.natCast_pow]; rfl
  have hmin : min (bitsLen x) 64 = bitsLen x := by omega
  generalize bitsLen x = L at *
  obtain ⟨T, hT⟩ : ∃ T, T = 2 ^ L := ⟨_, rfl⟩
  rw [← hT] at hcast hp fin
  have hsh : IntKind.u64.wrap ((2 : Int) ^ L) = T := by rw [hcast, IntKind.wrap_u64]; omega
  simp (maxSteps := 1000000) [go_sem, hmin, hsh]
  exact fin

theorem xorNext_ok {H : Heap} {rid : Nat} {z : Int} (hz : H[rid]? = some ⟨[.int .u64 z], true, true⟩) (Post : Value → Heap → Prop)
    (h : ∀ (z' : Nat) (H' : Heap), z' < 18446744073709551616 → Same (fun k => k = rid) H H' → H'[rid]? = some ⟨[.int .u64 z'], true, true⟩ → Post (.int .u64 z') H') :
    ACalls Try.prog 205 [.pointer (some ⟨rid, 0, none⟩)] H Post := by
  have hlt := (List.getElem?_eq_some_iff.1 hz).1
  have l0 : cellsAt H rid 0 1 = some [.int .u64 z] := by rw [cellsAt_of hz rfl (by simp)]; rfl
  have s0 : ∀ v : Int, storeAt H rid 0 [.int .u64 v] = some (H.set rid ⟨[.int .u64 v], true, true⟩) := by
    intro v; rw [storeAt_of hz rfl rfl (by simp) (by simp [Value.oneCell'])]; rfl
  have g1 : ∀ v : Int, (H.set rid ⟨[.int .u64 v], true, true⟩)[rid]? = some ⟨[.int .u64 v], true, true⟩ := fun v => List.getElem?_set_self hlt
  have l1 : ∀ v : Int, cellsAt (H.set rid ⟨[.int .u64 v], true, true⟩) rid 0 1 = some [.int .u64 v] := by
    intro v; rw [cellsAt_of (g1 v) rfl (by simp)]; rfl
  have s1 : ∀ v w : Int, storeAt (H.set rid ⟨[.int .u64 v], true, true⟩) rid 0 [.int .u64 w] = some (H.set rid ⟨[.int .u64 w], true, true⟩) := by
    intro v w; rw [storeAt_of (g1 v) rfl rfl (by simp) (by simp [Value.oneCell'])]; simp [over]
  have fin : ∀ v : Int, 0 ≤ v → v < 18446744073709551616 → Post (.int .u64 v) (H.set rid ⟨[.int .u64 v], true, true⟩) := by
    intro v h0 h1
    obtain ⟨k, rfl⟩ : ∃ k : Nat, v = k := ⟨v.toNat, by omega⟩
    exact h k _ (by omega) same_set (g1 _)
  refine acalls_vc (rs := [.tmp 2]) Try.func205 rfl rfl Try.ntmps205 rfl rfl ?_
  simp (maxSteps := 1000000) [go_sem]
  refine AWp.draw mixed [(0, false), (1, false), (2, false), (3, false), (4, false), (5, false), (6, false), (7, false), (8, false), (9, false)] (by kernel_rfl) ?_
  simp (maxSteps := 1000000) [go_sem, l0, s0]
  refine AWp.draw mixed [(0, false), (1, false), (2, false), (3, false), (4, false), (5, false), (6, false), (7, false), (8, false), (9, false)] (by kernel_rfl) ?_
  simp (maxSteps := 1000000) [go_sem, l1, s1]
  refine AWp.draw mixed [(0, false), (1, false), (2, false), (3, false), (4, false), (5, false), (6, false), (7, false), (8, false), (9, false)] (by kernel_rfl) ?_
  simp (maxSteps := 1000000) [go_sem, l1, s1]
  refine fin _ ?_ ?_ <;> (rw [IntKind.wrap_u64]; omega)

theorem and_u64r {a b : Nat} (hb : b < 2 ^ 62) : IntKind.u64.wrap ((@BitVec.toNat 64 (@HAnd.hAnd (BitVec 64) (BitVec 64) (BitVec 64) (@instHAndOfAndOp (BitVec IntKind.u64.bits) (@BitVec.instAndOp IntKind.u64.bits)) (BitVec.ofNat 64 a) (BitVec.ofNat 64 b)) : Nat) : Int) = (((a % 2 ^ 64) &&& b : Nat) : Int) := by
  have e : (@BitVec.toNat 64 (@HAnd.hAnd (BitVec 64) (BitVec 64) (BitVec 64) (@instHAndOfAndOp (BitVec IntKind.u64.bits) (@BitVec.instAndOp IntKind.u64.bits)) (BitVec.ofNat 64 a) (BitVec.ofNat 64 b))) = (a % 2 ^ 64) &&& b := by
    show ((BitVec.ofNat 64 a) &&& (BitVec.ofNat 64 b)).toNat = _
    rw [BitVec.toNat_and, BitVec.toNat_ofNat, BitVec.toNat_ofNat, Nat.mod_eq_of_lt (show b < 2 ^ 64 by omega)]
  rw [e, IntKind.wrap_u64]
  have h1 : (a % 2 ^ 64) &&& b ≤ b := Nat.and_le_right
  omega

end Go.Proofs.Ytdfeoccjllljiaa
end

section
/- Sorting by a function: the breaking of patterns. -/
set_option linter.all false
set_option maxRecDepth 20000
set_option maxHeartbeats 8000000
namespace Go.Proofs.Ytdfeoccjllljiaa
open Go.Ab Go.Sort

theorem breakO_ok {H : Heap} {id a b n : Nat} {d : Array Int} {Q : Int → Prop} (hA : Arr cellsI H id d) (hn : d.size = n) (hl : n ≤ 1048576) (hab : a ≤ b) (hb : b ≤ n) (hQ : QA Q d)
    (Post : Value → Heap → Prop) (h : ∀ H' d', Same (fun k => k = id) H H' → Arr cellsI H' id d' → QA Q d' → PermIn a b d d' → Post (.tuple #[]) H') :
    ACalls Try.prog 192 [lv 1 id 0 n, .int .i64 a, .int .i64 b] H Post := by
  refine acalls_vc (rs := []) Try.func192 rfl rfl Try.ntmps192 rfl rfl ?_
  obtain ⟨l, hll⟩ : ∃ l, l = b - a := ⟨_, rfl⟩
  obtain ⟨q, hq⟩ : ∃ q, q = l / 4 := ⟨_, rfl⟩
  have w0 : IntKind.i64.wrap ((b : Int) - a) = (l : Int) := by rw [hll, i64w (by omega) (by omega)]; omega
  by_cases h8 : 8 ≤ l
  · have h8' : (8 : Int) ≤ l := by omega
    obtain ⟨i0, hi0⟩ : ∃ i0, i0 = a + q * 2 - 1 := ⟨_, rfl⟩
    have w1 : IntKind.i64.wrap ((l : Int) / 4) = (q : Int) := by rw [hq, i64w (by omega) (by omega)]; omega
    have w2 : IntKind.i64.wrap ((q : Int) * 2) = (q : Int) * 2 := i64w (by omega) (by omega)
    have w3 : IntKind.i64.wrap ((a : Int) + (q : Int) * 2) = (a : Int) + (q : Int) * 2 := i64w (by omega) (by omega)
    have w4 : IntKind.i64.wrap ((a : Int) + (q : Int) * 2 - 1) = (i0 : Int) := by rw [hi0, i64w (by omega) (by omega)]; omega
    have w5 : IntKind.i64.wrap ((a : Int) + (q : Int) * 2 + 1) = (i0 : Int) + 2 := by rw [i64w (by omega) (by omega)]; omega
    have w6 : IntKind.u64.wrap (l : Int) = l := by rw [IntKind.wrap_u64]; omega
    simp (maxSteps := 1000000) [go_sem, w0, h8, h8', w6]
    have hp0 : H <+: H ++ [⟨[.int .u64 l], true, true⟩] := List.prefix_append _ _
    have hz0 : (H ++ [(⟨[.int .u64 l], true, true⟩ : Blk)])[H.length]? = some ⟨[.int .u64 l], true, true⟩ := by simp
    have hidl := hA.lt
    have hA0 := hA.pre hp0
    have hS0 : Same (fun k => k = id) H (H ++ [⟨[.int .u64 l], true, true⟩]) := Same.of_prefix hp0
    generalize H ++ [(⟨[.int .u64 l], true, true⟩ : Blk)] = H0 at hp0 hz0 hA0 hS0 ⊢
    refine nextPow_ok (by omega) (by omega) _ ?_
    intro m hm0 hm
    obtain ⟨m1, hm1⟩ : ∃ m1, m1 = m - 1 := ⟨_, rfl⟩
    have w7 : IntKind.u64.wrap ((m : Int) - 1) = (m1 : Int) := by rw [hm1, IntKind.wrap_u64]; omega
    simp (maxSteps := 1000000) [go_sem, w1, w2, w3, w4]
    refine AWp.loopVc (St := Nat × Array Int × Int) (fun s => [(0, lv 1 id 0 n), (1, .int .i64 a), (6, .int .i64 l), (7, .pointer (some ⟨H.length, 0, none⟩)), (8, .int .u64 m), (9, .int .i64 s.1)])
      (fun s H' => i0 ≤ s.1 ∧ s.1 ≤ i0 + 3 ∧ s.2.1.size = n ∧ QA Q s.2.1 ∧ Same (fun k => k = id) H H' ∧ Arr cellsI H' id s.2.1 ∧ PermIn a b d s.2.1 ∧ H'[H.length]? = some ⟨[.int .u64 s.2.2], true, true⟩) (fun s => i0 + 3 - s.1) (i0, d, (l : Int)) ?_ ?_ ?_
    · simp [upF, Fr.get, Up.refl]
    · exact ⟨Nat.le_refl _, by simp only; omega, hn, hQ, hS0, hA0, permIn_refl _ _ _, hz0⟩
    · rintro K ⟨i, d1, z⟩ H1 ⟨hi1, hi2, hsz, hQ1, hS1, hA1, hP, hz⟩ hK
      simp only at hi1 hi2 hsz hQ1 hS1 hA1 hP hz
      by_cases hi3 : i ≤ i0 + 2
      · have hi3' : (i : Int) ≤ (i0 : Int) + 2 := by omega
        have hw_i : IntKind.i64.wrap ((i : Int) + 1) = (i : Int) + 1 := i64w (by omega) (by omega)
        simp (maxSteps := 1000000) [go_sem, w1, w2, w3, w5, hi3, hi3']
        refine xorNext_ok hz _ ?_
        intro z' H2 hzl hS2 hz2
        have hA2 : Arr cellsI H2 id d1 := hS2.get hA1 (by omega)
        have hS2' : Same (fun k => k = id) H H2 := hS1.via hS2 (by intro j hj e; omega)
        obtain ⟨o, ho⟩ : ∃ o, o = (z' % 2 ^ 64) &&& m1 := ⟨_, rfl⟩
        have hol : o ≤ m1 := by rw [ho]; exact Nat.and_le_right
        have hand := and_u64r (a := z') (b := m1) (by omega)
        rw [← ho] at hand
        have w8 : IntKind.i64.wrap (o : Int) = o := i64w (by omega) (by omega)
        have fin : ∀ (o2 : Nat), o2 < l → ∀ (H3 : Heap), H3 = H2 → Same (fun k => k = id) H H3 := fun _ _ H3 e => e ▸ hS2'
        by_cases hol2 : l ≤ o
        · have hol2' : (l : Int) ≤ o := by omega
          obtain ⟨o2, ho2⟩ : ∃ o2, o2 = o - l := ⟨_, rfl⟩
          have w9 : IntKind.i64.wrap ((o : Int) - l) = (o2 : Int) := by rw [ho2, i64w (by omega) (by omega)]; omega
          have hlt : o2 < l := by omega
          simp (maxSteps := 1000000) [go_sem, w7, hand, w8, hol2, hol2', w9]
          obtain ⟨ao, hao⟩ : ∃ ao, ao = a + o2 := ⟨_, rfl⟩
          have wa : IntKind.i64.wrap ((a : Int) + o2) = (ao : Int) := by rw [hao, i64w (by omega) (by omega)]; omega
          have u1 : i < (d1).size := by omega
          have u2 : ao < (d1).size := by omega
          have u3 : i < n := by omega
          have u4 : ao < n := by omega
          have uca := (hA2).load cellsI_len u1
          have ucb := (hA2).load cellsI_len u2
          obtain ⟨H5, H6, us1, us0, hA6, hS6, ul⟩ := (hA2).swap cellsI_len cellsI_one u1 u2
          obtain ⟨ux, uhx⟩ : ∃ x, x = (d1)[i]! := ⟨_, rfl⟩
          obtain ⟨uy, uhy⟩ : ∃ y, y = (d1)[ao]! := ⟨_, rfl⟩
          rw [← uhx] at uca us0
          rw [← uhy] at ucb us1
          simp only [cellsI, Nat.mul_one, Row.val] at uca ucb us0 us1
          refine AWp.draw mixed [(0, false), (1, false), (2, false), (3, false), (4, false), (5, false), (6, false), (7, false), (8, false), (9, false), (10, false), (11, false), (12, false), (13, false), (14, false), (15, false), (16, false), (17, false), (18, false), (19, false)] (by kernel_rfl) ?_
          simp (maxSteps := 1000000) [go_sem, wa, uca, ucb, u3, u4, us1, us0, hw_i]
          have hz6 := hS6.get hz2 (by omega)
          exact hK (i + 1, swp d1 i ao, (z' : Int)) _ _ (by simp only; omega) (by simp [upF, Fr.get, Up.refl]) ⟨by simp only; omega, by simp only; omega, by rw [size_swp]; exact hsz, hQ1.swp u1 u2, hS2'.trans hS6, hA6, permIn_trans _ _ _ a b hP (swp_permIn d1 a b i ao (by omega) (by omega) (by omega) (by omega) (by omega)), hz6⟩
        · have hol2' : ¬ ((l : Int) ≤ o) := by omega
          have hlt : o < l := by omega
          simp (maxSteps := 1000000) [go_sem, w7, hand, w8, hol2, hol2']
          obtain ⟨ao, hao⟩ : ∃ ao, ao = a + o := ⟨_, rfl⟩
          have wa : IntKind.i64.wrap ((a : Int) + o) = (ao : Int) := by rw [hao, i64w (by omega) (by omega)]; omega
          have u1 : i < (d1).size := by omega
          have u2 : ao < (d1).size := by omega
          have u3 : i < n := by omega
          have u4 : ao < n := by omega
          have uca := (hA2).load cellsI_len u1
          have ucb := (hA2).load cellsI_len u2
          obtain ⟨H5, H6, us1, us0, hA6, hS6, ul⟩ := (hA2).swap cellsI_len cellsI_one u1 u2
          obtain ⟨ux, uhx⟩ : ∃ x, x = (d1)[i]! := ⟨_, rfl⟩
          obtain ⟨uy, uhy⟩ : ∃ y, y = (d1)[ao]! := ⟨_, rfl⟩
          rw [← uhx] at uca us0
          rw [← uhy] at ucb us1
          simp only [cellsI, Nat.mul_one, Row.val] at uca ucb us0 us1
          refine AWp.draw mixed [(0, false), (1, false), (2, false), (3, false), (4, false), (5, false), (6, false), (7, false), (8, false), (9, false), (10, false), (11, false), (12, false), (13, false), (14, false), (15, false), (16, false), (17, false), (18, false), (19, false)] (by kernel_rfl) ?_
          simp (maxSteps := 1000000) [go_sem, wa, uca, ucb, u3, u4, us1, us0, hw_i]
          have hz6 := hS6.get hz2 (by omega)
          exact hK (i + 1, swp d1 i ao, (z' : Int)) _ _ (by simp only; omega) (by simp [upF, Fr.get, Up.refl]) ⟨by simp only; omega, by simp only; omega, by rw [size_swp]; exact hsz, hQ1.swp u1 u2, hS2'.trans hS6, hA6, permIn_trans _ _ _ a b hP (swp_permIn d1 a b i ao (by omega) (by omega) (by omega) (by omega) (by omega)), hz6⟩
      · have hi3' : ¬ ((i : Int) ≤ (i0 : Int) + 2) := by omega
        simp (maxSteps := 1000000) [go_sem, w1, w2, w3, w5, hi3, hi3']
        exact h H1 d1 hS1 hA1 hQ1 hP
  · have h8' : ¬ ((8 : Int) ≤ l) := by omega
    have fin := h H d (Same.refl _ _) hA hQ (permIn_refl _ _ _)
    simp (maxSteps := 1000000) [go_sem, w0, h8, h8']
    exact fin

end Go.Proofs.Ytdfeoccjllljiaa
end

section
/- Sorting by a function: pdqsort. -/
set_option linter.all false
set_option maxRecDepth 20000
set_option maxHeartbeats 8000000
namespace Go.Proofs.Ytdfeoccjllljiaa
open Go.Ab Go.Sort

theorem pdqO_ok {lt : Int → Int → Bool} {Q : Int → Prop} {n : Nat} (hS : SWO lt) (hl : n ≤ 1048576) : ∀ (N : Nat) {H : Heap} {id a b limit : Nat} {d : Array Int}, b - a ≤ N → Arr cellsI H id d → d.size = n → a ≤ b → b ≤ n → limit ≤ 64 → Below lt a b d → QA Q d →
    CmpO lt Q id H → ∀ (Post : Value → Heap → Prop), (∀ H' d', Same (fun k => k = id) H H' → Arr cellsI H' id d' → PermIn a b d d' → SortedIn lt a b d' → Post (.tuple #[]) H') →
    ACalls Try.prog 183 [lv 1 id 0 n, .int .i64 a, .int .i64 b, .int .i64 limit] H Post := by
  intro N
  induction N using Nat.strongRecOn with
  | _ N ih =>
  intro H id a b limit d hN hA hn hab hb hlim hBel hQ hC Post h
  refine acalls_vc (rs := []) Try.func183 rfl rfl Try.ntmps183 rfl rfl ?_
  simp (maxSteps := 1000000) [go_sem]
  refine AWp.loopA (St := Nat × Nat × Nat × Bool × Bool × Array Int) (fun s => [(0, lv 1 id 0 n), (1, .int .i64 s.1), (2, .int .i64 s.2.1), (3, .int .i64 s.2.2.1), (8, .bool s.2.2.2.1), (9, .bool s.2.2.2.2.1)])
    (fun s H' => a ≤ s.1 ∧ s.1 ≤ s.2.1 ∧ s.2.1 ≤ b ∧ s.2.2.1 ≤ 64 ∧ s.2.2.2.2.2.size = n ∧ QA Q s.2.2.2.2.2 ∧ Same (fun k => k = id) H H' ∧ Arr cellsI H' id s.2.2.2.2.2 ∧ Below lt s.1 s.2.1 s.2.2.2.2.2 ∧
      ∀ R, PermIn s.1 s.2.1 s.2.2.2.2.2 R → SortedIn lt s.1 s.2.1 R → PermIn a b d R ∧ SortedIn lt a b R) (fun s => s.2.1 - s.1) (a, b, limit, true, true, d) ?_ ?_ ?_
  · simp [upF, Fr.get, Up.refl]
  · exact ⟨Nat.le_refl _, hab, Nat.le_refl _, hlim, hn, hQ, Same.refl _ _, hA, hBel, fun R h1 h2 => ⟨h1, h2⟩⟩
  · rintro K ⟨a1, b1, li, wb, wp, d1⟩ H1 ⟨haa, hab1, hbb, hli, hsz, hQ1, hS1, hA1, hB1, hfin⟩ hK
    simp only at haa hab1 hbb hli hsz hQ1 hS1 hA1 hB1 hfin
    obtain ⟨l, hll⟩ : ∃ l, l = b1 - a1 := ⟨_, rfl⟩
    have w0 : IntKind.i64.wrap ((b1 : Int) - a1) = (l : Int) := by rw [hll, i64w (by omega) (by omega)]; omega
    refine AWp.block ?_
    -- the length
    refine AWp.ofVc ?_
    simp (maxSteps := 1000000) [go_sem, w0]
    by_cases h12 : l ≤ 12
    · have h12' : (l : Int) ≤ 12 := by omega
      refine AWp.ofVc ?_
      simp (maxSteps := 1000000) [go_sem, h12, h12']
      refine insO_ok hA1 hsz hl (by omega) (by omega) hQ1 (hC.keep hS1) _ ?_
      intro H2 hS2 hA2
      obtain ⟨f1, f2⟩ := insertionSort_holds hS d1 a1 b1 (by omega) (by omega)
      obtain ⟨f3, f4⟩ := hfin _ f1 f2
      have fin := h H2 _ (hS1.trans hS2) hA2 f3 f4
      simp (maxSteps := 1000000) [go_sem]
      exact fin
    have h12' : ¬ ((l : Int) ≤ 12) := by omega
    refine AWp.ofVc ?_
    simp (maxSteps := 1000000) [go_sem, h12, h12']
    by_cases hl0 : li = 0
    · subst hl0
      refine AWp.ofVc ?_
      simp (maxSteps := 1000000) [go_sem]
      refine heapO_ok hA1 hsz hl (by omega) (by omega) hQ1 (hC.keep hS1) _ ?_
      intro H2 hS2 hA2
      obtain ⟨f1, f2⟩ := heapSort_holds hS d1 a1 b1 (by omega) (by omega)
      obtain ⟨f3, f4⟩ := hfin _ f1 f2
      have fin := h H2 _ (hS1.trans hS2) hA2 f3 f4
      simp (maxSteps := 1000000) [go_sem]
      exact fin
    have hl0' : ((li : Int) == 0) = false := by rw [beq_eq_false_iff_ne]; omega
    refine AWp.ofVc ?_
    simp (maxSteps := 1000000) [go_sem, hl0, hl0']
    -- the patterns
    refine AWp.seqCut (St := Nat × Array Int) (fun s => [(0, lv 1 id 0 n), (1, .int .i64 a1), (2, .int .i64 b1), (3, .int .i64 s.1), (8, .bool wb), (9, .bool wp), (10, .int .i64 l)])
      (fun s H' => s.1 ≤ 64 ∧ QA Q s.2 ∧ Same (fun k => k = id) H H' ∧ Arr cellsI H' id s.2 ∧ PermIn a1 b1 d1 s.2) ?_ ?_
    · intro KE hKE
      cases wb with
      | true =>
        simp (maxSteps := 1000000) [go_sem]
        exact hKE (li, d1) _ _ (by simp [upF, Fr.get, Up.refl]) ⟨hli, hQ1, hS1, hA1, permIn_refl _ _ _⟩
      | false =>
        obtain ⟨lj, hlj⟩ : ∃ lj, lj = li - 1 := ⟨_, rfl⟩
        have wl : IntKind.i64.wrap ((li : Int) - 1) = (lj : Int) := by rw [hlj, i64w (by omega) (by omega)]; omega
        simp (maxSteps := 1000000) [go_sem]
        refine breakO_ok hA1 hsz hl (by omega) (by omega) hQ1 _ ?_
        intro H2 d2 hS2 hA2 hQ2 hP2
        simp (maxSteps := 1000000) [go_sem, wl]
        exact hKE (lj, d2) _ _ (by simp [upF, Fr.get, Up.refl]) ⟨by simp only; omega, hQ2, hS1.trans hS2, hA2, hP2⟩
    rintro ⟨lj, d2⟩ H2 ⟨hlj, hQ2, hS2, hA2, hP2⟩
    simp only at hlj hQ2 hS2 hA2 hP2 ⊢
    have hsz2 : d2.size = n := by rw [hP2.1]; exact hsz
    -- the pivot
    refine AWp.ofVc ?_
    simp (maxSteps := 1000000) [go_sem]
    refine pivotO_ok hA2 hsz2 hl (by omega) (by omega) hQ2 (hC.keep hS2) _ ?_
    intro H3 p t hp3 hpr
    have hS3 := hS2.via (Same.of_prefix (S := fun _ => False) hp3) (fun _ _ h => h.elim)
    have hA3 := hA2.pre hp3
    simp (maxSteps := 1000000) [go_sem]
    refine AWp.seqCut (St := Nat × Int × Array Int) (fun s => [(0, lv 1 id 0 n), (1, .int .i64 a1), (2, .int .i64 b1), (3, .int .i64 lj), (8, .bool wb), (9, .bool wp), (10, .int .i64 l), (11, .int .i64 s.1), (12, .int .i64 s.2.1)])
      (fun s H' => a1 ≤ s.1 ∧ s.1 < b1 ∧ QA Q s.2.2 ∧ Same (fun k => k = id) H H' ∧ Arr cellsI H' id s.2.2 ∧ PermIn a1 b1 d2 s.2.2) ?_ ?_
    · intro KE hKE
      by_cases ht : t = 2
      · subst ht
        obtain ⟨p2, hp2⟩ : ∃ p2, p2 = b1 - 1 - (p - a1) := ⟨_, rfl⟩
        have w1 : IntKind.i64.wrap ((b1 : Int) - 1) = (b1 : Int) - 1 := i64w (by omega) (by omega)
        have w2 : IntKind.i64.wrap ((p : Int) - a1) = (p : Int) - a1 := i64w (by omega) (by omega)
        have w3 : IntKind.i64.wrap ((b1 : Int) - 1 - ((p : Int) - a1)) = (p2 : Int) := by rw [hp2, i64w (by omega) (by omega)]; omega
        simp (maxSteps := 1000000) [go_sem]
        refine reverseO_ok hA3 hsz2 hl (by omega) (by omega) _ ?_
        intro H4 hS4 hA4
        have hP4 := reverseRange_holds d2 a1 b1 (by omega) (by omega)
        simp (maxSteps := 1000000) [go_sem, w1, w2, w3]
        exact hKE (p2, 1, reverseRange d2 a1 b1) _ _ (by simp [upF, Fr.get, Up.refl]) ⟨by simp only; omega, by simp only; omega, QA_perm (by omega) hP4 hQ2, hS3.trans hS4, hA4, hP4⟩
      · have ht' : (t == 2) = false := by rw [beq_eq_false_iff_ne]; exact ht
        simp (maxSteps := 1000000) [go_sem, ht, ht']
        exact hKE (p, t, d2) _ _ (by simp [upF, Fr.get, Up.refl]) ⟨hpr.1, hpr.2, hQ2, hS3, hA3, permIn_refl _ _ _⟩
    rintro ⟨q, u, d3⟩ H4 ⟨hq1, hq2, hQ3, hS4, hA4, hP3⟩
    simp only at hq1 hq2 hQ3 hS4 hA4 hP3 ⊢
    have hsz3 : d3.size = n := by rw [hP3.1]; exact hsz2
    have hP13 := permIn_trans _ _ _ _ _ hP2 hP3
    have hB3 : Below lt a1 b1 d3 := hB1.perm (by omega) hP13
    -- it may be sorted
    refine AWp.seqCut (St := Array Int) (fun _ => [(0, lv 1 id 0 n), (1, .int .i64 a1), (2, .int .i64 b1), (3, .int .i64 lj), (8, .bool wb), (9, .bool wp), (10, .int .i64 l), (11, .int .i64 q)])
      (fun d4 H' => QA Q d4 ∧ Same (fun k => k = id) H H' ∧ Arr cellsI H' id d4 ∧ PermIn a1 b1 d1 d4) ?_ ?_
    · intro KE hKE
      have skip := fun fr' hfr => hKE d3 fr' H4 hfr ⟨hQ3, hS4, hA4, hP13⟩
      cases wb with
      | false =>
        simp (maxSteps := 1000000) [go_sem, undef]
        exact skip _ (by simp [upF, Fr.get, Up.refl])
      | true =>
        cases wp with
        | false =>
          simp (maxSteps := 1000000) [go_sem, undef]
          exact skip _ (by simp [upF, Fr.get, Up.refl])
        | true =>
          by_cases hu : u = 1
          · subst hu
            simp (maxSteps := 1000000) [go_sem]
            refine partInsO_ok hA4 hsz3 hl (by omega) (by omega) hQ3 (hC.keep hS4) _ ?_
            intro H6 hS6 hA6
            obtain ⟨f1, f2⟩ := partialInsertionSort_holds hS d3 a1 b1 (by omega) (by omega) hB3
            generalize partialInsertionSort lt d3 a1 b1 = r at *
            obtain ⟨d4, ok⟩ := r
            simp only at hA6 f1 f2 ⊢
            have hP14 := permIn_trans _ _ _ _ _ hP13 f1
            cases ok with
            | true =>
              obtain ⟨f3, f4⟩ := hfin _ hP14 (f2 rfl)
              have fin := h H6 _ (hS4.trans hS6) hA6 f3 f4
              simp (maxSteps := 1000000) [go_sem]
              exact fin
            | false =>
              simp (maxSteps := 1000000) [go_sem]
              exact hKE d4 _ _ (by simp [upF, Fr.get, Up.refl]) ⟨QA_perm (by omega) f1 hQ3, hS4.trans hS6, hA6, hP14⟩
          · have hu' : (u == 1) = false := by rw [beq_eq_false_iff_ne]; exact hu
            simp (maxSteps := 1000000) [go_sem, hu, hu']
            exact skip _ (by simp [upF, Fr.get, Up.refl])
    rintro d4 H6 ⟨hQ4, hS6, hA6, hP4⟩
    clear hA4 hA3 hA2 hS2 hS3 hS4 hP2 hP3 hP13 hQ2 hQ3 hB3
    have hsz4 : d4.size = n := by rw [hP4.1]; exact hsz
    have hB4 : Below lt a1 b1 d4 := hB1.perm (by omega) hP4
    have hfin4 : ∀ R, PermIn a1 b1 d4 R → SortedIn lt a1 b1 R → PermIn a b d R ∧ SortedIn lt a b R := fun R r1 r2 => hfin R (permIn_trans _ _ _ _ _ hP4 r1) r2
    -- the element ahead
    refine AWp.seqCut (St := Unit) (fun _ => [(0, lv 1 id 0 n), (1, .int .i64 a1), (2, .int .i64 b1), (3, .int .i64 lj), (8, .bool wb), (9, .bool wp), (10, .int .i64 l), (11, .int .i64 q)])
      (fun _ H' => Same (fun k => k = id) H H' ∧ Arr cellsI H' id d4) ?_ ?_
    · intro KE hKE
      by_cases ha0 : a1 = 0
      · subst ha0
        simp (maxSteps := 1000000) [go_sem]
        refine AWp.draw mixed [(0, false), (1, false), (2, false), (3, false), (4, false), (5, false), (6, false), (7, false), (8, false), (9, false), (10, false), (11, false), (12, false), (13, false), (14, false)] (by kernel_rfl) ?_
        simp (maxSteps := 1000000) [go_sem, undef]
        exact hKE () _ _ (by simp [upF, Fr.get, Up.refl]) ⟨hS6, hA6⟩
      · obtain ⟨r, hr⟩ : ∃ r, a1 - 1 = r := ⟨_, rfl⟩
        have wr : IntKind.i64.wrap ((a1 : Int) - 1) = (r : Int) := by rw [← hr, i64w (by omega) (by omega)]; omega
        have ha0' : (0 : Int) < a1 := by omega
        have ha1' : 0 < a1 := by omega
        have hi1 : r < d4.size := by omega
        have hi0 : q < d4.size := by omega
        have n1 : r < n := by omega
        have n0 : q < n := by omega
        have c1 := hA6.load cellsI_len hi1
        have c0 := hA6.load cellsI_len hi0
        have q1 := hQ4 _ hi1
        have q0 := hQ4 _ hi0
        obtain ⟨x, hx⟩ : ∃ x, d4[r]! = x := ⟨_, rfl⟩
        obtain ⟨y, hy⟩ : ∃ y, d4[q]! = y := ⟨_, rfl⟩
        rw [hx] at c1 q1
        rw [hy] at c0 q0
        simp only [cellsI, Nat.mul_one, Row.val] at c1 c0
        simp (maxSteps := 1000000) [go_sem]
        refine AWp.draw mixed [(0, false), (1, false), (2, false), (3, false), (4, false), (5, false), (6, false), (7, false), (8, false), (9, false), (10, false), (11, false), (12, false), (13, false), (14, false)] (by kernel_rfl) ?_
        simp (maxSteps := 1000000) [go_sem, ha0, ha0', ha1', c1, c0, n1, n0, wr]
        refine hC H6 x y _ hS6 q1 q0 ?_
        intro H7 c hp7 hc
        have hS7 := hS6.via (Same.of_prefix (S := fun _ => False) hp7) (fun _ _ h => h.elim)
        have hA7 := hA6.pre hp7
        cases hl' : lt x y with
        | true =>
          rw [hl'] at hc
          have hc0 := hc
          simp (maxSteps := 1000000) [go_sem, hc, hc0]
          exact hKE () _ _ (by simp [upF, Fr.get, Up.refl]) ⟨hS7, hA7⟩
        | false =>
          rw [hl'] at hc
          have hc0 := hc
          have hnl : lt d4[a1 - 1]! d4[q]! = false := by rw [hr, hx, hy]; exact hl'
          simp (maxSteps := 1000000) [go_sem, hc, hc0]
          refine partEqO_ok hA7 hsz4 hl hq1 hq2 (by omega) hQ4 (hC.keep hS7) _ ?_
          intro H8 hS8 hA8
          obtain ⟨⟨mid, d5⟩, he⟩ : ∃ r, partitionEqual lt d4 a1 b1 q = r := ⟨_, rfl⟩
          rw [he] at hA8 ⊢
          have hA8 : Arr cellsI H8 id d5 := hA8
          obtain ⟨r1, r2, r3, r4, r5⟩ := round_eq hS (partitionEqual_holds lt) ha1' hq1 hq2 (by omega) hB4 hnl he
          have hP5 : PermIn a1 b1 d4 d5 := by
            have := (partitionEqual_holds lt hS d4 a1 b1 q hq1 hq2 (by omega) (fun i hi hi' => by
              rcases hB4 with h0 | hB
              · omega
              · exact hS.ntrans _ _ _ (hB i hi hi') hnl)).2.2.1
            rw [he] at this; exact this
          simp (maxSteps := 1000000) [go_sem]
          exact hK (mid, b1, lj, wb, wp, d5) _ _ (by simp only; omega) (by simp [upF, Fr.get, Up.refl]) ⟨by simp only; omega, r2, hbb, hlj, by simp only; omega, QA_perm (by omega) hP5 hQ4, hS7.trans hS8, hA8, r4, fun R R1 R2 => by obtain ⟨g1, g2⟩ := r5 R R1 R2; exact hfin4 R g1 g2⟩
    rintro _ H7 ⟨hS7, hA7⟩
    refine AWp.ofVc ?_
    simp (maxSteps := 1000000) [go_sem]
    refine partO_ok hA7 hsz4 hl hq1 hq2 (by omega) hQ4 (hC.keep hS7) _ ?_
    intro H8 hS8 hA8
    obtain ⟨⟨mid, ap, d5⟩, he⟩ : ∃ r, partition lt d4 a1 b1 q = r := ⟨_, rfl⟩
    rw [he] at hA8 ⊢
    have hA8 : Arr cellsI H8 id d5 := hA8
    obtain ⟨r1, r2, r3, r4, r5, r6, r7⟩ := round_part hS (partition_holds lt) hq1 hq2 (by omega) hB4 he
    have hP5 : PermIn a1 b1 d4 d5 := by
      have := (partition_holds lt hS d4 a1 b1 q hq1 hq2 (by omega)).2.2.1
      rw [he] at this; exact this
    have hQ5 := QA_perm (by omega) hP5 hQ4
    have hS8 := hS7.trans hS8
    obtain ⟨ll, hll2⟩ : ∃ ll, ll = mid - a1 := ⟨_, rfl⟩
    obtain ⟨lr, hlr⟩ : ∃ lr, lr = b1 - mid := ⟨_, rfl⟩
    obtain ⟨m1, hm1⟩ : ∃ m1, m1 = mid + 1 := ⟨_, rfl⟩
    have w1 : IntKind.i64.wrap ((mid : Int) - a1) = (ll : Int) := by rw [hll2, i64w (by omega) (by omega)]; omega
    have w2 : IntKind.i64.wrap ((b1 : Int) - mid) = (lr : Int) := by rw [hlr, i64w (by omega) (by omega)]; omega
    have w3 : IntKind.i64.wrap ((l : Int) / 8) = (l : Int) / 8 := i64w (by omega) (by omega)
    have w4 : IntKind.i64.wrap ((mid : Int) + 1) = (m1 : Int) := by rw [hm1, i64w (by omega) (by omega)]; omega
    simp (maxSteps := 1000000) [go_sem]
    refine vc_sound _ _ _ _ ?_
    by_cases hlr2 : ll < lr
    · have hlr2' : (ll : Int) < lr := by omega
      simp (maxSteps := 1000000) [go_sem, w1, w2, w3, hlr2, hlr2']
      refine ih (mid - a1) (by omega) (Nat.le_refl _) hA8 (by omega) r1 (by omega) hlj r4 hQ5 (hC.keep hS8) _ ?_
      intro H9 d6 hS9 hA9 hP6 hs6
      obtain ⟨g1, g2⟩ := r6 d6 hP6 hs6
      simp (maxSteps := 1000000) [go_sem, w4]
      refine hK (m1, b1, lj, decide ((l : Int) / 8 ≤ ll), ap, d6) _ _ (by simp only; omega) (by simp [upF, Fr.get, Up.refl]) ⟨by simp only; omega, by simp only; omega, hbb, hlj, by simp only; rw [hP6.1]; omega, QA_perm (by omega) hP6 hQ5, hS8.trans hS9, hA9, by simp only [hm1]; exact g1, ?_⟩
      simp only [hm1]
      intro R R1 R2
      obtain ⟨k1, k2⟩ := g2 R R1 R2
      exact hfin4 R k1 k2
    · have hlr2' : ¬ ((ll : Int) < lr) := by omega
      simp (maxSteps := 1000000) [go_sem, w1, w2, w3, w4, hlr2, hlr2']
      refine ih (b1 - m1) (by omega) (Nat.le_refl _) hA8 (by omega) (by omega) (by omega) hlj (by rw [hm1]; exact r5) hQ5 (hC.keep hS8) _ ?_
      intro H9 d6 hS9 hA9 hP6 hs6
      rw [hm1] at hP6 hs6
      obtain ⟨g1, g2⟩ := r7 d6 hP6 hs6
      simp (maxSteps := 1000000) [go_sem]
      refine hK (a1, mid, lj, decide ((l : Int) / 8 ≤ lr), ap, d6) _ _ (by simp only; omega) (by simp [upF, Fr.get, Up.refl]) ⟨haa, r1, by simp only; omega, hlj, by simp only; rw [hP6.1]; omega, QA_perm (by omega) hP6 hQ5, hS8.trans hS9, hA9, g1, ?_⟩
      intro R R1 R2
      obtain ⟨k1, k2⟩ := g2 R R1 R2
      exact hfin4 R k1 k2

end Go.Proofs.Ytdfeoccjllljiaa
end

section
/- Sorting by a function: slices.Sort. -/
set_option linter.all false
set_option maxRecDepth 20000
set_option maxHeartbeats 8000000
namespace Go.Proofs.Ytdfeoccjllljiaa
open Go.Ab Go.Sort

theorem w64_0O : IntKind.i64.wrap 0 = 0 := i64w (by omega) (by omega)
theorem w64_1O : IntKind.i64.wrap 1 = 1 := i64w (by omega) (by omega)
theorem wu64_0O : IntKind.u64.wrap 0 = 0 := by rw [IntKind.wrap_u64]; omega
theorem ins0O_ok {H : Heap} {id : Nat} (Post : Value → Heap → Prop) (h : Post (.tuple #[]) H) :
    ACalls Try.prog 190 [lv 1 id 0 0, .int .i64 0, .int .i64 0] H Post := by
  refine acalls_vc (rs := []) Try.func190 rfl rfl Try.ntmps190 rfl rfl ?_
  simp (maxSteps := 1000000) [go_sem, w64_0O, w64_1O]
  refine AWp.loopVc (St := Unit) (fun _ => [(2, .int .i64 0), (6, .int .i64 1)]) (fun _ H' => H' = H) (fun _ => 0) () ?_ ?_ ?_
  · simp [upF, Fr.get, Up.refl]
  · rfl
  · rintro K _ H' rfl hK
    simp (maxSteps := 1000000) [go_sem, w64_0O, w64_1O]
    exact h
theorem pdq0O_ok {H : Heap} {id : Nat} {l : Int} (Post : Value → Heap → Prop) (h : Post (.tuple #[]) H) :
    ACalls Try.prog 183 [lv 1 id 0 0, .int .i64 0, .int .i64 0, .int .i64 l] H Post := by
  refine acalls_vc (rs := []) Try.func183 rfl rfl Try.ntmps183 rfl rfl ?_
  simp (maxSteps := 1000000) [go_sem, w64_0O, w64_1O]
  refine AWp.loopA (St := Unit) (fun _ => [(0, lv 1 id 0 0), (1, .int .i64 0), (2, .int .i64 0)]) (fun _ H' => H' = H) (fun _ => 0) () ?_ ?_ ?_
  · simp [upF, Fr.get, Up.refl]
  · rfl
  · rintro K _ H' rfl hK
    refine AWp.block ?_
    refine AWp.ofVc ?_
    simp (maxSteps := 1000000) [go_sem, w64_0O, w64_1O]
    refine AWp.ofVc ?_
    simp (maxSteps := 1000000) [go_sem, w64_0O, w64_1O]
    refine ins0O_ok _ ?_
    simp (maxSteps := 1000000) [go_sem, w64_0O, w64_1O]
    exact h

/-- slices.Sort: afterwards the same elements are there, ascending. -/
theorem sortFuncO_ok {H : Heap} {id n : Nat} {l : List Int} {lt : Int → Int → Bool} {Q : Int → Prop} (hS : SWO lt) (hA : OL 1 H id (l.flatMap cellsI) n) (hn : l.length = n) (hl : n ≤ 1048576) (hQ : ∀ x ∈ l, Q x)
    (hC : CmpO lt Q id H) (Post : Value → Heap → Prop)
    (h : ∀ (H' : Heap) (l' : List Int), Same (fun k => k = id) H H' → OL 1 H' id (l'.flatMap cellsI) n → l'.Perm l → l'.Pairwise (fun x y => lt y x = false) → Post (.tuple #[]) H') :
    ACalls Try.prog 161 [lv 1 id 0 n] H Post := by
  refine acalls_vc (rs := []) Try.func161 rfl rfl Try.ntmps161 rfl rfl ?_
  have w1 : IntKind.u64.wrap (n : Int) = n := by rw [IntKind.wrap_u64]; omega
  rcases hA.2 with ⟨h0, hg⟩ | hb
  · subst h0
    have hnil : l = [] := List.eq_nil_of_length_eq_zero hn
    subst hnil
    simp (maxSteps := 1000000) [go_sem, wu64_0O]
    refine bitsLenC_ok (x := 0) (by omega) _ ?_
    simp (maxSteps := 1000000) [go_sem]
    refine pdq0O_ok _ ?_
    simp (maxSteps := 1000000) [go_sem]
    exact h H [] (Same.refl _ _) hA (List.Perm.refl _) List.Pairwise.nil
  · have hA' : Arr cellsI H id l.toArray := by unfold Arr; simpa using hb
    have hQ' : QA Q l.toArray := by
      intro k hk
      rw [getElem!_pos l.toArray k hk]
      exact hQ _ (by simp)
    simp (maxSteps := 1000000) [go_sem, w1]
    refine bitsLenC_ok (by omega) _ ?_
    have hb64 : bitsLen n ≤ 64 := bitsLen_lt (by omega)
    simp (maxSteps := 1000000) [go_sem]
    refine pdqO_ok hS hl n (a := 0) (limit := bitsLen n) (by omega) hA' (by simpa using hn) (Nat.zero_le _) (Nat.le_refl _) hb64 (.inl rfl) hQ' hC _ ?_
    intro H' d' hS' hA2 hP hs
    have hsz : d'.size = n := by rw [hP.1]; simpa using hn
    have hp := perm_list (by simpa using hn) hP
    have fin := h H' d'.toList hS' ⟨by rw [flat_len cellsI_len, Array.length_toList, hsz], .inr hA2⟩ (by simpa using hp) (sorted_list hsz hs)
    simp (maxSteps := 1000000) [go_sem]
    exact fin

end Go.Proofs.Ytdfeoccjllljiaa
end

section
/- Contracts of the laws' own helpers over lists of numbers. They hold for every program that holds these functions. -/
set_option linter.all false
namespace Go.Proofs.Ytdfeoccjllljiaa
open Go.Ab

theorem eqInt64S_ok {H : Heap} {u v : Value} {xs ys : List Int} (hu : IntsAt H u xs) (hv : IntsAt H v ys) (Post : Value → Heap → Prop) (h : Post (.bool (decide (xs = ys))) H) :
    ACalls Try.prog 42 [u, v] H Post := by
  obtain ⟨i, o, rfl, h1, h2⟩ := hu
  obtain ⟨j, q, rfl, h3, h4⟩ := hv
  refine acalls_vc (rs := [.tmp 4]) Try.func42 rfl rfl Try.ntmps42 rfl rfl ?_
  simp (maxSteps := 1000000) [go_sem]
  refine condK_intro (fun hne => ?_) (fun heq => ?_)
  · have : xs ≠ ys := by rintro rfl; simp at hne
    simpa [this] using h
  · have hlen : xs.length = ys.length := by simp at heq; omega
    refine AWp.loopVc (fun s : Nat => [(0, lv 1 i o xs.length), (1, lv 1 j q ys.length), (5, .int .i64 s)]) (fun s H' => H' = H ∧ s ≤ xs.length ∧ xs.take s = ys.take s) (fun s => xs.length - s) 0 ?_ ?_ ?_
    · simp [upF, Fr.get, Up.refl]
    · simp
    · rintro K s H' ⟨rfl, hs, ht⟩ hK
      simp (maxSteps := 1000000) [go_sem]
      refine condK_intro (fun hlt => ?_) (fun hge => ?_)
      · have hlt : s < xs.length := by simpa using hlt
        have c1 := h1.cell (k := s) (v := .int .i64 xs[s]) (by simp [ints_get, hlt])
        have c2 := h3.cell (k := s) (v := .int .i64 (ys[s]'(by omega))) (by simp [ints_get, hlen ▸ hlt])
        have hw : IntKind.i64.wrap ((s : Int) + 1) = (s : Int) + 1 := i64w (by omega) (by omega)
        refine AWp.draw mixed [(0, false), (1, false), (2, false), (3, false), (4, false), (5, false), (6, false), (7, false), (8, false)] (by kernel_rfl) ?_
        simp (maxSteps := 1000000) [go_sem, hlt, hlen ▸ hlt, c1, c2, hw]
        refine condK_intro (fun hne => ?_) (fun heq => ?_)
        · have : xs ≠ ys := by rintro rfl; simp at hne
          simpa [this] using h
        · refine hK (s + 1) _ _ (by omega) (by simp [upF, Fr.get, Up.refl]) ⟨rfl, by omega, ?_⟩
          have he : xs[s] = ys[s]'(by omega) := by simpa using heq
          rw [List.take_succ_eq_append_getElem hlt, List.take_succ_eq_append_getElem (by omega), ht, he]
      · have : s = xs.length := by simp at hge; omega
        subst this
        rw [List.take_length, hlen, List.take_length] at ht
        simpa [ht] using h

theorem set_same {H : Heap} {i : Nat} {b : Blk} (h : H[i]? = some b) : H.set i b = H := by
  apply List.ext_getElem?
  intro j
  by_cases e : i = j
  · subst e; rw [List.getElem?_set_self (List.getElem?_eq_some_iff.1 h).1, h]
  · rw [List.getElem?_set_ne e]

theorem setInts_get {H : Heap} {i j : Nat} {xs : List Int} (hj : j ≠ i) : (setInts H i xs)[j]? = H[j]? := by
  unfold setInts
  split
  · rfl
  · exact List.getElem?_set_ne (fun e => hj e.symm)

theorem markInt64S_ok {H : Heap} {i : Nat} {k : Int} {xs : List Int} (hu : xs = [] ∨ H[i]? = some ⟨ints xs, true, true⟩) (hl : xs.length ≤ 140737488355328) (hk0 : 0 ≤ k) (hk : k + xs.length ≤ 9223372036854775807) (Post : Value → Heap → Prop)
    (h : Post (.int .i64 (k + xs.length)) (setInts H i (upFrom k xs.length))) :
    ACalls Try.prog 44 [lv 1 i 0 xs.length, .int .i64 k] H Post := by
  refine acalls_vc (rs := [.tmp 4]) Try.func44 rfl rfl Try.ntmps44 rfl rfl ?_
  simp (maxSteps := 1000000) [go_sem]
  refine AWp.loopVc (fun s : Nat => [(0, lv 1 i 0 xs.length), (1, .int .i64 (k + s)), (5, .int .i64 s)]) (fun s H' => s ≤ xs.length ∧ ((xs = [] ∧ H' = H) ∨ (H[i]? = some ⟨ints xs, true, true⟩ ∧ H' = H.set i ⟨ints (upFrom k s ++ xs.drop s), true, true⟩))) (fun s => xs.length - s) 0 ?_ ?_ ?_
  · simp [upF, Fr.get, Up.refl]
  · refine ⟨by omega, ?_⟩
    rcases hu with hu | hu
    · exact .inl ⟨hu, rfl⟩
    · refine .inr ⟨hu, ?_⟩
      simp only [upFrom, List.range_zero, List.map_nil, List.nil_append, List.drop_zero]
      exact (set_same hu).symm
  · rintro K s H' ⟨hs, hH⟩ hK
    by_cases hlt : s < xs.length
    · rcases hH with ⟨rfl, _⟩ | ⟨hb, rfl⟩
      · simp at hlt
      · have hi : i < H.length := (List.getElem?_eq_some_iff.1 hb).1
        have hlen : (ints (upFrom k s ++ xs.drop s)).length = xs.length := by simp [ints_length, upFrom_length]; omega
        have hst : storeAt (H.set i ⟨ints (upFrom k s ++ xs.drop s), true, true⟩) i s [.int .i64 (k + s)] = some (H.set i ⟨ints (upFrom k (s + 1) ++ xs.drop (s + 1)), true, true⟩) := by
          rw [storeAt_of (b := ⟨ints (upFrom k s ++ xs.drop s), true, true⟩) (by simp [hi]) rfl rfl (by show s + 1 ≤ (ints _).length; omega) (by simp [Value.oneCell'])]
          rw [over_one (by show s < (ints _).length; omega), ints_set, List.set_set]
          congr 4
          rw [List.set_append_right _ _ (by rw [upFrom_length]; omega), upFrom_length, Nat.sub_self, List.drop_eq_getElem_cons hlt, List.set_cons_zero, ← upFrom_append k s 1]
          simp [upFrom]
        have hw : IntKind.i64.wrap ((s : Int) + 1) = (s : Int) + 1 := i64w (by omega) (by omega)
        have hw2 : IntKind.i64.wrap (k + s + 1) = k + s + 1 := i64w (by omega) (by omega)
        simp (maxSteps := 1000000) [go_sem, hlt, hst, hw, hw2]
        exact hK (s + 1) _ _ (by omega) (by simp [upF, Fr.get, Up.refl, Int.add_assoc]) ⟨by omega, .inr ⟨hb, rfl⟩⟩
    · have : s = xs.length := by omega
      subst this
      simp (maxSteps := 1000000) [go_sem]
      have e : H' = setInts H i (upFrom k xs.length) := by
        unfold setInts
        rcases hH with ⟨rfl, rfl⟩ | ⟨hb, rfl⟩
        · simp [upFrom]
        · by_cases h0 : xs = []
          · subst h0
            simp only [upFrom, List.length_nil, List.range_zero, List.map_nil, if_true, List.nil_append, List.drop_nil]
            exact set_same hb
          · rw [if_neg (by intro e; have := congrArg List.length e; rw [upFrom_length] at this; exact h0 (List.eq_nil_of_length_eq_zero this))]
            simp
      rw [e]; exact h

theorem eqInt64SS_ok {H : Heap} {u v : Value} {xs ys : List (List Int)} (hu : IntssAt H u xs) (hv : IntssAt H v ys) (Post : Value → Heap → Prop) (h : Post (.bool (decide (xs = ys))) H) :
    ACalls Try.prog 39 [u, v] H Post := by
  obtain ⟨i, o, us, rfl, hul, h1, hu, h2⟩ := hu
  obtain ⟨j, q, vs, rfl, hvl, h3, hv, h4⟩ := hv
  refine acalls_vc (rs := [.tmp 4]) Try.func39 rfl rfl Try.ntmps39 rfl rfl ?_
  simp (maxSteps := 1000000) [go_sem]
  refine condK_intro (fun hne => ?_) (fun heq => ?_)
  · have : xs ≠ ys := by rintro rfl; simp at hne
    simpa [this] using h
  · have hlen : xs.length = ys.length := by simp at heq; omega
    refine AWp.loopVc (fun s : Nat => [(0, lv 1 i o xs.length), (1, lv 1 j q ys.length), (5, .int .i64 s)]) (fun s H' => H' = H ∧ s ≤ xs.length ∧ xs.take s = ys.take s) (fun s => xs.length - s) 0 ?_ ?_ ?_
    · simp [upF, Fr.get, Up.refl]
    · simp
    · rintro K s H' ⟨rfl, hs, ht⟩ hK
      simp (maxSteps := 1000000) [go_sem]
      refine condK_intro (fun hlt => ?_) (fun hge => ?_)
      · have hlt : s < xs.length := by simpa using hlt
        have c1 := h1.cell (k := s) (v := us[s]'(by omega)) (List.getElem?_eq_getElem _)
        have c2 := h3.cell (k := s) (v := vs[s]'(by omega)) (List.getElem?_eq_getElem _)
        have d1 := hu s _ xs[s] (List.getElem?_eq_getElem (by omega)) (List.getElem?_eq_getElem _)
        have d2 := hv s _ (ys[s]'(by omega)) (List.getElem?_eq_getElem (by omega)) (List.getElem?_eq_getElem _)
        have hw : IntKind.i64.wrap ((s : Int) + 1) = (s : Int) + 1 := i64w (by omega) (by omega)
        refine AWp.draw mixed [(0, false), (1, false), (2, false), (3, false), (4, false), (5, false), (6, false), (7, false), (8, false), (9, false)] (by kernel_rfl) ?_
        simp (maxSteps := 1000000) [go_sem, hlt, hlen ▸ hlt, c1, c2, hw]
        refine eqInt64S_ok d1 d2 _ ?_
        simp (maxSteps := 1000000) [go_sem, hlt, hlen ▸ hlt, c1, c2, hw]
        refine condK_intro (fun hne => ?_) (fun heq => ?_)
        · have : xs ≠ ys := by rintro rfl; simp at hne
          simpa [this] using h
        · refine hK (s + 1) _ _ (by omega) (by simp [upF, Fr.get, Up.refl]) ⟨rfl, by omega, ?_⟩
          have he : xs[s] = ys[s]'(by omega) := by simpa using heq
          rw [List.take_succ_eq_append_getElem hlt, List.take_succ_eq_append_getElem (by omega), ht, he]
      · have : s = xs.length := by simp at hge; omega
        subst this
        rw [List.take_length, hlen, List.take_length] at ht
        simpa [ht] using h

theorem markInt64SS_ok {H : Heap} {u : Value} {k : Int} {rows : List (Nat × List Int)} (hu : OwnRows H u rows) (hk0 : 0 ≤ k) (hk : k + (rows.map (·.2)).flatten.length ≤ 9223372036854775807) (Post : Value → Heap → Prop)
    (h : ∀ H', H'.length = H.length → Same (fun j => ∃ r ∈ rows, r.2 ≠ [] ∧ r.1 = j) H H' → IntssAt H' u (marked k (rows.map (·.2))) → Post (.int .i64 (k + (rows.map (·.2)).flatten.length)) H') :
    ACalls Try.prog 43 [u, .int .i64 k] H Post := by
  obtain ⟨id, rfl, hat, ⟨hrows, hnd⟩, hid, hl, hls⟩ := hu
  refine acalls_vc (rs := [.tmp 4]) Try.func43 rfl rfl Try.ntmps43 rfl rfl ?_
  simp (maxSteps := 1000000) [go_sem]
  generalize hxss : rows.map (·.2) = xss at *
  have hxl : xss.length = rows.length := by simp [← hxss]
  have hx : ∀ {s : Nat} {r : Nat × List Int}, rows[s]? = some r → xss[s]? = some r.2 := fun {s r} hr => by simp [← hxss, hr]
  refine AWp.loopVc (fun s : Nat => [(0, lv 1 id 0 rows.length), (1, .int .i64 (k + off xss s)), (5, .int .i64 s)])
    (fun s H' => s ≤ rows.length ∧ H'.length = H.length ∧ Same (fun j => ∃ r ∈ rows, r.2 ≠ [] ∧ r.1 = j) H H' ∧ ∀ (a : Nat) (r : Nat × List Int), rows[a]? = some r → r.2 ≠ [] → H'[r.1]? = some ⟨ints (if a < s then upFrom (k + off xss a) r.2.length else r.2), true, true⟩) (fun s => rows.length - s) 0 ?_ ?_ ?_
  · simp [upF, Fr.get, Up.refl, off]
  · refine ⟨by omega, rfl, Same.refl _ _, fun a r hr hne => ?_⟩
    rw [if_neg (by omega)]
    exact (hrows r (List.mem_of_getElem? hr)).resolve_left hne
  · rintro K s H' ⟨hs, hlen, hsame, hcont⟩ hK
    have houter : At H' id 0 (rows.map rowVal) := by
      rcases hat with h0 | h0
      · exact .inl h0
      · right
        obtain ⟨b, hb, hbl, hbn, he⟩ := cellsAt_inv h0
        have : H'[id]? = some b := hsame.get hb (by rintro ⟨r, hr, hne, he⟩; exact hid r hr hne he)
        rw [cellsAt_of this hbl hbn, ← he]
    by_cases hlt : s < rows.length
    · have hr : rows[s]? = some rows[s] := List.getElem?_eq_getElem hlt
      have c1 := houter.cell (k := s) (v := rowVal rows[s]) (by simp [hr])
      have hw : IntKind.i64.wrap ((s : Int) + 1) = (s : Int) + 1 := i64w (by omega) (by omega)
      have hle := off_le' (hx hr)
      have hoff := off_succ (hx hr)
      have hmem := List.mem_of_getElem? hr
      simp only [rowVal, Nat.zero_add] at c1
      simp (maxSteps := 1000000) [go_sem, hlt, c1, hw]
      refine markInt64S_ok (xs := rows[s].2) ?_ (hls _ hmem) (by omega) (by omega) _ ?_
      · by_cases h0 : rows[s].2 = []
        · exact .inl h0
        · right
          have := hcont s _ hr h0
          rwa [if_neg (by omega)] at this
      simp (maxSteps := 1000000) [go_sem, hlt, c1, hw]
      refine hK (s + 1) _ _ (by omega) (by simp [upF, Fr.get, Up.refl, hoff, Int.add_assoc]) ⟨by omega, ?_, ?_, ?_⟩
      · unfold setInts; split <;> simp [hlen]
      · refine hsame.trans ⟨by unfold setInts; split <;> simp, fun j hj hjs => ?_⟩
        by_cases h0 : rows[s].2 = []
        · simp [setInts, upFrom, h0]
        · exact setInts_get (fun e => hjs ⟨_, hmem, h0, e.symm⟩)
      · intro a r ha hne
        by_cases has : a = s
        · subst has
          rw [hr] at ha; cases ha
          rw [if_pos (by omega)]
          have hlt' : rows[a].1 < H'.length := (List.getElem?_eq_some_iff.1 (hcont a _ hr hne)).1
          rw [setInts, if_neg (by intro e; have := congrArg List.length e; rw [upFrom_length] at this; exact hne (List.eq_nil_of_length_eq_zero this)), List.getElem?_set_self hlt']
        · have e1 : (setInts H' rows[s].1 (upFrom (k + (off xss s : Int)) rows[s].2.length))[r.1]? = H'[r.1]? := by
            by_cases h0 : rows[s].2 = []
            · simp [setInts, upFrom, h0]
            · exact setInts_get (fun e => hnd a s r rows[s] ha hr has hne h0 e)
          rw [e1, hcont a r ha hne]
          by_cases h1 : a < s
          · rw [if_pos h1, if_pos (by omega)]
          · rw [if_neg h1, if_neg (by omega)]
    · have : s = rows.length := by omega
      subst this
      simp (maxSteps := 1000000) [go_sem]
      rw [← hxl, off_all]
      refine h H' hlen hsame ⟨id, 0, rows.map rowVal, by rw [marked_length, hxl], by rw [marked_length, hxl]; simp, houter, ?_, by rw [marked_length, hxl]; exact hl⟩
      intro a v xs hv hxs
      rw [marked_get, ← hxss] at hxs
      simp only [List.getElem?_map, Option.map_map, Option.map_eq_some_iff] at hv hxs
      obtain ⟨r, hr, rfl⟩ := hv
      obtain ⟨r', hr', rfl⟩ := hxs
      rw [hr] at hr'; cases hr'
      have hm := List.mem_of_getElem? hr
      refine ⟨r.1, 0, by simp [rowVal, upFrom_length], ?_, by simp [upFrom_length]; exact hls r hm⟩
      by_cases h0 : r.2 = []
      · left; simp [h0, upFrom, ints]
      · have := hcont a r hr h0
        rw [if_pos (List.getElem?_eq_some_iff.1 hr).1] at this
        refine Holds.at ⟨true, ?_⟩
        simp only [Function.comp, hxss]
        exact this

end Go.Proofs.Ytdfeoccjllljiaa
end

section
/- Contracts of the laws' own helpers over blocks and systems. They hold for every program that holds these functions. -/
set_option linter.all false
set_option maxRecDepth 20000
namespace Go.Proofs.Ytdfeoccjllljiaa
open Go.Ab

theorem eqBlock_ok {H : Heap} {b d : Bk} (Post : Value → Heap → Prop) (h : ∀ H', H <+: H' → Post (.bool (decide (b = d))) H') :
    ACalls Try.prog 124 [b.val, d.val] H Post := by
  refine acalls_vc (rs := [.tmp 4]) Try.func124 rfl rfl Try.ntmps124 rfl rfl ?_
  obtain ⟨b1, b2, b3⟩ := b
  obtain ⟨d1, d2, d3⟩ := d
  simp (maxSteps := 1000000) [go_sem, Bk.val, Value.oneCell']
  have h := h _ (List.prefix_append H [⟨[.int .i64 b1, .int .i64 b2, .int .i64 b3], true, true⟩, ⟨[.int .i64 d1, .int .i64 d2, .int .i64 d3], true, true⟩])
  refine AWp.loopVc (fun s : Nat => [(2, .pointer (some ⟨H.length, 0, none⟩)), (3, .pointer (some ⟨H.length + 1, 0, none⟩)), (5, .int .i64 s)])
    (fun s H' => s ≤ 3 ∧ H' = H ++ [⟨[.int .i64 b1, .int .i64 b2, .int .i64 b3], true, true⟩, ⟨[.int .i64 d1, .int .i64 d2, .int .i64 d3], true, true⟩] ∧ [b1, b2, b3].take s = [d1, d2, d3].take s) (fun s => 3 - s) 0 ?_ ?_ ?_
  · simp [upF, Fr.get, Up.refl]
  · simp
  · rintro K s H' ⟨hs, rfl, ht⟩ hK
    have : s = 0 ∨ s = 1 ∨ s = 2 ∨ s = 3 := by omega
    rcases this with rfl | rfl | rfl | rfl
    · simp (maxSteps := 1000000) [go_sem]
      refine AWp.draw mixed [(0, false), (1, false), (2, false), (3, false), (4, false), (5, false), (6, false)] (by kernel_rfl) ?_
      simp (maxSteps := 1000000) [go_sem, i64w (n := 1) (by omega) (by omega)]
      refine condK_intro (fun hne => ?_) (fun heq => ?_)
      · simp at hne; simpa [hne] using h
      · exact hK 1 _ _ (by omega) (by simp [upF, Fr.get, Up.refl]) ⟨by omega, rfl, by simpa using heq⟩
    · simp (maxSteps := 1000000) [go_sem]
      refine AWp.draw mixed [(0, false), (1, false), (2, false), (3, false), (4, false), (5, false), (6, false)] (by kernel_rfl) ?_
      simp (maxSteps := 1000000) [go_sem, i64w (n := 2) (by omega) (by omega)]
      refine condK_intro (fun hne => ?_) (fun heq => ?_)
      · simp at hne; simpa [hne] using h
      · exact hK 2 _ _ (by omega) (by simp [upF, Fr.get, Up.refl]) ⟨by omega, rfl, by simp at ht heq; simp [ht, heq]⟩
    · simp (maxSteps := 1000000) [go_sem]
      refine AWp.draw mixed [(0, false), (1, false), (2, false), (3, false), (4, false), (5, false), (6, false)] (by kernel_rfl) ?_
      simp (maxSteps := 1000000) [go_sem, i64w (n := 3) (by omega) (by omega)]
      refine condK_intro (fun hne => ?_) (fun heq => ?_)
      · simp at hne; simpa [hne] using h
      · exact hK 3 _ _ (by omega) (by simp [upF, Fr.get, Up.refl]) ⟨by omega, rfl, by simp at ht heq; simp [ht, heq]⟩
    · simp (maxSteps := 1000000) [go_sem]
      simp at ht
      simpa [ht] using h

theorem eqBlockS_ok {H : Heap} {u v : Value} {xs ys : List Bk} (hu : BlocksAt H u xs) (hv : BlocksAt H v ys) (Post : Value → Heap → Prop) (h : ∀ H', H <+: H' → Post (.bool (decide (xs = ys))) H') :
    ACalls Try.prog 59 [u, v] H Post := by
  obtain ⟨i, o, rfl, h1, h2⟩ := hu
  obtain ⟨j, q, rfl, h3, h4⟩ := hv
  refine acalls_vc (rs := [.tmp 4]) Try.func59 rfl rfl Try.ntmps59 rfl rfl ?_
  simp (maxSteps := 1000000) [go_sem]
  refine condK_intro (fun hne => ?_) (fun heq => ?_)
  · have : xs ≠ ys := by rintro rfl; simp at hne
    simpa [this] using h H (List.prefix_refl _)
  · have hlen : xs.length = ys.length := by simp at heq; omega
    refine AWp.loopVc (fun s : Nat => [(0, lv 3 i o xs.length), (1, lv 3 j q ys.length), (5, .int .i64 s)]) (fun s H' => H <+: H' ∧ s ≤ xs.length ∧ xs.take s = ys.take s) (fun s => xs.length - s) 0 ?_ ?_ ?_
    · simp [upF, Fr.get, Up.refl]
    · exact ⟨List.prefix_refl _, by omega, by simp⟩
    · rintro K s H' ⟨hp, hs, ht⟩ hK
      simp (maxSteps := 1000000) [go_sem]
      refine condK_intro (fun hlt => ?_) (fun hge => ?_)
      · have hlt : s < xs.length := by simpa using hlt
        have c1 := (h1.pre hp).bk (s := s) (b := xs[s]) (List.getElem?_eq_getElem _)
        have c2 := (h3.pre hp).bk (s := s) (b := ys[s]'(by omega)) (List.getElem?_eq_getElem _)
        simp only [Bk.cells] at c1 c2
        have hw : IntKind.i64.wrap ((s : Int) + 1) = (s : Int) + 1 := i64w (by omega) (by omega)
        refine AWp.draw mixed [(0, false), (1, false), (2, false), (3, false), (4, false), (5, false), (6, false), (7, false), (8, false), (9, false)] (by kernel_rfl) ?_
        simp (maxSteps := 1000000) [go_sem, hlt, hlen ▸ hlt, c1, c2]
        refine eqBlock_ok (b := xs[s]) (d := ys[s]'(by omega)) _ ?_
        intro H2 hp2
        simp (maxSteps := 1000000) [go_sem, hw]
        refine condK_intro (fun hne => ?_) (fun heq => ?_)
        · have : xs ≠ ys := by rintro rfl; simp at hne
          simpa [this] using h H2 (hp.trans hp2)
        · refine hK (s + 1) _ _ (by omega) (by simp [upF, Fr.get, Up.refl]) ⟨hp.trans hp2, by omega, ?_⟩
          have he : xs[s] = ys[s]'(by omega) := by simpa using heq
          rw [List.take_succ_eq_append_getElem hlt, List.take_succ_eq_append_getElem (by omega), ht, he]
      · have : s = xs.length := by simp at hge; omega
        subst this
        rw [List.take_length, hlen, List.take_length] at ht
        simpa [ht] using h H' hp

theorem eqSystem_ok {H : Heap} {u v : Value} {p q : Int} {xs ys : List Bk} (hu : BlocksAt H u xs) (hv : BlocksAt H v ys) (Post : Value → Heap → Prop) (h : ∀ H', H <+: H' → Post (.bool (decide (p = q ∧ xs = ys))) H') :
    ACalls Try.prog 26 [sysV p u, sysV q v] H Post := by
  refine acalls_vc (rs := [.tmp 4]) Try.func26 rfl rfl Try.ntmps26 rfl rfl ?_
  obtain ⟨i, o, rfl, h1, h2⟩ := hu
  obtain ⟨j, r, rfl, h3, h4⟩ := hv
  simp (maxSteps := 1000000) [go_sem, sysV, Value.oneCell']
  refine condK_intro (fun hne => ?_) (fun heq => ?_)
  · have : ¬ p = q := by simpa using hne
    simpa [this] using h _ (List.prefix_append H _)
  · have : p = q := by simpa using heq
    subst this
    refine eqBlockS_ok ⟨i, o, rfl, h1.pre (List.prefix_append _ _), h2⟩ ⟨j, r, rfl, h3.pre (List.prefix_append _ _), h4⟩ _ ?_
    intro H' hp
    have h := h H' ((List.prefix_append _ _).trans hp)
    simp (maxSteps := 1000000) [go_sem]
    refine condK_intro (fun hne => ?_) (fun heq => ?_)
    · have : ¬ xs = ys := by simpa using hne
      simpa [this] using h
    · have : xs = ys := by simpa using heq
      simpa [this] using h

end Go.Proofs.Ytdfeoccjllljiaa
end

section
/- SquareOf, of the program and of the specification: what each computes. They hold for every number. -/
set_option linter.all false
set_option maxRecDepth 20000
namespace Go.Proofs.Ytdfeoccjllljiaa
open Go.Ab

theorem within_ok {H : Heap} {n lo hi : Int} (Post : Value → Heap → Prop) (h : Post (.bool (decide (lo ≤ n) && decide (n ≤ hi))) H) :
    ACalls Try.prog 93 [.int .i64 n, .int .i64 lo, .int .i64 hi] H Post := by
  refine acalls_vc (rs := [.tmp 6]) Try.func93 rfl rfl Try.ntmps93 rfl rfl ?_
  simp (maxSteps := 1000000) [go_sem]
  refine condK_intro (fun h1 => ?_) (fun h1 => ?_) <;> simp_all

end Go.Proofs.Ytdfeoccjllljiaa
end

section
/- Systems in plain terms: what is a good block, what comes before, what fits. No program is in sight here. -/
set_option linter.all false
namespace Go.Ab

def good (v : Int) (b : Bk) : Bool := decide (0 ≤ b.a) && decide (b.a < b.b) && decide (b.b < b.c) && decide (b.c < v)
def before (x y : Bk) : Bool := if x.a ≠ y.a then decide (x.a < y.a) else if x.b ≠ y.b then decide (x.b < y.b) else decide (x.c < y.c)
def eq01 (x y : Int) : Nat := if x = y then 1 else 0
def common (x y : Bk) : Nat := eq01 x.a y.a + eq01 x.a y.b + eq01 x.a y.c + (eq01 x.b y.a + eq01 x.b y.b + eq01 x.b y.c) + (eq01 x.c y.a + eq01 x.c y.b + eq01 x.c y.c)
/-- The numbers of a block by their place. -/
def Bk.nth (b : Bk) (i : Nat) : Int := if i = 0 then b.a else if i = 1 then b.b else b.c
/-- How many of the first pairs are equal: i rows and k more. -/
def cnt (x y : Bk) (i k : Nat) : Nat :=
  (if 0 < i then eq01 x.a y.a + eq01 x.a y.b + eq01 x.a y.c else 0) + (if 1 < i then eq01 x.b y.a + eq01 x.b y.b + eq01 x.b y.c else 0) + (if 2 < i then eq01 x.c y.a + eq01 x.c y.b + eq01 x.c y.c else 0) +
  ((if 0 < k then eq01 (x.nth i) y.a else 0) + (if 1 < k then eq01 (x.nth i) y.b else 0) + (if 2 < k then eq01 (x.nth i) y.c else 0))

/-- The first n blocks fit, each with those ahead of it. -/
def Fits (bs : List Bk) : Prop := ∀ (i k : Nat) (x y : Bk), k < i → bs[i]? = some x → bs[k]? = some y → common x y ≤ 1
/-- Each block is good and comes behind the one ahead of it. -/
def Sorted (v : Int) (bs : List Bk) : Prop := ∀ (i : Nat) (x : Bk), bs[i]? = some x → good v x = true ∧ ∀ y, 0 < i → bs[i - 1]? = some y → before y x = true
def IsSys (p : Int) (bs : List Bk) : Prop := (3 ≤ p ∧ p ≤ 15) ∧ bs.length ≤ 35 ∧ Sorted p bs ∧ Fits bs

/-- A list is strictly ascending, from 0 to below n. -/
def Rises (n : Int) (xs : List Int) : Prop := ∀ (a : Nat) (x : Int), xs[a]? = some x → (0 ≤ x ∧ x < n) ∧ ∀ y, 0 < a → xs[a - 1]? = some y → y < x

theorem rises_block (v : Int) (b : Bk) : Rises v [b.a, b.b, b.c] ↔ good v b = true := by
  simp only [good, Bool.and_eq_true, decide_eq_true_eq]
  constructor
  · intro h
    have h0 := h 0 b.a rfl
    have h1 := h 1 b.b rfl
    have h2 := h 2 b.c rfl
    have := h1.2 b.a (by omega) rfl
    have := h2.2 b.b (by omega) rfl
    omega
  · intro h a x hx
    match a, hx with
    | 0, hx => simp at hx; subst hx; exact ⟨by omega, by omega⟩
    | 1, hx => simp at hx; subst hx; exact ⟨by omega, fun y _ hy => by simp at hy; omega⟩
    | 2, hx => simp at hx; subst hx; exact ⟨by omega, fun y _ hy => by simp at hy; omega⟩
    | a + 3, hx => simp at hx

/-- How two lists compare. -/
def lexC : List Int → List Int → Int
  | [], [] => 0
  | [], _ :: _ => -1
  | _ :: _, [] => 1
  | x :: xs, y :: ys => if x < y then -1 else if y < x then 1 else lexC xs ys

theorem lexC_block (x y : Bk) : (0 ≤ lexC [x.a, x.b, x.c] [y.a, y.b, y.c]) ↔ before x y = false := by
  simp only [lexC, before]
  repeat' split
  all_goals simp_all
  all_goals omega

end Go.Ab
end

section
/- What the specification's functions on systems compute. -/
set_option linter.all false
set_option maxRecDepth 20000
namespace Go.Proofs.Ytdfeoccjllljiaa
open Go.Ab

theorem l01Before_ok {H : Heap} {b d : Bk} (Post : Value → Heap → Prop) (h : ∀ H', H <+: H' → Post (.bool (before b d)) H') :
    ACalls Try.prog 140 [b.val, d.val] H Post := by
  refine acalls_vc (rs := [.tmp 4]) Try.func140 rfl rfl Try.ntmps140 rfl rfl ?_
  obtain ⟨b1, b2, b3⟩ := b
  obtain ⟨d1, d2, d3⟩ := d
  simp (maxSteps := 1000000) [go_sem, Bk.val, Value.oneCell']
  have h := h _ (List.prefix_append H [⟨[.int .i64 b1, .int .i64 b2, .int .i64 b3], true, true⟩, ⟨[.int .i64 d1, .int .i64 d2, .int .i64 d3], true, true⟩])
  simp only [before] at h
  refine AWp.loopVc (fun s : Nat => [(2, .pointer (some ⟨H.length, 0, none⟩)), (3, .pointer (some ⟨H.length + 1, 0, none⟩)), (5, .int .i64 s)])
    (fun s H' => s ≤ 3 ∧ H' = H ++ [⟨[.int .i64 b1, .int .i64 b2, .int .i64 b3], true, true⟩, ⟨[.int .i64 d1, .int .i64 d2, .int .i64 d3], true, true⟩] ∧ [b1, b2, b3].take s = [d1, d2, d3].take s) (fun s => 3 - s) 0 ?_ ?_ ?_
  · simp [upF, Fr.get, Up.refl]
  · simp
  · rintro K s H' ⟨hs, rfl, ht⟩ hK
    have cn : List (Nat × Bool) := []
    have : s = 0 ∨ s = 1 ∨ s = 2 ∨ s = 3 := by omega
    rcases this with rfl | rfl | rfl | rfl
    · simp (maxSteps := 1000000) [go_sem]
      refine AWp.draw mixed [(0, false), (1, false), (2, false), (3, false), (4, false), (5, false), (6, false)] (by kernel_rfl) ?_
      simp (maxSteps := 1000000) [go_sem, i64w (n := 1) (by omega) (by omega)]
      refine condK_intro (fun hne => ?_) (fun heq => ?_)
      · refine AWp.draw mixed [(0, false), (1, false), (2, false), (3, false), (4, false), (5, false), (6, false), (7, false)] (by kernel_rfl) ?_
        simp (maxSteps := 1000000) [go_sem]
        simp at hne; simpa [hne] using h
      · exact hK 1 _ _ (by omega) (by simp [upF, Fr.get, Up.refl]) ⟨by omega, rfl, by simpa using heq⟩
    · simp (maxSteps := 1000000) [go_sem]
      refine AWp.draw mixed [(0, false), (1, false), (2, false), (3, false), (4, false), (5, false), (6, false)] (by kernel_rfl) ?_
      simp (maxSteps := 1000000) [go_sem, i64w (n := 2) (by omega) (by omega)]
      refine condK_intro (fun hne => ?_) (fun heq => ?_)
      · refine AWp.draw mixed [(0, false), (1, false), (2, false), (3, false), (4, false), (5, false), (6, false), (7, false)] (by kernel_rfl) ?_
        simp (maxSteps := 1000000) [go_sem]
        simp at hne ht; simpa [hne, ht] using h
      · exact hK 2 _ _ (by omega) (by simp [upF, Fr.get, Up.refl]) ⟨by omega, rfl, by simp at ht heq; simp [ht, heq]⟩
    · simp (maxSteps := 1000000) [go_sem]
      refine AWp.draw mixed [(0, false), (1, false), (2, false), (3, false), (4, false), (5, false), (6, false)] (by kernel_rfl) ?_
      simp (maxSteps := 1000000) [go_sem, i64w (n := 3) (by omega) (by omega)]
      refine condK_intro (fun hne => ?_) (fun heq => ?_)
      · refine AWp.draw mixed [(0, false), (1, false), (2, false), (3, false), (4, false), (5, false), (6, false), (7, false)] (by kernel_rfl) ?_
        simp (maxSteps := 1000000) [go_sem]
        simp at hne ht; simpa [hne, ht] using h
      · exact hK 3 _ _ (by omega) (by simp [upF, Fr.get, Up.refl]) ⟨by omega, rfl, by simp at ht heq; simp [ht, heq]⟩
    · simp (maxSteps := 1000000) [go_sem]
      simp at ht
      simpa [ht] using h

end Go.Proofs.Ytdfeoccjllljiaa
end

section
/- What the program's functions on systems compute. -/
set_option linter.all false
set_option maxRecDepth 20000
namespace Go.Proofs.Ytdfeoccjllljiaa
open Go.Ab

theorem rises_ok {H : Heap} {u : Value} {xs : List Int} {n : Int} (hu : IntsAt H u xs) (hn : -9223372036854775807 ≤ n) (hn' : n ≤ 9223372036854775807) (Post : Value → Heap → Prop) (h : ∀ b : Bool, (b = true ↔ Rises n xs) → Post (.bool b) H) :
    ACalls Try.prog 162 [u, .int .i64 n] H Post := by
  obtain ⟨i, o, rfl, h1, h2⟩ := hu
  refine acalls_vc (rs := [.tmp 4]) Try.func162 rfl rfl Try.ntmps162 rfl rfl ?_
  simp (maxSteps := 1000000) [go_sem]
  refine AWp.loopVc (fun s : Nat => [(0, lv 1 i o xs.length), (1, .int .i64 n), (7, lv 1 i o xs.length), (8, .int .i64 xs.length), (9, .int .i64 s)])
    (fun s H' => s ≤ xs.length ∧ H' = H ∧ ∀ (a : Nat) (x : Int), a < s → xs[a]? = some x → (0 ≤ x ∧ x < n) ∧ ∀ y, 0 < a → xs[a - 1]? = some y → y < x) (fun s => xs.length - s) 0 ?_ ?_ ?_
  · simp [upF, Fr.get, Up.refl]
  · exact ⟨by omega, rfl, by intro a x ha; omega⟩
  · rintro K s H' ⟨hs, rfl, hf⟩ hK
    by_cases hlt : s < xs.length
    · have hx : xs[s]? = some xs[s] := List.getElem?_eq_getElem hlt
      have c1 := h1.cell (k := s) (v := .int .i64 xs[s]) (by simp [ints_get, hlt])
      have hw : IntKind.i64.wrap ((s : Int) + 1) = (s : Int) + 1 := i64w (by omega) (by omega)
      have hwn : IntKind.i64.wrap (n - 1) = n - 1 := i64w (by omega) (by omega)
      simp (maxSteps := 1000000) [go_sem, hlt, c1, hwn]
      refine within_ok _ ?_
      by_cases hin : 0 ≤ xs[s] ∧ xs[s] ≤ n - 1
      · by_cases h0 : s = 0
        · subst h0
          simp (maxSteps := 1000000) [go_sem, hin.1, hin.2, i64w (n := 1)]
          refine hK 1 _ _ (by omega) (by simp [upF, Fr.get, Up.refl]) ⟨by omega, rfl, fun a x ha hx' => ?_⟩
          obtain rfl : a = 0 := by omega
          rw [hx] at hx'; cases hx'
          exact ⟨by omega, by omega⟩
        · obtain ⟨r, rfl⟩ : ∃ r, s = r + 1 := ⟨s - 1, by omega⟩
          have hxr : xs[r]? = some (xs[r]'(by omega)) := List.getElem?_eq_getElem _
          have c2 := h1.cell (k := r) (v := .int .i64 (xs[r]'(by omega))) (by simp [ints_get, hxr])
          have hr : r < xs.length := by omega
          have hw3 : IntKind.i64.wrap (r : Int) = (r : Int) := i64w (by omega) (by omega)
          have hw4 : IntKind.i64.wrap ((r : Int) + 1 + 1) = (r : Int) + 1 + 1 := i64w (by omega) (by omega)
          simp (maxSteps := 1000000) [go_sem, hin.1, hin.2, hw3, hr, c2, hw4]
          refine condK_intro (fun hge => ?_) (fun hlt' => ?_)
          · refine h false ⟨by simp, fun hR => ?_⟩
            have := (hR (r + 1) _ hx).2 _ (by omega) hxr
            simp at hge; omega
          · refine hK (r + 1 + 1) _ _ (by omega) (by simp [upF, Fr.get, Up.refl]) ⟨by omega, rfl, fun a x ha hx' => ?_⟩
            by_cases har : a = r + 1
            · subst har
              rw [hx] at hx'; cases hx'
              refine ⟨by omega, fun y _ hy => ?_⟩
              simp only [Nat.add_sub_cancel] at hy
              rw [hxr] at hy; cases hy
              simpa using hlt'
            · exact hf a x (by omega) hx'
      · have hnin : (decide (0 ≤ xs[s]) && decide (xs[s] ≤ n - 1)) = false := by simp; omega
        rw [hnin]
        simp (maxSteps := 1000000) [go_sem]
        refine h false ⟨by simp, fun hR => ?_⟩
        have := (hR s _ hx).1
        omega
    · have : s = xs.length := by omega
      subst this
      simp (maxSteps := 1000000) [go_sem]
      exact h true ⟨fun _ a x hx => hf a x (List.getElem?_eq_some_iff.1 hx).1 hx, fun _ => rfl⟩

theorem isNaN_ok {H : Heap} {x : Int} (Post : Value → Heap → Prop) (h : Post (.bool false) H) :
    ACalls Try.prog 188 [.int .i64 x] H Post := by
  refine acalls_vc (rs := [.tmp 2]) Try.func188 rfl rfl Try.ntmps188 rfl rfl ?_
  simp (maxSteps := 1000000) [go_sem]
  exact h

theorem cmpCompare_ok {H : Heap} {x y : Int} (Post : Value → Heap → Prop) (h : Post (.int .i64 (if x < y then -1 else if y < x then 1 else 0)) H) :
    ACalls Try.prog 177 [.int .i64 x, .int .i64 y] H Post := by
  refine acalls_vc (rs := [.tmp 4]) Try.func177 rfl rfl Try.ntmps177 rfl rfl ?_
  simp (maxSteps := 1000000) [go_sem]
  refine isNaN_ok _ ?_
  simp (maxSteps := 1000000) [go_sem]
  refine isNaN_ok _ ?_
  simp (maxSteps := 1000000) [go_sem]
  refine condK_intro (fun h1 => ?_) (fun h1 => ?_)
  · rw [if_pos (by simpa using h1)] at h; exact h
  · rw [if_neg (by simpa using h1)] at h
    refine condK_intro (fun h2 => ?_) (fun h2 => ?_)
    · rw [if_pos (by simpa using h2)] at h; exact h
    · rw [if_neg (by simpa using h2)] at h; exact h

theorem slicesCompare_ok {H : Heap} {u v : Value} {xs ys : List Int} (hu : IntsAt H u xs) (hv : IntsAt H v ys) (Post : Value → Heap → Prop) (h : Post (.int .i64 (lexC xs ys)) H) :
    ACalls Try.prog 149 [u, v] H Post := by
  obtain ⟨i, o, rfl, h1, h2⟩ := hu
  obtain ⟨j, q, rfl, h3, h4⟩ := hv
  refine acalls_vc (rs := [.tmp 4]) Try.func149 rfl rfl Try.ntmps149 rfl rfl ?_
  simp (maxSteps := 1000000) [go_sem]
  refine AWp.loopVc (fun s : Nat => [(0, lv 1 i o xs.length), (1, lv 1 j q ys.length), (9, lv 1 i o xs.length), (10, .int .i64 xs.length), (11, .int .i64 s)])
    (fun s H' => s ≤ xs.length ∧ s ≤ ys.length ∧ H' = H ∧ lexC xs ys = lexC (xs.drop s) (ys.drop s)) (fun s => xs.length - s) 0 ?_ ?_ ?_
  · simp [upF, Fr.get, Up.refl]
  · exact ⟨by omega, by omega, rfl, by simp⟩
  · rintro K s H' ⟨hs, hs', rfl, hf⟩ hK
    by_cases hlt : s < xs.length
    · have hdx : xs.drop s = xs[s] :: xs.drop (s + 1) := List.drop_eq_getElem_cons hlt
      have c1 := h1.cell (k := s) (v := .int .i64 xs[s]) (by simp [ints_get, hlt])
      have hw : IntKind.i64.wrap ((s : Int) + 1) = (s : Int) + 1 := i64w (by omega) (by omega)
      by_cases hly : s < ys.length
      · have hdy : ys.drop s = ys[s] :: ys.drop (s + 1) := List.drop_eq_getElem_cons hly
        have c2 := h3.cell (k := s) (v := .int .i64 ys[s]) (by simp [ints_get, hly])
        have hly' : ¬ ys.length ≤ s := by omega
        simp (maxSteps := 1000000) [go_sem, hlt, hly, hly', c1, c2]
        refine cmpCompare_ok _ ?_
        rw [hdx, hdy] at hf
        simp only [lexC] at hf
        by_cases hxy : xs[s] < ys[s]
        · rw [if_pos hxy] at hf ⊢
          simp (maxSteps := 1000000) [go_sem]
          rw [hf] at h; exact h
        · rw [if_neg hxy] at hf ⊢
          by_cases hyx : ys[s] < xs[s]
          · rw [if_pos hyx] at hf ⊢
            simp (maxSteps := 1000000) [go_sem]
            rw [hf] at h; exact h
          · rw [if_neg hyx] at hf ⊢
            simp (maxSteps := 1000000) [go_sem, hw]
            exact hK (s + 1) _ _ (by omega) (by simp [upF, Fr.get, Up.refl]) ⟨by omega, by omega, rfl, hf⟩
      · have hly' : ys.length ≤ s := by omega
        simp (maxSteps := 1000000) [go_sem, hlt, hly', c1]
        rw [hdx, List.drop_eq_nil_of_le hly'] at hf
        simp only [lexC] at hf
        rw [hf] at h; exact h
    · have : s = xs.length := by omega
      subst this
      simp (maxSteps := 1000000) [go_sem]
      rw [List.drop_eq_nil_of_le (Nat.le_refl _)] at hf
      refine condK_intro (fun hl => ?_) (fun hl => ?_)
      · have hl : xs.length < ys.length := by simpa using hl
        rw [List.drop_eq_getElem_cons hl] at hf
        simp only [lexC] at hf
        rw [hf] at h; exact h
      · have hl : ys.length ≤ xs.length := by simpa using hl
        rw [List.drop_eq_nil_of_le hl] at hf
        simp only [lexC] at hf
        rw [hf] at h; exact h

theorem compare_ok {H : Heap} {b d : Bk} (Post : Value → Heap → Prop) (h : ∀ H', H <+: H' → Post (.int .i64 (lexC [b.a, b.b, b.c] [d.a, d.b, d.c])) H') :
    ACalls Try.prog 170 [b.val, d.val] H Post := by
  refine acalls_vc (rs := [.tmp 4]) Try.func170 rfl rfl Try.ntmps170 rfl rfl ?_
  simp (maxSteps := 1000000) [go_sem, Bk.val, Value.oneCell']
  refine AWp.draw mixed [(0, false), (1, false), (2, false), (3, false)] (by kernel_rfl) ?_
  simp (maxSteps := 1000000) [go_sem]
  have ha : Holds (H ++ [⟨[.int .i64 b.a, .int .i64 b.b, .int .i64 b.c], true, true⟩, ⟨[.int .i64 d.a, .int .i64 d.b, .int .i64 d.c], true, true⟩]) H.length (ints [b.a, b.b, b.c]) := ⟨true, by simp [ints]⟩
  have hd : Holds (H ++ [⟨[.int .i64 b.a, .int .i64 b.b, .int .i64 b.c], true, true⟩, ⟨[.int .i64 d.a, .int .i64 d.b, .int .i64 d.c], true, true⟩]) (H.length + 1) (ints [d.a, d.b, d.c]) := ⟨true, by simp [ints]⟩
  refine ACalls.up (args' := [lv 1 H.length 0 3, lv 1 (H.length + 1) 0 3]) ⟨Up.ex (by omega) (.inr (by simp [go_sem])), Up.ex (by omega) (.inr (by simp [go_sem])), trivial⟩ ?_
  refine slicesCompare_ok (xs := [b.a, b.b, b.c]) (ys := [d.a, d.b, d.c]) ⟨H.length, 0, rfl, ha.at, by simp⟩ ⟨H.length + 1, 0, rfl, hd.at, by simp⟩ _ ?_
  simp (maxSteps := 1000000) [go_sem]
  exact h _ (List.prefix_append _ _)

end Go.Proofs.Ytdfeoccjllljiaa
end

section
/- The grid of third points in plain terms: what its entries are, and when a block fits. No program is in sight here. -/
set_option linter.all false
namespace Go.Ab

/-- A block has a point. -/
def Bk.has (b : Bk) (p : Int) : Bool := decide (b.a = p) || (decide (b.b = p) || decide (b.c = p))
/-- The third point of two, and -1 if there is none. -/
def third (bs : List Bk) (p q : Int) : Int :=
  match bs.find? (fun c => c.has p && c.has q) with
  | some c => c.a + c.b + c.c - p - q
  | none => -1

theorem good_iff {v : Int} {b : Bk} : good v b = true ↔ 0 ≤ b.a ∧ b.a < b.b ∧ b.b < b.c ∧ b.c < v := by
  simp only [good, Bool.and_eq_true, decide_eq_true_eq, and_assoc]

end Go.Ab
end

section
/- The grid of third points: what the program's functions on it compute. -/
set_option linter.all false
set_option maxRecDepth 20000
namespace Go.Proofs.Ytdfeoccjllljiaa
open Go.Ab

/-- The grid behind an id. -/
def GridAt (H : Heap) (id : Nat) (gs : List Int) : Prop := H[id]? = some ⟨ints gs, true, true⟩ ∧ gs.length = 225

theorem GridAt.load {H : Heap} {id : Nat} {gs : List Int} (h : GridAt H id gs) {k : Nat} (hk : k < 225) : cellsAt H id k 1 = some [.int .i64 (gs.getD k 0)] := by
  refine Holds.cell ⟨true, h.1⟩ ?_
  have := h.2
  rw [ints_get, List.getD_eq_getElem?_getD, List.getElem?_eq_getElem (by omega)]
  rfl

theorem GridAt.store {H : Heap} {id : Nat} {gs : List Int} (h : GridAt H id gs) {k : Nat} (hk : k < 225) (n : Int) :
    storeAt H id k [.int .i64 n] = some (H.set id ⟨ints (gs.set k n), true, true⟩) ∧ GridAt (H.set id ⟨ints (gs.set k n), true, true⟩) id (gs.set k n) := by
  have hl := h.2
  refine ⟨?_, by rw [List.getElem?_set_self (List.getElem?_eq_some_iff.1 h.1).1], by simpa using hl⟩
  rw [storeAt_of h.1 rfl rfl (by simp only [ints_length, List.length_singleton]; omega) (by simp [Value.oneCell']), over_one (by simp only [ints_length]; omega), ints_set]

end Go.Proofs.Ytdfeoccjllljiaa
end

section
/- The grid of a list of blocks; the program's test for systems. -/
set_option linter.all false
set_option maxRecDepth 20000
namespace Go.Proofs.Ytdfeoccjllljiaa
open Go.Ab

theorem GridAt.keep {H H' : Heap} {id : Nat} {gs : List Int} (h : GridAt H id gs) (hp : H <+: H') : GridAt H' id gs :=
  ⟨Same.get (S := fun _ => False) (Same.of_prefix hp) h.1 (fun h => h), h.2⟩

end Go.Proofs.Ytdfeoccjllljiaa
end

section
/- The law on SquareOf, in abstract terms: its code returns true. It holds for every number. -/
set_option linter.all false
set_option maxRecDepth 20000
namespace Go.Proofs.Ytdfeoccjllljiaa
open Go.Ab

/-- An argument: a number. -/
def shInt : Shape := ⟨2, false, cInt .i64⟩
theorem fits_shInt {D : Type} {enc : TypeId × Value → D} (W : World) : shInt.fits enc Try.prog W :=
  ⟨cInt_stable _, open_cInt Try.underlying2, by show (match Try.prog.underlying 2 with | _ => _); rw [Try.underlying2]; rfl⟩
theorem says_shInt {H : Heap} {v : Value} (h : shInt.says H v) : ∃ n : Int, v = .int .i64 n ∧ (Lit.int .i64 n).wf = true := by
  obtain ⟨n, h1, h2⟩ := h
  simp only [List.cons.injEq, and_true] at h1
  exact ⟨n, h1, h2⟩

end Go.Proofs.Ytdfeoccjllljiaa
end

section
/- The arguments' shapes: numbers, lists, systems. It holds for every program that has these types. -/
set_option linter.all false
set_option maxRecDepth 20000
namespace Go.Proofs.Ytdfeoccjllljiaa
open Go.Ab

/-- A number that 64 bits hold. -/
def In64 (n : Int) : Prop := -9223372036854775808 ≤ n ∧ n ≤ 9223372036854775807
theorem In64.of_wf {n : Int} (h : (Lit.int .i64 n).wf = true) : In64 n := by
  simp only [Lit.wf, Bool.and_eq_true, decide_eq_true_eq] at h
  have h1 : IntKind.i64.min = -9223372036854775808 := rfl
  have h2 : IntKind.i64.max = 9223372036854775807 := rfl
  rw [h1, h2] at h
  exact h
theorem says_shInt' {H : Heap} {v : Value} (h : shInt.says H v) : ∃ n : Int, v = .int .i64 n ∧ In64 n := by
  obtain ⟨n, h1, h2⟩ := says_shInt h
  exact ⟨n, h1, In64.of_wf h2⟩

/-- As IntsAt, but the length is only what 64 bits hold. -/
def IntsAt0 (H : Heap) (v : Value) (xs : List Int) : Prop := ∃ i o, v = lv 1 i o xs.length ∧ At H i o (ints xs) ∧ xs.length ≤ 9223372036854775807
theorem IntsAt0.at {H : Heap} {v : Value} {xs : List Int} (h : IntsAt0 H v xs) (hl : xs.length ≤ 140737488355328) : IntsAt H v xs := by
  obtain ⟨i, o, h1, h2, _⟩ := h; exact ⟨i, o, h1, h2, hl⟩
theorem IntsAt0.pre {H H' : Heap} (hp : H <+: H') {v : Value} {xs : List Int} (h : IntsAt0 H v xs) : IntsAt0 H' v xs := by
  obtain ⟨i, o, h1, h2, h3⟩ := h; exact ⟨i, o, h1, h2.pre hp, h3⟩
def BlocksAt0 (H : Heap) (v : Value) (bs : List Bk) : Prop := ∃ i o, v = lv 3 i o bs.length ∧ At H i o (tri bs) ∧ bs.length ≤ 9223372036854775807
theorem BlocksAt0.at {H : Heap} {v : Value} {bs : List Bk} (h : BlocksAt0 H v bs) (hl : bs.length ≤ 140737488355328) : BlocksAt H v bs := by
  obtain ⟨i, o, h1, h2, _⟩ := h; exact ⟨i, o, h1, h2, hl⟩
theorem BlocksAt0.pre {H H' : Heap} (hp : H <+: H') {v : Value} {bs : List Bk} (h : BlocksAt0 H v bs) : BlocksAt0 H' v bs := by
  obtain ⟨i, o, h1, h2, h3⟩ := h; exact ⟨i, o, h1, h2.pre hp, h3⟩
def IntssAt0 (H : Heap) (v : Value) (xss : List (List Int)) : Prop :=
  ∃ i o vs, v = lv 1 i o xss.length ∧ vs.length = xss.length ∧ At H i o vs ∧ (∀ (k : Nat) (v : Value) (xs : List Int), vs[k]? = some v → xss[k]? = some xs → IntsAt0 H v xs) ∧ xss.length ≤ 9223372036854775807
theorem IntssAt0.at {H : Heap} {v : Value} {xss : List (List Int)} (h : IntssAt0 H v xss) (hl : xss.length ≤ 140737488355328) (hls : ∀ xs ∈ xss, xs.length ≤ 140737488355328) : IntssAt H v xss := by
  obtain ⟨i, o, vs, h1, h2, h3, h4, _⟩ := h
  exact ⟨i, o, vs, h1, h2, h3, fun k v xs hv hx => (h4 k v xs hv hx).at (hls xs (List.mem_of_getElem? hx)), hl⟩
theorem IntssAt0.pre {H H' : Heap} (hp : H <+: H') {v : Value} {xss : List (List Int)} (h : IntssAt0 H v xss) : IntssAt0 H' v xss := by
  obtain ⟨i, o, vs, h1, h2, h3, h4, h5⟩ := h
  exact ⟨i, o, vs, h1, h2, h3.pre hp, fun k v xs hv hx => (h4 k v xs hv hx).pre hp, h5⟩

/-- Cells that are numbers, one by one. -/
theorem ints_of_many {H : Heap} : ∀ {es : List (List Value)}, (∀ e ∈ es, cInt .i64 H e ∧ e.length = 1) → ∃ xs : List Int, es.flatten = ints xs ∧ xs.length = es.length ∧ ∀ x ∈ xs, In64 x
  | [], _ => ⟨[], rfl, rfl, by simp⟩
  | e :: es, h => by
    obtain ⟨xs, h1, h2, h3⟩ := ints_of_many (es := es) fun e he => h e (List.mem_cons_of_mem _ he)
    obtain ⟨⟨n, hn, hw⟩, _⟩ := h e List.mem_cons_self
    refine ⟨n :: xs, by simp [hn, h1, ints], by simp [h2], ?_⟩
    intro x hx
    rcases List.mem_cons.1 hx with rfl | hx
    · exact In64.of_wf hw
    · exact h3 x hx

theorem says_ints {H : Heap} {v : Value} (h : cSl 1 (cInt .i64) H [v]) : ∃ xs, IntsAt0 H v xs ∧ ∀ x ∈ xs, In64 x := by
  obtain ⟨id, es, h1, h2, h3, h4⟩ := h
  obtain ⟨xs, h5, h6, h7⟩ := ints_of_many h3
  simp only [List.cons.injEq, and_true] at h1
  refine ⟨xs, ⟨id, 0, by rw [h1, h6], ?_, by rw [h6]; exact h4⟩, h7⟩
  rcases h2 with rfl | h2
  · left; rw [← h5]; rfl
  · right; rw [← h5, show es.flatten.length = es.length * 1 by rw [h5, ints_length, h6]; omega]; exact h2
def shIntss : Shape := ⟨51, false, cSl 1 (cSl 1 (cInt .i64))⟩
theorem fits_shIntss {D : Type} {enc : TypeId × Value → D} (W : World) : shIntss.fits enc Try.prog W :=
  ⟨cSl_stable (cSl_stable (cInt_stable _)), open_cSl Try.underlying51 (by kernel_rfl) (by omega) (cSl_stable (cInt_stable _)) (open_cSl Try.underlying56 (by kernel_rfl) (by omega) (cInt_stable _) (open_cInt Try.underlying2)), by show (match Try.prog.underlying 51 with | _ => _); rw [Try.underlying51]; rfl⟩
theorem intss_of_many {H : Heap} : ∀ {es : List (List Value)}, (∀ e ∈ es, cSl 1 (cInt .i64) H e ∧ e.length = 1) → ∃ (vs : List Value) (xss : List (List Int)), es.flatten = vs ∧ vs.length = es.length ∧ xss.length = es.length ∧ (∀ (k : Nat) (v : Value) (xs : List Int), vs[k]? = some v → xss[k]? = some xs → IntsAt0 H v xs) ∧ ∀ xs ∈ xss, ∀ x ∈ xs, In64 x
  | [], _ => ⟨[], [], rfl, rfl, rfl, by simp, by simp⟩
  | e :: es, h => by
    obtain ⟨vs, xss, h1, h2, h3, h4, h5⟩ := intss_of_many (es := es) fun e he => h e (List.mem_cons_of_mem _ he)
    obtain ⟨hc, hl⟩ := h e List.mem_cons_self
    obtain ⟨v, rfl⟩ : ∃ v, e = [v] := by
      match e, hl with
      | [v], _ => exact ⟨v, rfl⟩
    obtain ⟨xs, h6, h7⟩ := says_ints hc
    refine ⟨v :: vs, xs :: xss, by simp [h1], by simp [h2], by simp [h3], ?_, ?_⟩
    · intro k u ys hu hy
      cases k with
      | zero => simp at hu hy; subst hu; subst hy; exact h6
      | succ k => exact h4 k u ys (by simpa using hu) (by simpa using hy)
    · intro ys hy
      rcases List.mem_cons.1 hy with rfl | hy
      · exact h7
      · exact h5 ys hy
theorem says_shIntss {H : Heap} {v : Value} (h : shIntss.says H v) : ∃ xss, IntssAt0 H v xss ∧ ∀ xs ∈ xss, ∀ x ∈ xs, In64 x := by
  obtain ⟨id, es, h1, h2, h3, h4⟩ := h
  obtain ⟨vs, xss, h5, h6, h7, h8, h9⟩ := intss_of_many h3
  simp only [List.cons.injEq, and_true] at h1
  refine ⟨xss, ⟨id, 0, vs, by rw [h1, h7], by omega, ?_, h8, by rw [h7]; exact h4⟩, h9⟩
  rcases h2 with rfl | h2
  · left; rw [← h5]; rfl
  · right; rw [← h5, show es.flatten.length = es.length * 1 by rw [h5, h6]; omega]; exact h2

theorem szInt64S0_ok {H : Heap} {u : Value} {xs : List Int} {k : Int} (hu : IntsAt0 H u xs) (hk0 : 0 ≤ k) (hk : k ≤ 1048576) (Post : Value → Heap → Prop) (h : Post (.int .i64 (if k < xs.length then -1 else k - xs.length)) H) :
    ACalls Try.prog 91 [u, .int .i64 k] H Post := by
  obtain ⟨i, o, rfl, h1, h2⟩ := hu
  refine acalls_vc (rs := [.tmp 4]) Try.func91 rfl rfl Try.ntmps91 rfl rfl ?_
  have hw : IntKind.i64.wrap (k - xs.length) = k - xs.length := i64w (by omega) (by omega)
  simp (maxSteps := 1000000) [go_sem, hw]
  refine condK_intro (fun h1 => ?_) (fun h1 => ?_)
  · rw [if_pos (by simp at h1; omega)] at h; exact h
  · rw [if_neg (by simp at h1; omega)] at h; exact h

end Go.Proofs.Ytdfeoccjllljiaa
end
