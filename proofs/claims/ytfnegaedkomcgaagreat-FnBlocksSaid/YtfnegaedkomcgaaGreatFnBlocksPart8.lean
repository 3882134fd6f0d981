/- Part 8 of what the proof of the law FnBlocks rests on: contracts of functions of the program, for every argument that each names; no statement of the seat is proved here. -/
import Derived.Test.YtfnegaedkomcgaaGreatFnBlocksPart7

set_option linter.all false
set_option maxRecDepth 20000
set_option maxHeartbeats 8000000
section
namespace Go.Proofs.YtfnegaedkomcgaaGreat
open Go.Ab Go.Sort

theorem partInsO_ok {H : Heap} {id a b n : Nat} {d : Array Int} {lt : Int -> Int -> Bool} {Q : Int -> Prop} (hA : Arr cellsI H id d) (hn : d.size = n) (hl : n <= 1048576) (hab : a < b) (hb : b <= n) (hQ : QA Q d)
    (hC : CmpO lt Q id H) (Post : Value -> Heap -> Prop) (h : ∀ H', Same (fun k => k = id) H H' -> Arr cellsI H' id (partialInsertionSort lt d a b).1 -> Post (.bool (partialInsertionSort lt d a b).2) H') :
    ACalls Tryz.prog 155 [lv 1 id 0 n, .int .i64 a, .int .i64 b] H Post := by
  refine acalls_vc (rs := [.tmp 6]) Tryz.func155 rfl rfl Tryz.ntmps155 rfl rfl ?_
  obtain ⟨a1, ha1⟩ : ∃ a1, a1 = a + 1 := ⟨_, rfl⟩
  have w1 : IntKind.i64.wrap ((a : Int) + 1) = (a1 : Int) := by rw [ha1, i64w (by omega) (by omega)]; omega
  have w0 : IntKind.i64.wrap ((b : Int) - a) = (b : Int) - a := i64w (by omega) (by omega)
  have e0 : partialInsertionSort lt d a b = partialIns lt a b 5 a1 d := by rw [ha1]; rfl
  rw [e0] at h
  simp (maxSteps := 1000000) [go_sem, w1]
  refine AWp.loopVc (St := Nat × Nat × Array Int) (fun s => [(0, lv 1 id 0 n), (1, .int .i64 a), (2, .int .i64 b), (7, .int .i64 s.2.1), (8, .int .i64 s.1)])
    (fun s H' => s.1 <= 5 /\ a < s.2.1 /\ s.2.1 <= b /\ s.2.2.size = n /\ QA Q s.2.2 /\ Same (fun k => k = id) H H' /\ Arr cellsI H' id s.2.2 /\ partialIns lt a b (5 - s.1) s.2.1 s.2.2 = partialIns lt a b 5 a1 d) (fun s => 5 - s.1) (0, a1, d) ?_ ?_ ?_
  · simp [upF, Fr.get, Up.refl]
  · exact ⟨by simp, by simp only; omega, by simp only; omega, hn, hQ, Same.refl _ _, hA, rfl⟩
  · rintro K0 ⟨t, i, d1⟩ H1 ⟨ht, hai, hib, hsz, hQ1, hS1, hA1, hO⟩ hK0
    simp only at ht hai hib hsz hQ1 hS1 hA1 hO
    by_cases ht5 : t < 5
    · have ht5' : (t : Int) < 5 := by omega
      have hw_t : IntKind.i64.wrap ((t : Int) + 1) = (t : Int) + 1 := i64w (by omega) (by omega)
      obtain ⟨q, hq⟩ : ∃ q, 5 - t = q + 1 := ⟨4 - t, by omega⟩
      have hq2 : 5 - (t + 1) = q := by omega
      rw [hq, partialIns_succ] at hO
      obtain ⟨bd1, bd2⟩ := scanSorted_bd (lt := lt) (d := d1) (i := i) (b := b) hib
      simp (maxSteps := 1000000) [go_sem, ht5, ht5']
      refine AWp.loopCut (St := Nat) (St' := Unit) 2 (fun s => [(0, lv 1 id 0 n), (1, .int .i64 a), (2, .int .i64 b), (7, .int .i64 s), (8, .int .i64 t)])
        (fun s H2 => a < s /\ s <= b /\ Same (fun k => k = id) H H2 /\ Arr cellsI H2 id d1 /\ scanSorted lt d1 b s = scanSorted lt d1 b i) (fun s => b - s) i
        (fun _ => [(0, lv 1 id 0 n), (1, .int .i64 a), (2, .int .i64 b), (7, .int .i64 ((scanSorted lt d1 b i : Nat) : Int)), (8, .int .i64 t)])
        (fun _ H2 => Same (fun k => k = id) H H2 /\ Arr cellsI H2 id d1) ?_ ?_ ?_ ?_
      · simp [upF, Fr.get, Up.refl]
      · exact ⟨hai, hib, hS1, hA1, rfl⟩
      · rintro K KE s H2 ⟨has, hsb, hS2, hA2, hP⟩ hK hKE
        by_cases hsb2 : s < b
        · have hsb3 : (s : Int) < b := by omega
          obtain ⟨p, hp⟩ : ∃ p, s - 1 = p := ⟨_, rfl⟩
          have wp : IntKind.i64.wrap ((s : Int) - 1) = (p : Int) := by rw [<- hp, i64w (by omega) (by omega)]; omega
          have hw_s : IntKind.i64.wrap ((s : Int) + 1) = (s : Int) + 1 := i64w (by omega) (by omega)
          have hi1 : s < d1.size := by omega
          have hi0 : p < d1.size := by omega
          have n1 : s < n := by omega
          have n0 : p < n := by omega
          have c1 := hA2.load cellsI_len hi1
          have c0 := hA2.load cellsI_len hi0
          have q1 := hQ1 _ hi1
          have q0 := hQ1 _ hi0
          obtain ⟨x, hx⟩ : ∃ x, d1[s]! = x := ⟨_, rfl⟩
          obtain ⟨y, hy⟩ : ∃ y, d1[p]! = y := ⟨_, rfl⟩
          rw [hx] at c1 q1
          rw [hy] at c0 q0
          simp only [cellsI, Nat.mul_one, Row.val] at c1 c0
          refine AWp.draw mixed [(0, false), (1, false), (2, false), (3, false), (4, false), (5, false), (6, false), (7, false), (8, false), (9, false), (10, false), (11, false), (12, false), (13, false), (14, false), (15, false)] (by kernel_rfl) ?_
          simp (maxSteps := 1000000) [go_sem, hsb2, hsb3, c1, c0, n1, n0, wp]
          refine hC H2 x y _ hS2 q1 q0 ?_
          intro H3 c hp3 hc
          have hS3 := hS2.via (Same.of_prefix (S := fun _ => False) hp3) (fun _ _ h => h.elim)
          have hA3 := hA2.pre hp3
          cases hl' : lt x y with
          | false =>
            rw [hl'] at hc
            have hc0 := hc
            simp (maxSteps := 1000000) [go_sem, hc, hc0, hw_s]
            exact hK (s + 1) _ _ (by omega) (by simp [upF, Fr.get, Up.refl]) ⟨by omega, by omega, hS3, hA3, by rw [<- hP]; exact (scanSorted_go hsb2 (by rw [hp, hx, hy]; exact hl')).symm⟩
          | true =>
            rw [hl'] at hc
            have hc0 := hc
            rw [scanSorted_stop (.inr (by rw [hp, hx, hy]; exact hl'))] at hP
            simp (maxSteps := 1000000) [go_sem, hc, hc0]
            exact hKE () _ _ (by simp [upF, Fr.get, Up.refl, hP]) ⟨hS3, hA3⟩
        · rw [scanSorted_stop (.inl (by omega))] at hP
          have hsb3 : ¬ ((s : Int) < b) := by omega
          refine AWp.draw mixed [(0, false), (1, false), (2, false), (3, false), (4, false), (5, false), (6, false), (7, false), (8, false), (9, false), (10, false), (11, false), (12, false), (13, false), (14, false), (15, false)] (by kernel_rfl) ?_
          simp (maxSteps := 1000000) [go_sem, undef, hsb2, hsb3]
          exact hKE () _ _ (by simp [upF, Fr.get, Up.refl, hP]) ⟨hS2, hA2⟩
      rintro _ H2 ⟨hS2, hA2⟩
      obtain ⟨i2, hi2⟩ : ∃ I, scanSorted lt d1 b i = I := ⟨_, rfl⟩
      rw [hi2] at bd1 bd2 hO ⊢
      by_cases hib2 : i2 = b
      · subst hib2
        rw [if_pos rfl] at hO
        rw [<- hO] at h
        simp (maxSteps := 1000000) [go_sem]
        exact h H2 hS2 hA2
      · rw [if_neg hib2] at hO
        have hib3 : ((i2 : Int) == (b : Int)) = false := by rw [beq_eq_false_iff_ne]; omega
        by_cases h50 : b - a < 50
        · have h50' : (b : Int) - a < 50 := by omega
          rw [if_pos h50] at hO
          rw [<- hO] at h
          simp (maxSteps := 1000000) [go_sem, hib2, hib3, w0, h50']
          exact h H2 hS2 hA2
        · have h50' : ¬ ((b : Int) - a < 50) := by omega
          rw [if_neg h50] at hO
          obtain ⟨p, hp⟩ : ∃ p, i2 - 1 = p := ⟨_, rfl⟩
          have wp : IntKind.i64.wrap ((i2 : Int) - 1) = (p : Int) := by rw [<- hp, i64w (by omega) (by omega)]; omega
          have wia : IntKind.i64.wrap ((i2 : Int) - a) = (i2 : Int) - a := i64w (by omega) (by omega)
          have wbi : IntKind.i64.wrap ((b : Int) - i2) = (b : Int) - i2 := i64w (by omega) (by omega)
          have wi1 : IntKind.i64.wrap ((i2 : Int) + 1) = (i2 : Int) + 1 := i64w (by omega) (by omega)
          rw [hp] at hO
          have u1 : i2 < (d1).size := by omega
          have u2 : p < (d1).size := by omega
          have u3 : i2 < n := by omega
          have u4 : p < n := by omega
          have uca := (hA2).load cellsI_len u1
          have ucb := (hA2).load cellsI_len u2
          obtain ⟨H5, H6, us1, us0, hA6, hS6, ul⟩ := (hA2).swap cellsI_len cellsI_one u1 u2
          obtain ⟨ux, uhx⟩ : ∃ x, x = (d1)[i2]! := ⟨_, rfl⟩
          obtain ⟨uy, uhy⟩ : ∃ y, y = (d1)[p]! := ⟨_, rfl⟩
          rw [<- uhx] at uca us0
          rw [<- uhy] at ucb us1
          simp only [cellsI, Nat.mul_one, Row.val] at uca ucb us0 us1
          have hQ6 := hQ1.swp u1 u2
          have hsz6 : (swp d1 i2 p).size = n := by rw [size_swp]; exact hsz
          have hS6 := hS2.trans hS6
          simp (maxSteps := 1000000) [go_sem, hib2, hib3, w0, h50']
          refine AWp.draw mixed [(0, false), (1, false), (2, false), (3, false), (4, false), (5, false), (6, false), (7, false), (8, false), (9, false), (10, false), (11, false), (12, false), (13, false), (14, false), (15, false), (16, false), (17, false)] (by kernel_rfl) ?_
          simp (maxSteps := 1000000) [go_sem, uca, ucb, u3, u4, us1, us0, wp]
          generalize swp d1 i2 p = d2 at *
          clear uca ucb us1 us0
          by_cases hd : 2 <= i2 - a
          · have hd' : (2 : Int) <= (i2 : Int) - a := by omega
            have e1 : fixDown lt a i2 d2 = shiftDown lt p d2 := by unfold fixDown; rw [if_pos hd, hp]
            rw [e1] at hO
            simp (maxSteps := 1000000) [go_sem, wia, hd, hd', wp]
            refine AWp.loopCut (St := Nat × Array Int) (St' := Unit) 4 (fun s => [(0, lv 1 id 0 n), (1, .int .i64 a), (2, .int .i64 b), (7, .int .i64 i2), (8, .int .i64 t), (9, .int .i64 s.1)])
              (fun s H2 => s.1 <= p /\ s.2.size = n /\ QA Q s.2 /\ Same (fun k => k = id) H H2 /\ Arr cellsI H2 id s.2 /\ shiftDown lt s.1 s.2 = shiftDown lt p d2) (fun s => s.1) (p, d2)
              (fun _ => [(0, lv 1 id 0 n), (1, .int .i64 a), (2, .int .i64 b), (7, .int .i64 i2), (8, .int .i64 t)])
              (fun _ H2 => Same (fun k => k = id) H H2 /\ Arr cellsI H2 id (shiftDown lt p d2)) ?_ ?_ ?_ ?_
            · simp [upF, Fr.get, Up.refl]
            · exact ⟨Nat.le_refl _, hsz6, hQ6, hS6, hA6, rfl⟩
            · rintro K KE ⟨s, d3⟩ H7 ⟨hsp, hsz3, hQ3, hS7, hA7, hP⟩ hK hKE
              simp only at hsp hsz3 hQ3 hS7 hA7 hP
              cases s with
              | zero =>
                have hP' : d3 = shiftDown lt p d2 := hP
                simp (maxSteps := 1000000) [go_sem]
                exact hKE () _ _ (by simp [upF, Fr.get, Up.refl]) ⟨hS7, hP' ▸ hA7⟩
              | succ r =>
                have hi1 : r + 1 < d3.size := by omega
                have hi0 : r < d3.size := by omega
                have n1 : r + 1 < n := by omega
                have n0 : r < n := by omega
                have m1 : (r : Int) + 1 < n := by omega
                have z1 : (0 : Int) <= (r : Int) + 1 := by omega
                have z2 : (1 : Int) <= (r : Int) + 1 := by omega
                have hwr : IntKind.i64.wrap (r : Int) = (r : Int) := i64w (by omega) (by omega)
                have c1 := hA7.load cellsI_len hi1
                have c0 := hA7.load cellsI_len hi0
                have q1 := hQ3 _ hi1
                have q0 := hQ3 _ hi0
                obtain ⟨x, hx⟩ : ∃ x, d3[r + 1]! = x := ⟨_, rfl⟩
                obtain ⟨y, hy⟩ : ∃ y, d3[r]! = y := ⟨_, rfl⟩
                rw [hx] at c1 q1
                rw [hy] at c0 q0
                simp only [cellsI, Nat.mul_one, Row.val] at c1 c0
                simp (maxSteps := 1000000) [go_sem, z2]
                refine AWp.draw mixed [(0, false), (1, false), (2, false), (3, false), (4, false), (5, false), (6, false), (7, false), (8, false), (9, false), (10, false)] (by kernel_rfl) ?_
                simp (maxSteps := 1000000) [go_sem, c1, c0, n1, n0, m1, z1, hwr]
                refine hC H7 x y _ hS7 q1 q0 ?_
                intro H8 c hp8 hc
                have hS8 := hS7.via (Same.of_prefix (S := fun _ => False) hp8) (fun _ _ h => h.elim)
                have hA8 := hA7.pre hp8
                cases hl' : lt x y with
                | false =>
                  rw [hl'] at hc
                  have hc0 := hc
                  rw [shiftDown_stop (by rw [hx, hy]; exact hl')] at hP
                  simp (maxSteps := 1000000) [go_sem, hc, hc0]
                  exact hKE () _ _ (by simp [upF, Fr.get, Up.refl]) ⟨hS8, hP ▸ hA8⟩
                | true =>
                  rw [hl'] at hc
                  have hc0 := hc
                  rw [shiftDown_go (by rw [hx, hy]; exact hl')] at hP
                  have v1 : (r + 1) < (d3).size := by omega
                  have v2 : r < (d3).size := by omega
                  have v3 : (r + 1) < n := by omega
                  have v4 : r < n := by omega
                  have vca := (hA8).load cellsI_len v1
                  have vcb := (hA8).load cellsI_len v2
                  obtain ⟨H9, HA, vs1, vs0, hAA, hSA, vl⟩ := (hA8).swap cellsI_len cellsI_one v1 v2
                  obtain ⟨vx, vhx⟩ : ∃ x, x = (d3)[(r + 1)]! := ⟨_, rfl⟩
                  obtain ⟨vy, vhy⟩ : ∃ y, y = (d3)[r]! := ⟨_, rfl⟩
                  rw [<- vhx] at vca vs0
                  rw [<- vhy] at vcb vs1
                  simp only [cellsI, Nat.mul_one, Row.val] at vca vcb vs0 vs1
                  simp (maxSteps := 1000000) [go_sem, hc, hc0]
                  refine AWp.draw mixed [(0, false), (1, false), (2, false), (3, false), (4, false), (5, false), (6, false), (7, false), (8, false), (9, false), (10, false), (11, false), (12, false), (13, false), (14, false), (15, false), (16, false), (17, false)] (by kernel_rfl) ?_
                  simp (maxSteps := 1000000) [go_sem, vca, vcb, v3, v4, m1, z1, vs1, vs0, hwr]
                  exact hK (r, swp d3 (r + 1) r) _ _ (by simp only; omega) (by simp [upF, Fr.get, Up.refl]) ⟨by simp only; omega, by rw [size_swp]; exact hsz3, hQ3.swp v1 v2, hS8.trans hSA, hAA, hP⟩
            rintro _ H7 ⟨hS7, hA7⟩
            have hsz7 : (shiftDown lt p d2).size = n := by rw [shiftDown_size]; exact hsz6
            have hQ7 := shiftDown_QA (lt := lt) (j := p) (by omega) hQ6
            simp (maxSteps := 1000000) [go_sem]
            obtain ⟨d9, hd9⟩ : ∃ d9, shiftDown lt p d2 = d9 := ⟨_, rfl⟩
            have hA9 := hA7
            have hQ9 := hQ7
            have hz9 := hsz7
            rw [hd9] at hA9 hQ9 hz9 hO
            by_cases hu : 2 <= b - i2
            · have hu' : (2 : Int) <= (b : Int) - i2 := by omega
              have e2 : fixUp lt b i2 d9 = shiftUp lt b (i2 + 1) d9 := by unfold fixUp; rw [if_pos hu]
              rw [e2] at hO
              simp (maxSteps := 1000000) [go_sem, wbi, hu, hu', wi1]
              refine AWp.loopCut (St := Nat × Array Int) (St' := Unit) 6 (fun s => [(0, lv 1 id 0 n), (1, .int .i64 a), (2, .int .i64 b), (7, .int .i64 i2), (8, .int .i64 t), (10, .int .i64 s.1)])
                (fun s H2 => i2 < s.1 /\ s.1 <= b /\ s.2.size = n /\ QA Q s.2 /\ Same (fun k => k = id) H H2 /\ Arr cellsI H2 id s.2 /\ shiftUp lt b s.1 s.2 = shiftUp lt b (i2 + 1) d9) (fun s => b - s.1) (i2 + 1, d9)
                (fun _ => [(0, lv 1 id 0 n), (1, .int .i64 a), (2, .int .i64 b), (7, .int .i64 i2), (8, .int .i64 t)])
                (fun _ H2 => Same (fun k => k = id) H H2 /\ Arr cellsI H2 id (shiftUp lt b (i2 + 1) d9)) ?_ ?_ ?_ ?_
              · simp [upF, Fr.get, Up.refl]
              · exact ⟨by simp only; omega, by simp only; omega, hz9, hQ9, hS7, hA9, rfl⟩
              · rintro K KE ⟨s, d3⟩ HB ⟨hsi, hsb, hsz3, hQ3, hSB, hAB, hP⟩ hK hKE
                simp only at hsi hsb hsz3 hQ3 hSB hAB hP
                by_cases hsb2 : s < b
                · have hsb3 : (s : Int) < b := by omega
                  obtain ⟨r, hr⟩ : ∃ r, s - 1 = r := ⟨_, rfl⟩
                  have wr : IntKind.i64.wrap ((s : Int) - 1) = (r : Int) := by rw [<- hr, i64w (by omega) (by omega)]; omega
                  have hw_s : IntKind.i64.wrap ((s : Int) + 1) = (s : Int) + 1 := i64w (by omega) (by omega)
                  have hi1 : s < d3.size := by omega
                  have hi0 : r < d3.size := by omega
                  have n1 : s < n := by omega
                  have n0 : r < n := by omega
                  have c1 := hAB.load cellsI_len hi1
                  have c0 := hAB.load cellsI_len hi0
                  have q1 := hQ3 _ hi1
                  have q0 := hQ3 _ hi0
                  obtain ⟨x, hx⟩ : ∃ x, d3[s]! = x := ⟨_, rfl⟩
                  obtain ⟨y, hy⟩ : ∃ y, d3[r]! = y := ⟨_, rfl⟩
                  rw [hx] at c1 q1
                  rw [hy] at c0 q0
                  simp only [cellsI, Nat.mul_one, Row.val] at c1 c0
                  simp (maxSteps := 1000000) [go_sem, hsb2, hsb3]
                  refine AWp.draw mixed [(0, false), (1, false), (2, false), (3, false), (4, false), (5, false), (6, false), (7, false), (8, false), (9, false), (10, false)] (by kernel_rfl) ?_
                  simp (maxSteps := 1000000) [go_sem, c1, c0, n1, n0, wr]
                  refine hC HB x y _ hSB q1 q0 ?_
                  intro HC c hpC hc
                  have hSC := hSB.via (Same.of_prefix (S := fun _ => False) hpC) (fun _ _ h => h.elim)
                  have hAC := hAB.pre hpC
                  cases hl' : lt x y with
                  | false =>
                    rw [hl'] at hc
                    have hc0 := hc
                    rw [shiftUp_stop hsb2 (by rw [hr, hx, hy]; exact hl')] at hP
                    simp (maxSteps := 1000000) [go_sem, hc, hc0]
                    exact hKE () _ _ (by simp [upF, Fr.get, Up.refl]) ⟨hSC, hP ▸ hAC⟩
                  | true =>
                    rw [hl'] at hc
                    have hc0 := hc
                    rw [shiftUp_go hsb2 (by rw [hr, hx, hy]; exact hl'), hr] at hP
                    have v1 : s < (d3).size := by omega
                    have v2 : r < (d3).size := by omega
                    have v3 : s < n := by omega
                    have v4 : r < n := by omega
                    have vca := (hAC).load cellsI_len v1
                    have vcb := (hAC).load cellsI_len v2
                    obtain ⟨HD, HE, vs1, vs0, hAE, hSE, vl⟩ := (hAC).swap cellsI_len cellsI_one v1 v2
                    obtain ⟨vx, vhx⟩ : ∃ x, x = (d3)[s]! := ⟨_, rfl⟩
                    obtain ⟨vy, vhy⟩ : ∃ y, y = (d3)[r]! := ⟨_, rfl⟩
                    rw [<- vhx] at vca vs0
                    rw [<- vhy] at vcb vs1
                    simp only [cellsI, Nat.mul_one, Row.val] at vca vcb vs0 vs1
                    simp (maxSteps := 1000000) [go_sem, hc, hc0]
                    refine AWp.draw mixed [(0, false), (1, false), (2, false), (3, false), (4, false), (5, false), (6, false), (7, false), (8, false), (9, false), (10, false), (11, false), (12, false), (13, false), (14, false), (15, false), (16, false), (17, false)] (by kernel_rfl) ?_
                    simp (maxSteps := 1000000) [go_sem, vca, vcb, v3, v4, vs1, vs0, wr, hw_s]
                    exact hK (s + 1, swp d3 s r) _ _ (by simp only; omega) (by simp [upF, Fr.get, Up.refl]) ⟨by simp only; omega, by simp only; omega, by rw [size_swp]; exact hsz3, hQ3.swp v1 v2, hSC.trans hSE, hAE, hP⟩
                · rw [shiftUp_end (by omega)] at hP
                  have hsb3 : ¬ ((s : Int) < b) := by omega
                  simp (maxSteps := 1000000) [go_sem, hsb2, hsb3]
                  exact hKE () _ _ (by simp [upF, Fr.get, Up.refl]) ⟨hSB, hP ▸ hAB⟩
              rintro _ HB ⟨hSB, hAB⟩
              simp (maxSteps := 1000000) [go_sem, hw_t]
              exact hK0 (t + 1, i2, shiftUp lt b (i2 + 1) d9) _ _ (by simp only; omega) (by simp [upF, Fr.get, Up.refl]) ⟨by simp only; omega, by simp only; omega, bd2, by rw [shiftUp_size]; exact hz9, shiftUp_QA (by omega) hQ9, hSB, hAB, by simp only [hq2]; exact hO⟩
            · have hu' : ¬ ((2 : Int) <= (b : Int) - i2) := by omega
              have e2 : fixUp lt b i2 d9 = d9 := by unfold fixUp; rw [if_neg hu]
              rw [e2] at hO
              simp (maxSteps := 1000000) [go_sem, wbi, hu, hu', hw_t]
              exact hK0 (t + 1, i2, d9) _ _ (by simp only; omega) (by simp [upF, Fr.get, Up.refl]) ⟨by simp only; omega, by simp only; omega, bd2, hz9, hQ9, hS7, hA9, by simp only [hq2]; exact hO⟩
          · have hd' : ¬ ((2 : Int) <= (i2 : Int) - a) := by omega
            have e1 : fixDown lt a i2 d2 = d2 := by unfold fixDown; rw [if_neg hd]
            rw [e1] at hO
            simp (maxSteps := 1000000) [go_sem, wia, hd, hd']
            obtain ⟨d9, hd9⟩ : ∃ d9, d2 = d9 := ⟨_, rfl⟩
            have hA9 := hA6
            have hQ9 := hQ6
            have hz9 := hsz6
            rw [hd9] at hA9 hQ9 hz9 hO
            by_cases hu : 2 <= b - i2
            · have hu' : (2 : Int) <= (b : Int) - i2 := by omega
              have e2 : fixUp lt b i2 d9 = shiftUp lt b (i2 + 1) d9 := by unfold fixUp; rw [if_pos hu]
              rw [e2] at hO
              simp (maxSteps := 1000000) [go_sem, wbi, hu, hu', wi1]
              refine AWp.loopCut (St := Nat × Array Int) (St' := Unit) 6 (fun s => [(0, lv 1 id 0 n), (1, .int .i64 a), (2, .int .i64 b), (7, .int .i64 i2), (8, .int .i64 t), (10, .int .i64 s.1)])
                (fun s H2 => i2 < s.1 /\ s.1 <= b /\ s.2.size = n /\ QA Q s.2 /\ Same (fun k => k = id) H H2 /\ Arr cellsI H2 id s.2 /\ shiftUp lt b s.1 s.2 = shiftUp lt b (i2 + 1) d9) (fun s => b - s.1) (i2 + 1, d9)
                (fun _ => [(0, lv 1 id 0 n), (1, .int .i64 a), (2, .int .i64 b), (7, .int .i64 i2), (8, .int .i64 t)])
                (fun _ H2 => Same (fun k => k = id) H H2 /\ Arr cellsI H2 id (shiftUp lt b (i2 + 1) d9)) ?_ ?_ ?_ ?_
              · simp [upF, Fr.get, Up.refl]
              · exact ⟨by simp only; omega, by simp only; omega, hz9, hQ9, hS6, hA9, rfl⟩
              · rintro K KE ⟨s, d3⟩ HB ⟨hsi, hsb, hsz3, hQ3, hSB, hAB, hP⟩ hK hKE
                simp only at hsi hsb hsz3 hQ3 hSB hAB hP
                by_cases hsb2 : s < b
                · have hsb3 : (s : Int) < b := by omega
                  obtain ⟨r, hr⟩ : ∃ r, s - 1 = r := ⟨_, rfl⟩
                  have wr : IntKind.i64.wrap ((s : Int) - 1) = (r : Int) := by rw [<- hr, i64w (by omega) (by omega)]; omega
                  have hw_s : IntKind.i64.wrap ((s : Int) + 1) = (s : Int) + 1 := i64w (by omega) (by omega)
                  have hi1 : s < d3.size := by omega
                  have hi0 : r < d3.size := by omega
                  have n1 : s < n := by omega
                  have n0 : r < n := by omega
                  have c1 := hAB.load cellsI_len hi1
                  have c0 := hAB.load cellsI_len hi0
                  have q1 := hQ3 _ hi1
                  have q0 := hQ3 _ hi0
                  obtain ⟨x, hx⟩ : ∃ x, d3[s]! = x := ⟨_, rfl⟩
                  obtain ⟨y, hy⟩ : ∃ y, d3[r]! = y := ⟨_, rfl⟩
                  rw [hx] at c1 q1
                  rw [hy] at c0 q0
                  simp only [cellsI, Nat.mul_one, Row.val] at c1 c0
                  simp (maxSteps := 1000000) [go_sem, hsb2, hsb3]
                  refine AWp.draw mixed [(0, false), (1, false), (2, false), (3, false), (4, false), (5, false), (6, false), (7, false), (8, false), (9, false), (10, false)] (by kernel_rfl) ?_
                  simp (maxSteps := 1000000) [go_sem, c1, c0, n1, n0, wr]
                  refine hC HB x y _ hSB q1 q0 ?_
                  intro HC c hpC hc
                  have hSC := hSB.via (Same.of_prefix (S := fun _ => False) hpC) (fun _ _ h => h.elim)
                  have hAC := hAB.pre hpC
                  cases hl' : lt x y with
                  | false =>
                    rw [hl'] at hc
                    have hc0 := hc
                    rw [shiftUp_stop hsb2 (by rw [hr, hx, hy]; exact hl')] at hP
                    simp (maxSteps := 1000000) [go_sem, hc, hc0]
                    exact hKE () _ _ (by simp [upF, Fr.get, Up.refl]) ⟨hSC, hP ▸ hAC⟩
                  | true =>
                    rw [hl'] at hc
                    have hc0 := hc
                    rw [shiftUp_go hsb2 (by rw [hr, hx, hy]; exact hl'), hr] at hP
                    have v1 : s < (d3).size := by omega
                    have v2 : r < (d3).size := by omega
                    have v3 : s < n := by omega
                    have v4 : r < n := by omega
                    have vca := (hAC).load cellsI_len v1
                    have vcb := (hAC).load cellsI_len v2
                    obtain ⟨HD, HE, vs1, vs0, hAE, hSE, vl⟩ := (hAC).swap cellsI_len cellsI_one v1 v2
                    obtain ⟨vx, vhx⟩ : ∃ x, x = (d3)[s]! := ⟨_, rfl⟩
                    obtain ⟨vy, vhy⟩ : ∃ y, y = (d3)[r]! := ⟨_, rfl⟩
                    rw [<- vhx] at vca vs0
                    rw [<- vhy] at vcb vs1
                    simp only [cellsI, Nat.mul_one, Row.val] at vca vcb vs0 vs1
                    simp (maxSteps := 1000000) [go_sem, hc, hc0]
                    refine AWp.draw mixed [(0, false), (1, false), (2, false), (3, false), (4, false), (5, false), (6, false), (7, false), (8, false), (9, false), (10, false), (11, false), (12, false), (13, false), (14, false), (15, false), (16, false), (17, false)] (by kernel_rfl) ?_
                    simp (maxSteps := 1000000) [go_sem, vca, vcb, v3, v4, vs1, vs0, wr, hw_s]
                    exact hK (s + 1, swp d3 s r) _ _ (by simp only; omega) (by simp [upF, Fr.get, Up.refl]) ⟨by simp only; omega, by simp only; omega, by rw [size_swp]; exact hsz3, hQ3.swp v1 v2, hSC.trans hSE, hAE, hP⟩
                · rw [shiftUp_end (by omega)] at hP
                  have hsb3 : ¬ ((s : Int) < b) := by omega
                  simp (maxSteps := 1000000) [go_sem, hsb2, hsb3]
                  exact hKE () _ _ (by simp [upF, Fr.get, Up.refl]) ⟨hSB, hP ▸ hAB⟩
              rintro _ HB ⟨hSB, hAB⟩
              simp (maxSteps := 1000000) [go_sem, hw_t]
              exact hK0 (t + 1, i2, shiftUp lt b (i2 + 1) d9) _ _ (by simp only; omega) (by simp [upF, Fr.get, Up.refl]) ⟨by simp only; omega, by simp only; omega, bd2, by rw [shiftUp_size]; exact hz9, shiftUp_QA (by omega) hQ9, hSB, hAB, by simp only [hq2]; exact hO⟩
            · have hu' : ¬ ((2 : Int) <= (b : Int) - i2) := by omega
              have e2 : fixUp lt b i2 d9 = d9 := by unfold fixUp; rw [if_neg hu]
              rw [e2] at hO
              simp (maxSteps := 1000000) [go_sem, wbi, hu, hu', hw_t]
              exact hK0 (t + 1, i2, d9) _ _ (by simp only; omega) (by simp [upF, Fr.get, Up.refl]) ⟨by simp only; omega, by simp only; omega, bd2, hz9, hQ9, hS6, hA9, by simp only [hq2]; exact hO⟩
    · have ht5' : ¬ ((t : Int) < 5) := by omega
      have e : 5 - t = 0 := by omega
      rw [e] at hO
      have hO' : (d1, false) = partialIns lt a b 5 a1 d := hO
      rw [<- hO'] at h
      simp (maxSteps := 1000000) [go_sem, ht5, ht5']
      exact h H1 hS1 hA1

end Go.Proofs.YtfnegaedkomcgaaGreat
end

section
namespace Go.Proofs.YtfnegaedkomcgaaGreat
open Go.Ab Go.Sort

theorem breakO_ok {H : Heap} {id a b n : Nat} {d : Array Int} {Q : Int -> Prop} (hA : Arr cellsI H id d) (hn : d.size = n) (hl : n <= 1048576) (hab : a <= b) (hb : b <= n) (hQ : QA Q d)
    (Post : Value -> Heap -> Prop) (h : ∀ H' d', Same (fun k => k = id) H H' -> Arr cellsI H' id d' -> QA Q d' -> PermIn a b d d' -> Post (.tuple #[]) H') :
    ACalls Tryz.prog 152 [lv 1 id 0 n, .int .i64 a, .int .i64 b] H Post := by
  refine acalls_vc (rs := []) Tryz.func152 rfl rfl Tryz.ntmps152 rfl rfl ?_
  obtain ⟨l, hll⟩ : ∃ l, l = b - a := ⟨_, rfl⟩
  obtain ⟨q, hq⟩ : ∃ q, q = l / 4 := ⟨_, rfl⟩
  have w0 : IntKind.i64.wrap ((b : Int) - a) = (l : Int) := by rw [hll, i64w (by omega) (by omega)]; omega
  by_cases h8 : 8 <= l
  · have h8' : (8 : Int) <= l := by omega
    obtain ⟨i0, hi0⟩ : ∃ i0, i0 = a + q * 2 - 1 := ⟨_, rfl⟩
    have w1 : IntKind.i64.wrap ((l : Int) / 4) = (q : Int) := by rw [hq, i64w (by omega) (by omega)]; omega
    have w2 : IntKind.i64.wrap ((q : Int) * 2) = (q : Int) * 2 := i64w (by omega) (by omega)
    have w3 : IntKind.i64.wrap ((a : Int) + (q : Int) * 2) = (a : Int) + (q : Int) * 2 := i64w (by omega) (by omega)
    have w4 : IntKind.i64.wrap ((a : Int) + (q : Int) * 2 - 1) = (i0 : Int) := by rw [hi0, i64w (by omega) (by omega)]; omega
    have w5 : IntKind.i64.wrap ((a : Int) + (q : Int) * 2 + 1) = (i0 : Int) + 2 := by rw [i64w (by omega) (by omega)]; omega
    have w6 : IntKind.u64.wrap (l : Int) = l := by rw [IntKind.wrap_u64]; omega
    simp (maxSteps := 1000000) [go_sem, w0, h8, h8', w6]
    have hp0 : H <+: H ++ [⟨[.int .u64 l], true, true⟩] := List.prefix_append _ _
    have hz0 : (H ++ [(⟨[.int .u64 l], true, true⟩ : Blk)])[H.length]? = some ⟨[.int .u64 l], true, true⟩ := by simp
    have hidl := hA.lt
    have hA0 := hA.pre hp0
    have hS0 : Same (fun k => k = id) H (H ++ [⟨[.int .u64 l], true, true⟩]) := Same.of_prefix hp0
    generalize H ++ [(⟨[.int .u64 l], true, true⟩ : Blk)] = H0 at hp0 hz0 hA0 hS0 ⊢
    refine nextPow_ok (by omega) (by omega) _ ?_
    intro m hm0 hm
    obtain ⟨m1, hm1⟩ : ∃ m1, m1 = m - 1 := ⟨_, rfl⟩
    have w7 : IntKind.u64.wrap ((m : Int) - 1) = (m1 : Int) := by rw [hm1, IntKind.wrap_u64]; omega
    simp (maxSteps := 1000000) [go_sem, w1, w2, w3, w4]
    refine AWp.loopVc (St := Nat × Array Int × Int) (fun s => [(0, lv 1 id 0 n), (1, .int .i64 a), (6, .int .i64 l), (7, .pointer (some ⟨H.length, 0, none⟩)), (8, .int .u64 m), (9, .int .i64 s.1)])
      (fun s H' => i0 <= s.1 /\ s.1 <= i0 + 3 /\ s.2.1.size = n /\ QA Q s.2.1 /\ Same (fun k => k = id) H H' /\ Arr cellsI H' id s.2.1 /\ PermIn a b d s.2.1 /\ H'[H.length]? = some ⟨[.int .u64 s.2.2], true, true⟩) (fun s => i0 + 3 - s.1) (i0, d, (l : Int)) ?_ ?_ ?_
    · simp [upF, Fr.get, Up.refl]
    · exact ⟨Nat.le_refl _, by simp only; omega, hn, hQ, hS0, hA0, permIn_refl _ _ _, hz0⟩
    · rintro K ⟨i, d1, z⟩ H1 ⟨hi1, hi2, hsz, hQ1, hS1, hA1, hP, hz⟩ hK
      simp only at hi1 hi2 hsz hQ1 hS1 hA1 hP hz
      by_cases hi3 : i <= i0 + 2
      · have hi3' : (i : Int) <= (i0 : Int) + 2 := by omega
        have hw_i : IntKind.i64.wrap ((i : Int) + 1) = (i : Int) + 1 := i64w (by omega) (by omega)
        simp (maxSteps := 1000000) [go_sem, w1, w2, w3, w5, hi3, hi3']
        refine xorNext_ok hz _ ?_
        intro z' H2 hzl hS2 hz2
        have hA2 : Arr cellsI H2 id d1 := hS2.get hA1 (by omega)
        have hS2' : Same (fun k => k = id) H H2 := hS1.via hS2 (by intro j hj e; omega)
        obtain ⟨o, ho⟩ : ∃ o, o = (z' % 2 ^ 64) &&& m1 := ⟨_, rfl⟩
        have hol : o <= m1 := by rw [ho]; exact Nat.and_le_right
        have hand := and_u64r (a := z') (b := m1) (by omega)
        rw [<- ho] at hand
        have w8 : IntKind.i64.wrap (o : Int) = o := i64w (by omega) (by omega)
        have fin : ∀ (o2 : Nat), o2 < l -> ∀ (H3 : Heap), H3 = H2 -> Same (fun k => k = id) H H3 := fun _ _ H3 e => e ▸ hS2'
        by_cases hol2 : l <= o
        · have hol2' : (l : Int) <= o := by omega
          obtain ⟨o2, ho2⟩ : ∃ o2, o2 = o - l := ⟨_, rfl⟩
          have w9 : IntKind.i64.wrap ((o : Int) - l) = (o2 : Int) := by rw [ho2, i64w (by omega) (by omega)]; omega
          have hlt : o2 < l := by omega
          simp (maxSteps := 1000000) [go_sem, w7, hand, w8, hol2, hol2', w9]
          obtain ⟨ao, hao⟩ : ∃ ao, ao = a + o2 := ⟨_, rfl⟩
          have wa : IntKind.i64.wrap ((a : Int) + o2) = (ao : Int) := by rw [hao, i64w (by omega) (by omega)]; omega
          have u1 : i < (d1).size := by omega
          have u2 : ao < (d1).size := by omega
          have u3 : i < n := by omega
          have u4 : ao < n := by omega
          have uca := (hA2).load cellsI_len u1
          have ucb := (hA2).load cellsI_len u2
          obtain ⟨H5, H6, us1, us0, hA6, hS6, ul⟩ := (hA2).swap cellsI_len cellsI_one u1 u2
          obtain ⟨ux, uhx⟩ : ∃ x, x = (d1)[i]! := ⟨_, rfl⟩
          obtain ⟨uy, uhy⟩ : ∃ y, y = (d1)[ao]! := ⟨_, rfl⟩
          rw [<- uhx] at uca us0
          rw [<- uhy] at ucb us1
          simp only [cellsI, Nat.mul_one, Row.val] at uca ucb us0 us1
          refine AWp.draw mixed [(0, false), (1, false), (2, false), (3, false), (4, false), (5, false), (6, false), (7, false), (8, false), (9, false), (10, false), (11, false), (12, false), (13, false), (14, false), (15, false), (16, false), (17, false), (18, false), (19, false)] (by kernel_rfl) ?_
          simp (maxSteps := 1000000) [go_sem, wa, uca, ucb, u3, u4, us1, us0, hw_i]
          have hz6 := hS6.get hz2 (by omega)
          exact hK (i + 1, swp d1 i ao, (z' : Int)) _ _ (by simp only; omega) (by simp [upF, Fr.get, Up.refl]) ⟨by simp only; omega, by simp only; omega, by rw [size_swp]; exact hsz, hQ1.swp u1 u2, hS2'.trans hS6, hA6, permIn_trans _ _ _ a b hP (swp_permIn d1 a b i ao (by omega) (by omega) (by omega) (by omega) (by omega)), hz6⟩
        · have hol2' : ¬ ((l : Int) <= o) := by omega
          have hlt : o < l := by omega
          simp (maxSteps := 1000000) [go_sem, w7, hand, w8, hol2, hol2']
          obtain ⟨ao, hao⟩ : ∃ ao, ao = a + o := ⟨_, rfl⟩
          have wa : IntKind.i64.wrap ((a : Int) + o) = (ao : Int) := by rw [hao, i64w (by omega) (by omega)]; omega
          have u1 : i < (d1).size := by omega
          have u2 : ao < (d1).size := by omega
          have u3 : i < n := by omega
          have u4 : ao < n := by omega
          have uca := (hA2).load cellsI_len u1
          have ucb := (hA2).load cellsI_len u2
          obtain ⟨H5, H6, us1, us0, hA6, hS6, ul⟩ := (hA2).swap cellsI_len cellsI_one u1 u2
          obtain ⟨ux, uhx⟩ : ∃ x, x = (d1)[i]! := ⟨_, rfl⟩
          obtain ⟨uy, uhy⟩ : ∃ y, y = (d1)[ao]! := ⟨_, rfl⟩
          rw [<- uhx] at uca us0
          rw [<- uhy] at ucb us1
          simp only [cellsI, Nat.mul_one, Row.val] at uca ucb us0 us1
          refine AWp.draw mixed [(0, false), (1, false), (2, false), (3, false), (4, false), (5, false), (6, false), (7, false), (8, false), (9, false), (10, false), (11, false), (12, false), (13, false), (14, false), (15, false), (16, false), (17, false), (18, false), (19, false)] (by kernel_rfl) ?_
          simp (maxSteps := 1000000) [go_sem, wa, uca, ucb, u3, u4, us1, us0, hw_i]
          have hz6 := hS6.get hz2 (by omega)
          exact hK (i + 1, swp d1 i ao, (z' : Int)) _ _ (by simp only; omega) (by simp [upF, Fr.get, Up.refl]) ⟨by simp only; omega, by simp only; omega, by rw [size_swp]; exact hsz, hQ1.swp u1 u2, hS2'.trans hS6, hA6, permIn_trans _ _ _ a b hP (swp_permIn d1 a b i ao (by omega) (by omega) (by omega) (by omega) (by omega)), hz6⟩
      · have hi3' : ¬ ((i : Int) <= (i0 : Int) + 2) := by omega
        simp (maxSteps := 1000000) [go_sem, w1, w2, w3, w5, hi3, hi3']
        exact h H1 d1 hS1 hA1 hQ1 hP
  · have h8' : ¬ ((8 : Int) <= l) := by omega
    have fin := h H d (Same.refl _ _) hA hQ (permIn_refl _ _ _)
    simp (maxSteps := 1000000) [go_sem, w0, h8, h8']
    exact fin

end Go.Proofs.YtfnegaedkomcgaaGreat
end

section
namespace Go.Proofs.YtfnegaedkomcgaaGreat
open Go.Ab Go.Sort

theorem pdqO_ok {lt : Int -> Int -> Bool} {Q : Int -> Prop} {n : Nat} (hS : SWO lt) (hl : n <= 1048576) : ∀ (N : Nat) {H : Heap} {id a b limit : Nat} {d : Array Int}, b - a <= N -> Arr cellsI H id d -> d.size = n -> a <= b -> b <= n -> limit <= 64 -> Below lt a b d -> QA Q d ->
    CmpO lt Q id H -> ∀ (Post : Value -> Heap -> Prop), (∀ H' d', Same (fun k => k = id) H H' -> Arr cellsI H' id d' -> PermIn a b d d' -> SortedIn lt a b d' -> Post (.tuple #[]) H') ->
    ACalls Tryz.prog 131 [lv 1 id 0 n, .int .i64 a, .int .i64 b, .int .i64 limit] H Post := by
  intro N
  induction N using Nat.strongRecOn with
  | _ N ih =>
  intro H id a b limit d hN hA hn hab hb hlim hBel hQ hC Post h
  refine acalls_vc (rs := []) Tryz.func131 rfl rfl Tryz.ntmps131 rfl rfl ?_
  simp (maxSteps := 1000000) [go_sem]
  refine AWp.loopA (St := Nat × Nat × Nat × Bool × Bool × Array Int) (fun s => [(0, lv 1 id 0 n), (1, .int .i64 s.1), (2, .int .i64 s.2.1), (3, .int .i64 s.2.2.1), (8, .bool s.2.2.2.1), (9, .bool s.2.2.2.2.1)])
    (fun s H' => a <= s.1 /\ s.1 <= s.2.1 /\ s.2.1 <= b /\ s.2.2.1 <= 64 /\ s.2.2.2.2.2.size = n /\ QA Q s.2.2.2.2.2 /\ Same (fun k => k = id) H H' /\ Arr cellsI H' id s.2.2.2.2.2 /\ Below lt s.1 s.2.1 s.2.2.2.2.2 /\
      ∀ R, PermIn s.1 s.2.1 s.2.2.2.2.2 R -> SortedIn lt s.1 s.2.1 R -> PermIn a b d R /\ SortedIn lt a b R) (fun s => s.2.1 - s.1) (a, b, limit, true, true, d) ?_ ?_ ?_
  · simp [upF, Fr.get, Up.refl]
  · exact ⟨Nat.le_refl _, hab, Nat.le_refl _, hlim, hn, hQ, Same.refl _ _, hA, hBel, fun R h1 h2 => ⟨h1, h2⟩⟩
  · rintro K ⟨a1, b1, li, wb, wp, d1⟩ H1 ⟨haa, hab1, hbb, hli, hsz, hQ1, hS1, hA1, hB1, hfin⟩ hK
    simp only at haa hab1 hbb hli hsz hQ1 hS1 hA1 hB1 hfin
    obtain ⟨l, hll⟩ : ∃ l, l = b1 - a1 := ⟨_, rfl⟩
    have w0 : IntKind.i64.wrap ((b1 : Int) - a1) = (l : Int) := by rw [hll, i64w (by omega) (by omega)]; omega
    refine AWp.block ?_
    refine AWp.ofVc ?_
    simp (maxSteps := 1000000) [go_sem, w0]
    by_cases h12 : l <= 12
    · have h12' : (l : Int) <= 12 := by omega
      refine AWp.ofVc ?_
      simp (maxSteps := 1000000) [go_sem, h12, h12']
      refine insO_ok hA1 hsz hl (by omega) (by omega) hQ1 (hC.keep hS1) _ ?_
      intro H2 hS2 hA2
      obtain ⟨f1, f2⟩ := insertionSort_holds hS d1 a1 b1 (by omega) (by omega)
      obtain ⟨f3, f4⟩ := hfin _ f1 f2
      have fin := h H2 _ (hS1.trans hS2) hA2 f3 f4
      simp (maxSteps := 1000000) [go_sem]
      exact fin
    have h12' : ¬ ((l : Int) <= 12) := by omega
    refine AWp.ofVc ?_
    simp (maxSteps := 1000000) [go_sem, h12, h12']
    by_cases hl0 : li = 0
    · subst hl0
      refine AWp.ofVc ?_
      simp (maxSteps := 1000000) [go_sem]
      refine heapO_ok hA1 hsz hl (by omega) (by omega) hQ1 (hC.keep hS1) _ ?_
      intro H2 hS2 hA2
      obtain ⟨f1, f2⟩ := heapSort_holds hS d1 a1 b1 (by omega) (by omega)
      obtain ⟨f3, f4⟩ := hfin _ f1 f2
      have fin := h H2 _ (hS1.trans hS2) hA2 f3 f4
      simp (maxSteps := 1000000) [go_sem]
      exact fin
    have hl0' : ((li : Int) == 0) = false := by rw [beq_eq_false_iff_ne]; omega
    refine AWp.ofVc ?_
    simp (maxSteps := 1000000) [go_sem, hl0, hl0']
    refine AWp.seqCut (St := Nat × Array Int) (fun s => [(0, lv 1 id 0 n), (1, .int .i64 a1), (2, .int .i64 b1), (3, .int .i64 s.1), (8, .bool wb), (9, .bool wp), (10, .int .i64 l)])
      (fun s H' => s.1 <= 64 /\ QA Q s.2 /\ Same (fun k => k = id) H H' /\ Arr cellsI H' id s.2 /\ PermIn a1 b1 d1 s.2) ?_ ?_
    · intro KE hKE
      cases wb with
      | true =>
        simp (maxSteps := 1000000) [go_sem]
        exact hKE (li, d1) _ _ (by simp [upF, Fr.get, Up.refl]) ⟨hli, hQ1, hS1, hA1, permIn_refl _ _ _⟩
      | false =>
        obtain ⟨lj, hlj⟩ : ∃ lj, lj = li - 1 := ⟨_, rfl⟩
        have wl : IntKind.i64.wrap ((li : Int) - 1) = (lj : Int) := by rw [hlj, i64w (by omega) (by omega)]; omega
        simp (maxSteps := 1000000) [go_sem]
        refine breakO_ok hA1 hsz hl (by omega) (by omega) hQ1 _ ?_
        intro H2 d2 hS2 hA2 hQ2 hP2
        simp (maxSteps := 1000000) [go_sem, wl]
        exact hKE (lj, d2) _ _ (by simp [upF, Fr.get, Up.refl]) ⟨by simp only; omega, hQ2, hS1.trans hS2, hA2, hP2⟩
    rintro ⟨lj, d2⟩ H2 ⟨hlj, hQ2, hS2, hA2, hP2⟩
    simp only at hlj hQ2 hS2 hA2 hP2 ⊢
    have hsz2 : d2.size = n := by rw [hP2.1]; exact hsz
    refine AWp.ofVc ?_
    simp (maxSteps := 1000000) [go_sem]
    refine pivotO_ok hA2 hsz2 hl (by omega) (by omega) hQ2 (hC.keep hS2) _ ?_
    intro H3 p t hp3 hpr
    have hS3 := hS2.via (Same.of_prefix (S := fun _ => False) hp3) (fun _ _ h => h.elim)
    have hA3 := hA2.pre hp3
    simp (maxSteps := 1000000) [go_sem]
    refine AWp.seqCut (St := Nat × Int × Array Int) (fun s => [(0, lv 1 id 0 n), (1, .int .i64 a1), (2, .int .i64 b1), (3, .int .i64 lj), (8, .bool wb), (9, .bool wp), (10, .int .i64 l), (11, .int .i64 s.1), (12, .int .i64 s.2.1)])
      (fun s H' => a1 <= s.1 /\ s.1 < b1 /\ QA Q s.2.2 /\ Same (fun k => k = id) H H' /\ Arr cellsI H' id s.2.2 /\ PermIn a1 b1 d2 s.2.2) ?_ ?_
    · intro KE hKE
      by_cases ht : t = 2
      · subst ht
        obtain ⟨p2, hp2⟩ : ∃ p2, p2 = b1 - 1 - (p - a1) := ⟨_, rfl⟩
        have w1 : IntKind.i64.wrap ((b1 : Int) - 1) = (b1 : Int) - 1 := i64w (by omega) (by omega)
        have w2 : IntKind.i64.wrap ((p : Int) - a1) = (p : Int) - a1 := i64w (by omega) (by omega)
        have w3 : IntKind.i64.wrap ((b1 : Int) - 1 - ((p : Int) - a1)) = (p2 : Int) := by rw [hp2, i64w (by omega) (by omega)]; omega
        simp (maxSteps := 1000000) [go_sem]
        refine reverseO_ok hA3 hsz2 hl (by omega) (by omega) _ ?_
        intro H4 hS4 hA4
        have hP4 := reverseRange_holds d2 a1 b1 (by omega) (by omega)
        simp (maxSteps := 1000000) [go_sem, w1, w2, w3]
        exact hKE (p2, 1, reverseRange d2 a1 b1) _ _ (by simp [upF, Fr.get, Up.refl]) ⟨by simp only; omega, by simp only; omega, QA_perm (by omega) hP4 hQ2, hS3.trans hS4, hA4, hP4⟩
      · have ht' : (t == 2) = false := by rw [beq_eq_false_iff_ne]; exact ht
        simp (maxSteps := 1000000) [go_sem, ht, ht']
        exact hKE (p, t, d2) _ _ (by simp [upF, Fr.get, Up.refl]) ⟨hpr.1, hpr.2, hQ2, hS3, hA3, permIn_refl _ _ _⟩
    rintro ⟨q, u, d3⟩ H4 ⟨hq1, hq2, hQ3, hS4, hA4, hP3⟩
    simp only at hq1 hq2 hQ3 hS4 hA4 hP3 ⊢
    have hsz3 : d3.size = n := by rw [hP3.1]; exact hsz2
    have hP13 := permIn_trans _ _ _ _ _ hP2 hP3
    have hB3 : Below lt a1 b1 d3 := hB1.perm (by omega) hP13
    refine AWp.seqCut (St := Array Int) (fun _ => [(0, lv 1 id 0 n), (1, .int .i64 a1), (2, .int .i64 b1), (3, .int .i64 lj), (8, .bool wb), (9, .bool wp), (10, .int .i64 l), (11, .int .i64 q)])
      (fun d4 H' => QA Q d4 /\ Same (fun k => k = id) H H' /\ Arr cellsI H' id d4 /\ PermIn a1 b1 d1 d4) ?_ ?_
    · intro KE hKE
      have skip := fun fr' hfr => hKE d3 fr' H4 hfr ⟨hQ3, hS4, hA4, hP13⟩
      cases wb with
      | false =>
        simp (maxSteps := 1000000) [go_sem, undef]
        exact skip _ (by simp [upF, Fr.get, Up.refl])
      | true =>
        cases wp with
        | false =>
          simp (maxSteps := 1000000) [go_sem, undef]
          exact skip _ (by simp [upF, Fr.get, Up.refl])
        | true =>
          by_cases hu : u = 1
          · subst hu
            simp (maxSteps := 1000000) [go_sem]
            refine partInsO_ok hA4 hsz3 hl (by omega) (by omega) hQ3 (hC.keep hS4) _ ?_
            intro H6 hS6 hA6
            obtain ⟨f1, f2⟩ := partialInsertionSort_holds hS d3 a1 b1 (by omega) (by omega) hB3
            generalize partialInsertionSort lt d3 a1 b1 = r at *
            obtain ⟨d4, ok⟩ := r
            simp only at hA6 f1 f2 ⊢
            have hP14 := permIn_trans _ _ _ _ _ hP13 f1
            cases ok with
            | true =>
              obtain ⟨f3, f4⟩ := hfin _ hP14 (f2 rfl)
              have fin := h H6 _ (hS4.trans hS6) hA6 f3 f4
              simp (maxSteps := 1000000) [go_sem]
              exact fin
            | false =>
              simp (maxSteps := 1000000) [go_sem]
              exact hKE d4 _ _ (by simp [upF, Fr.get, Up.refl]) ⟨QA_perm (by omega) f1 hQ3, hS4.trans hS6, hA6, hP14⟩
          · have hu' : (u == 1) = false := by rw [beq_eq_false_iff_ne]; exact hu
            simp (maxSteps := 1000000) [go_sem, hu, hu']
            exact skip _ (by simp [upF, Fr.get, Up.refl])
    rintro d4 H6 ⟨hQ4, hS6, hA6, hP4⟩
    clear hA4 hA3 hA2 hS2 hS3 hS4 hP2 hP3 hP13 hQ2 hQ3 hB3
    have hsz4 : d4.size = n := by rw [hP4.1]; exact hsz
    have hB4 : Below lt a1 b1 d4 := hB1.perm (by omega) hP4
    have hfin4 : ∀ R, PermIn a1 b1 d4 R -> SortedIn lt a1 b1 R -> PermIn a b d R /\ SortedIn lt a b R := fun R r1 r2 => hfin R (permIn_trans _ _ _ _ _ hP4 r1) r2
    refine AWp.seqCut (St := Unit) (fun _ => [(0, lv 1 id 0 n), (1, .int .i64 a1), (2, .int .i64 b1), (3, .int .i64 lj), (8, .bool wb), (9, .bool wp), (10, .int .i64 l), (11, .int .i64 q)])
      (fun _ H' => Same (fun k => k = id) H H' /\ Arr cellsI H' id d4) ?_ ?_
    · intro KE hKE
      by_cases ha0 : a1 = 0
      · subst ha0
        simp (maxSteps := 1000000) [go_sem]
        refine AWp.draw mixed [(0, false), (1, false), (2, false), (3, false), (4, false), (5, false), (6, false), (7, false), (8, false), (9, false), (10, false), (11, false), (12, false), (13, false), (14, false)] (by kernel_rfl) ?_
        simp (maxSteps := 1000000) [go_sem, undef]
        exact hKE () _ _ (by simp [upF, Fr.get, Up.refl]) ⟨hS6, hA6⟩
      · obtain ⟨r, hr⟩ : ∃ r, a1 - 1 = r := ⟨_, rfl⟩
        have wr : IntKind.i64.wrap ((a1 : Int) - 1) = (r : Int) := by rw [<- hr, i64w (by omega) (by omega)]; omega
        have ha0' : (0 : Int) < a1 := by omega
        have ha1' : 0 < a1 := by omega
        have hi1 : r < d4.size := by omega
        have hi0 : q < d4.size := by omega
        have n1 : r < n := by omega
        have n0 : q < n := by omega
        have c1 := hA6.load cellsI_len hi1
        have c0 := hA6.load cellsI_len hi0
        have q1 := hQ4 _ hi1
        have q0 := hQ4 _ hi0
        obtain ⟨x, hx⟩ : ∃ x, d4[r]! = x := ⟨_, rfl⟩
        obtain ⟨y, hy⟩ : ∃ y, d4[q]! = y := ⟨_, rfl⟩
        rw [hx] at c1 q1
        rw [hy] at c0 q0
        simp only [cellsI, Nat.mul_one, Row.val] at c1 c0
        simp (maxSteps := 1000000) [go_sem]
        refine AWp.draw mixed [(0, false), (1, false), (2, false), (3, false), (4, false), (5, false), (6, false), (7, false), (8, false), (9, false), (10, false), (11, false), (12, false), (13, false), (14, false)] (by kernel_rfl) ?_
        simp (maxSteps := 1000000) [go_sem, ha0, ha0', ha1', c1, c0, n1, n0, wr]
        refine hC H6 x y _ hS6 q1 q0 ?_
        intro H7 c hp7 hc
        have hS7 := hS6.via (Same.of_prefix (S := fun _ => False) hp7) (fun _ _ h => h.elim)
        have hA7 := hA6.pre hp7
        cases hl' : lt x y with
        | true =>
          rw [hl'] at hc
          have hc0 := hc
          simp (maxSteps := 1000000) [go_sem, hc, hc0]
          exact hKE () _ _ (by simp [upF, Fr.get, Up.refl]) ⟨hS7, hA7⟩
        | false =>
          rw [hl'] at hc
          have hc0 := hc
          have hnl : lt d4[a1 - 1]! d4[q]! = false := by rw [hr, hx, hy]; exact hl'
          simp (maxSteps := 1000000) [go_sem, hc, hc0]
          refine partEqO_ok hA7 hsz4 hl hq1 hq2 (by omega) hQ4 (hC.keep hS7) _ ?_
          intro H8 hS8 hA8
          obtain ⟨⟨mid, d5⟩, he⟩ : ∃ r, partitionEqual lt d4 a1 b1 q = r := ⟨_, rfl⟩
          rw [he] at hA8 ⊢
          have hA8 : Arr cellsI H8 id d5 := hA8
          obtain ⟨r1, r2, r3, r4, r5⟩ := round_eq hS (partitionEqual_holds lt) ha1' hq1 hq2 (by omega) hB4 hnl he
          have hP5 : PermIn a1 b1 d4 d5 := by
            have := (partitionEqual_holds lt hS d4 a1 b1 q hq1 hq2 (by omega) (fun i hi hi' => by
              rcases hB4 with h0 | hB
              · omega
              · exact hS.ntrans _ _ _ (hB i hi hi') hnl)).2.2.1
            rw [he] at this; exact this
          simp (maxSteps := 1000000) [go_sem]
          exact hK (mid, b1, lj, wb, wp, d5) _ _ (by simp only; omega) (by simp [upF, Fr.get, Up.refl]) ⟨by simp only; omega, r2, hbb, hlj, by simp only; omega, QA_perm (by omega) hP5 hQ4, hS7.trans hS8, hA8, r4, fun R R1 R2 => by obtain ⟨g1, g2⟩ := r5 R R1 R2; exact hfin4 R g1 g2⟩
    rintro _ H7 ⟨hS7, hA7⟩
    refine AWp.ofVc ?_
    simp (maxSteps := 1000000) [go_sem]
    refine partO_ok hA7 hsz4 hl hq1 hq2 (by omega) hQ4 (hC.keep hS7) _ ?_
    intro H8 hS8 hA8
    obtain ⟨⟨mid, ap, d5⟩, he⟩ : ∃ r, partition lt d4 a1 b1 q = r := ⟨_, rfl⟩
    rw [he] at hA8 ⊢
    have hA8 : Arr cellsI H8 id d5 := hA8
    obtain ⟨r1, r2, r3, r4, r5, r6, r7⟩ := round_part hS (partition_holds lt) hq1 hq2 (by omega) hB4 he
    have hP5 : PermIn a1 b1 d4 d5 := by
      have := (partition_holds lt hS d4 a1 b1 q hq1 hq2 (by omega)).2.2.1
      rw [he] at this; exact this
    have hQ5 := QA_perm (by omega) hP5 hQ4
    have hS8 := hS7.trans hS8
    obtain ⟨ll, hll2⟩ : ∃ ll, ll = mid - a1 := ⟨_, rfl⟩
    obtain ⟨lr, hlr⟩ : ∃ lr, lr = b1 - mid := ⟨_, rfl⟩
    obtain ⟨m1, hm1⟩ : ∃ m1, m1 = mid + 1 := ⟨_, rfl⟩
    have w1 : IntKind.i64.wrap ((mid : Int) - a1) = (ll : Int) := by rw [hll2, i64w (by omega) (by omega)]; omega
    have w2 : IntKind.i64.wrap ((b1 : Int) - mid) = (lr : Int) := by rw [hlr, i64w (by omega) (by omega)]; omega
    have w3 : IntKind.i64.wrap ((l : Int) / 8) = (l : Int) / 8 := i64w (by omega) (by omega)
    have w4 : IntKind.i64.wrap ((mid : Int) + 1) = (m1 : Int) := by rw [hm1, i64w (by omega) (by omega)]; omega
    simp (maxSteps := 1000000) [go_sem]
    refine vc_sound _ _ _ _ ?_
    by_cases hlr2 : ll < lr
    · have hlr2' : (ll : Int) < lr := by omega
      simp (maxSteps := 1000000) [go_sem, w1, w2, w3, hlr2, hlr2']
      refine ih (mid - a1) (by omega) (Nat.le_refl _) hA8 (by omega) r1 (by omega) hlj r4 hQ5 (hC.keep hS8) _ ?_
      intro H9 d6 hS9 hA9 hP6 hs6
      obtain ⟨g1, g2⟩ := r6 d6 hP6 hs6
      simp (maxSteps := 1000000) [go_sem, w4]
      refine hK (m1, b1, lj, decide ((l : Int) / 8 <= ll), ap, d6) _ _ (by simp only; omega) (by simp [upF, Fr.get, Up.refl]) ⟨by simp only; omega, by simp only; omega, hbb, hlj, by simp only; rw [hP6.1]; omega, QA_perm (by omega) hP6 hQ5, hS8.trans hS9, hA9, by simp only [hm1]; exact g1, ?_⟩
      simp only [hm1]
      intro R R1 R2
      obtain ⟨k1, k2⟩ := g2 R R1 R2
      exact hfin4 R k1 k2
    · have hlr2' : ¬ ((ll : Int) < lr) := by omega
      simp (maxSteps := 1000000) [go_sem, w1, w2, w3, w4, hlr2, hlr2']
      refine ih (b1 - m1) (by omega) (Nat.le_refl _) hA8 (by omega) (by omega) (by omega) hlj (by rw [hm1]; exact r5) hQ5 (hC.keep hS8) _ ?_
      intro H9 d6 hS9 hA9 hP6 hs6
      rw [hm1] at hP6 hs6
      obtain ⟨g1, g2⟩ := r7 d6 hP6 hs6
      simp (maxSteps := 1000000) [go_sem]
      refine hK (a1, mid, lj, decide ((l : Int) / 8 <= lr), ap, d6) _ _ (by simp only; omega) (by simp [upF, Fr.get, Up.refl]) ⟨haa, r1, by simp only; omega, hlj, by simp only; rw [hP6.1]; omega, QA_perm (by omega) hP6 hQ5, hS8.trans hS9, hA9, g1, ?_⟩
      intro R R1 R2
      obtain ⟨k1, k2⟩ := g2 R R1 R2
      exact hfin4 R k1 k2

end Go.Proofs.YtfnegaedkomcgaaGreat
end

section
namespace Go.Proofs.YtfnegaedkomcgaaGreat
open Go.Ab Go.Sort

theorem w64_0O : IntKind.i64.wrap 0 = 0 := i64w (by omega) (by omega)
theorem w64_1O : IntKind.i64.wrap 1 = 1 := i64w (by omega) (by omega)
theorem wu64_0O : IntKind.u64.wrap 0 = 0 := by rw [IntKind.wrap_u64]; omega
theorem ins0O_ok {H : Heap} {id : Nat} (Post : Value -> Heap -> Prop) (h : Post (.tuple #[]) H) :
    ACalls Tryz.prog 150 [lv 1 id 0 0, .int .i64 0, .int .i64 0] H Post := by
  refine acalls_vc (rs := []) Tryz.func150 rfl rfl Tryz.ntmps150 rfl rfl ?_
  simp (maxSteps := 1000000) [go_sem, w64_0O, w64_1O]
  refine AWp.loopVc (St := Unit) (fun _ => [(2, .int .i64 0), (6, .int .i64 1)]) (fun _ H' => H' = H) (fun _ => 0) () ?_ ?_ ?_
  · simp [upF, Fr.get, Up.refl]
  · rfl
  · rintro K _ H' rfl hK
    simp (maxSteps := 1000000) [go_sem, w64_0O, w64_1O]
    exact h
theorem pdq0O_ok {H : Heap} {id : Nat} {l : Int} (Post : Value -> Heap -> Prop) (h : Post (.tuple #[]) H) :
    ACalls Tryz.prog 131 [lv 1 id 0 0, .int .i64 0, .int .i64 0, .int .i64 l] H Post := by
  refine acalls_vc (rs := []) Tryz.func131 rfl rfl Tryz.ntmps131 rfl rfl ?_
  simp (maxSteps := 1000000) [go_sem, w64_0O, w64_1O]
  refine AWp.loopA (St := Unit) (fun _ => [(0, lv 1 id 0 0), (1, .int .i64 0), (2, .int .i64 0)]) (fun _ H' => H' = H) (fun _ => 0) () ?_ ?_ ?_
  · simp [upF, Fr.get, Up.refl]
  · rfl
  · rintro K _ H' rfl hK
    refine AWp.block ?_
    refine AWp.ofVc ?_
    simp (maxSteps := 1000000) [go_sem, w64_0O, w64_1O]
    refine AWp.ofVc ?_
    simp (maxSteps := 1000000) [go_sem, w64_0O, w64_1O]
    refine ins0O_ok _ ?_
    simp (maxSteps := 1000000) [go_sem, w64_0O, w64_1O]
    exact h

theorem sortFuncO_ok {H : Heap} {id n : Nat} {l : List Int} {lt : Int -> Int -> Bool} {Q : Int -> Prop} (hS : SWO lt) (hA : OL 1 H id (l.flatMap cellsI) n) (hn : l.length = n) (hl : n <= 1048576) (hQ : ∀ x ∈ l, Q x)
    (hC : CmpO lt Q id H) (Post : Value -> Heap -> Prop)
    (h : ∀ (H' : Heap) (l' : List Int), Same (fun k => k = id) H H' -> OL 1 H' id (l'.flatMap cellsI) n -> l'.Perm l -> l'.Pairwise (fun x y => lt y x = false) -> Post (.tuple #[]) H') :
    ACalls Tryz.prog 103 [lv 1 id 0 n] H Post := by
  refine acalls_vc (rs := []) Tryz.func103 rfl rfl Tryz.ntmps103 rfl rfl ?_
  have w1 : IntKind.u64.wrap (n : Int) = n := by rw [IntKind.wrap_u64]; omega
  rcases hA.2 with ⟨h0, hg⟩ | hb
  · subst h0
    have hnil : l = [] := List.eq_nil_of_length_eq_zero hn
    subst hnil
    simp (maxSteps := 1000000) [go_sem, wu64_0O]
    refine bitsLenC_ok (x := 0) (by omega) _ ?_
    simp (maxSteps := 1000000) [go_sem]
    refine pdq0O_ok _ ?_
    simp (maxSteps := 1000000) [go_sem]
    exact h H [] (Same.refl _ _) hA (List.Perm.refl _) List.Pairwise.nil
  · have hA' : Arr cellsI H id l.toArray := by unfold Arr; simpa using hb
    have hQ' : QA Q l.toArray := by
      intro k hk
      rw [getElem!_pos l.toArray k hk]
      exact hQ _ (by simp)
    simp (maxSteps := 1000000) [go_sem, w1]
    refine bitsLenC_ok (by omega) _ ?_
    have hb64 : bitsLen n <= 64 := bitsLen_lt (by omega)
    simp (maxSteps := 1000000) [go_sem]
    refine pdqO_ok hS hl n (a := 0) (limit := bitsLen n) (by omega) hA' (by simpa using hn) (Nat.zero_le _) (Nat.le_refl _) hb64 (.inl rfl) hQ' hC _ ?_
    intro H' d' hS' hA2 hP hs
    have hsz : d'.size = n := by rw [hP.1]; simpa using hn
    have hp := perm_list (by simpa using hn) hP
    have fin := h H' d'.toList hS' ⟨by rw [flat_len cellsI_len, Array.length_toList, hsz], .inr hA2⟩ (by simpa using hp) (sorted_list hsz hs)
    simp (maxSteps := 1000000) [go_sem]
    exact fin

end Go.Proofs.YtfnegaedkomcgaaGreat
end

section
namespace Go.Ab
open Go.RowKit (Below)

theorem R.later {B : Nat} {w0 : World} {ρ : Rho} {H : Heap} {w w' : World} (h : R B w0 ρ H w) (hb : Below w.heap.size w w') : R B w0 ρ H w' :=
  ⟨h.len, h.below.trans (hb.mono h.base), Nat.le_trans h.base hb.size, fun i b l h1 h2 h3 => (h.blk i b l h1 h2 h3).kept (List.prefix_refl _) (hb.block _ (h.blk i b l h1 h2 h3).lt), h.apart, h.ghost⟩

theorem R.addRow {B : Nat} {w0 : World} {ρ : Rho} {H : Heap} {w w' : World} (h : R B w0 ρ H w) (hb : Below w.heap.size w w') {g : Nat} (hg : w.heap.size <= g) {arr : Array Value} {elem : TypeId} (hc : w'.heap[g]? = some (.cells arr elem (0, 0))) (cs : List Value)
    (hle : ∀ (k : Nat) (v : Value), cs[k]? = some v -> v.oneCell' = true /\ ∃ cv, arr[k]? = some cv /\ VR ρ v cv) :
    R B w0 (ρ ++ [⟨g, 0, arr.size⟩]) (H ++ [⟨cs, true, true⟩]) w' := by
  have hpre : ρ <+: ρ ++ [⟨g, 0, arr.size⟩] := List.prefix_append _ _
  have hlt : ∀ (i : Nat) (b : Blk) (l : Loc), H[i]? = some b -> ρ[i]? = some l -> b.live = true -> l.blk < w.heap.size := fun i b l h1 h2 h3 => (h.blk i b l h1 h2 h3).lt
  have h' := h.later hb
  have getH : ∀ (i : Nat) (b : Blk), (H ++ [(⟨cs, true, true⟩ : Blk)])[i]? = some b -> (H[i]? = some b /\ i < H.length) \/ (i = H.length /\ b = ⟨cs, true, true⟩) := by
    intro i b hb
    rcases Nat.lt_or_ge i H.length with hi | hi
    · rw [List.getElem?_append_left hi] at hb; exact .inl ⟨hb, hi⟩
    · rw [List.getElem?_append_right hi] at hb
      cases hk : i - H.length with
      | zero => rw [hk] at hb; simp at hb; exact .inr ⟨by omega, hb.symm⟩
      | succ k => rw [hk] at hb; simp at hb
  have getρ : ∀ (i : Nat) (l : Loc), (ρ ++ [(⟨g, 0, arr.size⟩ : Loc)])[i]? = some l -> (i < H.length -> ρ[i]? = some l) /\ (i = H.length -> l = ⟨g, 0, arr.size⟩) := by
    intro i l hl
    refine ⟨fun hi => ?_, fun hi => ?_⟩
    · rw [List.getElem?_append_left (by rw [h.len]; exact hi)] at hl; exact hl
    · rw [List.getElem?_append_right (by rw [h.len]; omega), h.len, hi] at hl; simpa using hl.symm
  refine ⟨by simp [h.len], h'.below, h'.base, ?_, ?_, ?_⟩
  · intro i b l hb hl hv
    rcases getH i b hb with ⟨hb', hi⟩ | ⟨hi, rfl⟩
    · exact (h'.blk i b l hb' ((getρ i l hl).1 hi) hv).kept hpre rfl
    · have := (getρ i l hl).2 hi
      subst this
      refine ⟨arr, elem, (0, 0), hc, rfl, fun k v hk => ?_, fun _ => ⟨Nat.le_trans h.base hg, rfl⟩⟩
      obtain ⟨h1, cv, h2, h3⟩ := hle k v hk
      exact ⟨h1, cv, by simpa using h2, h3.mono hpre⟩
  · intro i j b c l m hij hb hc hl hm hbl hcl hbo
    rcases getH i b hb with ⟨hb', hi⟩ | ⟨hi, rfl⟩
    · rcases getH j c hc with ⟨hc', hj⟩ | ⟨hj, rfl⟩
      · exact h.apart i j b c l m hij hb' hc' ((getρ i l hl).1 hi) ((getρ j m hm).1 hj) hbl hcl hbo
      · have := (getρ j m hm).2 hj
        subst this
        have := hlt i b l hb' ((getρ i l hl).1 hi) hbl
        show l.blk ≠ g
        omega
    · have := (getρ i l hl).2 hi
      subst this
      rcases getH j c hc with ⟨hc', hj⟩ | ⟨hj, rfl⟩
      · have := hlt j c m hc' ((getρ j m hm).1 hj) hcl
        show g ≠ m.blk
        omega
      · omega
  · intro i b l hb hl hd ho
    rcases getH i b hb with ⟨hb', hi⟩ | ⟨hi, rfl⟩
    · exact h.ghost i b l hb' ((getρ i l hl).1 hi) hd ho
    · cases hd

end Go.Ab
namespace Go.Proofs.YtfnegaedkomcgaaGreat
open Go.Ab Go.Sort

theorem iin_of {B : Nat} {w0 : World} {ρ : Rho} {H : Heap} {w : World} (hR : R B w0 ρ H w) {u cv : Value} {xs : List Int} (hu : IntsAt H u xs) (hv : VR ρ u cv) : IIn w.heap.size w cv xs := by
  obtain ⟨i, o, rfl, h1, h2⟩ := hu
  by_cases h0 : xs = []
  · subst h0
    cases hv with
    | sliceUnk _ _ _ _ _ c l hl => exact .inl ⟨_, _, rfl, rfl⟩
    | sliceZero => exact .inl ⟨_, _, rfl, rfl⟩
  · rcases h1 with h1 | h1
    · exact absurd (by simpa [ints] using h1) h0
    have hpos : 0 < xs.length := List.length_pos_iff.2 h0
    have hlen : (ints xs).length = xs.length := by simp [ints]
    rw [hlen] at h1
    obtain ⟨l, ds, hl, _, hds, _, hcell⟩ := hR.cellsAt h1
    obtain ⟨b, hb, hbl, hn, _⟩ := cellsAt_inv h1
    have hblk := (hR.blk i b l hb hl hbl).lt
    generalize hm : xs.length = m at *
    cases hv with
    | sliceUnk _ _ _ _ o' c l' hl' hoff =>
      rw [hl] at hl'; cases hl'
      rcases hoff with rfl | ⟨e, _⟩
      · refine .inr ⟨l.blk, l.off + o, c, by rw [hm], hblk, fun j hj => ?_⟩
        rw [hm] at hj
        have hx : (ints xs)[j]? = some (.int .i64 xs[j]) := by simp [ints, List.getElem?_eq_getElem (show j < xs.length by omega)]
        have hdl : j < ds.length := by rw [<- hds.1, hlen]; omega
        have h3 := hds.2 j _ _ hx (List.getElem?_eq_getElem hdl)
        have h4 := hcell j _ (List.getElem?_eq_getElem hdl)
        rw [h3.int_inv] at h4
        rw [h4, List.getElem?_eq_getElem (show j < xs.length by omega)]
        rfl
      · omega
    | sliceZero => omega

theorem collect_ok {H : Heap} {id : Nat} {u : Value} {xs : List Int} (hx : Holds H id [u]) (hu : IntsAt H u xs) (hl : xs.length <= 1048576) (Post : Value -> Heap -> Prop) (h : ∀ H' w, H <+: H' -> IntsIn H.length H'.length H' w xs -> Post w H') :
    ACalls Tryz.prog 137 [.func (.func 138) #[] #[.pointer (some ⟨id, 0, none⟩)]] H Post := by
  refine ⟨⟨_, Tryz.func137, rfl, rfl⟩, ?_⟩
  intro B w0 ρ w cargs hR hv
  obtain ⟨c, cs', rfl, h1, h2⟩ := hv.cons_inv
  obtain rfl := h2.nil_inv
  obtain ⟨az, bs, rfl, h3, h4⟩ := h1.func_inv
  have haz : az = #[] := by
    have := h3.1; simp at this; exact Array.eq_empty_of_size_eq_zero this.symm
  subst haz
  obtain ⟨c2, cs2, e2, h5, h6⟩ := h4.cons_inv
  obtain rfl := h6.nil_inv
  obtain ⟨l, hl', rfl⟩ := h5.ptr_inv
  have hbs : bs = #[.pointer (some ⟨l.blk, l.off + 0, none⟩)] := by
    apply Array.ext'
    simpa using e2
  subst hbs
  obtain ⟨own, hb⟩ := hx
  obtain ⟨cv, h7, h8, _⟩ := (hR.blk id _ l hb hl' rfl).cell (k := 0) (v := u) rfl
  have hlt := (hR.blk id _ l hb hl' rfl).lt
  refine (collectVals l.blk (l.off + 0) cv xs (Nat.le_trans hl (by decide)) (by omega) w hlt h7 (iin_of hR hu h8)).mono ?_
  rintro e W ⟨v, rfl, hrow, hnil, hbel⟩
  obtain ⟨hrl, hrow⟩ := hrow
  by_cases h0 : xs = []
  · subst h0
    obtain rfl := hnil.2 rfl
    exact ⟨ρ, H, lv 1 0 0 0, _, rfl, List.prefix_refl _, hR.later hbel, .sliceZero _ _ _ _, h H _ (List.prefix_refl _) (IntsIn.nil _ _ _)⟩
  · rcases hrow with ⟨e, _⟩ | ⟨g, cap, cur, rfl, hg, hc, hcap, hmax, hsz, htk⟩
    · exact absurd (hnil.1 e) h0
    · have hR2 := hR.addRow hbel hg hc (ints xs) (by
        intro k v hk
        have hk' := (List.getElem?_eq_some_iff.1 hk).1
        simp only [ints, List.length_map] at hk'
        have e1 : (ints xs)[k]? = some (.int .i64 xs[k]) := by simp [ints, List.getElem?_eq_getElem hk']
        rw [e1] at hk; cases hk
        refine ⟨rfl, _, ?_, .int _ _⟩
        rw [<- Array.getElem?_toList]
        have e2 : (cur.toList.take (xs.length * 1))[k]? = some (.int .i64 xs[k]) := by rw [htk]; simp [List.getElem?_eq_getElem hk']
        rw [List.getElem?_take, if_pos (by omega)] at e2
        exact e2)
      refine ⟨_, _, lv 1 H.length 0 xs.length, _, rfl, List.prefix_append _ _, hR2, ?_, h _ _ (List.prefix_append _ _) ⟨H.length, ⟨rfl, .inr (by simp), by omega⟩, fun _ => ⟨Nat.le_refl _, by simp⟩⟩⟩
      refine .sliceUnk _ _ _ _ _ _ ⟨g, 0, cur.size⟩ ?_ (.inl (by simp)) hcap (by simp; omega)
      rw [List.getElem?_append_right (by rw [hR.len]; exact Nat.le_refl _), hR.len]; simp

theorem cmpLess {id : Nat} {H : Heap} : CmpO ltI (fun _ => True) id H := by
  intro H x y Post _ _ _ h
  exact cmpLess_ok _ (h H _ (List.prefix_refl _) rfl)

theorem sortO0_ok {H : Heap} {id : Nat} (Post : Value -> Heap -> Prop) (h : Post (.tuple #[]) H) : ACalls Tryz.prog 103 [lv 1 id 0 0] H Post := by
  refine acalls_vc (rs := []) Tryz.func103 rfl rfl Tryz.ntmps103 rfl rfl ?_
  simp (maxSteps := 1000000) [go_sem, wu64_0O]
  refine bitsLenC_ok (x := 0) (by omega) _ ?_
  simp (maxSteps := 1000000) [go_sem]
  refine pdq0O_ok _ ?_
  simp (maxSteps := 1000000) [go_sem]
  exact h

theorem cellsI_ints (xs : List Int) : xs.flatMap cellsI = ints xs := by
  induction xs with
  | nil => rfl
  | cons x xs ih => rw [List.flatMap_cons, ih]; rfl

theorem sortInts_ok {H : Heap} {id : Nat} {xs : List Int} (hb : xs = [] \/ H[id]? = some ⟨ints xs, true, true⟩) (hl : xs.length <= 1048576) (Post : Value -> Heap -> Prop)
    (h : ∀ (H' : Heap) (ys : List Int), Same (fun k => k = id) H H' -> (xs = [] -> H' = H) -> (ys = [] \/ H'[id]? = some ⟨ints ys, true, true⟩) -> ys.Perm xs -> AscI ys -> Post (.tuple #[]) H') :
    ACalls Tryz.prog 103 [lv 1 id 0 xs.length] H Post := by
  by_cases h0 : xs = []
  · subst h0
    exact sortO0_ok _ (h H [] (Same.refl _ _) (fun _ => rfl) (.inl rfl) (List.Perm.refl _) List.Pairwise.nil)
  · have hb := hb.resolve_left h0
    refine sortFuncO_ok (l := xs) (Q := fun _ => True) swoI ⟨by simp [cellsI_ints, ints], .inr (by rw [cellsI_ints]; exact hb)⟩ rfl hl (fun _ _ => trivial) cmpLess _ ?_
    intro H' ys hS hO hp hs
    refine h H' ys hS (fun e => absurd e h0) ?_ hp hs
    rcases hO.2 with ⟨e, _⟩ | e
    · exact absurd (List.eq_nil_of_length_eq_zero e) h0
    · right; rw [cellsI_ints] at e; exact e

theorem sortedI_ok {H : Heap} {id : Nat} {u : Value} {xs : List Int} (hx : Holds H id [u]) (hu : IntsAt H u xs) (hl : xs.length <= 1048576) (Post : Value -> Heap -> Prop) (h : ∀ H' w ys, H <+: H' -> IntsIn H.length H'.length H' w ys -> ys.Perm xs -> AscI ys -> Post w H') :
    ACalls Tryz.prog 115 [.func (.func 138) #[] #[.pointer (some ⟨id, 0, none⟩)]] H Post := by
  refine acalls_vc (rs := [.tmp 2]) Tryz.func115 rfl rfl Tryz.ntmps115 rfl rfl ?_
  simp (maxSteps := 1000000) [go_sem]
  refine collect_ok hx hu hl _ ?_
  rintro H1 w hp1 ⟨k, ⟨rfl, hk, hlk⟩, hsp⟩
  simp (maxSteps := 1000000) [go_sem]
  refine sortInts_ok hk hl _ ?_
  intro H2 ys hS he hb hp hs
  have hlen : ys.length = xs.length := hp.length_eq
  have fin := h H2 (lv 1 k 0 xs.length) ys ?_ ⟨k, ⟨by rw [hlen], hb, by omega⟩, fun hne => ?_⟩ hp hs
  · simp (maxSteps := 1000000) [go_sem]
    exact fin
  · by_cases h0 : xs = []
    · subst h0
      rw [he rfl]; exact hp1
    · have := hsp h0
      exact ((Same.of_prefix (S := fun j => j = k) hp1).trans hS).prefix (by rintro j hj rfl; exact absurd hj (by have := this.1; omega))
  · have h0 : xs ≠ [] := by rintro rfl; exact hne (List.eq_nil_of_length_eq_zero (by simpa using hlen))
    have := hsp h0
    exact ⟨this.1, Nat.lt_of_lt_of_le this.2 hS.1⟩

end Go.Proofs.YtfnegaedkomcgaaGreat
end

section
namespace Go.Proofs.YtfnegaedkomcgaaGreat
open Go.Ab Go.Sort

theorem values_ok {H : Heap} {i o n : Nat} (Post : Value -> Heap -> Prop) (h : Post (.func (.func 138) #[] #[.pointer (some ⟨H.length, 0, none⟩)]) (H ++ [⟨[lv 1 i o n], true, true⟩])) :
    ACalls Tryz.prog 116 [lv 1 i o n] H Post := by
  refine acalls_vc (rs := [.tmp 2]) Tryz.func116 rfl rfl Tryz.ntmps116 rfl rfl ?_
  simp (maxSteps := 1000000) [go_sem]
  exact h

theorem isOrder_ok {H : Heap} {u : Value} {xs : List Int} {n : Int} (hu : IntsAt H u xs) (hl : xs.length <= 1048576) (hn : -9223372036854775807 <= n /\ n <= 9223372036854775807) (Post : Value -> Heap -> Prop) (h : ∀ H' b, H <+: H' -> (b = true ↔ OrdL n xs) -> Post (.bool b) H') :
    ACalls Tryz.prog 78 [u, .int .i64 n] H Post := by
  have one := hu.one
  obtain ⟨i, o, rfl, h1, h2⟩ := hu
  refine acalls_vc (rs := [.tmp 4]) Tryz.func78 rfl rfl Tryz.ntmps78 rfl rfl ?_
  by_cases hc : (xs.length : Int) = n
  · have hcb : ((xs.length : Int) == n) = true := by simpa using hc
    simp (maxSteps := 1000000) [go_sem, hcb]
    refine values_ok _ ?_
    have hp0 : H <+: H ++ [(⟨[lv 1 i o xs.length], true, true⟩ : Blk)] := List.prefix_append _ _
    have hx0 := Holds.last H [lv 1 i o xs.length]
    generalize H ++ [(⟨[lv 1 i o xs.length], true, true⟩ : Blk)] = H0 at hp0 hx0 ⊢
    simp (maxSteps := 1000000) [go_sem]
    refine sortedI_ok hx0 ⟨i, o, rfl, h1.pre hp0, h2⟩ hl _ ?_
    intro H2 w ys hp2 hw hperm hasc
    simp (maxSteps := 1000000) [go_sem]
    refine rises_ok hw.read hn.1 hn.2 _ ?_
    intro b hb
    simp (maxSteps := 1000000) [go_sem]
    refine h H2 b (hp0.trans hp2) ?_
    rw [hb, rises_sorted hperm hasc]
    exact ⟨fun e => ⟨hc, e⟩, fun e => e.2⟩
  · have hcb : ((xs.length : Int) == n) = false := by simpa using hc
    simp (maxSteps := 1000000) [go_sem, hcb, undef]
    exact h H false (List.prefix_refl _) (by simp [OrdL, hc])

theorem blockOf_ok {H : Heap} {a b c : Int} (Post : Value -> Heap -> Prop) (h : ∀ H', H <+: H' -> Post (blk a b c).val H') : ACalls Tryz.prog 51 [.int .i64 a, .int .i64 b, .int .i64 c] H Post := by
  refine acalls_vc (rs := [.cell 6 39]) Tryz.func51 rfl rfl Tryz.ntmps51 rfl rfl ?_
  simp (maxSteps := 1000000) [go_sem]
  have hp0 : H <+: H ++ [(⟨[.int .i64 0, .int .i64 0, .int .i64 0], true, true⟩ : Blk), ⟨[.int .i64 a, .int .i64 b, .int .i64 c], true, true⟩] := List.prefix_append _ _
  have hz : (H ++ [(⟨[.int .i64 0, .int .i64 0, .int .i64 0], true, true⟩ : Blk), ⟨[.int .i64 a, .int .i64 b, .int .i64 c], true, true⟩])[H.length]? = some ⟨[.int .i64 0, .int .i64 0, .int .i64 0], true, true⟩ := by simp
  have hx : (H ++ [(⟨[.int .i64 0, .int .i64 0, .int .i64 0], true, true⟩ : Blk), ⟨[.int .i64 a, .int .i64 b, .int .i64 c], true, true⟩])[H.length + 1]? = some ⟨ints [a, b, c], true, true⟩ := by simp [ints]
  have hlen : (H ++ [(⟨[.int .i64 0, .int .i64 0, .int .i64 0], true, true⟩ : Blk), ⟨[.int .i64 a, .int .i64 b, .int .i64 c], true, true⟩]).length = H.length + 2 := by simp
  generalize H ++ [(⟨[.int .i64 0, .int .i64 0, .int .i64 0], true, true⟩ : Blk), ⟨[.int .i64 a, .int .i64 b, .int .i64 c], true, true⟩] = H0 at hp0 hz hx hlen ⊢
  refine ACalls.up (args' := [lv 1 (H.length + 1) 0 [a, b, c].length]) ⟨Up.ex (by omega) (.inr (by rw [cellsAt_of hx rfl (by simp [ints])]; rfl)), trivial⟩ ?_
  refine sortInts_ok (xs := [a, b, c]) (.inr hx) (by simp) _ ?_
  intro H2 ys hS _ hb hp hs
  have hys := blk_sorted hp hs
  have hb := hb.resolve_left (by rw [hys]; simp [Bk.list])
  rw [hys] at hb
  have hz2 : H2[H.length]? = some ⟨[.int .i64 0, .int .i64 0, .int .i64 0], true, true⟩ := hS.get hz (by omega)
  have c3 : cellsAt H2 (H.length + 1) 0 3 = some [.int .i64 (blk a b c).a, .int .i64 (blk a b c).b, .int .i64 (blk a b c).c] := by
    rw [cellsAt_of hb rfl (by simp [ints, Bk.list])]; rfl
  have s3 : storeAt H2 H.length 0 [.int .i64 (blk a b c).a, .int .i64 (blk a b c).b, .int .i64 (blk a b c).c] = some (H2.set H.length ⟨[.int .i64 (blk a b c).a, .int .i64 (blk a b c).b, .int .i64 (blk a b c).c], true, true⟩) := by
    rw [storeAt_of hz2 rfl rfl (by simp) (by simp [Value.oneCell'])]; rfl
  have hlt := (List.getElem?_eq_some_iff.1 hz2).1
  have c4 : cellsAt (H2.set H.length ⟨[.int .i64 (blk a b c).a, .int .i64 (blk a b c).b, .int .i64 (blk a b c).c], true, true⟩) H.length 0 3 = some [.int .i64 (blk a b c).a, .int .i64 (blk a b c).b, .int .i64 (blk a b c).c] := by
    rw [cellsAt_of (List.getElem?_set_self hlt) rfl (by simp)]; rfl
  have fin := h (H2.set H.length ⟨[.int .i64 (blk a b c).a, .int .i64 (blk a b c).b, .int .i64 (blk a b c).c], true, true⟩) (((Same.of_prefix (S := fun k => k = H.length + 1 \/ k = H.length) hp0).trans ⟨hS.1, fun j hj hn => hS.2 j hj (fun e => hn (.inl e))⟩).trans ⟨(same_set (id := H.length)).1, fun j hj hn => same_set.2 j hj (fun e => hn (.inr e))⟩ |>.prefix (by rintro j hj (e | e) <;> omega))
  unfold Bk.val at fin
  generalize H2.set H.length ⟨[.int .i64 (blk a b c).a, .int .i64 (blk a b c).b, .int .i64 (blk a b c).c], true, true⟩ = H3 at s3 c4 fin
  simp (maxSteps := 1000000) [go_sem, c3, s3, c4]
  exact fin

theorem l01Block_ok {H : Heap} {a b c : Int} (ha : 0 <= a /\ a <= 1000) (hb : 0 <= b /\ b <= 1000) (hc : 0 <= c /\ c <= 1000) (Post : Value -> Heap -> Prop) (h : ∀ H', H <+: H' -> Post (blk a b c).val H') : ACalls Tryz.prog 55 [.int .i64 a, .int .i64 b, .int .i64 c] H Post := by
  refine acalls_vc (rs := [.cell 6 39]) Tryz.func55 rfl rfl Tryz.ntmps55 rfl rfl ?_
  have e1 : (if c < (if b < a then b else a) then c else if b < a then b else a) = (blk a b c).a := by
    simp only [blk]; by_cases h1 : b < a <;> simp only [h1, if_true, if_false] <;> split <;> omega
  have e3 : (if (if a < b then b else a) < c then c else if a < b then b else a) = (blk a b c).c := by
    simp only [blk]; by_cases h1 : a < b <;> simp only [h1, if_true, if_false] <;> split <;> omega
  have e2 : IntKind.i64.wrap (IntKind.i64.wrap (IntKind.i64.wrap (IntKind.i64.wrap (a + b) + c) - (blk a b c).a) - (blk a b c).c) = (blk a b c).b := by
    have h1 : 0 <= (blk a b c).a /\ (blk a b c).a <= 1000 := by simp only [blk]; omega
    have h3 : 0 <= (blk a b c).c /\ (blk a b c).c <= 1000 := by simp only [blk]; omega
    rw [i64w (n := a + b) (by omega) (by omega), i64w (n := a + b + c) (by omega) (by omega), i64w (n := a + b + c - (blk a b c).a) (by omega) (by omega), i64w (by omega) (by omega)]
    simp only [blk]
  have fin := h (H ++ [⟨[.int .i64 (blk a b c).a, .int .i64 (blk a b c).b, .int .i64 (blk a b c).c], true, true⟩]) (List.prefix_append _ _)
  unfold Bk.val at fin
  generalize blk a b c = q at *
  simp (maxSteps := 1000000) [go_sem, e1, e2, e3]
  exact fin

end Go.Proofs.YtfnegaedkomcgaaGreat
end

section
namespace Go.Proofs.YtfnegaedkomcgaaGreat
open Go.Ab Go.Sort

theorem insB_ok {H : Heap} {id a b n : Nat} {d : Array Bk} {lt : Bk -> Bk -> Bool} {g : FuncId} {fs cs : List Value} {Q : Bk -> Prop} (hA : Arr Bk.cells H id d) (hn : d.size = n) (hl : n <= 1048576) (hab : a <= b) (hb : b <= n) (hQ : QA Q d)
    (hC : Cmp Tryz.prog Bk.val lt g fs cs Q id H) (Post : Value -> Heap -> Prop) (h : ∀ H', Same (fun k => k = id) H H' -> Arr Bk.cells H' id (insertionSort lt d a b) -> Post (.tuple #[]) H') :
    ACalls Tryz.prog 172 [lv 3 id 0 n, .int .i64 a, .int .i64 b, .func (.func g) fs.toArray cs.toArray] H Post := by
  refine acalls_vc (rs := []) Tryz.func172 rfl rfl Tryz.ntmps172 rfl rfl ?_
  have w0 : IntKind.i64.wrap ((a : Int) + 1) = (a : Int) + 1 := i64w (by omega) (by omega)
  simp (maxSteps := 1000000) [go_sem, w0]
  refine AWp.loopVc (St := Nat × Array Bk) (fun s => [(0, lv 3 id 0 n), (1, .int .i64 a), (2, .int .i64 b), (3, .func (.func g) fs.toArray cs.toArray), (8, .int .i64 s.1)])
    (fun s H' => a + 1 <= s.1 /\ s.1 <= n + 1 /\ s.2.size = n /\ QA Q s.2 /\ Same (fun k => k = id) H H' /\ Arr Bk.cells H' id s.2 /\ insOuter lt a b s.1 s.2 = insertionSort lt d a b) (fun s => n + 1 - s.1) (a + 1, d) ?_ ?_ ?_
  · simp [upF, Fr.get, Up.refl]
  · exact ⟨Nat.le_refl _, by simp only; omega, hn, hQ, Same.refl _ _, hA, rfl⟩
  · rintro K ⟨i, d1⟩ H' ⟨hai, hin, hsz, hQ1, hS, hA1, hO⟩ hK
    simp only at hai hin hsz hQ1 hS hA1 hO
    rw [insOuter] at hO
    by_cases hlt : i < b
    · rw [if_pos hlt] at hO
      have hw_i : IntKind.i64.wrap ((i : Int) + 1) = (i : Int) + 1 := i64w (by omega) (by omega)
      simp (maxSteps := 1000000) [go_sem, hlt]
      refine AWp.loopVc (St := Nat × Array Bk) (fun s => [(0, lv 3 id 0 n), (1, .int .i64 a), (2, .int .i64 b), (3, .func (.func g) fs.toArray cs.toArray), (8, .int .i64 i), (9, .int .i64 s.1)])
        (fun s H2 => a <= s.1 /\ s.1 <= i /\ s.2.size = n /\ QA Q s.2 /\ Same (fun k => k = id) H H2 /\ Arr Bk.cells H2 id s.2 /\ insInner lt a s.1 s.2 = insInner lt a i d1) (fun s => s.1) (i, d1) ?_ ?_ ?_
      · simp [upF, Fr.get, Up.refl]
      · exact ⟨by simp only; omega, Nat.le_refl _, hsz, hQ1, hS, hA1, rfl⟩
      · rintro K2 ⟨j, d2⟩ H2 ⟨haj, hji, hsz2, hQ2, hS2, hA2, hI⟩ hK2
        simp only at haj hji hsz2 hQ2 hS2 hA2 hI
        by_cases hja : a < j
        · obtain ⟨r, rfl⟩ : ∃ r, j = r + 1 := ⟨j - 1, by omega⟩
          have hr1 : r + 1 < d2.size := by omega
          have hr0 : r < d2.size := by omega
          have c1 := hA2.load Bk.cells_len hr1
          have c0 := hA2.load Bk.cells_len hr0
          have q1 := hQ2 _ hr1
          have q0 := hQ2 _ hr0
          rw [insInner] at hI
          obtain ⟨x, hx⟩ : ∃ x, x = d2[r + 1]! := ⟨_, rfl⟩
          obtain ⟨y, hy⟩ : ∃ y, y = d2[r]! := ⟨_, rfl⟩
          rw [<- hx] at c1 q1 hI
          rw [<- hy] at c0 q0 hI
          have e1 : decide (r + 1 > a) = true := decide_eq_true hja
          rw [e1, Bool.true_and] at hI
          simp only [Bk.cells, Nat.mul_one, Row.val] at c1 c0
          have n1 : r + 1 < n := by omega
          have n0 : r < n := by omega
          have m1 : (r : Int) + 1 < n := by omega
          have m0 : (r : Int) < n := by omega
          have z1 : (0 : Int) <= (r : Int) + 1 := by omega
          have hwr : IntKind.i64.wrap (r : Int) = (r : Int) := i64w (by omega) (by omega)
          have ja : (a : Int) < (r : Int) + 1 := by omega
          refine AWp.draw mixed [(0, false), (1, false), (2, false), (3, false), (4, false), (5, false), (6, false), (7, false), (8, false), (9, false), (10, false), (11, false), (12, false), (13, false), (14, false), (15, false), (16, false)] (by kernel_rfl) ?_
          simp (maxSteps := 1000000) [go_sem, hja, ja, c1, c0, n1, n0, m1, m0, z1, hwr]
          refine hC H2 x y _ hS2 q1 q0 ?_
          intro H3 c hp3 hc
          have hS3 := hS2.via (Same.of_prefix (S := fun _ => False) hp3) (fun _ _ h => h.elim)
          have hA3 := hA2.pre hp3
          cases hxy : lt x y with
          | false =>
            rw [hxy] at hc hI
            have hc0 : ¬ c < 0 := by simpa using hc
            simp (maxSteps := 1000000) [go_sem, hc, hc0, hw_i]
            exact hK (i + 1, d2) _ _ (by simp only; omega) (by simp [upF, Fr.get, Up.refl]) ⟨by simp only; omega, by simp only; omega, hsz2, hQ2, hS3, hA3, by simp only; rw [<- hO, <- hI]; simp⟩
          | true =>
            rw [hxy] at hc hI
            have hc0 : c < 0 := by simpa using hc
            have c1 := hA3.load Bk.cells_len hr1
            have c0 := hA3.load Bk.cells_len hr0
            obtain ⟨H4, H5, s1, s0, hA5, hS5, hl5⟩ := hA3.swap Bk.cells_len Bk.cells_one hr1 hr0
            rw [<- hx] at c1 s0
            rw [<- hy] at c0 s1
            simp only [Bk.cells, Nat.mul_one, Row.val] at c1 c0 s1 s0
            simp (maxSteps := 1000000) [go_sem, hc, hc0]
            refine AWp.draw mixed [(0, false), (1, false), (2, false), (3, false), (4, false), (5, false), (6, false), (7, false), (8, false), (9, false), (10, false), (11, false), (12, false), (13, false), (14, false), (15, false), (16, false), (17, false)] (by kernel_rfl) ?_
            simp (maxSteps := 1000000) [go_sem, c1, c0, n1, n0, m1, m0, z1, hwr, s1, s0]
            exact hK2 (r, swp d2 (r + 1) r) _ _ (by simp only; omega) (by simp [upF, Fr.get, Up.refl]) ⟨by simp only; omega, by simp only; omega, by rw [size_swp]; exact hsz2, hQ2.swp hr1 hr0, hS3.trans hS5, hA5, by simp only; rw [<- hI]; simp⟩
        · have hja' : j = a := by omega
          subst hja'
          have e : insInner lt j j d2 = d2 := by
            cases j with
            | zero => rfl
            | succ r => rw [insInner]; simp
          refine AWp.draw mixed [(0, false), (1, false), (2, false), (3, false), (4, false), (5, false), (6, false), (7, false), (8, false), (9, false), (10, false), (11, false), (12, false), (13, false), (14, false), (15, false), (16, false)] (by kernel_rfl) ?_
          simp (maxSteps := 1000000) [go_sem, undef, hw_i]
          exact hK (i + 1, d2) _ _ (by simp only; omega) (by simp [upF, Fr.get, Up.refl]) ⟨by simp only; omega, by simp only; omega, hsz2, hQ2, hS2, hA2, by simp only; rw [<- hO, <- hI, e]⟩
    · rw [if_neg hlt] at hO
      simp (maxSteps := 1000000) [go_sem, hlt]
      exact h H' hS (hO ▸ hA1)

end Go.Proofs.YtfnegaedkomcgaaGreat
end

section
namespace Go.Proofs.YtfnegaedkomcgaaGreat
open Go.Ab Go.Sort

theorem siftB_ok {H : Heap} {id lo hi first n : Nat} {d : Array Bk} {lt : Bk -> Bk -> Bool} {g : FuncId} {fs cs : List Value} {Q : Bk -> Prop} (hA : Arr Bk.cells H id d) (hn : d.size = n) (hl : n <= 1048576) (hlo : lo <= n) (hhi : first + hi <= n) (hQ : QA Q d)
    (hC : Cmp Tryz.prog Bk.val lt g fs cs Q id H) (Post : Value -> Heap -> Prop) (h : ∀ H', Same (fun k => k = id) H H' -> Arr Bk.cells H' id (siftDown lt hi first lo d) -> Post (.tuple #[]) H') :
    ACalls Tryz.prog 190 [lv 3 id 0 n, .int .i64 lo, .int .i64 hi, .int .i64 first, .func (.func g) fs.toArray cs.toArray] H Post := by
  refine acalls_vc (rs := []) Tryz.func190 rfl rfl Tryz.ntmps190 rfl rfl ?_
  simp (maxSteps := 1000000) [go_sem]
  refine AWp.loopVc (St := Nat × Array Bk) (fun s => [(0, lv 3 id 0 n), (2, .int .i64 hi), (3, .int .i64 first), (4, .func (.func g) fs.toArray cs.toArray), (10, .int .i64 s.1)])
    (fun s H' => s.1 <= n /\ s.2.size = n /\ QA Q s.2 /\ Same (fun k => k = id) H H' /\ Arr Bk.cells H' id s.2 /\ siftDown lt hi first s.1 s.2 = siftDown lt hi first lo d) (fun s => n - s.1) (lo, d) ?_ ?_ ?_
  · simp [upF, Fr.get, Up.refl]
  · exact ⟨hlo, hn, hQ, Same.refl _ _, hA, rfl⟩
  · rintro K ⟨root, d1⟩ H1 ⟨hr, hsz, hQ1, hS1, hA1, hO⟩ hK
    simp only at hr hsz hQ1 hS1 hA1 hO
    obtain ⟨ch, hch⟩ : ∃ ch, ch = 2 * root + 1 := ⟨_, rfl⟩
    obtain ⟨c2, hc2⟩ : ∃ c2, c2 = ch + 1 := ⟨_, rfl⟩
    obtain ⟨fr, hfr⟩ : ∃ fr, fr = first + root := ⟨_, rfl⟩
    obtain ⟨fc, hfc⟩ : ∃ fc, fc = first + ch := ⟨_, rfl⟩
    obtain ⟨fc2, hfc2⟩ : ∃ fc2, fc2 = first + c2 := ⟨_, rfl⟩
    have w1 : IntKind.i64.wrap (2 * (root : Int)) = 2 * (root : Int) := i64w (by omega) (by omega)
    have w2 : IntKind.i64.wrap (2 * (root : Int) + 1) = (ch : Int) := by rw [hch]; rw [i64w (by omega) (by omega)]; omega
    have w3 : IntKind.i64.wrap ((ch : Int) + 1) = (c2 : Int) := by rw [hc2]; rw [i64w (by omega) (by omega)]; omega
    by_cases hh : hi <= ch
    · rw [sift_end hch hh] at hO
      have hh' : (hi : Int) <= ch := by omega
      simp (maxSteps := 1000000) [go_sem, w1, w2, hh, hh']
      exact h H1 hS1 (hO ▸ hA1)
    · rw [sift_step hch hc2 hfr hfc hfc2 hh] at hO
      have hh' : ¬ ((hi : Int) <= ch) := by omega
      have hh2 : ch < hi := by omega
      have w4 : IntKind.i64.wrap ((first : Int) + root) = (fr : Int) := by rw [hfr]; rw [i64w (by omega) (by omega)]; omega
      have w5 : IntKind.i64.wrap ((first : Int) + ch) = (fc : Int) := by rw [hfc]; rw [i64w (by omega) (by omega)]; omega
      have w6 : IntKind.i64.wrap ((first : Int) + c2) = (fc2 : Int) := by rw [hfc2]; rw [i64w (by omega) (by omega)]; omega
      have w7 : IntKind.i64.wrap ((fc : Int) + 1) = (fc2 : Int) := by rw [hfc2, hfc, hc2]; rw [i64w (by omega) (by omega)]; omega
      have hfr1 : fr < d1.size := by omega
      have hfc1 : fc < d1.size := by omega
      have n1 : fr < n := by omega
      have n2 : fc < n := by omega
      obtain ⟨x, hx⟩ : ∃ x, x = d1[fr]! := ⟨_, rfl⟩
      obtain ⟨y, hy⟩ : ∃ y, y = d1[fc]! := ⟨_, rfl⟩
      obtain ⟨z, hz⟩ : ∃ z, z = d1[fc2]! := ⟨_, rfl⟩
      rw [<- hx, <- hy, <- hz] at hO
      have qx := hQ1 _ hfr1
      have qy := hQ1 _ hfc1
      rw [<- hx] at qx
      rw [<- hy] at qy
      have cy := hA1.load Bk.cells_len hfc1
      rw [<- hy] at cy
      simp only [Bk.cells, Nat.mul_one, Row.val] at cy
      by_cases h2 : c2 < hi
      · have h2' : (c2 : Int) < hi := by omega
        have hfc21 : fc2 < d1.size := by omega
        have n3 : fc2 < n := by omega
        have qz := hQ1 _ hfc21
        rw [<- hz] at qz
        have cz := hA1.load Bk.cells_len hfc21
        rw [<- hz] at cz
        simp only [Bk.cells, Nat.mul_one, Row.val] at cz
        have e2 : decide (c2 < hi) = true := decide_eq_true h2
        rw [e2, Bool.true_and] at hO
        simp (maxSteps := 1000000) [go_sem, w1, w2, w3, hh, hh', hh2]
        refine AWp.draw mixed [(0, false), (1, false), (2, false), (3, false), (4, false), (5, false), (6, false), (7, false), (8, false), (9, false), (10, false), (11, false), (12, false), (13, false), (14, false), (15, false), (16, false), (17, false), (18, false), (19, false), (20, false), (21, false)] (by kernel_rfl) ?_
        simp (maxSteps := 1000000) [go_sem, w3, w5, w7, h2, h2', cy, cz, n2, n3]
        refine hC H1 y z _ hS1 qy qz ?_
        intro H3 c hp3 hc
        have hS3 := hS1.via (Same.of_prefix (S := fun _ => False) hp3) (fun _ _ h => h.elim)
        have hA3 := hA1.pre hp3
        have cx := hA3.load Bk.cells_len hfr1
        rw [<- hx] at cx
        simp only [Bk.cells, Nat.mul_one, Row.val] at cx
        cases hyz : lt y z with
        | true =>
          rw [hyz] at hc hO
          have hc0 : c < 0 := by simpa using hc
          have cz := hA3.load Bk.cells_len hfc21
          rw [<- hz] at cz
          simp only [Bk.cells, Nat.mul_one, Row.val] at cz
          simp (maxSteps := 1000000) [go_sem, hc, hc0, w3]
          refine AWp.draw mixed [(0, false), (1, false), (2, false), (3, false), (4, false), (5, false), (6, false), (7, false), (8, false), (9, false), (10, false), (11, false), (12, false), (13, false), (14, false), (15, false)] (by kernel_rfl) ?_
          simp (maxSteps := 1000000) [go_sem, w4, w6, cx, cz, n1, n3]
          refine hC H3 x z _ hS3 qx qz ?_
          intro H4 e hp4 he
          have hS4 := hS3.via (Same.of_prefix (S := fun _ => False) hp4) (fun _ _ h => h.elim)
          have hA4 := hA3.pre hp4
          cases hxz : lt x z with
          | false =>
            rw [hxz] at he hO
            have he0 : ¬ e < 0 := by simpa using he
            simp (maxSteps := 1000000) [go_sem, he, he0]
            exact h H4 hS4 (by simpa [<- hO] using hA4)
          | true =>
            rw [hxz] at he hO
            have he0 : e < 0 := by simpa using he
            have ca := hA4.load Bk.cells_len hfr1
            have cb := hA4.load Bk.cells_len hfc21
            obtain ⟨H5, H6, s1, s0, hA6, hS6, hl6⟩ := hA4.swap Bk.cells_len Bk.cells_one hfr1 hfc21
            rw [<- hx] at ca s0
            rw [<- hz] at cb s1
            simp only [Bk.cells, Nat.mul_one, Row.val] at ca cb s0 s1
            simp (maxSteps := 1000000) [go_sem, he, he0]
            refine AWp.draw mixed [(0, false), (1, false), (2, false), (3, false), (4, false), (5, false), (6, false), (7, false), (8, false), (9, false), (10, false), (11, false), (12, false), (13, false), (14, false), (15, false), (16, false), (17, false), (18, false), (19, false), (20, false), (21, false), (22, false), (23, false)] (by kernel_rfl) ?_
            simp (maxSteps := 1000000) [go_sem, w4, w6, ca, cb, n1, n3, s1, s0]
            exact hK (c2, swp d1 fr fc2) _ _ (by simp only; omega) (by simp [upF, Fr.get, Up.refl]) ⟨by simp only; omega, by rw [size_swp]; exact hsz, hQ1.swp hfr1 hfc21, hS4.trans hS6, hA6, by simp only; rw [<- hO]; simp⟩
        | false =>
          rw [hyz] at hc hO
          have hc0 : ¬ c < 0 := by simpa using hc
          have cy := hA3.load Bk.cells_len hfc1
          rw [<- hy] at cy
          simp only [Bk.cells, Nat.mul_one, Row.val] at cy
          simp (maxSteps := 1000000) [go_sem, hc, hc0]
          refine AWp.draw mixed [(0, false), (1, false), (2, false), (3, false), (4, false), (5, false), (6, false), (7, false), (8, false), (9, false), (10, false), (11, false), (12, false), (13, false), (14, false), (15, false)] (by kernel_rfl) ?_
          simp (maxSteps := 1000000) [go_sem, w4, w5, cx, cy, n1, n2]
          refine hC H3 x y _ hS3 qx qy ?_
          intro H4 e hp4 he
          have hS4 := hS3.via (Same.of_prefix (S := fun _ => False) hp4) (fun _ _ h => h.elim)
          have hA4 := hA3.pre hp4
          cases hxz : lt x y with
          | false =>
            rw [hxz] at he hO
            have he0 : ¬ e < 0 := by simpa using he
            simp (maxSteps := 1000000) [go_sem, he, he0]
            exact h H4 hS4 (by simpa [<- hO] using hA4)
          | true =>
            rw [hxz] at he hO
            have he0 : e < 0 := by simpa using he
            have ca := hA4.load Bk.cells_len hfr1
            have cb := hA4.load Bk.cells_len hfc1
            obtain ⟨H5, H6, s1, s0, hA6, hS6, hl6⟩ := hA4.swap Bk.cells_len Bk.cells_one hfr1 hfc1
            rw [<- hx] at ca s0
            rw [<- hy] at cb s1
            simp only [Bk.cells, Nat.mul_one, Row.val] at ca cb s0 s1
            simp (maxSteps := 1000000) [go_sem, he, he0]
            refine AWp.draw mixed [(0, false), (1, false), (2, false), (3, false), (4, false), (5, false), (6, false), (7, false), (8, false), (9, false), (10, false), (11, false), (12, false), (13, false), (14, false), (15, false), (16, false), (17, false), (18, false), (19, false), (20, false), (21, false), (22, false), (23, false)] (by kernel_rfl) ?_
            simp (maxSteps := 1000000) [go_sem, w4, w5, ca, cb, n1, n2, s1, s0]
            exact hK (ch, swp d1 fr fc) _ _ (by simp only; omega) (by simp [upF, Fr.get, Up.refl]) ⟨by simp only; omega, by rw [size_swp]; exact hsz, hQ1.swp hfr1 hfc1, hS4.trans hS6, hA6, by simp only; rw [<- hO]; simp⟩
      · have h2' : ¬ ((c2 : Int) < hi) := by omega
        have e2 : decide (c2 < hi) = false := decide_eq_false h2
        rw [e2, Bool.false_and] at hO
        have hA3 := hA1
        have hS3 := hS1
        have cx := hA3.load Bk.cells_len hfr1
        rw [<- hx] at cx
        simp only [Bk.cells, Nat.mul_one, Row.val] at cx
        simp (maxSteps := 1000000) [go_sem, w1, w2, w3, hh, hh', hh2]
        refine AWp.draw mixed [(0, false), (1, false), (2, false), (3, false), (4, false), (5, false), (6, false), (7, false), (8, false), (9, false), (10, false), (11, false), (12, false), (13, false), (14, false), (15, false), (16, false), (17, false), (18, false), (19, false), (20, false), (21, false)] (by kernel_rfl) ?_
        simp (maxSteps := 1000000) [go_sem, undef, w3, h2, h2']
        obtain ⟨H3, eH3⟩ : ∃ H3, H3 = H1 := ⟨_, rfl⟩
        rw [<- eH3] at hA3 hS3 cx cy ⊢
        refine AWp.draw mixed [(0, false), (1, false), (2, false), (3, false), (4, false), (5, false), (6, false), (7, false), (8, false), (9, false), (10, false), (11, false), (12, false), (13, false), (14, false), (15, false)] (by kernel_rfl) ?_
        simp (maxSteps := 1000000) [go_sem, w4, w5, cx, cy, n1, n2]
        refine hC H3 x y _ hS3 qx qy ?_
        intro H4 e hp4 he
        have hS4 := hS3.via (Same.of_prefix (S := fun _ => False) hp4) (fun _ _ h => h.elim)
        have hA4 := hA3.pre hp4
        cases hxz : lt x y with
        | false =>
          rw [hxz] at he hO
          have he0 : ¬ e < 0 := by simpa using he
          simp (maxSteps := 1000000) [go_sem, he, he0]
          exact h H4 hS4 (by simpa [<- hO] using hA4)
        | true =>
          rw [hxz] at he hO
          have he0 : e < 0 := by simpa using he
          have ca := hA4.load Bk.cells_len hfr1
          have cb := hA4.load Bk.cells_len hfc1
          obtain ⟨H5, H6, s1, s0, hA6, hS6, hl6⟩ := hA4.swap Bk.cells_len Bk.cells_one hfr1 hfc1
          rw [<- hx] at ca s0
          rw [<- hy] at cb s1
          simp only [Bk.cells, Nat.mul_one, Row.val] at ca cb s0 s1
          simp (maxSteps := 1000000) [go_sem, he, he0]
          refine AWp.draw mixed [(0, false), (1, false), (2, false), (3, false), (4, false), (5, false), (6, false), (7, false), (8, false), (9, false), (10, false), (11, false), (12, false), (13, false), (14, false), (15, false), (16, false), (17, false), (18, false), (19, false), (20, false), (21, false), (22, false), (23, false)] (by kernel_rfl) ?_
          simp (maxSteps := 1000000) [go_sem, w4, w5, ca, cb, n1, n2, s1, s0]
          exact hK (ch, swp d1 fr fc) _ _ (by simp only; omega) (by simp [upF, Fr.get, Up.refl]) ⟨by simp only; omega, by rw [size_swp]; exact hsz, hQ1.swp hfr1 hfc1, hS4.trans hS6, hA6, by simp only; rw [<- hO]; simp⟩

theorem heapB_ok {H : Heap} {id a b n : Nat} {d : Array Bk} {lt : Bk -> Bk -> Bool} {g : FuncId} {fs cs : List Value} {Q : Bk -> Prop} (hA : Arr Bk.cells H id d) (hn : d.size = n) (hl : n <= 1048576) (hab : a < b) (hb : b <= n) (hQ : QA Q d)
    (hC : Cmp Tryz.prog Bk.val lt g fs cs Q id H) (Post : Value -> Heap -> Prop) (h : ∀ H', Same (fun k => k = id) H H' -> Arr Bk.cells H' id (heapSort lt d a b) -> Post (.tuple #[]) H') :
    ACalls Tryz.prog 173 [lv 3 id 0 n, .int .i64 a, .int .i64 b, .func (.func g) fs.toArray cs.toArray] H Post := by
  refine acalls_vc (rs := []) Tryz.func173 rfl rfl Tryz.ntmps173 rfl rfl ?_
  obtain ⟨hi, hhi⟩ : ∃ hi, hi = b - a := ⟨_, rfl⟩
  obtain ⟨h1, hh1⟩ : ∃ h1, h1 = hi - 1 := ⟨_, rfl⟩
  obtain ⟨k0, hk0⟩ : ∃ k0, k0 = h1 / 2 := ⟨_, rfl⟩
  have w0 : IntKind.i64.wrap ((b : Int) - a) = (hi : Int) := by rw [hhi, i64w (by omega) (by omega)]; omega
  have w1 : IntKind.i64.wrap ((hi : Int) - 1) = (h1 : Int) := by rw [hh1, i64w (by omega) (by omega)]; omega
  have w2 : IntKind.i64.wrap ((h1 : Int) / 2) = (k0 : Int) := by rw [hk0, i64w (by omega) (by omega)]; omega
  have e0 : heapSort lt d a b = heapPop lt a hi (heapBuild lt hi a (k0 + 1) d) := by rw [hk0, hh1, hhi]; rfl
  rw [e0] at h
  simp (maxSteps := 1000000) [go_sem, w0, w1, w2]
  refine AWp.loopVc (St := Nat × Array Bk) (fun s => [(0, lv 3 id 0 n), (3, .func (.func g) fs.toArray cs.toArray), (8, .int .i64 a), (9, .int .i64 0), (10, .int .i64 hi), (11, .int .i64 ((s.1 : Int) - 1))])
    (fun s H' => s.1 <= k0 + 1 /\ s.2.size = n /\ QA Q s.2 /\ Same (fun k => k = id) H H' /\ Arr Bk.cells H' id s.2 /\ heapBuild lt hi a s.1 s.2 = heapBuild lt hi a (k0 + 1) d) (fun s => s.1) (k0 + 1, d) ?_ ?_ ?_
  · have e : ((k0 + 1 : Nat) : Int) - 1 = k0 := by omega
    simp [upF, Fr.get, Up.refl, e]
  · exact ⟨Nat.le_refl _, hn, hQ, Same.refl _ _, hA, rfl⟩
  · rintro K ⟨k, d1⟩ H1 ⟨hk, hsz, hQ1, hS1, hA1, hO⟩ hK
    simp only at hk hsz hQ1 hS1 hA1 hO
    cases k with
    | succ r =>
      have hwr : IntKind.i64.wrap ((r : Int) - 1) = (r : Int) - 1 := i64w (by omega) (by omega)
      simp (maxSteps := 1000000) [go_sem]
      refine siftB_ok hA1 hsz hl (by omega) (by omega) hQ1 (hC.keep hS1) _ ?_
      intro H2 hS2 hA2
      have hsz2 : (siftDown lt hi a r d1).size = n := by rw [sift_size]; exact hsz
      simp (maxSteps := 1000000) [go_sem, hwr]
      exact hK (r, siftDown lt hi a r d1) _ _ (by simp only; omega) (by simp [upF, Fr.get, Up.refl]) ⟨by simp only; omega, hsz2, sift_QA (by omega) hQ1, hS1.trans hS2, hA2, hO⟩
    | zero =>
      simp (maxSteps := 1000000) [go_sem, w1]
      have hO' : d1 = heapBuild lt hi a (k0 + 1) d := hO
      rw [<- hO'] at h
      refine AWp.loopVc (St := Nat × Array Bk) (fun s => [(0, lv 3 id 0 n), (3, .func (.func g) fs.toArray cs.toArray), (8, .int .i64 a), (9, .int .i64 0), (12, .int .i64 ((s.1 : Int) - 1))])
        (fun s H' => s.1 <= hi /\ s.2.size = n /\ QA Q s.2 /\ Same (fun k => k = id) H H' /\ Arr Bk.cells H' id s.2 /\ heapPop lt a s.1 s.2 = heapPop lt a hi d1) (fun s => s.1) (hi, d1) ?_ ?_ ?_
      · have e : (hi : Int) - 1 = h1 := by omega
        simp [upF, Fr.get, Up.refl, e]
      · exact ⟨Nat.le_refl _, hsz, hQ1, hS1, hA1, rfl⟩
      · rintro K2 ⟨k, d2⟩ H2 ⟨hk2, hsz2, hQ2, hS2, hA2, hP⟩ hK2
        simp only at hk2 hsz2 hQ2 hS2 hA2 hP
        cases k with
        | succ r =>
          have hwr : IntKind.i64.wrap ((r : Int) - 1) = (r : Int) - 1 := i64w (by omega) (by omega)
          obtain ⟨ar, har⟩ : ∃ ar, ar = a + r := ⟨_, rfl⟩
          have w4 : IntKind.i64.wrap ((a : Int) + r) = (ar : Int) := by rw [har]; rw [i64w (by omega) (by omega)]; omega
          have hi1 : a < d2.size := by omega
          have hi2 : ar < d2.size := by omega
          have n1 : a < n := by omega
          have n2 : ar < n := by omega
          have ca := hA2.load Bk.cells_len hi1
          have cb := hA2.load Bk.cells_len hi2
          obtain ⟨H5, H6, s1, s0, hA6, hS6, hl6⟩ := hA2.swap Bk.cells_len Bk.cells_one hi1 hi2
          obtain ⟨x, hx⟩ : ∃ x, x = d2[a]! := ⟨_, rfl⟩
          obtain ⟨y, hy⟩ : ∃ y, y = d2[ar]! := ⟨_, rfl⟩
          rw [<- hx] at ca s0
          rw [<- hy] at cb s1
          simp only [Bk.cells, Nat.mul_one, Row.val] at ca cb s0 s1
          rw [heapPop, <- har] at hP
          have hsz3 : (swp d2 a ar).size = n := by rw [size_swp]; exact hsz2
          have hQ3 := hQ2.swp hi1 hi2
          simp (maxSteps := 1000000) [go_sem]
          refine AWp.draw mixed [(0, false), (1, false), (2, false), (3, false), (4, false), (5, false), (6, false), (7, false), (8, false), (9, false), (10, false), (11, false), (12, false), (13, false), (14, false), (15, false), (16, false), (17, false), (18, false), (19, false)] (by kernel_rfl) ?_
          simp (maxSteps := 1000000) [go_sem, w4, ca, cb, n1, n2, s1, s0]
          refine siftB_ok (lo := 0) hA6 hsz3 hl (by omega) (by omega) hQ3 (hC.keep (hS2.trans hS6)) _ ?_
          intro H7 hS7 hA7
          have hsz4 : (siftDown lt r a 0 (swp d2 a ar)).size = n := by rw [sift_size]; exact hsz3
          simp (maxSteps := 1000000) [go_sem, hwr]
          exact hK2 (r, siftDown lt r a 0 (swp d2 a ar)) _ _ (by simp only; omega) (by simp [upF, Fr.get, Up.refl]) ⟨by simp only; omega, hsz4, sift_QA (by omega) hQ3, (hS2.trans hS6).trans hS7, hA7, hP⟩
        | zero =>
          simp (maxSteps := 1000000) [go_sem]
          refine h H2 hS2 ?_
          rw [<- hP]; exact hA2

end Go.Proofs.YtfnegaedkomcgaaGreat
end

section
namespace Go.Proofs.YtfnegaedkomcgaaGreat
open Go.Ab Go.Sort

theorem reverseB_ok {H : Heap} {id a b n : Nat} {d : Array Bk} {g : FuncId} {fs cs : List Value} (hA : Arr Bk.cells H id d) (hn : d.size = n) (hl : n <= 1048576) (hab : a < b) (hb : b <= n)
    (Post : Value -> Heap -> Prop) (h : ∀ H', Same (fun k => k = id) H H' -> Arr Bk.cells H' id (reverseRange d a b) -> Post (.tuple #[]) H') :
    ACalls Tryz.prog 176 [lv 3 id 0 n, .int .i64 a, .int .i64 b, .func (.func g) fs.toArray cs.toArray] H Post := by
  refine acalls_vc (rs := []) Tryz.func176 rfl rfl Tryz.ntmps176 rfl rfl ?_
  obtain ⟨b1, hb1⟩ : ∃ b1, b1 = b - 1 := ⟨_, rfl⟩
  have w0 : IntKind.i64.wrap ((b : Int) - 1) = (b1 : Int) := by rw [hb1, i64w (by omega) (by omega)]; omega
  have e0 : reverseRange d a b = reverseLoop a b1 d := by rw [hb1]; rfl
  rw [e0] at h
  simp (maxSteps := 1000000) [go_sem, w0]
  refine AWp.loopVc (St := Nat × Nat × Array Bk) (fun s => [(0, lv 3 id 0 n), (8, .int .i64 s.1), (9, .int .i64 s.2.1)])
    (fun s H' => s.2.1 < n /\ s.1 <= n /\ s.2.2.size = n /\ Same (fun k => k = id) H H' /\ Arr Bk.cells H' id s.2.2 /\ reverseLoop s.1 s.2.1 s.2.2 = reverseLoop a b1 d) (fun s => s.2.1 - s.1) (a, b1, d) ?_ ?_ ?_
  · simp [upF, Fr.get, Up.refl]
  · exact ⟨by simp only; omega, by simp only; omega, hn, Same.refl _ _, hA, rfl⟩
  · rintro K ⟨i, j, d1⟩ H1 ⟨hj, hi, hsz, hS1, hA1, hO⟩ hK
    simp only at hj hi hsz hS1 hA1 hO
    by_cases hij : i < j
    · obtain ⟨r, rfl⟩ : ∃ r, j = r + 1 := ⟨j - 1, by omega⟩
      rw [reverse_go hij] at hO
      have hi1 : i < d1.size := by omega
      have hi2 : r + 1 < d1.size := by omega
      have n1 : i < n := by omega
      have n2 : r + 1 < n := by omega
      have m2 : (r : Int) + 1 < n := by omega
      have z2 : (0 : Int) <= (r : Int) + 1 := by omega
      have hij' : (i : Int) < (r : Int) + 1 := by omega
      have hwr : IntKind.i64.wrap (r : Int) = (r : Int) := i64w (by omega) (by omega)
      have hw_i : IntKind.i64.wrap ((i : Int) + 1) = (i : Int) + 1 := i64w (by omega) (by omega)
      have ca := hA1.load Bk.cells_len hi1
      have cb := hA1.load Bk.cells_len hi2
      obtain ⟨H5, H6, s1, s0, hA6, hS6, hl6⟩ := hA1.swap Bk.cells_len Bk.cells_one hi1 hi2
      obtain ⟨x, hx⟩ : ∃ x, x = d1[i]! := ⟨_, rfl⟩
      obtain ⟨y, hy⟩ : ∃ y, y = d1[r + 1]! := ⟨_, rfl⟩
      rw [<- hx] at ca s0
      rw [<- hy] at cb s1
      simp only [Bk.cells, Nat.mul_one, Row.val] at ca cb s0 s1
      simp (maxSteps := 1000000) [go_sem, hij, hij']
      refine AWp.draw mixed [(0, false), (1, false), (2, false), (3, false), (4, false), (5, false), (6, false), (7, false), (8, false), (9, false), (10, false), (11, false), (12, false), (13, false), (14, false), (15, false)] (by kernel_rfl) ?_
      simp (maxSteps := 1000000) [go_sem, ca, cb, n1, n2, m2, z2, s1, s0, hw_i, hwr]
      exact hK (i + 1, r, swp d1 i (r + 1)) _ _ (by simp only; omega) (by simp [upF, Fr.get, Up.refl]) ⟨by simp only; omega, by simp only; omega, by rw [size_swp]; exact hsz, hS1.trans hS6, hA6, hO⟩
    · rw [reverse_stop hij] at hO
      have hij' : ¬ ((i : Int) < j) := by omega
      simp (maxSteps := 1000000) [go_sem, hij, hij']
      exact h H1 hS1 (hO ▸ hA1)

theorem order2B_ok {HB H : Heap} {id sw a b n : Nat} {z : Int} {d : Array Bk} {lt : Bk -> Bk -> Bool} {g : FuncId} {fs cs : List Value} {Q : Bk -> Prop} (hA : Arr Bk.cells H id d) (hn : d.size = n) (hl : n <= 1048576) (ha : a < n) (hb : b < n) (hQ : QA Q d)
    (hC : Cmp Tryz.prog Bk.val lt g fs cs Q id HB) (hB : Same (fun k => k = id) HB H) (hz : H[sw]? = some ⟨[.int .i64 z], true, true⟩) (hsw : HB.length <= sw) (hid : id ≠ sw) (Post : Value -> Heap -> Prop)
    (h : ∀ H' (x y : Nat) (z' : Int), Same (fun k => k = sw) H H' -> H'[sw]? = some ⟨[.int .i64 z'], true, true⟩ -> (x = a /\ y = b \/ x = b /\ y = a) -> Post (.tuple #[.int .i64 x, .int .i64 y]) H') :
    ACalls Tryz.prog 196 [lv 3 id 0 n, .int .i64 a, .int .i64 b, .pointer (some ⟨sw, 0, none⟩), .func (.func g) fs.toArray cs.toArray] H Post := by
  refine acalls_vc (rs := [.tmp 10, .tmp 11]) Tryz.func196 rfl rfl Tryz.ntmps196 rfl rfl ?_
  have hi1 : a < d.size := by omega
  have hi2 : b < d.size := by omega
  have ca := hA.load Bk.cells_len hi1
  have cb := hA.load Bk.cells_len hi2
  have qa := hQ _ hi1
  have qb := hQ _ hi2
  obtain ⟨x, hx⟩ : ∃ x, x = d[a]! := ⟨_, rfl⟩
  obtain ⟨y, hy⟩ : ∃ y, y = d[b]! := ⟨_, rfl⟩
  rw [<- hx] at ca qa
  rw [<- hy] at cb qb
  simp only [Bk.cells, Nat.mul_one, Row.val] at ca cb
  simp (maxSteps := 1000000) [go_sem]
  refine AWp.draw mixed [(0, false), (1, false), (2, false), (3, false), (4, false), (5, false), (6, false), (7, false), (8, false), (9, false), (10, false)] (by kernel_rfl) ?_
  simp (maxSteps := 1000000) [go_sem, ca, cb, ha, hb]
  refine hC H y x _ hB qb qa ?_
  intro H3 c hp3 hc
  have hz3 : H3[sw]? = some ⟨[.int .i64 z], true, true⟩ := pget hp3 hz
  cases hyx : lt y x with
  | true =>
    rw [hyx] at hc
    have hc0 : c < 0 := by simpa using hc
    have lz : cellsAt H3 sw 0 1 = some [.int .i64 z] := by rw [cellsAt_of hz3 rfl (by simp)]; rfl
    obtain ⟨z1, hz1⟩ : ∃ z1, IntKind.i64.wrap (z + 1) = z1 := ⟨_, rfl⟩
    have sz : storeAt H3 sw 0 [.int .i64 z1] = some (H3.set sw ⟨[.int .i64 z1], true, true⟩) := by
      rw [storeAt_of hz3 rfl rfl (by simp) (by simp [Value.oneCell'])]; rfl
    have hlt := (List.getElem?_eq_some_iff.1 hz3).1
    have fin := h (H3.set sw ⟨[.int .i64 z1], true, true⟩) b a _ ((Same.of_prefix hp3).trans same_set) (List.getElem?_set_self hlt) (.inr ⟨rfl, rfl⟩)
    generalize H3.set sw ⟨[.int .i64 z1], true, true⟩ = H4 at sz fin
    simp (maxSteps := 1000000) [go_sem, hc, hc0, lz, hz1, sz]
    exact fin
  | false =>
    rw [hyx] at hc
    have hc0 : ¬ c < 0 := by simpa using hc
    have fin := h H3 a b z (Same.of_prefix hp3) hz3 (.inl ⟨rfl, rfl⟩)
    simp (maxSteps := 1000000) [go_sem, hc, hc0]
    exact fin

theorem medianB_ok {HB H : Heap} {id sw a b c n : Nat} {z : Int} {d : Array Bk} {lt : Bk -> Bk -> Bool} {g : FuncId} {fs cs : List Value} {Q : Bk -> Prop} (hA : Arr Bk.cells H id d) (hn : d.size = n) (hl : n <= 1048576) (ha : a < n) (hb : b < n) (hc : c < n) (hQ : QA Q d)
    (hC : Cmp Tryz.prog Bk.val lt g fs cs Q id HB) (hB : Same (fun k => k = id) HB H) (hz : H[sw]? = some ⟨[.int .i64 z], true, true⟩) (hsw : HB.length <= sw) (hid : id ≠ sw) (Post : Value -> Heap -> Prop)
    (h : ∀ H' (x : Nat) (z' : Int), Same (fun k => k = sw) H H' -> H'[sw]? = some ⟨[.int .i64 z'], true, true⟩ -> (x = a \/ x = b \/ x = c) -> Post (.int .i64 x) H') :
    ACalls Tryz.prog 192 [lv 3 id 0 n, .int .i64 a, .int .i64 b, .int .i64 c, .pointer (some ⟨sw, 0, none⟩), .func (.func g) fs.toArray cs.toArray] H Post := by
  have stepB : ∀ {H1 : Heap}, Same (fun k => k = sw) H H1 -> Same (fun k => k = id) HB H1 := fun h1 => hB.via h1 (by intro j hj e; omega)
  have stepA : ∀ {H1 : Heap}, Same (fun k => k = sw) H H1 -> Arr Bk.cells H1 id d := fun h1 => h1.get hA hid
  refine acalls_vc (rs := [.tmp 12]) Tryz.func192 rfl rfl Tryz.ntmps192 rfl rfl ?_
  simp (maxSteps := 1000000) [go_sem]
  refine order2B_ok hA hn hl ha hb hQ hC hB hz hsw hid _ ?_
  intro H1 a1 b1 z1 hs1 hz1 h1
  simp (maxSteps := 1000000) [go_sem]
  refine order2B_ok (stepA hs1) hn hl (by omega) hc hQ hC (stepB hs1) hz1 hsw hid _ ?_
  intro H2 b2 c2 z2 hs2 hz2 h2
  have hs2 := hs1.trans hs2
  simp (maxSteps := 1000000) [go_sem]
  refine order2B_ok (stepA hs2) hn hl (by omega) (by omega) hQ hC (stepB hs2) hz2 hsw hid _ ?_
  intro H3 a3 b3 z3 hs3 hz3 h3
  simp (maxSteps := 1000000) [go_sem]
  exact h H3 b3 z3 (hs2.trans hs3) hz3 (by omega)

theorem medianAdjB_ok {HB H : Heap} {id sw a n : Nat} {z : Int} {d : Array Bk} {lt : Bk -> Bk -> Bool} {g : FuncId} {fs cs : List Value} {Q : Bk -> Prop} (hA : Arr Bk.cells H id d) (hn : d.size = n) (hl : n <= 1048576) (ha0 : 0 < a) (ha : a + 1 < n) (hQ : QA Q d)
    (hC : Cmp Tryz.prog Bk.val lt g fs cs Q id HB) (hB : Same (fun k => k = id) HB H) (hz : H[sw]? = some ⟨[.int .i64 z], true, true⟩) (hsw : HB.length <= sw) (hid : id ≠ sw) (Post : Value -> Heap -> Prop)
    (h : ∀ H' (x : Nat) (z' : Int), Same (fun k => k = sw) H H' -> H'[sw]? = some ⟨[.int .i64 z'], true, true⟩ -> (a <= x + 1 /\ x <= a + 1) -> Post (.int .i64 x) H') :
    ACalls Tryz.prog 191 [lv 3 id 0 n, .int .i64 a, .pointer (some ⟨sw, 0, none⟩), .func (.func g) fs.toArray cs.toArray] H Post := by
  obtain ⟨p, hp⟩ : ∃ p, p = a - 1 := ⟨_, rfl⟩
  obtain ⟨q, hq⟩ : ∃ q, q = a + 1 := ⟨_, rfl⟩
  have w0 : IntKind.i64.wrap ((a : Int) - 1) = (p : Int) := by rw [hp, i64w (by omega) (by omega)]; omega
  have w1 : IntKind.i64.wrap ((a : Int) + 1) = (q : Int) := by rw [hq, i64w (by omega) (by omega)]; omega
  refine acalls_vc (rs := [.tmp 8]) Tryz.func191 rfl rfl Tryz.ntmps191 rfl rfl ?_
  simp (maxSteps := 1000000) [go_sem, w0, w1]
  refine medianB_ok hA hn hl (by omega) (by omega) (by omega) hQ hC hB hz hsw hid _ ?_
  intro H1 x z1 hs1 hz1 h1
  simp (maxSteps := 1000000) [go_sem]
  exact h H1 x z1 hs1 hz1 (by omega)

theorem pivotB_ok {H : Heap} {id a b n : Nat} {d : Array Bk} {lt : Bk -> Bk -> Bool} {g : FuncId} {fs cs : List Value} {Q : Bk -> Prop} (hA : Arr Bk.cells H id d) (hn : d.size = n) (hl : n <= 1048576) (hab : a < b) (hb : b <= n) (hQ : QA Q d)
    (hC : Cmp Tryz.prog Bk.val lt g fs cs Q id H) (Post : Value -> Heap -> Prop)
    (h : ∀ H' (x : Nat) (t : Int), H <+: H' -> (a <= x /\ x < b) -> Post (.tuple #[.int .i64 x, .int .i64 t]) H') :
    ACalls Tryz.prog 175 [lv 3 id 0 n, .int .i64 a, .int .i64 b, .func (.func g) fs.toArray cs.toArray] H Post := by
  obtain ⟨l, hll⟩ : ∃ l, l = b - a := ⟨_, rfl⟩
  obtain ⟨q, hq⟩ : ∃ q, q = l / 4 := ⟨_, rfl⟩
  obtain ⟨i, hi⟩ : ∃ i, i = a + q := ⟨_, rfl⟩
  obtain ⟨j, hj⟩ : ∃ j, j = a + q * 2 := ⟨_, rfl⟩
  obtain ⟨k, hk⟩ : ∃ k, k = a + q * 3 := ⟨_, rfl⟩
  have w0 : IntKind.i64.wrap ((b : Int) - a) = (l : Int) := by rw [hll, i64w (by omega) (by omega)]; omega
  have w1 : IntKind.i64.wrap ((l : Int) / 4) = (q : Int) := by rw [hq, i64w (by omega) (by omega)]; omega
  have w1' : IntKind.i64.wrap (q : Int) = (q : Int) := i64w (by omega) (by omega)
  have w2 : IntKind.i64.wrap ((q : Int) * 2) = (q : Int) * 2 := i64w (by omega) (by omega)
  have w3 : IntKind.i64.wrap ((q : Int) * 3) = (q : Int) * 3 := i64w (by omega) (by omega)
  have w4 : IntKind.i64.wrap ((a : Int) + q) = (i : Int) := by rw [hi, i64w (by omega) (by omega)]; omega
  have w5 : IntKind.i64.wrap ((a : Int) + (q : Int) * 2) = (j : Int) := by rw [hj, i64w (by omega) (by omega)]; omega
  have w6 : IntKind.i64.wrap ((a : Int) + (q : Int) * 3) = (k : Int) := by rw [hk, i64w (by omega) (by omega)]; omega
  have hidl := hA.lt
  have hp0 : H <+: H ++ [⟨[.int .i64 0], true, true⟩] := List.prefix_append _ _
  have hz0 : (H ++ [(⟨[.int .i64 0], true, true⟩ : Blk)])[H.length]? = some ⟨[.int .i64 0], true, true⟩ := by simp
  have fin0 : ∀ (H' : Heap) (x : Nat) (t : Int), Same (fun k => k = H.length) (H ++ [⟨[.int .i64 0], true, true⟩]) H' -> (a <= x /\ x < b) -> Post (.tuple #[.int .i64 x, .int .i64 t]) H' := by
    intro H' x t hs hx
    refine h H' x t ?_ hx
    exact ((Same.of_prefix (S := fun k => k = H.length) hp0).trans hs).prefix (by intro j hj e; omega)
  have lz : ∀ {H' : Heap} {z : Int}, H'[H.length]? = some ⟨[.int .i64 z], true, true⟩ -> cellsAt H' H.length 0 1 = some [.int .i64 z] := by
    intro H' z hz; rw [cellsAt_of hz rfl (by simp)]; rfl
  refine acalls_vc (rs := [.tmp 8, .tmp 9]) Tryz.func175 rfl rfl Tryz.ntmps175 rfl rfl ?_
  by_cases h8 : 8 <= l
  · have h8' : (8 : Int) <= l := by omega
    by_cases h50 : 50 <= l
    · have h50' : (50 : Int) <= l := by omega
      simp (maxSteps := 1000000) [go_sem, w0, w1, w1', w2, w3, w4, w5, w6, h8, h8', h50, h50']
      have hA0 := hA.pre hp0
      have hB0 : Same (fun k => k = id) H (H ++ [⟨[.int .i64 0], true, true⟩]) := Same.of_prefix hp0
      generalize H ++ [(⟨[.int .i64 0], true, true⟩ : Blk)] = H0 at hp0 hz0 fin0 hA0 hB0 ⊢
      have stepB : ∀ {H1 : Heap}, Same (fun k => k = H.length) H0 H1 -> Same (fun k => k = id) H H1 := fun h1 => hB0.via h1 (by intro j hj e; omega)
      have stepA : ∀ {H1 : Heap}, Same (fun k => k = H.length) H0 H1 -> Arr Bk.cells H1 id d := fun h1 => h1.get hA0 (by omega)
      refine medianAdjB_ok hA0 hn hl (by omega) (by omega) hQ hC hB0 hz0 (Nat.le_refl _) (by omega) _ ?_
      intro H1 i1 z1 hs1 hz1 h1
      simp (maxSteps := 1000000) [go_sem]
      refine medianAdjB_ok (stepA hs1) hn hl (by omega) (by omega) hQ hC (stepB hs1) hz1 (Nat.le_refl _) (by omega) _ ?_
      intro H2 j1 z2 hs2 hz2 h2
      have hs2 := hs1.trans hs2
      simp (maxSteps := 1000000) [go_sem]
      refine medianAdjB_ok (stepA hs2) hn hl (by omega) (by omega) hQ hC (stepB hs2) hz2 (Nat.le_refl _) (by omega) _ ?_
      intro H3 k1 z3 hs3 hz3 h3
      have hs3 := hs2.trans hs3
      simp (maxSteps := 1000000) [go_sem]
      refine medianB_ok (stepA hs3) hn hl (by omega) (by omega) (by omega) hQ hC (stepB hs3) hz3 (Nat.le_refl _) (by omega) _ ?_
      intro H4 x z4 hs4 hz4 h4
      have hs4 := hs3.trans hs4
      have c4 := lz hz4
      have hx : a <= x /\ x < b := by omega
      by_cases e0 : z4 = 0
      · have fin := fin0 H4 x 1 hs4 hx
        subst e0
        simp (maxSteps := 1000000) [go_sem, c4]
        exact fin
      · have e0' : (z4 == 0) = false := by simpa using e0
        by_cases e1 : z4 = 12
        · have fin := fin0 H4 x 2 hs4 hx
          subst e1
          simp (maxSteps := 1000000) [go_sem, c4]
          exact fin
        · have fin := fin0 H4 x 0 hs4 hx
          have e1' : (z4 == 12) = false := by simpa using e1
          simp (maxSteps := 1000000) [go_sem, c4, e0, e0', e1, e1']
          exact fin
    · have h50' : ¬ ((50 : Int) <= l) := by omega
      simp (maxSteps := 1000000) [go_sem, w0, w1, w1', w2, w3, w4, w5, w6, h8, h8', h50, h50']
      have hA0 := hA.pre hp0
      have hB0 : Same (fun k => k = id) H (H ++ [⟨[.int .i64 0], true, true⟩]) := Same.of_prefix hp0
      generalize H ++ [(⟨[.int .i64 0], true, true⟩ : Blk)] = H0 at hp0 hz0 fin0 hA0 hB0 ⊢
      refine medianB_ok hA0 hn hl (by omega) (by omega) (by omega) hQ hC hB0 hz0 (Nat.le_refl _) (by omega) _ ?_
      intro H4 x z4 hs4 hz4 h4
      have c4 := lz hz4
      have hx : a <= x /\ x < b := by omega
      by_cases e0 : z4 = 0
      · have fin := fin0 H4 x 1 hs4 hx
        subst e0
        simp (maxSteps := 1000000) [go_sem, c4]
        exact fin
      · have e0' : (z4 == 0) = false := by simpa using e0
        by_cases e1 : z4 = 12
        · have fin := fin0 H4 x 2 hs4 hx
          subst e1
          simp (maxSteps := 1000000) [go_sem, c4]
          exact fin
        · have fin := fin0 H4 x 0 hs4 hx
          have e1' : (z4 == 12) = false := by simpa using e1
          simp (maxSteps := 1000000) [go_sem, c4, e0, e0', e1, e1']
          exact fin
  · have h8' : ¬ ((8 : Int) <= l) := by omega
    have fin := fin0 _ j 1 (Same.refl _ _) (by omega)
    simp (maxSteps := 1000000) [go_sem, w0, w1, w1', w2, w3, w4, w5, w6, h8, h8']
    exact fin

end Go.Proofs.YtfnegaedkomcgaaGreat
end
