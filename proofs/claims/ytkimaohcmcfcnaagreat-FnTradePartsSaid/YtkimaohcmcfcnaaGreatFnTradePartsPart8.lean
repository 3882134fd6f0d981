/- Part 8 of what the proof of the law FnTradeParts rests on: contracts of functions of the program, for every argument that each names; no statement of the seat is proved here. -/
import Derived.Test.YtkimaohcmcfcnaaGreatFnTradePartsPart7

set_option linter.all false
set_option maxRecDepth 20000
set_option maxHeartbeats 8000000
section
namespace Go.Proofs.YtkimaohcmcfcnaaGreat
open Go.Ab Go.Sort

theorem partInsP_ok {H : Heap} {id a b n : Nat} {d : Array (Int × Int)} {lt : (Int × Int) -> (Int × Int) -> Bool} {g : FuncId} {fs cs : List Value} {Q : (Int × Int) -> Prop} (hA : Arr cellsP H id d) (hn : d.size = n) (hl : n <= 1048576) (hab : a < b) (hb : b <= n) (hQ : QA Q d)
    (hC : Cmp Tryz.prog valP lt g fs cs Q id H) (Post : Value -> Heap -> Prop) (h : ∀ H', Same (fun k => k = id) H H' -> Arr cellsP H' id (partialInsertionSort lt d a b).1 -> Post (.bool (partialInsertionSort lt d a b).2) H') :
    ACalls Tryz.prog 91 [lv 2 id 0 n, .int .i64 a, .int .i64 b, .func (.func g) fs.toArray cs.toArray] H Post := by
  refine acalls_vc (rs := [.tmp 8]) Tryz.func91 rfl rfl Tryz.ntmps91 rfl rfl ?_
  obtain ⟨a1, ha1⟩ : ∃ a1, a1 = a + 1 := ⟨_, rfl⟩
  have w1 : IntKind.i64.wrap ((a : Int) + 1) = (a1 : Int) := by rw [ha1, i64w (by omega) (by omega)]; omega
  have w0 : IntKind.i64.wrap ((b : Int) - a) = (b : Int) - a := i64w (by omega) (by omega)
  have e0 : partialInsertionSort lt d a b = partialIns lt a b 5 a1 d := by rw [ha1]; rfl
  rw [e0] at h
  simp (maxSteps := 1000000) [go_sem, w1]
  refine AWp.loopVc (St := Nat × Nat × Array (Int × Int)) (fun s => [(0, lv 2 id 0 n), (1, .int .i64 a), (2, .int .i64 b), (3, .func (.func g) fs.toArray cs.toArray), (9, .int .i64 s.2.1), (10, .int .i64 s.1)])
    (fun s H' => s.1 <= 5 /\ a < s.2.1 /\ s.2.1 <= b /\ s.2.2.size = n /\ QA Q s.2.2 /\ Same (fun k => k = id) H H' /\ Arr cellsP H' id s.2.2 /\ partialIns lt a b (5 - s.1) s.2.1 s.2.2 = partialIns lt a b 5 a1 d) (fun s => 5 - s.1) (0, a1, d) ?_ ?_ ?_
  · simp [upF, Fr.get, Up.refl]
  · exact ⟨by simp, by simp only; omega, by simp only; omega, hn, hQ, Same.refl _ _, hA, rfl⟩
  · rintro K0 ⟨t, i, d1⟩ H1 ⟨ht, hai, hib, hsz, hQ1, hS1, hA1, hO⟩ hK0
    simp only at ht hai hib hsz hQ1 hS1 hA1 hO
    by_cases ht5 : t < 5
    · have ht5' : (t : Int) < 5 := by omega
      have hw_t : IntKind.i64.wrap ((t : Int) + 1) = (t : Int) + 1 := i64w (by omega) (by omega)
      obtain ⟨q, hq⟩ : ∃ q, 5 - t = q + 1 := ⟨4 - t, by omega⟩
      have hq2 : 5 - (t + 1) = q := by omega
      rw [hq, partialIns_succ] at hO
      obtain ⟨bd1, bd2⟩ := scanSorted_bd (lt := lt) (d := d1) (i := i) (b := b) hib
      simp (maxSteps := 1000000) [go_sem, ht5, ht5']
      refine AWp.loopCut (St := Nat) (St' := Unit) 2 (fun s => [(0, lv 2 id 0 n), (1, .int .i64 a), (2, .int .i64 b), (3, .func (.func g) fs.toArray cs.toArray), (9, .int .i64 s), (10, .int .i64 t)])
        (fun s H2 => a < s /\ s <= b /\ Same (fun k => k = id) H H2 /\ Arr cellsP H2 id d1 /\ scanSorted lt d1 b s = scanSorted lt d1 b i) (fun s => b - s) i
        (fun _ => [(0, lv 2 id 0 n), (1, .int .i64 a), (2, .int .i64 b), (3, .func (.func g) fs.toArray cs.toArray), (9, .int .i64 ((scanSorted lt d1 b i : Nat) : Int)), (10, .int .i64 t)])
        (fun _ H2 => Same (fun k => k = id) H H2 /\ Arr cellsP H2 id d1) ?_ ?_ ?_ ?_
      · simp [upF, Fr.get, Up.refl]
      · exact ⟨hai, hib, hS1, hA1, rfl⟩
      · rintro K KE s H2 ⟨has, hsb, hS2, hA2, hP⟩ hK hKE
        by_cases hsb2 : s < b
        · have hsb3 : (s : Int) < b := by omega
          obtain ⟨p, hp⟩ : ∃ p, s - 1 = p := ⟨_, rfl⟩
          have wp : IntKind.i64.wrap ((s : Int) - 1) = (p : Int) := by rw [<- hp, i64w (by omega) (by omega)]; omega
          have hw_s : IntKind.i64.wrap ((s : Int) + 1) = (s : Int) + 1 := i64w (by omega) (by omega)
          have hi1 : s < d1.size := by omega
          have hi0 : p < d1.size := by omega
          have n1 : s < n := by omega
          have n0 : p < n := by omega
          have c1 := hA2.load cellsP_len hi1
          have c0 := hA2.load cellsP_len hi0
          have q1 := hQ1 _ hi1
          have q0 := hQ1 _ hi0
          obtain ⟨x, hx⟩ : ∃ x, d1[s]! = x := ⟨_, rfl⟩
          obtain ⟨y, hy⟩ : ∃ y, d1[p]! = y := ⟨_, rfl⟩
          rw [hx] at c1 q1
          rw [hy] at c0 q0
          simp only [cellsP, Nat.mul_one, Row.val] at c1 c0
          refine AWp.draw mixed [(0, false), (1, false), (2, false), (3, false), (4, false), (5, false), (6, false), (7, false), (8, false), (9, false), (10, false), (11, false), (12, false), (13, false), (14, false), (15, false), (16, false), (17, false)] (by kernel_rfl) ?_
          simp (maxSteps := 1000000) [go_sem, hsb2, hsb3, c1, c0, n1, n0, wp]
          refine hC H2 x y _ hS2 q1 q0 ?_
          intro H3 c hp3 hc
          have hS3 := hS2.via (Same.of_prefix (S := fun _ => False) hp3) (fun _ _ h => h.elim)
          have hA3 := hA2.pre hp3
          cases hl' : lt x y with
          | false =>
            rw [hl'] at hc
            have hc0 := hc
            simp only [decide_eq_true_eq, decide_eq_false_iff_not] at hc0
            simp (maxSteps := 1000000) [go_sem, hc, hc0, hw_s]
            exact hK (s + 1) _ _ (by omega) (by simp [upF, Fr.get, Up.refl]) ⟨by omega, by omega, hS3, hA3, by rw [<- hP]; exact (scanSorted_go hsb2 (by rw [hp, hx, hy]; exact hl')).symm⟩
          | true =>
            rw [hl'] at hc
            have hc0 := hc
            simp only [decide_eq_true_eq, decide_eq_false_iff_not] at hc0
            rw [scanSorted_stop (.inr (by rw [hp, hx, hy]; exact hl'))] at hP
            simp (maxSteps := 1000000) [go_sem, hc, hc0]
            exact hKE () _ _ (by simp [upF, Fr.get, Up.refl, hP]) ⟨hS3, hA3⟩
        · rw [scanSorted_stop (.inl (by omega))] at hP
          have hsb3 : ¬ ((s : Int) < b) := by omega
          refine AWp.draw mixed [(0, false), (1, false), (2, false), (3, false), (4, false), (5, false), (6, false), (7, false), (8, false), (9, false), (10, false), (11, false), (12, false), (13, false), (14, false), (15, false), (16, false), (17, false)] (by kernel_rfl) ?_
          simp (maxSteps := 1000000) [go_sem, undef, hsb2, hsb3]
          exact hKE () _ _ (by simp [upF, Fr.get, Up.refl, hP]) ⟨hS2, hA2⟩
      rintro _ H2 ⟨hS2, hA2⟩
      obtain ⟨i2, hi2⟩ : ∃ I, scanSorted lt d1 b i = I := ⟨_, rfl⟩
      rw [hi2] at bd1 bd2 hO ⊢
      by_cases hib2 : i2 = b
      · subst hib2
        rw [if_pos rfl] at hO
        rw [<- hO] at h
        simp (maxSteps := 1000000) [go_sem]
        exact h H2 hS2 hA2
      · rw [if_neg hib2] at hO
        have hib3 : ((i2 : Int) == (b : Int)) = false := by rw [beq_eq_false_iff_ne]; omega
        by_cases h50 : b - a < 50
        · have h50' : (b : Int) - a < 50 := by omega
          rw [if_pos h50] at hO
          rw [<- hO] at h
          simp (maxSteps := 1000000) [go_sem, hib2, hib3, w0, h50']
          exact h H2 hS2 hA2
        · have h50' : ¬ ((b : Int) - a < 50) := by omega
          rw [if_neg h50] at hO
          obtain ⟨p, hp⟩ : ∃ p, i2 - 1 = p := ⟨_, rfl⟩
          have wp : IntKind.i64.wrap ((i2 : Int) - 1) = (p : Int) := by rw [<- hp, i64w (by omega) (by omega)]; omega
          have wia : IntKind.i64.wrap ((i2 : Int) - a) = (i2 : Int) - a := i64w (by omega) (by omega)
          have wbi : IntKind.i64.wrap ((b : Int) - i2) = (b : Int) - i2 := i64w (by omega) (by omega)
          have wi1 : IntKind.i64.wrap ((i2 : Int) + 1) = (i2 : Int) + 1 := i64w (by omega) (by omega)
          rw [hp] at hO
          have u1 : i2 < (d1).size := by omega
          have u2 : p < (d1).size := by omega
          have u3 : i2 < n := by omega
          have u4 : p < n := by omega
          have uca := (hA2).load cellsP_len u1
          have ucb := (hA2).load cellsP_len u2
          obtain ⟨H5, H6, us1, us0, hA6, hS6, ul⟩ := (hA2).swap cellsP_len cellsP_one u1 u2
          obtain ⟨ux, uhx⟩ : ∃ x, x = (d1)[i2]! := ⟨_, rfl⟩
          obtain ⟨uy, uhy⟩ : ∃ y, y = (d1)[p]! := ⟨_, rfl⟩
          rw [<- uhx] at uca us0
          rw [<- uhy] at ucb us1
          simp only [cellsP, Nat.mul_one, Row.val] at uca ucb us0 us1
          have hQ6 := hQ1.swp u1 u2
          have hsz6 : (swp d1 i2 p).size = n := by rw [size_swp]; exact hsz
          have hS6 := hS2.trans hS6
          simp (maxSteps := 1000000) [go_sem, hib2, hib3, w0, h50']
          refine AWp.draw mixed [(0, false), (1, false), (2, false), (3, false), (4, false), (5, false), (6, false), (7, false), (8, false), (9, false), (10, false), (11, false), (12, false), (13, false), (14, false), (15, false), (16, false), (17, false)] (by kernel_rfl) ?_
          simp (maxSteps := 1000000) [go_sem, uca, ucb, u3, u4, us1, us0, wp]
          generalize swp d1 i2 p = d2 at *
          clear uca ucb us1 us0
          by_cases hd : 2 <= i2 - a
          · have hd' : (2 : Int) <= (i2 : Int) - a := by omega
            have e1 : fixDown lt a i2 d2 = shiftDown lt p d2 := by unfold fixDown; rw [if_pos hd, hp]
            rw [e1] at hO
            simp (maxSteps := 1000000) [go_sem, wia, hd, hd', wp]
            refine AWp.loopCut (St := Nat × Array (Int × Int)) (St' := Unit) 4 (fun s => [(0, lv 2 id 0 n), (1, .int .i64 a), (2, .int .i64 b), (3, .func (.func g) fs.toArray cs.toArray), (9, .int .i64 i2), (10, .int .i64 t), (11, .int .i64 s.1)])
              (fun s H2 => s.1 <= p /\ s.2.size = n /\ QA Q s.2 /\ Same (fun k => k = id) H H2 /\ Arr cellsP H2 id s.2 /\ shiftDown lt s.1 s.2 = shiftDown lt p d2) (fun s => s.1) (p, d2)
              (fun _ => [(0, lv 2 id 0 n), (1, .int .i64 a), (2, .int .i64 b), (3, .func (.func g) fs.toArray cs.toArray), (9, .int .i64 i2), (10, .int .i64 t)])
              (fun _ H2 => Same (fun k => k = id) H H2 /\ Arr cellsP H2 id (shiftDown lt p d2)) ?_ ?_ ?_ ?_
            · simp [upF, Fr.get, Up.refl]
            · exact ⟨Nat.le_refl _, hsz6, hQ6, hS6, hA6, rfl⟩
            · rintro K KE ⟨s, d3⟩ H7 ⟨hsp, hsz3, hQ3, hS7, hA7, hP⟩ hK hKE
              simp only at hsp hsz3 hQ3 hS7 hA7 hP
              cases s with
              | zero =>
                have hP' : d3 = shiftDown lt p d2 := hP
                simp (maxSteps := 1000000) [go_sem]
                exact hKE () _ _ (by simp [upF, Fr.get, Up.refl]) ⟨hS7, hP' ▸ hA7⟩
              | succ r =>
                have hi1 : r + 1 < d3.size := by omega
                have hi0 : r < d3.size := by omega
                have n1 : r + 1 < n := by omega
                have n0 : r < n := by omega
                have m1 : (r : Int) + 1 < n := by omega
                have z1 : (0 : Int) <= (r : Int) + 1 := by omega
                have z2 : (1 : Int) <= (r : Int) + 1 := by omega
                have hwr : IntKind.i64.wrap (r : Int) = (r : Int) := i64w (by omega) (by omega)
                have c1 := hA7.load cellsP_len hi1
                have c0 := hA7.load cellsP_len hi0
                have q1 := hQ3 _ hi1
                have q0 := hQ3 _ hi0
                obtain ⟨x, hx⟩ : ∃ x, d3[r + 1]! = x := ⟨_, rfl⟩
                obtain ⟨y, hy⟩ : ∃ y, d3[r]! = y := ⟨_, rfl⟩
                rw [hx] at c1 q1
                rw [hy] at c0 q0
                simp only [cellsP, Nat.mul_one, Row.val] at c1 c0
                simp (maxSteps := 1000000) [go_sem, z2]
                refine AWp.draw mixed [(0, false), (1, false), (2, false), (3, false), (4, false), (5, false), (6, false), (7, false), (8, false), (9, false), (10, false), (11, false), (12, false)] (by kernel_rfl) ?_
                simp (maxSteps := 1000000) [go_sem, c1, c0, n1, n0, m1, z1, hwr]
                refine hC H7 x y _ hS7 q1 q0 ?_
                intro H8 c hp8 hc
                have hS8 := hS7.via (Same.of_prefix (S := fun _ => False) hp8) (fun _ _ h => h.elim)
                have hA8 := hA7.pre hp8
                cases hl' : lt x y with
                | false =>
                  rw [hl'] at hc
                  have hc0 := hc
                  simp only [decide_eq_true_eq, decide_eq_false_iff_not] at hc0
                  rw [shiftDown_stop (by rw [hx, hy]; exact hl')] at hP
                  simp (maxSteps := 1000000) [go_sem, hc, hc0]
                  exact hKE () _ _ (by simp [upF, Fr.get, Up.refl]) ⟨hS8, hP ▸ hA8⟩
                | true =>
                  rw [hl'] at hc
                  have hc0 := hc
                  simp only [decide_eq_true_eq, decide_eq_false_iff_not] at hc0
                  rw [shiftDown_go (by rw [hx, hy]; exact hl')] at hP
                  have v1 : (r + 1) < (d3).size := by omega
                  have v2 : r < (d3).size := by omega
                  have v3 : (r + 1) < n := by omega
                  have v4 : r < n := by omega
                  have vca := (hA8).load cellsP_len v1
                  have vcb := (hA8).load cellsP_len v2
                  obtain ⟨H9, HA, vs1, vs0, hAA, hSA, vl⟩ := (hA8).swap cellsP_len cellsP_one v1 v2
                  obtain ⟨vx, vhx⟩ : ∃ x, x = (d3)[(r + 1)]! := ⟨_, rfl⟩
                  obtain ⟨vy, vhy⟩ : ∃ y, y = (d3)[r]! := ⟨_, rfl⟩
                  rw [<- vhx] at vca vs0
                  rw [<- vhy] at vcb vs1
                  simp only [cellsP, Nat.mul_one, Row.val] at vca vcb vs0 vs1
                  simp (maxSteps := 1000000) [go_sem, hc, hc0]
                  refine AWp.draw mixed [(0, false), (1, false), (2, false), (3, false), (4, false), (5, false), (6, false), (7, false), (8, false), (9, false), (10, false), (11, false), (12, false), (13, false), (14, false), (15, false), (16, false), (17, false)] (by kernel_rfl) ?_
                  simp (maxSteps := 1000000) [go_sem, vca, vcb, v3, v4, m1, z1, vs1, vs0, hwr]
                  exact hK (r, swp d3 (r + 1) r) _ _ (by simp only; omega) (by simp [upF, Fr.get, Up.refl]) ⟨by simp only; omega, by rw [size_swp]; exact hsz3, hQ3.swp v1 v2, hS8.trans hSA, hAA, hP⟩
            rintro _ H7 ⟨hS7, hA7⟩
            have hsz7 : (shiftDown lt p d2).size = n := by rw [shiftDown_size]; exact hsz6
            have hQ7 := shiftDown_QA (lt := lt) (j := p) (by omega) hQ6
            simp (maxSteps := 1000000) [go_sem]
            obtain ⟨d9, hd9⟩ : ∃ d9, shiftDown lt p d2 = d9 := ⟨_, rfl⟩
            have hA9 := hA7
            have hQ9 := hQ7
            have hz9 := hsz7
            rw [hd9] at hA9 hQ9 hz9 hO
            by_cases hu : 2 <= b - i2
            · have hu' : (2 : Int) <= (b : Int) - i2 := by omega
              have e2 : fixUp lt b i2 d9 = shiftUp lt b (i2 + 1) d9 := by unfold fixUp; rw [if_pos hu]
              rw [e2] at hO
              simp (maxSteps := 1000000) [go_sem, wbi, hu, hu', wi1]
              refine AWp.loopCut (St := Nat × Array (Int × Int)) (St' := Unit) 6 (fun s => [(0, lv 2 id 0 n), (1, .int .i64 a), (2, .int .i64 b), (3, .func (.func g) fs.toArray cs.toArray), (9, .int .i64 i2), (10, .int .i64 t), (12, .int .i64 s.1)])
                (fun s H2 => i2 < s.1 /\ s.1 <= b /\ s.2.size = n /\ QA Q s.2 /\ Same (fun k => k = id) H H2 /\ Arr cellsP H2 id s.2 /\ shiftUp lt b s.1 s.2 = shiftUp lt b (i2 + 1) d9) (fun s => b - s.1) (i2 + 1, d9)
                (fun _ => [(0, lv 2 id 0 n), (1, .int .i64 a), (2, .int .i64 b), (3, .func (.func g) fs.toArray cs.toArray), (9, .int .i64 i2), (10, .int .i64 t)])
                (fun _ H2 => Same (fun k => k = id) H H2 /\ Arr cellsP H2 id (shiftUp lt b (i2 + 1) d9)) ?_ ?_ ?_ ?_
              · simp [upF, Fr.get, Up.refl]
              · exact ⟨by simp only; omega, by simp only; omega, hz9, hQ9, hS7, hA9, rfl⟩
              · rintro K KE ⟨s, d3⟩ HB ⟨hsi, hsb, hsz3, hQ3, hSB, hAB, hP⟩ hK hKE
                simp only at hsi hsb hsz3 hQ3 hSB hAB hP
                by_cases hsb2 : s < b
                · have hsb3 : (s : Int) < b := by omega
                  obtain ⟨r, hr⟩ : ∃ r, s - 1 = r := ⟨_, rfl⟩
                  have wr : IntKind.i64.wrap ((s : Int) - 1) = (r : Int) := by rw [<- hr, i64w (by omega) (by omega)]; omega
                  have hw_s : IntKind.i64.wrap ((s : Int) + 1) = (s : Int) + 1 := i64w (by omega) (by omega)
                  have hi1 : s < d3.size := by omega
                  have hi0 : r < d3.size := by omega
                  have n1 : s < n := by omega
                  have n0 : r < n := by omega
                  have c1 := hAB.load cellsP_len hi1
                  have c0 := hAB.load cellsP_len hi0
                  have q1 := hQ3 _ hi1
                  have q0 := hQ3 _ hi0
                  obtain ⟨x, hx⟩ : ∃ x, d3[s]! = x := ⟨_, rfl⟩
                  obtain ⟨y, hy⟩ : ∃ y, d3[r]! = y := ⟨_, rfl⟩
                  rw [hx] at c1 q1
                  rw [hy] at c0 q0
                  simp only [cellsP, Nat.mul_one, Row.val] at c1 c0
                  simp (maxSteps := 1000000) [go_sem, hsb2, hsb3]
                  refine AWp.draw mixed [(0, false), (1, false), (2, false), (3, false), (4, false), (5, false), (6, false), (7, false), (8, false), (9, false), (10, false), (11, false), (12, false)] (by kernel_rfl) ?_
                  simp (maxSteps := 1000000) [go_sem, c1, c0, n1, n0, wr]
                  refine hC HB x y _ hSB q1 q0 ?_
                  intro HC c hpC hc
                  have hSC := hSB.via (Same.of_prefix (S := fun _ => False) hpC) (fun _ _ h => h.elim)
                  have hAC := hAB.pre hpC
                  cases hl' : lt x y with
                  | false =>
                    rw [hl'] at hc
                    have hc0 := hc
                    simp only [decide_eq_true_eq, decide_eq_false_iff_not] at hc0
                    rw [shiftUp_stop hsb2 (by rw [hr, hx, hy]; exact hl')] at hP
                    simp (maxSteps := 1000000) [go_sem, hc, hc0]
                    exact hKE () _ _ (by simp [upF, Fr.get, Up.refl]) ⟨hSC, hP ▸ hAC⟩
                  | true =>
                    rw [hl'] at hc
                    have hc0 := hc
                    simp only [decide_eq_true_eq, decide_eq_false_iff_not] at hc0
                    rw [shiftUp_go hsb2 (by rw [hr, hx, hy]; exact hl'), hr] at hP
                    have v1 : s < (d3).size := by omega
                    have v2 : r < (d3).size := by omega
                    have v3 : s < n := by omega
                    have v4 : r < n := by omega
                    have vca := (hAC).load cellsP_len v1
                    have vcb := (hAC).load cellsP_len v2
                    obtain ⟨HD, HE, vs1, vs0, hAE, hSE, vl⟩ := (hAC).swap cellsP_len cellsP_one v1 v2
                    obtain ⟨vx, vhx⟩ : ∃ x, x = (d3)[s]! := ⟨_, rfl⟩
                    obtain ⟨vy, vhy⟩ : ∃ y, y = (d3)[r]! := ⟨_, rfl⟩
                    rw [<- vhx] at vca vs0
                    rw [<- vhy] at vcb vs1
                    simp only [cellsP, Nat.mul_one, Row.val] at vca vcb vs0 vs1
                    simp (maxSteps := 1000000) [go_sem, hc, hc0]
                    refine AWp.draw mixed [(0, false), (1, false), (2, false), (3, false), (4, false), (5, false), (6, false), (7, false), (8, false), (9, false), (10, false), (11, false), (12, false), (13, false), (14, false), (15, false), (16, false), (17, false)] (by kernel_rfl) ?_
                    simp (maxSteps := 1000000) [go_sem, vca, vcb, v3, v4, vs1, vs0, wr, hw_s]
                    exact hK (s + 1, swp d3 s r) _ _ (by simp only; omega) (by simp [upF, Fr.get, Up.refl]) ⟨by simp only; omega, by simp only; omega, by rw [size_swp]; exact hsz3, hQ3.swp v1 v2, hSC.trans hSE, hAE, hP⟩
                · rw [shiftUp_end (by omega)] at hP
                  have hsb3 : ¬ ((s : Int) < b) := by omega
                  simp (maxSteps := 1000000) [go_sem, hsb2, hsb3]
                  exact hKE () _ _ (by simp [upF, Fr.get, Up.refl]) ⟨hSB, hP ▸ hAB⟩
              rintro _ HB ⟨hSB, hAB⟩
              simp (maxSteps := 1000000) [go_sem, hw_t]
              exact hK0 (t + 1, i2, shiftUp lt b (i2 + 1) d9) _ _ (by simp only; omega) (by simp [upF, Fr.get, Up.refl]) ⟨by simp only; omega, by simp only; omega, bd2, by rw [shiftUp_size]; exact hz9, shiftUp_QA (by omega) hQ9, hSB, hAB, by simp only [hq2]; exact hO⟩
            · have hu' : ¬ ((2 : Int) <= (b : Int) - i2) := by omega
              have e2 : fixUp lt b i2 d9 = d9 := by unfold fixUp; rw [if_neg hu]
              rw [e2] at hO
              simp (maxSteps := 1000000) [go_sem, wbi, hu, hu', hw_t]
              exact hK0 (t + 1, i2, d9) _ _ (by simp only; omega) (by simp [upF, Fr.get, Up.refl]) ⟨by simp only; omega, by simp only; omega, bd2, hz9, hQ9, hS7, hA9, by simp only [hq2]; exact hO⟩
          · have hd' : ¬ ((2 : Int) <= (i2 : Int) - a) := by omega
            have e1 : fixDown lt a i2 d2 = d2 := by unfold fixDown; rw [if_neg hd]
            rw [e1] at hO
            simp (maxSteps := 1000000) [go_sem, wia, hd, hd']
            obtain ⟨d9, hd9⟩ : ∃ d9, d2 = d9 := ⟨_, rfl⟩
            have hA9 := hA6
            have hQ9 := hQ6
            have hz9 := hsz6
            rw [hd9] at hA9 hQ9 hz9 hO
            by_cases hu : 2 <= b - i2
            · have hu' : (2 : Int) <= (b : Int) - i2 := by omega
              have e2 : fixUp lt b i2 d9 = shiftUp lt b (i2 + 1) d9 := by unfold fixUp; rw [if_pos hu]
              rw [e2] at hO
              simp (maxSteps := 1000000) [go_sem, wbi, hu, hu', wi1]
              refine AWp.loopCut (St := Nat × Array (Int × Int)) (St' := Unit) 6 (fun s => [(0, lv 2 id 0 n), (1, .int .i64 a), (2, .int .i64 b), (3, .func (.func g) fs.toArray cs.toArray), (9, .int .i64 i2), (10, .int .i64 t), (12, .int .i64 s.1)])
                (fun s H2 => i2 < s.1 /\ s.1 <= b /\ s.2.size = n /\ QA Q s.2 /\ Same (fun k => k = id) H H2 /\ Arr cellsP H2 id s.2 /\ shiftUp lt b s.1 s.2 = shiftUp lt b (i2 + 1) d9) (fun s => b - s.1) (i2 + 1, d9)
                (fun _ => [(0, lv 2 id 0 n), (1, .int .i64 a), (2, .int .i64 b), (3, .func (.func g) fs.toArray cs.toArray), (9, .int .i64 i2), (10, .int .i64 t)])
                (fun _ H2 => Same (fun k => k = id) H H2 /\ Arr cellsP H2 id (shiftUp lt b (i2 + 1) d9)) ?_ ?_ ?_ ?_
              · simp [upF, Fr.get, Up.refl]
              · exact ⟨by simp only; omega, by simp only; omega, hz9, hQ9, hS6, hA9, rfl⟩
              · rintro K KE ⟨s, d3⟩ HB ⟨hsi, hsb, hsz3, hQ3, hSB, hAB, hP⟩ hK hKE
                simp only at hsi hsb hsz3 hQ3 hSB hAB hP
                by_cases hsb2 : s < b
                · have hsb3 : (s : Int) < b := by omega
                  obtain ⟨r, hr⟩ : ∃ r, s - 1 = r := ⟨_, rfl⟩
                  have wr : IntKind.i64.wrap ((s : Int) - 1) = (r : Int) := by rw [<- hr, i64w (by omega) (by omega)]; omega
                  have hw_s : IntKind.i64.wrap ((s : Int) + 1) = (s : Int) + 1 := i64w (by omega) (by omega)
                  have hi1 : s < d3.size := by omega
                  have hi0 : r < d3.size := by omega
                  have n1 : s < n := by omega
                  have n0 : r < n := by omega
                  have c1 := hAB.load cellsP_len hi1
                  have c0 := hAB.load cellsP_len hi0
                  have q1 := hQ3 _ hi1
                  have q0 := hQ3 _ hi0
                  obtain ⟨x, hx⟩ : ∃ x, d3[s]! = x := ⟨_, rfl⟩
                  obtain ⟨y, hy⟩ : ∃ y, d3[r]! = y := ⟨_, rfl⟩
                  rw [hx] at c1 q1
                  rw [hy] at c0 q0
                  simp only [cellsP, Nat.mul_one, Row.val] at c1 c0
                  simp (maxSteps := 1000000) [go_sem, hsb2, hsb3]
                  refine AWp.draw mixed [(0, false), (1, false), (2, false), (3, false), (4, false), (5, false), (6, false), (7, false), (8, false), (9, false), (10, false), (11, false), (12, false)] (by kernel_rfl) ?_
                  simp (maxSteps := 1000000) [go_sem, c1, c0, n1, n0, wr]
                  refine hC HB x y _ hSB q1 q0 ?_
                  intro HC c hpC hc
                  have hSC := hSB.via (Same.of_prefix (S := fun _ => False) hpC) (fun _ _ h => h.elim)
                  have hAC := hAB.pre hpC
                  cases hl' : lt x y with
                  | false =>
                    rw [hl'] at hc
                    have hc0 := hc
                    simp only [decide_eq_true_eq, decide_eq_false_iff_not] at hc0
                    rw [shiftUp_stop hsb2 (by rw [hr, hx, hy]; exact hl')] at hP
                    simp (maxSteps := 1000000) [go_sem, hc, hc0]
                    exact hKE () _ _ (by simp [upF, Fr.get, Up.refl]) ⟨hSC, hP ▸ hAC⟩
                  | true =>
                    rw [hl'] at hc
                    have hc0 := hc
                    simp only [decide_eq_true_eq, decide_eq_false_iff_not] at hc0
                    rw [shiftUp_go hsb2 (by rw [hr, hx, hy]; exact hl'), hr] at hP
                    have v1 : s < (d3).size := by omega
                    have v2 : r < (d3).size := by omega
                    have v3 : s < n := by omega
                    have v4 : r < n := by omega
                    have vca := (hAC).load cellsP_len v1
                    have vcb := (hAC).load cellsP_len v2
                    obtain ⟨HD, HE, vs1, vs0, hAE, hSE, vl⟩ := (hAC).swap cellsP_len cellsP_one v1 v2
                    obtain ⟨vx, vhx⟩ : ∃ x, x = (d3)[s]! := ⟨_, rfl⟩
                    obtain ⟨vy, vhy⟩ : ∃ y, y = (d3)[r]! := ⟨_, rfl⟩
                    rw [<- vhx] at vca vs0
                    rw [<- vhy] at vcb vs1
                    simp only [cellsP, Nat.mul_one, Row.val] at vca vcb vs0 vs1
                    simp (maxSteps := 1000000) [go_sem, hc, hc0]
                    refine AWp.draw mixed [(0, false), (1, false), (2, false), (3, false), (4, false), (5, false), (6, false), (7, false), (8, false), (9, false), (10, false), (11, false), (12, false), (13, false), (14, false), (15, false), (16, false), (17, false)] (by kernel_rfl) ?_
                    simp (maxSteps := 1000000) [go_sem, vca, vcb, v3, v4, vs1, vs0, wr, hw_s]
                    exact hK (s + 1, swp d3 s r) _ _ (by simp only; omega) (by simp [upF, Fr.get, Up.refl]) ⟨by simp only; omega, by simp only; omega, by rw [size_swp]; exact hsz3, hQ3.swp v1 v2, hSC.trans hSE, hAE, hP⟩
                · rw [shiftUp_end (by omega)] at hP
                  have hsb3 : ¬ ((s : Int) < b) := by omega
                  simp (maxSteps := 1000000) [go_sem, hsb2, hsb3]
                  exact hKE () _ _ (by simp [upF, Fr.get, Up.refl]) ⟨hSB, hP ▸ hAB⟩
              rintro _ HB ⟨hSB, hAB⟩
              simp (maxSteps := 1000000) [go_sem, hw_t]
              exact hK0 (t + 1, i2, shiftUp lt b (i2 + 1) d9) _ _ (by simp only; omega) (by simp [upF, Fr.get, Up.refl]) ⟨by simp only; omega, by simp only; omega, bd2, by rw [shiftUp_size]; exact hz9, shiftUp_QA (by omega) hQ9, hSB, hAB, by simp only [hq2]; exact hO⟩
            · have hu' : ¬ ((2 : Int) <= (b : Int) - i2) := by omega
              have e2 : fixUp lt b i2 d9 = d9 := by unfold fixUp; rw [if_neg hu]
              rw [e2] at hO
              simp (maxSteps := 1000000) [go_sem, wbi, hu, hu', hw_t]
              exact hK0 (t + 1, i2, d9) _ _ (by simp only; omega) (by simp [upF, Fr.get, Up.refl]) ⟨by simp only; omega, by simp only; omega, bd2, hz9, hQ9, hS6, hA9, by simp only [hq2]; exact hO⟩
    · have ht5' : ¬ ((t : Int) < 5) := by omega
      have e : 5 - t = 0 := by omega
      rw [e] at hO
      have hO' : (d1, false) = partialIns lt a b 5 a1 d := hO
      rw [<- hO'] at h
      simp (maxSteps := 1000000) [go_sem, ht5, ht5']
      exact h H1 hS1 hA1

end Go.Proofs.YtkimaohcmcfcnaaGreat
end

section
namespace Go.Proofs.YtkimaohcmcfcnaaGreat
open Go.Ab Go.Sort

theorem breakP_ok {H : Heap} {id a b n : Nat} {d : Array (Int × Int)} {g : FuncId} {fs cs : List Value} {Q : (Int × Int) -> Prop} (hA : Arr cellsP H id d) (hn : d.size = n) (hl : n <= 1048576) (hab : a <= b) (hb : b <= n) (hQ : QA Q d)
    (Post : Value -> Heap -> Prop) (h : ∀ H' d', Same (fun k => k = id) H H' -> Arr cellsP H' id d' -> QA Q d' -> PermIn a b d d' -> Post (.tuple #[]) H') :
    ACalls Tryz.prog 88 [lv 2 id 0 n, .int .i64 a, .int .i64 b, .func (.func g) fs.toArray cs.toArray] H Post := by
  refine acalls_vc (rs := []) Tryz.func88 rfl rfl Tryz.ntmps88 rfl rfl ?_
  obtain ⟨l, hll⟩ : ∃ l, l = b - a := ⟨_, rfl⟩
  obtain ⟨q, hq⟩ : ∃ q, q = l / 4 := ⟨_, rfl⟩
  have w0 : IntKind.i64.wrap ((b : Int) - a) = (l : Int) := by rw [hll, i64w (by omega) (by omega)]; omega
  by_cases h8 : 8 <= l
  · have h8' : (8 : Int) <= l := by omega
    obtain ⟨i0, hi0⟩ : ∃ i0, i0 = a + q * 2 - 1 := ⟨_, rfl⟩
    have w1 : IntKind.i64.wrap ((l : Int) / 4) = (q : Int) := by rw [hq, i64w (by omega) (by omega)]; omega
    have w2 : IntKind.i64.wrap ((q : Int) * 2) = (q : Int) * 2 := i64w (by omega) (by omega)
    have w3 : IntKind.i64.wrap ((a : Int) + (q : Int) * 2) = (a : Int) + (q : Int) * 2 := i64w (by omega) (by omega)
    have w4 : IntKind.i64.wrap ((a : Int) + (q : Int) * 2 - 1) = (i0 : Int) := by rw [hi0, i64w (by omega) (by omega)]; omega
    have w5 : IntKind.i64.wrap ((a : Int) + (q : Int) * 2 + 1) = (i0 : Int) + 2 := by rw [i64w (by omega) (by omega)]; omega
    have w6 : IntKind.u64.wrap (l : Int) = l := by rw [IntKind.wrap_u64]; omega
    simp (maxSteps := 1000000) [go_sem, w0, h8, h8', w6]
    have hp0 : H <+: H ++ [⟨[.int .u64 l], true, true⟩] := List.prefix_append _ _
    have hz0 : (H ++ [(⟨[.int .u64 l], true, true⟩ : Blk)])[H.length]? = some ⟨[.int .u64 l], true, true⟩ := by simp
    have hidl := hA.lt
    have hA0 := hA.pre hp0
    have hS0 : Same (fun k => k = id) H (H ++ [⟨[.int .u64 l], true, true⟩]) := Same.of_prefix hp0
    generalize H ++ [(⟨[.int .u64 l], true, true⟩ : Blk)] = H0 at hp0 hz0 hA0 hS0 ⊢
    refine nextPow_ok (by omega) (by omega) _ ?_
    intro m hm0 hm
    obtain ⟨m1, hm1⟩ : ∃ m1, m1 = m - 1 := ⟨_, rfl⟩
    have w7 : IntKind.u64.wrap ((m : Int) - 1) = (m1 : Int) := by rw [hm1, IntKind.wrap_u64]; omega
    simp (maxSteps := 1000000) [go_sem, w1, w2, w3, w4]
    refine AWp.loopVc (St := Nat × Array (Int × Int) × Int) (fun s => [(0, lv 2 id 0 n), (1, .int .i64 a), (8, .int .i64 l), (9, .pointer (some ⟨H.length, 0, none⟩)), (10, .int .u64 m), (11, .int .i64 s.1)])
      (fun s H' => i0 <= s.1 /\ s.1 <= i0 + 3 /\ s.2.1.size = n /\ QA Q s.2.1 /\ Same (fun k => k = id) H H' /\ Arr cellsP H' id s.2.1 /\ PermIn a b d s.2.1 /\ H'[H.length]? = some ⟨[.int .u64 s.2.2], true, true⟩) (fun s => i0 + 3 - s.1) (i0, d, (l : Int)) ?_ ?_ ?_
    · simp [upF, Fr.get, Up.refl]
    · exact ⟨Nat.le_refl _, by simp only; omega, hn, hQ, hS0, hA0, permIn_refl _ _ _, hz0⟩
    · rintro K ⟨i, d1, z⟩ H1 ⟨hi1, hi2, hsz, hQ1, hS1, hA1, hP, hz⟩ hK
      simp only at hi1 hi2 hsz hQ1 hS1 hA1 hP hz
      by_cases hi3 : i <= i0 + 2
      · have hi3' : (i : Int) <= (i0 : Int) + 2 := by omega
        have hw_i : IntKind.i64.wrap ((i : Int) + 1) = (i : Int) + 1 := i64w (by omega) (by omega)
        simp (maxSteps := 1000000) [go_sem, w1, w2, w3, w5, hi3, hi3']
        refine xorNext_ok hz _ ?_
        intro z' H2 hzl hS2 hz2
        have hA2 : Arr cellsP H2 id d1 := hS2.get hA1 (by omega)
        have hS2' : Same (fun k => k = id) H H2 := hS1.via hS2 (by intro j hj e; omega)
        obtain ⟨o, ho⟩ : ∃ o, o = (z' % 2 ^ 64) &&& m1 := ⟨_, rfl⟩
        have hol : o <= m1 := by rw [ho]; exact Nat.and_le_right
        have hand := and_u64r (a := z') (b := m1) (by omega)
        rw [<- ho] at hand
        have w8 : IntKind.i64.wrap (o : Int) = o := i64w (by omega) (by omega)
        have fin : ∀ (o2 : Nat), o2 < l -> ∀ (H3 : Heap), H3 = H2 -> Same (fun k => k = id) H H3 := fun _ _ H3 e => e ▸ hS2'
        by_cases hol2 : l <= o
        · have hol2' : (l : Int) <= o := by omega
          obtain ⟨o2, ho2⟩ : ∃ o2, o2 = o - l := ⟨_, rfl⟩
          have w9 : IntKind.i64.wrap ((o : Int) - l) = (o2 : Int) := by rw [ho2, i64w (by omega) (by omega)]; omega
          have hlt : o2 < l := by omega
          simp (maxSteps := 1000000) [go_sem, w7, hand, w8, hol2, hol2', w9]
          obtain ⟨ao, hao⟩ : ∃ ao, ao = a + o2 := ⟨_, rfl⟩
          have wa : IntKind.i64.wrap ((a : Int) + o2) = (ao : Int) := by rw [hao, i64w (by omega) (by omega)]; omega
          have u1 : i < (d1).size := by omega
          have u2 : ao < (d1).size := by omega
          have u3 : i < n := by omega
          have u4 : ao < n := by omega
          have uca := (hA2).load cellsP_len u1
          have ucb := (hA2).load cellsP_len u2
          obtain ⟨H5, H6, us1, us0, hA6, hS6, ul⟩ := (hA2).swap cellsP_len cellsP_one u1 u2
          obtain ⟨ux, uhx⟩ : ∃ x, x = (d1)[i]! := ⟨_, rfl⟩
          obtain ⟨uy, uhy⟩ : ∃ y, y = (d1)[ao]! := ⟨_, rfl⟩
          rw [<- uhx] at uca us0
          rw [<- uhy] at ucb us1
          simp only [cellsP, Nat.mul_one, Row.val] at uca ucb us0 us1
          refine AWp.draw mixed [(0, false), (1, false), (2, false), (3, false), (4, false), (5, false), (6, false), (7, false), (8, false), (9, false), (10, false), (11, false), (12, false), (13, false), (14, false), (15, false), (16, false), (17, false), (18, false), (19, false)] (by kernel_rfl) ?_
          simp (maxSteps := 1000000) [go_sem, wa, uca, ucb, u3, u4, us1, us0, hw_i]
          have hz6 := hS6.get hz2 (by omega)
          exact hK (i + 1, swp d1 i ao, (z' : Int)) _ _ (by simp only; omega) (by simp [upF, Fr.get, Up.refl]) ⟨by simp only; omega, by simp only; omega, by rw [size_swp]; exact hsz, hQ1.swp u1 u2, hS2'.trans hS6, hA6, permIn_trans _ _ _ a b hP (swp_permIn d1 a b i ao (by omega) (by omega) (by omega) (by omega) (by omega)), hz6⟩
        · have hol2' : ¬ ((l : Int) <= o) := by omega
          have hlt : o < l := by omega
          simp (maxSteps := 1000000) [go_sem, w7, hand, w8, hol2, hol2']
          obtain ⟨ao, hao⟩ : ∃ ao, ao = a + o := ⟨_, rfl⟩
          have wa : IntKind.i64.wrap ((a : Int) + o) = (ao : Int) := by rw [hao, i64w (by omega) (by omega)]; omega
          have u1 : i < (d1).size := by omega
          have u2 : ao < (d1).size := by omega
          have u3 : i < n := by omega
          have u4 : ao < n := by omega
          have uca := (hA2).load cellsP_len u1
          have ucb := (hA2).load cellsP_len u2
          obtain ⟨H5, H6, us1, us0, hA6, hS6, ul⟩ := (hA2).swap cellsP_len cellsP_one u1 u2
          obtain ⟨ux, uhx⟩ : ∃ x, x = (d1)[i]! := ⟨_, rfl⟩
          obtain ⟨uy, uhy⟩ : ∃ y, y = (d1)[ao]! := ⟨_, rfl⟩
          rw [<- uhx] at uca us0
          rw [<- uhy] at ucb us1
          simp only [cellsP, Nat.mul_one, Row.val] at uca ucb us0 us1
          refine AWp.draw mixed [(0, false), (1, false), (2, false), (3, false), (4, false), (5, false), (6, false), (7, false), (8, false), (9, false), (10, false), (11, false), (12, false), (13, false), (14, false), (15, false), (16, false), (17, false), (18, false), (19, false)] (by kernel_rfl) ?_
          simp (maxSteps := 1000000) [go_sem, wa, uca, ucb, u3, u4, us1, us0, hw_i]
          have hz6 := hS6.get hz2 (by omega)
          exact hK (i + 1, swp d1 i ao, (z' : Int)) _ _ (by simp only; omega) (by simp [upF, Fr.get, Up.refl]) ⟨by simp only; omega, by simp only; omega, by rw [size_swp]; exact hsz, hQ1.swp u1 u2, hS2'.trans hS6, hA6, permIn_trans _ _ _ a b hP (swp_permIn d1 a b i ao (by omega) (by omega) (by omega) (by omega) (by omega)), hz6⟩
      · have hi3' : ¬ ((i : Int) <= (i0 : Int) + 2) := by omega
        simp (maxSteps := 1000000) [go_sem, w1, w2, w3, w5, hi3, hi3']
        exact h H1 d1 hS1 hA1 hQ1 hP
  · have h8' : ¬ ((8 : Int) <= l) := by omega
    have fin := h H d (Same.refl _ _) hA hQ (permIn_refl _ _ _)
    simp (maxSteps := 1000000) [go_sem, w0, h8, h8']
    exact fin

end Go.Proofs.YtkimaohcmcfcnaaGreat
end

section
namespace Go.Proofs.YtkimaohcmcfcnaaGreat
open Go.Ab Go.Sort

theorem pdqP_ok {lt : (Int × Int) -> (Int × Int) -> Bool} {g : FuncId} {fs cs : List Value} {Q : (Int × Int) -> Prop} {n : Nat} (hS : SWO lt) (hl : n <= 1048576) : ∀ (N : Nat) {H : Heap} {id a b limit : Nat} {d : Array (Int × Int)}, b - a <= N -> Arr cellsP H id d -> d.size = n -> a <= b -> b <= n -> limit <= 64 -> Below lt a b d -> QA Q d ->
    Cmp Tryz.prog valP lt g fs cs Q id H -> ∀ (Post : Value -> Heap -> Prop), (∀ H' d', Same (fun k => k = id) H H' -> Arr cellsP H' id d' -> PermIn a b d d' -> SortedIn lt a b d' -> Post (.tuple #[]) H') ->
    ACalls Tryz.prog 79 [lv 2 id 0 n, .int .i64 a, .int .i64 b, .int .i64 limit, .func (.func g) fs.toArray cs.toArray] H Post := by
  intro N
  induction N using Nat.strongRecOn with
  | _ N ih =>
  intro H id a b limit d hN hA hn hab hb hlim hBel hQ hC Post h
  refine acalls_vc (rs := []) Tryz.func79 rfl rfl Tryz.ntmps79 rfl rfl ?_
  simp (maxSteps := 1000000) [go_sem]
  refine AWp.loopA (St := Nat × Nat × Nat × Bool × Bool × Array (Int × Int)) (fun s => [(0, lv 2 id 0 n), (1, .int .i64 s.1), (2, .int .i64 s.2.1), (3, .int .i64 s.2.2.1), (4, .func (.func g) fs.toArray cs.toArray), (10, .bool s.2.2.2.1), (11, .bool s.2.2.2.2.1)])
    (fun s H' => a <= s.1 /\ s.1 <= s.2.1 /\ s.2.1 <= b /\ s.2.2.1 <= 64 /\ s.2.2.2.2.2.size = n /\ QA Q s.2.2.2.2.2 /\ Same (fun k => k = id) H H' /\ Arr cellsP H' id s.2.2.2.2.2 /\ Below lt s.1 s.2.1 s.2.2.2.2.2 /\
      ∀ R, PermIn s.1 s.2.1 s.2.2.2.2.2 R -> SortedIn lt s.1 s.2.1 R -> PermIn a b d R /\ SortedIn lt a b R) (fun s => s.2.1 - s.1) (a, b, limit, true, true, d) ?_ ?_ ?_
  · simp [upF, Fr.get, Up.refl]
  · exact ⟨Nat.le_refl _, hab, Nat.le_refl _, hlim, hn, hQ, Same.refl _ _, hA, hBel, fun R h1 h2 => ⟨h1, h2⟩⟩
  · rintro K ⟨a1, b1, li, wb, wp, d1⟩ H1 ⟨haa, hab1, hbb, hli, hsz, hQ1, hS1, hA1, hB1, hfin⟩ hK
    simp only at haa hab1 hbb hli hsz hQ1 hS1 hA1 hB1 hfin
    obtain ⟨l, hll⟩ : ∃ l, l = b1 - a1 := ⟨_, rfl⟩
    have w0 : IntKind.i64.wrap ((b1 : Int) - a1) = (l : Int) := by rw [hll, i64w (by omega) (by omega)]; omega
    refine AWp.block ?_
    refine AWp.ofVc ?_
    simp (maxSteps := 1000000) [go_sem, w0]
    by_cases h12 : l <= 12
    · have h12' : (l : Int) <= 12 := by omega
      refine AWp.ofVc ?_
      simp (maxSteps := 1000000) [go_sem, h12, h12']
      refine insP_ok hA1 hsz hl (by omega) (by omega) hQ1 (hC.keep hS1) _ ?_
      intro H2 hS2 hA2
      obtain ⟨f1, f2⟩ := insertionSort_holds hS d1 a1 b1 (by omega) (by omega)
      obtain ⟨f3, f4⟩ := hfin _ f1 f2
      have fin := h H2 _ (hS1.trans hS2) hA2 f3 f4
      simp (maxSteps := 1000000) [go_sem]
      exact fin
    have h12' : ¬ ((l : Int) <= 12) := by omega
    refine AWp.ofVc ?_
    simp (maxSteps := 1000000) [go_sem, h12, h12']
    by_cases hl0 : li = 0
    · subst hl0
      refine AWp.ofVc ?_
      simp (maxSteps := 1000000) [go_sem]
      refine heapP_ok hA1 hsz hl (by omega) (by omega) hQ1 (hC.keep hS1) _ ?_
      intro H2 hS2 hA2
      obtain ⟨f1, f2⟩ := heapSort_holds hS d1 a1 b1 (by omega) (by omega)
      obtain ⟨f3, f4⟩ := hfin _ f1 f2
      have fin := h H2 _ (hS1.trans hS2) hA2 f3 f4
      simp (maxSteps := 1000000) [go_sem]
      exact fin
    have hl0' : ((li : Int) == 0) = false := by rw [beq_eq_false_iff_ne]; omega
    refine AWp.ofVc ?_
    simp (maxSteps := 1000000) [go_sem, hl0, hl0']
    refine AWp.seqCut (St := Nat × Array (Int × Int)) (fun s => [(0, lv 2 id 0 n), (1, .int .i64 a1), (2, .int .i64 b1), (3, .int .i64 s.1), (4, .func (.func g) fs.toArray cs.toArray), (10, .bool wb), (11, .bool wp), (12, .int .i64 l)])
      (fun s H' => s.1 <= 64 /\ QA Q s.2 /\ Same (fun k => k = id) H H' /\ Arr cellsP H' id s.2 /\ PermIn a1 b1 d1 s.2) ?_ ?_
    · intro KE hKE
      cases wb with
      | true =>
        simp (maxSteps := 1000000) [go_sem]
        exact hKE (li, d1) _ _ (by simp [upF, Fr.get, Up.refl]) ⟨hli, hQ1, hS1, hA1, permIn_refl _ _ _⟩
      | false =>
        obtain ⟨lj, hlj⟩ : ∃ lj, lj = li - 1 := ⟨_, rfl⟩
        have wl : IntKind.i64.wrap ((li : Int) - 1) = (lj : Int) := by rw [hlj, i64w (by omega) (by omega)]; omega
        simp (maxSteps := 1000000) [go_sem]
        refine breakP_ok hA1 hsz hl (by omega) (by omega) hQ1 _ ?_
        intro H2 d2 hS2 hA2 hQ2 hP2
        simp (maxSteps := 1000000) [go_sem, wl]
        exact hKE (lj, d2) _ _ (by simp [upF, Fr.get, Up.refl]) ⟨by simp only; omega, hQ2, hS1.trans hS2, hA2, hP2⟩
    rintro ⟨lj, d2⟩ H2 ⟨hlj, hQ2, hS2, hA2, hP2⟩
    simp only at hlj hQ2 hS2 hA2 hP2 ⊢
    have hsz2 : d2.size = n := by rw [hP2.1]; exact hsz
    refine AWp.ofVc ?_
    simp (maxSteps := 1000000) [go_sem]
    refine pivotP_ok hA2 hsz2 hl (by omega) (by omega) hQ2 (hC.keep hS2) _ ?_
    intro H3 p t hp3 hpr
    have hS3 := hS2.via (Same.of_prefix (S := fun _ => False) hp3) (fun _ _ h => h.elim)
    have hA3 := hA2.pre hp3
    simp (maxSteps := 1000000) [go_sem]
    refine AWp.seqCut (St := Nat × Int × Array (Int × Int)) (fun s => [(0, lv 2 id 0 n), (1, .int .i64 a1), (2, .int .i64 b1), (3, .int .i64 lj), (4, .func (.func g) fs.toArray cs.toArray), (10, .bool wb), (11, .bool wp), (12, .int .i64 l), (13, .int .i64 s.1), (14, .int .i64 s.2.1)])
      (fun s H' => a1 <= s.1 /\ s.1 < b1 /\ QA Q s.2.2 /\ Same (fun k => k = id) H H' /\ Arr cellsP H' id s.2.2 /\ PermIn a1 b1 d2 s.2.2) ?_ ?_
    · intro KE hKE
      by_cases ht : t = 2
      · subst ht
        obtain ⟨p2, hp2⟩ : ∃ p2, p2 = b1 - 1 - (p - a1) := ⟨_, rfl⟩
        have w1 : IntKind.i64.wrap ((b1 : Int) - 1) = (b1 : Int) - 1 := i64w (by omega) (by omega)
        have w2 : IntKind.i64.wrap ((p : Int) - a1) = (p : Int) - a1 := i64w (by omega) (by omega)
        have w3 : IntKind.i64.wrap ((b1 : Int) - 1 - ((p : Int) - a1)) = (p2 : Int) := by rw [hp2, i64w (by omega) (by omega)]; omega
        simp (maxSteps := 1000000) [go_sem]
        refine reverseP_ok hA3 hsz2 hl (by omega) (by omega) _ ?_
        intro H4 hS4 hA4
        have hP4 := reverseRange_holds d2 a1 b1 (by omega) (by omega)
        simp (maxSteps := 1000000) [go_sem, w1, w2, w3]
        exact hKE (p2, 1, reverseRange d2 a1 b1) _ _ (by simp [upF, Fr.get, Up.refl]) ⟨by simp only; omega, by simp only; omega, QA_perm (by omega) hP4 hQ2, hS3.trans hS4, hA4, hP4⟩
      · have ht' : (t == 2) = false := by rw [beq_eq_false_iff_ne]; exact ht
        simp (maxSteps := 1000000) [go_sem, ht, ht']
        exact hKE (p, t, d2) _ _ (by simp [upF, Fr.get, Up.refl]) ⟨hpr.1, hpr.2, hQ2, hS3, hA3, permIn_refl _ _ _⟩
    rintro ⟨q, u, d3⟩ H4 ⟨hq1, hq2, hQ3, hS4, hA4, hP3⟩
    simp only at hq1 hq2 hQ3 hS4 hA4 hP3 ⊢
    have hsz3 : d3.size = n := by rw [hP3.1]; exact hsz2
    have hP13 := permIn_trans _ _ _ _ _ hP2 hP3
    have hB3 : Below lt a1 b1 d3 := hB1.perm (by omega) hP13
    refine AWp.seqCut (St := Array (Int × Int)) (fun _ => [(0, lv 2 id 0 n), (1, .int .i64 a1), (2, .int .i64 b1), (3, .int .i64 lj), (4, .func (.func g) fs.toArray cs.toArray), (10, .bool wb), (11, .bool wp), (12, .int .i64 l), (13, .int .i64 q)])
      (fun d4 H' => QA Q d4 /\ Same (fun k => k = id) H H' /\ Arr cellsP H' id d4 /\ PermIn a1 b1 d1 d4) ?_ ?_
    · intro KE hKE
      have skip := fun fr' hfr => hKE d3 fr' H4 hfr ⟨hQ3, hS4, hA4, hP13⟩
      cases wb with
      | false =>
        simp (maxSteps := 1000000) [go_sem, undef]
        exact skip _ (by simp [upF, Fr.get, Up.refl])
      | true =>
        cases wp with
        | false =>
          simp (maxSteps := 1000000) [go_sem, undef]
          exact skip _ (by simp [upF, Fr.get, Up.refl])
        | true =>
          by_cases hu : u = 1
          · subst hu
            simp (maxSteps := 1000000) [go_sem]
            refine partInsP_ok hA4 hsz3 hl (by omega) (by omega) hQ3 (hC.keep hS4) _ ?_
            intro H6 hS6 hA6
            obtain ⟨f1, f2⟩ := partialInsertionSort_holds hS d3 a1 b1 (by omega) (by omega) hB3
            generalize partialInsertionSort lt d3 a1 b1 = r at *
            obtain ⟨d4, ok⟩ := r
            simp only at hA6 f1 f2 ⊢
            have hP14 := permIn_trans _ _ _ _ _ hP13 f1
            cases ok with
            | true =>
              obtain ⟨f3, f4⟩ := hfin _ hP14 (f2 rfl)
              have fin := h H6 _ (hS4.trans hS6) hA6 f3 f4
              simp (maxSteps := 1000000) [go_sem]
              exact fin
            | false =>
              simp (maxSteps := 1000000) [go_sem]
              exact hKE d4 _ _ (by simp [upF, Fr.get, Up.refl]) ⟨QA_perm (by omega) f1 hQ3, hS4.trans hS6, hA6, hP14⟩
          · have hu' : (u == 1) = false := by rw [beq_eq_false_iff_ne]; exact hu
            simp (maxSteps := 1000000) [go_sem, hu, hu']
            exact skip _ (by simp [upF, Fr.get, Up.refl])
    rintro d4 H6 ⟨hQ4, hS6, hA6, hP4⟩
    clear hA4 hA3 hA2 hS2 hS3 hS4 hP2 hP3 hP13 hQ2 hQ3 hB3
    have hsz4 : d4.size = n := by rw [hP4.1]; exact hsz
    have hB4 : Below lt a1 b1 d4 := hB1.perm (by omega) hP4
    have hfin4 : ∀ R, PermIn a1 b1 d4 R -> SortedIn lt a1 b1 R -> PermIn a b d R /\ SortedIn lt a b R := fun R r1 r2 => hfin R (permIn_trans _ _ _ _ _ hP4 r1) r2
    refine AWp.seqCut (St := Unit) (fun _ => [(0, lv 2 id 0 n), (1, .int .i64 a1), (2, .int .i64 b1), (3, .int .i64 lj), (4, .func (.func g) fs.toArray cs.toArray), (10, .bool wb), (11, .bool wp), (12, .int .i64 l), (13, .int .i64 q)])
      (fun _ H' => Same (fun k => k = id) H H' /\ Arr cellsP H' id d4) ?_ ?_
    · intro KE hKE
      by_cases ha0 : a1 = 0
      · subst ha0
        simp (maxSteps := 1000000) [go_sem]
        refine AWp.draw mixed [(0, false), (1, false), (2, false), (3, false), (4, false), (5, false), (6, false), (7, false), (8, false), (9, false), (10, false), (11, false), (12, false), (13, false), (14, false), (15, false), (16, false)] (by kernel_rfl) ?_
        simp (maxSteps := 1000000) [go_sem, undef]
        exact hKE () _ _ (by simp [upF, Fr.get, Up.refl]) ⟨hS6, hA6⟩
      · obtain ⟨r, hr⟩ : ∃ r, a1 - 1 = r := ⟨_, rfl⟩
        have wr : IntKind.i64.wrap ((a1 : Int) - 1) = (r : Int) := by rw [<- hr, i64w (by omega) (by omega)]; omega
        have ha0' : (0 : Int) < a1 := by omega
        have ha1' : 0 < a1 := by omega
        have hi1 : r < d4.size := by omega
        have hi0 : q < d4.size := by omega
        have n1 : r < n := by omega
        have n0 : q < n := by omega
        have c1 := hA6.load cellsP_len hi1
        have c0 := hA6.load cellsP_len hi0
        have q1 := hQ4 _ hi1
        have q0 := hQ4 _ hi0
        obtain ⟨x, hx⟩ : ∃ x, d4[r]! = x := ⟨_, rfl⟩
        obtain ⟨y, hy⟩ : ∃ y, d4[q]! = y := ⟨_, rfl⟩
        rw [hx] at c1 q1
        rw [hy] at c0 q0
        simp only [cellsP, Nat.mul_one, Row.val] at c1 c0
        simp (maxSteps := 1000000) [go_sem]
        refine AWp.draw mixed [(0, false), (1, false), (2, false), (3, false), (4, false), (5, false), (6, false), (7, false), (8, false), (9, false), (10, false), (11, false), (12, false), (13, false), (14, false), (15, false), (16, false)] (by kernel_rfl) ?_
        simp (maxSteps := 1000000) [go_sem, ha0, ha0', ha1', c1, c0, n1, n0, wr]
        refine hC H6 x y _ hS6 q1 q0 ?_
        intro H7 c hp7 hc
        have hS7 := hS6.via (Same.of_prefix (S := fun _ => False) hp7) (fun _ _ h => h.elim)
        have hA7 := hA6.pre hp7
        cases hl' : lt x y with
        | true =>
          rw [hl'] at hc
          have hc0 := hc
          simp only [decide_eq_true_eq, decide_eq_false_iff_not] at hc0
          simp (maxSteps := 1000000) [go_sem, hc, hc0]
          exact hKE () _ _ (by simp [upF, Fr.get, Up.refl]) ⟨hS7, hA7⟩
        | false =>
          rw [hl'] at hc
          have hc0 := hc
          simp only [decide_eq_true_eq, decide_eq_false_iff_not] at hc0
          have hnl : lt d4[a1 - 1]! d4[q]! = false := by rw [hr, hx, hy]; exact hl'
          simp (maxSteps := 1000000) [go_sem, hc, hc0]
          refine partEqP_ok hA7 hsz4 hl hq1 hq2 (by omega) hQ4 (hC.keep hS7) _ ?_
          intro H8 hS8 hA8
          obtain ⟨⟨mid, d5⟩, he⟩ : ∃ r, partitionEqual lt d4 a1 b1 q = r := ⟨_, rfl⟩
          rw [he] at hA8 ⊢
          have hA8 : Arr cellsP H8 id d5 := hA8
          obtain ⟨r1, r2, r3, r4, r5⟩ := round_eq hS (partitionEqual_holds lt) ha1' hq1 hq2 (by omega) hB4 hnl he
          have hP5 : PermIn a1 b1 d4 d5 := by
            have := (partitionEqual_holds lt hS d4 a1 b1 q hq1 hq2 (by omega) (fun i hi hi' => by
              rcases hB4 with h0 | hB
              · omega
              · exact hS.ntrans _ _ _ (hB i hi hi') hnl)).2.2.1
            rw [he] at this; exact this
          simp (maxSteps := 1000000) [go_sem]
          exact hK (mid, b1, lj, wb, wp, d5) _ _ (by simp only; omega) (by simp [upF, Fr.get, Up.refl]) ⟨by simp only; omega, r2, hbb, hlj, by simp only; omega, QA_perm (by omega) hP5 hQ4, hS7.trans hS8, hA8, r4, fun R R1 R2 => by obtain ⟨g1, g2⟩ := r5 R R1 R2; exact hfin4 R g1 g2⟩
    rintro _ H7 ⟨hS7, hA7⟩
    refine AWp.ofVc ?_
    simp (maxSteps := 1000000) [go_sem]
    refine partP_ok hA7 hsz4 hl hq1 hq2 (by omega) hQ4 (hC.keep hS7) _ ?_
    intro H8 hS8 hA8
    obtain ⟨⟨mid, ap, d5⟩, he⟩ : ∃ r, partition lt d4 a1 b1 q = r := ⟨_, rfl⟩
    rw [he] at hA8 ⊢
    have hA8 : Arr cellsP H8 id d5 := hA8
    obtain ⟨r1, r2, r3, r4, r5, r6, r7⟩ := round_part hS (partition_holds lt) hq1 hq2 (by omega) hB4 he
    have hP5 : PermIn a1 b1 d4 d5 := by
      have := (partition_holds lt hS d4 a1 b1 q hq1 hq2 (by omega)).2.2.1
      rw [he] at this; exact this
    have hQ5 := QA_perm (by omega) hP5 hQ4
    have hS8 := hS7.trans hS8
    obtain ⟨ll, hll2⟩ : ∃ ll, ll = mid - a1 := ⟨_, rfl⟩
    obtain ⟨lr, hlr⟩ : ∃ lr, lr = b1 - mid := ⟨_, rfl⟩
    obtain ⟨m1, hm1⟩ : ∃ m1, m1 = mid + 1 := ⟨_, rfl⟩
    have w1 : IntKind.i64.wrap ((mid : Int) - a1) = (ll : Int) := by rw [hll2, i64w (by omega) (by omega)]; omega
    have w2 : IntKind.i64.wrap ((b1 : Int) - mid) = (lr : Int) := by rw [hlr, i64w (by omega) (by omega)]; omega
    have w3 : IntKind.i64.wrap ((l : Int) / 8) = (l : Int) / 8 := i64w (by omega) (by omega)
    have w4 : IntKind.i64.wrap ((mid : Int) + 1) = (m1 : Int) := by rw [hm1, i64w (by omega) (by omega)]; omega
    simp (maxSteps := 1000000) [go_sem]
    refine vc_sound _ _ _ _ ?_
    by_cases hlr2 : ll < lr
    · have hlr2' : (ll : Int) < lr := by omega
      simp (maxSteps := 1000000) [go_sem, w1, w2, w3, hlr2, hlr2']
      refine ih (mid - a1) (by omega) (Nat.le_refl _) hA8 (by omega) r1 (by omega) hlj r4 hQ5 (hC.keep hS8) _ ?_
      intro H9 d6 hS9 hA9 hP6 hs6
      obtain ⟨g1, g2⟩ := r6 d6 hP6 hs6
      simp (maxSteps := 1000000) [go_sem, w4]
      refine hK (m1, b1, lj, decide ((l : Int) / 8 <= ll), ap, d6) _ _ (by simp only; omega) (by simp [upF, Fr.get, Up.refl]) ⟨by simp only; omega, by simp only; omega, hbb, hlj, by simp only; rw [hP6.1]; omega, QA_perm (by omega) hP6 hQ5, hS8.trans hS9, hA9, by simp only [hm1]; exact g1, ?_⟩
      simp only [hm1]
      intro R R1 R2
      obtain ⟨k1, k2⟩ := g2 R R1 R2
      exact hfin4 R k1 k2
    · have hlr2' : ¬ ((ll : Int) < lr) := by omega
      simp (maxSteps := 1000000) [go_sem, w1, w2, w3, w4, hlr2, hlr2']
      refine ih (b1 - m1) (by omega) (Nat.le_refl _) hA8 (by omega) (by omega) (by omega) hlj (by rw [hm1]; exact r5) hQ5 (hC.keep hS8) _ ?_
      intro H9 d6 hS9 hA9 hP6 hs6
      rw [hm1] at hP6 hs6
      obtain ⟨g1, g2⟩ := r7 d6 hP6 hs6
      simp (maxSteps := 1000000) [go_sem]
      refine hK (a1, mid, lj, decide ((l : Int) / 8 <= lr), ap, d6) _ _ (by simp only; omega) (by simp [upF, Fr.get, Up.refl]) ⟨haa, r1, by simp only; omega, hlj, by simp only; rw [hP6.1]; omega, QA_perm (by omega) hP6 hQ5, hS8.trans hS9, hA9, g1, ?_⟩
      intro R R1 R2
      obtain ⟨k1, k2⟩ := g2 R R1 R2
      exact hfin4 R k1 k2

end Go.Proofs.YtkimaohcmcfcnaaGreat
end

section
namespace Go.Proofs.YtkimaohcmcfcnaaGreat
open Go.Ab Go.Sort

theorem w64_0P : IntKind.i64.wrap 0 = 0 := i64w (by omega) (by omega)
theorem w64_1P : IntKind.i64.wrap 1 = 1 := i64w (by omega) (by omega)
theorem wu64_0P : IntKind.u64.wrap 0 = 0 := by rw [IntKind.wrap_u64]; omega
theorem ins0P_ok {H : Heap} {id : Nat} {fv : Value} (Post : Value -> Heap -> Prop) (h : Post (.tuple #[]) H) :
    ACalls Tryz.prog 86 [lv 2 id 0 0, .int .i64 0, .int .i64 0, fv] H Post := by
  refine acalls_vc (rs := []) Tryz.func86 rfl rfl Tryz.ntmps86 rfl rfl ?_
  simp (maxSteps := 1000000) [go_sem, w64_0P, w64_1P]
  refine AWp.loopVc (St := Unit) (fun _ => [(2, .int .i64 0), (8, .int .i64 1)]) (fun _ H' => H' = H) (fun _ => 0) () ?_ ?_ ?_
  · simp [upF, Fr.get, Up.refl]
  · rfl
  · rintro K _ H' rfl hK
    simp (maxSteps := 1000000) [go_sem, w64_0P, w64_1P]
    exact h
theorem pdq0P_ok {H : Heap} {id : Nat} {fv : Value} {l : Int} (Post : Value -> Heap -> Prop) (h : Post (.tuple #[]) H) :
    ACalls Tryz.prog 79 [lv 2 id 0 0, .int .i64 0, .int .i64 0, .int .i64 l, fv] H Post := by
  refine acalls_vc (rs := []) Tryz.func79 rfl rfl Tryz.ntmps79 rfl rfl ?_
  simp (maxSteps := 1000000) [go_sem, w64_0P, w64_1P]
  refine AWp.loopA (St := Unit) (fun _ => [(0, lv 2 id 0 0), (1, .int .i64 0), (2, .int .i64 0), (4, fv)]) (fun _ H' => H' = H) (fun _ => 0) () ?_ ?_ ?_
  · simp [upF, Fr.get, Up.refl]
  · rfl
  · rintro K _ H' rfl hK
    refine AWp.block ?_
    refine AWp.ofVc ?_
    simp (maxSteps := 1000000) [go_sem, w64_0P, w64_1P]
    refine AWp.ofVc ?_
    simp (maxSteps := 1000000) [go_sem, w64_0P, w64_1P]
    refine ins0P_ok _ ?_
    simp (maxSteps := 1000000) [go_sem, w64_0P, w64_1P]
    exact h

theorem sortFuncP_ok {H : Heap} {id n : Nat} {l : List (Int × Int)} {lt : (Int × Int) -> (Int × Int) -> Bool} {g : FuncId} {fs cs : List Value} {Q : (Int × Int) -> Prop} (hS : SWO lt) (hA : OL 2 H id (l.flatMap cellsP) n) (hn : l.length = n) (hl : n <= 1048576) (hQ : ∀ x ∈ l, Q x)
    (hC : Cmp Tryz.prog valP lt g fs cs Q id H) (Post : Value -> Heap -> Prop)
    (h : ∀ (H' : Heap) (l' : List (Int × Int)), Same (fun k => k = id) H H' -> OL 2 H' id (l'.flatMap cellsP) n -> l'.Perm l -> l'.Pairwise (fun x y => lt y x = false) -> Post (.tuple #[]) H') :
    ACalls Tryz.prog 65 [lv 2 id 0 n, .func (.func g) fs.toArray cs.toArray] H Post := by
  refine acalls_vc (rs := []) Tryz.func65 rfl rfl Tryz.ntmps65 rfl rfl ?_
  have w1 : IntKind.u64.wrap (n : Int) = n := by rw [IntKind.wrap_u64]; omega
  rcases hA.2 with ⟨h0, hg⟩ | hb
  · subst h0
    have hnil : l = [] := List.eq_nil_of_length_eq_zero hn
    subst hnil
    simp (maxSteps := 1000000) [go_sem, wu64_0P]
    refine bitsLenC_ok (x := 0) (by omega) _ ?_
    simp (maxSteps := 1000000) [go_sem]
    refine pdq0P_ok _ ?_
    simp (maxSteps := 1000000) [go_sem]
    exact h H [] (Same.refl _ _) hA (List.Perm.refl _) List.Pairwise.nil
  · have hA' : Arr cellsP H id l.toArray := by unfold Arr; simpa using hb
    have hQ' : QA Q l.toArray := by
      intro k hk
      rw [getElem!_pos l.toArray k hk]
      exact hQ _ (by simp)
    simp (maxSteps := 1000000) [go_sem, w1]
    refine bitsLenC_ok (by omega) _ ?_
    have hb64 : bitsLen n <= 64 := bitsLen_lt (by omega)
    simp (maxSteps := 1000000) [go_sem]
    refine pdqP_ok hS hl n (a := 0) (limit := bitsLen n) (by omega) hA' (by simpa using hn) (Nat.zero_le _) (Nat.le_refl _) hb64 (.inl rfl) hQ' hC _ ?_
    intro H' d' hS' hA2 hP hs
    have hsz : d'.size = n := by rw [hP.1]; simpa using hn
    have hp := perm_list (by simpa using hn) hP
    have fin := h H' d'.toList hS' ⟨by rw [flat_len cellsP_len, Array.length_toList, hsz], .inr hA2⟩ (by simpa using hp) (sorted_list hsz hs)
    simp (maxSteps := 1000000) [go_sem]
    exact fin

end Go.Proofs.YtkimaohcmcfcnaaGreat
end

section
namespace Go.Proofs.YtkimaohcmcfcnaaGreat
open Go.Ab Go.Sort

theorem intsOf2 (a b : Int) : intsOf .i64 [.int .i64 a, .int .i64 b] = some [a, b] := by simp [intsOf]
attribute [go_sem] intsOf2

theorem lexC_pair (x y : Int × Int) : decide (lexC [x.1, x.2] [y.1, y.2] < 0) = ltP x y := by
  have e : lexC [x.1, x.2] [y.1, y.2] = if x.1 < y.1 then -1 else if y.1 < x.1 then 1 else if x.2 < y.2 then -1 else if y.2 < x.2 then 1 else 0 := rfl
  rw [e]
  cases h : ltP x y with
  | true =>
    rw [ltP_iff] at h
    split
    · rfl
    · split
      · omega
      · split
        · rfl
        · omega
  | false =>
    rw [ltP_false] at h
    split
    · omega
    · split
      · rfl
      · split
        · omega
        · split <;> rfl
theorem swoP : SWO ltP := by
  refine ⟨fun x => ?_, fun x y z h1 h2 => ?_, fun x y z h1 h2 => ?_⟩
  · rw [ltP_false]; omega
  · rw [ltP_iff] at *; omega
  · rw [ltP_false] at *; omega

theorem pairsCmp {id : Nat} {H : Heap} : Cmp Tryz.prog valP ltP 66 [] [] (fun _ => True) id H := by
  intro H x y Post _ _ _ h
  have hp0 : H <+: H ++ [⟨[.int .i64 x.1, .int .i64 x.2], true, true⟩, ⟨[.int .i64 y.1, .int .i64 y.2], true, true⟩] := List.prefix_append _ _
  have fin := h _ (lexC [x.1, x.2] [y.1, y.2]) hp0 (lexC_pair x y)
  show ACalls Tryz.prog 66 [valP x, valP y] H Post
  refine acalls_vc (rs := [.tmp 4]) Tryz.func66 rfl rfl Tryz.ntmps66 rfl rfl ?_
  simp (maxSteps := 1000000) [go_sem, valP]
  refine AWp.draw mixed [(0, false), (1, false), (2, false), (3, false)] (by kernel_rfl) ?_
  simp (maxSteps := 1000000) [go_sem]
  have ha : Holds (H ++ [⟨[.int .i64 x.1, .int .i64 x.2], true, true⟩, ⟨[.int .i64 y.1, .int .i64 y.2], true, true⟩]) H.length (ints [x.1, x.2]) := ⟨true, by simp [ints]⟩
  have hd : Holds (H ++ [⟨[.int .i64 x.1, .int .i64 x.2], true, true⟩, ⟨[.int .i64 y.1, .int .i64 y.2], true, true⟩]) (H.length + 1) (ints [y.1, y.2]) := ⟨true, by simp [ints]⟩
  refine ACalls.up (args' := [lv 1 H.length 0 2, lv 1 (H.length + 1) 0 2]) ⟨Up.ex (by omega) (.inr (by simp [go_sem])), Up.ex (by omega) (.inr (by simp [go_sem])), trivial⟩ ?_
  refine slicesCompare_ok (xs := [x.1, x.2]) (ys := [y.1, y.2]) ⟨H.length, 0, rfl, ha.at, by simp⟩ ⟨H.length + 1, 0, rfl, hd.at, by simp⟩ _ ?_
  simp (maxSteps := 1000000) [go_sem]
  exact fin

theorem pairsB_take {bs : List Bk} {s : Nat} {b : Bk} (h : bs[s]? = some b) : pairsB (bs.take (s + 1)) = pairsB (bs.take s) ++ prs b := by
  have hlt := (List.getElem?_eq_some_iff.1 h).1
  rw [List.take_succ_eq_append_getElem hlt, (List.getElem?_eq_some_iff.1 h).2]
  simp [pairsB]

theorem pairs_ok {H : Heap} {u : Value} {bs : List Bk} (hu : BlocksAt H u bs) (hl : bs.length <= 35) (Post : Value -> Heap -> Prop)
    (h : ∀ (H' : Heap) (id : Nat) (l : List (Int × Int)), H <+: H' -> OL 2 H' id (l.flatMap cellsP) (bs.length * 3) -> l.Perm (pairsB bs) -> l.Pairwise (fun p q => ltP q p = false) -> Post (lv 2 id 0 (bs.length * 3)) H') :
    ACalls Tryz.prog 45 [u] H Post := by
  obtain ⟨i, o, rfl, h1, h2⟩ := hu
  refine ACalls.res ?_
  refine acalls_vc (rs := [.tmp 2]) Tryz.func45 rfl rfl Tryz.ntmps45 rfl rfl ?_
  simp (maxSteps := 1000000) [go_sem]
  refine AWp.addGhost ?_
  refine AWp.loopVc (St := Nat × Nat) (fun s => [(3, lv 2 s.2 0 (s.1 * 3)), (6, lv 3 i o bs.length), (7, .int .i64 bs.length), (8, .int .i64 s.1)])
    (fun s H' => s.1 <= bs.length /\ Bl 2 H H' s.2 ((pairsB (bs.take s.1)).flatMap cellsP) (s.1 * 3)) (fun s => bs.length - s.1) (0, H.length) ?_ ?_ ?_
  · simp [upF, Fr.get, Up.refl, Up.nil]
  · exact ⟨by simp, by simpa [pairsB] using Bl.ghost 2 H⟩
  · rintro K ⟨s, id⟩ H' ⟨hs, hbl⟩ hK
    simp only at hs hbl
    by_cases hlt : s < bs.length
    · have hbs : bs[s]? = some bs[s] := List.getElem?_eq_getElem hlt
      have c1 := (h1.pre hbl.1).bk hbs
      have hw_s : IntKind.i64.wrap ((s : Int) + 1) = (s : Int) + 1 := i64w (by omega) (by omega)
      have hpt := pairsB_take hbs
      generalize bs[s] = b at *
      simp only [Bk.cells] at c1
      have hbl1 := hbl.pre (List.prefix_append H' [⟨[.int .i64 b.a, .int .i64 b.b, .int .i64 b.c], true, true⟩, ⟨[.int .i64 b.a, .int .i64 b.b, .int .i64 b.a, .int .i64 b.c, .int .i64 b.b, .int .i64 b.c], true, true⟩])
      obtain ⟨H3, hap, hol, hsame, hlen⟩ := hbl1.2.1.append (m := 3) (by omega) (by omega) (news := [.int .i64 b.a, .int .i64 b.b, .int .i64 b.a, .int .i64 b.c, .int .i64 b.b, .int .i64 b.c]) rfl
      have hge := hbl.2.2
      have hsrc : cellsAt (H' ++ [⟨[.int .i64 b.a, .int .i64 b.b, .int .i64 b.c], true, true⟩, ⟨[.int .i64 b.a, .int .i64 b.b, .int .i64 b.a, .int .i64 b.c, .int .i64 b.b, .int .i64 b.c], true, true⟩]) (H'.length + 1) 0 6 = some [.int .i64 b.a, .int .i64 b.b, .int .i64 b.a, .int .i64 b.c, .int .i64 b.b, .int .i64 b.c] := by simp [go_sem]
      simp only [List.length_append, List.length_cons, List.length_nil] at hap hol
      have e3 : s * 3 + 3 = (s + 1) * 3 := by omega
      rw [e3] at hap hol
      have hbl3 : Bl 2 H H3 (H'.length + 2) ((pairsB (bs.take (s + 1))).flatMap cellsP) ((s + 1) * 3) := by
        refine ⟨((Same.of_prefix hbl1.1).trans hsame).prefix (by intro j hj e; omega), ?_, by have := hbl.1.length_le; omega⟩
        rw [hpt, List.flatMap_append]
        simpa [prs, cellsP] using hol
      simp (maxSteps := 1000000) [go_sem, hlt, c1, hsrc, hap, hw_s]
      exact andK_intro (by omega) (hK (s + 1, H'.length + 2) _ _ (by simp only; omega) (by simp [upF, Fr.get, Up.refl]) ⟨by simp only; omega, hbl3⟩)
    · have : s = bs.length := by omega
      subst this
      rw [List.take_length] at hbl
      simp (maxSteps := 1000000) [go_sem]
      refine sortFuncP_ok (fs := []) (cs := []) (Q := fun _ => True) (l := pairsB bs) swoP hbl.2.1 (pairsB_length bs) (by omega) (fun _ _ => trivial) pairsCmp _ ?_
      intro H2 l2 hs2 hol2 hperm hsorted
      simp (maxSteps := 1000000) [go_sem]
      refine ⟨_, Up.refl _ _, h H2 id l2 ?_ hol2 hperm hsorted⟩
      exact ((Same.of_prefix hbl.1).trans hs2).prefix (by have := hbl.2.2; intro j hj e; omega)

theorem equalP_ok {H : Heap} {i j n m : Nat} {l k : List (Int × Int)} (h1 : At H i 0 (l.flatMap cellsP)) (hn : l.length = n) (h2 : At H j 0 (k.flatMap cellsP)) (hm : k.length = m) (hl : n <= 1048576) (hl' : m <= 1048576) (Post : Value -> Heap -> Prop)
    (h : Post (.bool (decide (l = k))) H) : ACalls Tryz.prog 44 [lv 2 i 0 n, lv 2 j 0 m] H Post := by
  refine acalls_vc (rs := [.tmp 4]) Tryz.func44 rfl rfl Tryz.ntmps44 rfl rfl ?_
  by_cases hnm : n = m
  · subst hnm
    simp (maxSteps := 1000000) [go_sem]
    refine AWp.loopVc (fun s : Nat => [(0, lv 2 i 0 n), (1, lv 2 j 0 n), (12, .int .i64 n), (13, .int .i64 s)]) (fun s H' => s <= n /\ H' = H /\ l.take s = k.take s) (fun s => n - s) 0 ?_ ?_ ?_
    · simp [upF, Fr.get, Up.refl]
    · exact ⟨by omega, rfl, by simp⟩
    · rintro K s H' ⟨hs, rfl, hf⟩ hK
      by_cases hlt : s < n
      · have cut : ∀ {q : Nat} {x : List (Int × Int)}, At H' q 0 (x.flatMap cellsP) -> (hx : s < x.length) -> cellsAt H' q (s * 2) 2 = some (cellsP x[s]) := by
          intro q x hx hsx
          have hle : s * 2 + 2 <= (x.flatMap cellsP).length := by rw [flat_len cellsP_len]; omega
          have := hx.sub (k := s * 2) (n := 2) (by omega) hle
          rw [Nat.zero_add, flat_cut cellsP_len (List.getElem?_eq_getElem hsx)] at this
          exact this
        have c1 := cut h1 (by omega)
        have c2 := cut h2 (by omega)
        simp only [cellsP] at c1 c2
        have t1 := List.take_succ_eq_append_getElem (show s < l.length by omega)
        have t2 := List.take_succ_eq_append_getElem (show s < k.length by omega)
        have hne : l[s] ≠ k[s] -> decide (l = k) = false := by
          intro hne
          rw [decide_eq_false_iff_not]
          intro e; subst e; exact hne rfl
        generalize l[s] = x at *
        generalize k[s] = y at *
        have hw_s : IntKind.i64.wrap ((s : Int) + 1) = (s : Int) + 1 := i64w (by omega) (by omega)
        simp (maxSteps := 1000000) [go_sem, hlt]
        refine AWp.draw mixed [(0, false), (1, false), (2, false), (3, false), (4, false), (5, false), (6, false), (7, false), (8, false)] (by kernel_rfl) ?_
        simp (maxSteps := 1000000) [go_sem, hlt, c1, c2, hw_s]
        refine condK_intro (fun hh => ?_) (fun hh => ?_)
        · have : x ≠ y := by rintro rfl; simp at hh
          rw [hne this] at h
          exact h
        · have hxy : x = y := Prod.ext (by simp at hh; exact hh.1) (by simp at hh; exact hh.2)
          refine hK (s + 1) _ _ (by omega) (by simp [upF, Fr.get, Up.refl]) ⟨by omega, rfl, ?_⟩
          rw [t1, t2, hf, hxy]
      · have : s = n := by omega
        subst this
        have e : l = k := by
          rw [List.take_of_length_le (by omega), List.take_of_length_le (by omega)] at hf
          exact hf
        have e' : decide (l = k) = true := decide_eq_true e
        rw [e'] at h
        simp (maxSteps := 1000000) [go_sem]
        exact h
  · have hnm' : ((n : Int) != (m : Int)) = true := by simp; omega
    have e : decide (l = k) = false := by
      rw [decide_eq_false_iff_not]
      intro e; subst e; omega
    rw [e] at h
    simp (maxSteps := 1000000) [go_sem, hnm, hnm']
    exact h

theorem haveSamePairs_ok {H : Heap} {u w : Value} {p q : Int} {x y : List Bk} (hu : BlocksAt H u x) (hw : BlocksAt H w y) (hx : IsSys p x) (hy : IsSys q y) (Post : Value -> Heap -> Prop) (h : ∀ H', H <+: H' -> Post (.bool (samePairs x y)) H') :
    ACalls Tryz.prog 25 [u, w] H Post := by
  have hx35 := hx.2.1
  have hy35 := hy.2.1
  refine acalls_vc (rs := [.tmp 4]) Tryz.func25 rfl rfl Tryz.ntmps25 rfl rfl ?_
  simp (maxSteps := 1000000) [go_sem]
  refine pairs_ok hu hx35 _ ?_
  intro H1 i1 l1 hp1 ho1 hm1 hs1
  simp (maxSteps := 1000000) [go_sem]
  refine pairs_ok (hw.pre hp1) hy35 _ ?_
  intro H2 i2 l2 hp2 ho2 hm2 hs2
  have ho1 := ho1.keep (S := fun _ => False) (Same.of_prefix hp2) (fun h => h)
  simp (maxSteps := 1000000) [go_sem]
  have len : ∀ {l : List (Int × Int)} {z : List Bk}, l.Perm (pairsB z) -> l.length = z.length * 3 := fun hp => by rw [hp.length_eq, pairsB_length]
  refine equalP_ok ho1.at (len hm1) ho2.at (len hm2) (by omega) (by omega) _ ?_
  rw [sorted_pairs hx hy hm1 hm2 hs1 hs2]
  simp (maxSteps := 1000000) [go_sem]
  exact h H2 (hp1.trans hp2)

end Go.Proofs.YtkimaohcmcfcnaaGreat
end

section
namespace Go.Proofs.YtkimaohcmcfcnaaGreat
open Go.Ab

def metC (v : Nat) (met : List Nat) : List Value := (List.range v).map fun x => Value.bool (decide (x ∈ met))
theorem metC_length (v : Nat) (met : List Nat) : (metC v met).length = v := by simp [metC]
theorem metC_get {v : Nat} {met : List Nat} {x : Nat} (h : x < v) : (metC v met)[x]? = some (.bool (decide (x ∈ met))) := by simp [metC, h]
theorem metC_set {v : Nat} {met : List Nat} {x : Nat} (h : x < v) : (metC v met).set x (.bool true) = metC v (met ++ [x]) := by
  apply List.ext_getElem?
  intro k
  rw [List.getElem?_set]
  by_cases hk : k < v
  · rw [metC_get (met := met ++ [x]) hk]
    by_cases e : x = k
    · subst e
      rw [if_pos rfl, if_pos (by rw [metC_length]; exact hk), decide_eq_true (show x ∈ met ++ [x] by simp)]
    · rw [if_neg e, metC_get hk]
      have : k ≠ x := fun h => e h.symm
      simp [this]
  · rw [List.getElem?_eq_none (l := metC v (met ++ [x])) (by rw [metC_length]; omega)]
    split
    · rw [if_neg (by rw [metC_length]; omega)]
    · exact List.getElem?_eq_none (by rw [metC_length]; omega)
theorem madeB (v : Nat) : (madeCells #[Value.bool false] v).toList = metC v [] := by
  apply List.ext_getElem?
  intro k
  by_cases hk : k < v
  · rw [metC_get hk]; simp [madeCells, hk, Nat.mod_one]
  · rw [List.getElem?_eq_none (by simp [madeCells]; omega), List.getElem?_eq_none (by rw [metC_length]; omega)]

theorem metC_put {v : Nat} {met : List Nat} {x : Nat} (h : x < v) : (metC v met).take x ++ Value.bool true :: (metC v met).drop (x + 1) = metC v (met ++ [x]) := by
  rw [<- metC_set h, List.set_eq_take_append_cons_drop, if_pos (by rw [metC_length]; exact h)]

end Go.Proofs.YtkimaohcmcfcnaaGreat
end

section
namespace Go.Proofs.YtkimaohcmcfcnaaGreat
open Go.Ab Go.Sort

def tradeV (p : Int) (u w : Value) : Value := .agg #[.int .i64 p, u, w]
theorem _root_.Go.Ab.Holds.tr {H : Heap} {i : Nat} {p : Int} {u w : Value} (h : Holds H i [.int .i64 p, u, w]) : cellsAt H i 0 3 = some [.int .i64 p, u, w] /\ cellsAt H i 0 1 = some [.int .i64 p] /\ cellsAt H i 1 1 = some [u] /\ cellsAt H i 2 1 = some [w] :=
  ⟨by simpa using h.cells (n := 3) (o := 0) (by simp), h.cell rfl, h.cell rfl, h.cell rfl⟩

theorem areBlocksB {H : Heap} {u : Value} {p : Int} {bs : List Bk} (hu : BlocksAt H u bs) (Post : Value -> Heap -> Prop) (h : ∀ H', H <+: H' -> Post (.bool (sysB p bs)) H') : ACalls Tryz.prog 23 [.int .i64 p, u] H Post :=
  areBlocks_ok hu Post fun H' b hp hb => by rw [sysB_eq hb]; exact h H' hp

theorem implIsTrade {H : Heap} {u w : Value} {p : Int} {o i : List Bk} (hu : BlocksAt H u o) (hw : BlocksAt H w i) (Post : Value -> Heap -> Prop) (h : ∀ H', H <+: H' -> Post (.bool (tradeB p o i)) H') :
    ACalls Tryz.prog 12 [tradeV p u w] H Post := by
  have ou := hu.one
  have ow := hw.one
  refine acalls_vc (rs := [.tmp 2]) Tryz.func12 rfl rfl Tryz.ntmps12 rfl rfl ?_
  simp (maxSteps := 1000000) [go_sem, tradeV, ou, ow]
  have hp0 : H <+: H ++ [⟨[.int .i64 p, u, w], true, true⟩] := List.prefix_append _ _
  have hx0 := Holds.last H [.int .i64 p, u, w]
  generalize H ++ [(⟨[.int .i64 p, u, w], true, true⟩ : Blk)] = H0 at hp0 hx0 ⊢
  refine areBlocksB (hu.pre hp0) _ ?_
  intro H1 hp1
  obtain ⟨d0, d1, d2, d3⟩ := (hx0.pre hp1).tr
  cases hs1 : sysB p o with
  | false =>
    have fin := h H1 (hp0.trans hp1)
    simp only [tradeB, hs1, Bool.false_and] at fin
    simp (maxSteps := 1000000) [go_sem, undef]
    exact fin
  | true =>
    have hS1 := sysB_of hs1
    have ho35 := hS1.2.1
    simp (maxSteps := 1000000) [go_sem, d1, d3]
    refine areBlocksB (hw.pre (hp0.trans hp1)) _ ?_
    intro H2 hp2
    obtain ⟨d0, d1, d2, d3⟩ := (hx0.pre (hp1.trans hp2)).tr
    have hp02 := hp0.trans (hp1.trans hp2)
    cases hs2 : sysB p i with
    | false =>
      have fin := h H2 hp02
      simp only [tradeB, hs1, hs2, Bool.false_and, Bool.and_false] at fin
      simp (maxSteps := 1000000) [go_sem, undef]
      exact fin
    | true =>
      have hS2 := sysB_of hs2
      simp (maxSteps := 1000000) [go_sem, d2, d3]
      refine implCommon_ok (hu.pre hp02) (hw.pre hp02) (by omega) _ ?_
      intro H3 v3 hp3 hv3
      obtain ⟨d0, d1, d2, d3⟩ := (hx0.pre ((hp1.trans hp2).trans hp3)).tr
      have hp03 := hp02.trans hp3
      obtain ⟨id3, ⟨hv, _⟩, _⟩ := hv3
      rw [hv]
      have hb : o.filter (memB i) = bothB o i := rfl
      rw [hb]
      by_cases h0 : bothB o i = []
      · simp (maxSteps := 1000000) [go_sem, h0, d2, d3]
        refine haveSamePairs_ok (hu.pre hp03) (hw.pre hp03) hS1 hS2 _ ?_
        intro H4 hp4
        have fin := h H4 (hp03.trans hp4)
        simp only [tradeB, hs1, hs2, h0, decide_true, Bool.true_and] at fin
        simp (maxSteps := 1000000) [go_sem]
        exact fin
      · have h1 : ¬ (bothB o i).length = 0 := fun e => h0 (List.eq_nil_of_length_eq_zero e)
        have h1' : (((bothB o i).length : Int) == 0) = false := by simp [h0]
        have fin := h H3 hp03
        simp only [tradeB, hs1, hs2, decide_eq_false h0, Bool.false_and, Bool.and_false] at fin
        simp (maxSteps := 1000000) [go_sem, undef, h0, h1, h1']
        exact fin

theorem l04Pair_ok {H : Heap} {x y : Nat} (hxy : x < y) (hy : y < 15) (Post : Value -> Heap -> Prop) (h : Post (.int .i64 ((x * 16 + y : Nat) : Int)) H) : ACalls Tryz.prog 59 [.int .i64 x, .int .i64 y] H Post := by
  refine acalls_vc (rs := [.tmp 4]) Tryz.func59 rfl rfl Tryz.ntmps59 rfl rfl ?_
  have w1 : IntKind.i64.wrap ((x : Int) * 16) = (x : Int) * 16 := i64w (by omega) (by omega)
  have w2 : IntKind.i64.wrap ((x : Int) * 16 + y) = (x : Int) * 16 + y := i64w (by omega) (by omega)
  have m1 : min (x : Int) y = x := by omega
  have m2 : max (x : Int) y = y := by omega
  have m3 : min x y = x := by omega
  have m4 : max x y = y := by omega
  have a1 : (x : Int) < y := by omega
  have a2 : ¬ ((y : Int) < x) := by omega
  simp (maxSteps := 1000000) [go_sem, w1, w2, m1, m2, m3, m4, a1, a2, hxy]
  simpa using h

theorem codesB_take {bs : List Bk} {s x y z : Nat} (h : bs[s]? = some ⟨x, y, z⟩) : codesB (bs.take (s + 1)) = codesB (bs.take s) ++ [x * 16 + y] ++ [x * 16 + z] ++ [y * 16 + z] := by
  unfold codesB
  rw [pairsB_take h, List.map_append]
  simp only [prs, List.map_cons, List.map_nil, codeP, List.append_assoc, List.singleton_append]
  congr 1

theorem l04Pairs_ok {H : Heap} {u : Value} {bs : List Bk} (hu : BlocksAt H u bs) (hg : ∀ x ∈ bs, good 15 x = true) (hl : bs.length <= 1048576) (Post : Value -> Heap -> Prop)
    (h : ∀ (H' : Heap) (id : Nat), H <+: H' -> H'[id]? = some ⟨metC 256 (codesB bs), true, true⟩ -> Post (.slice (some ⟨id, 0, none⟩) 256 256) H') : ACalls Tryz.prog 58 [u] H Post := by
  obtain ⟨i, o, rfl, h1, h2⟩ := hu
  refine acalls_vc (rs := [.tmp 2]) Tryz.func58 rfl rfl Tryz.ntmps58 rfl rfl ?_
  simp (maxSteps := 1000000) [go_sem, madeB, metC_length]
  have hp0 : H <+: H ++ [⟨metC 256 [], true, true⟩] := List.prefix_append _ _
  have hb0 : (H ++ [(⟨metC 256 [], true, true⟩ : Blk)])[H.length]? = some ⟨metC 256 [], true, true⟩ := by simp
  generalize H ++ [(⟨metC 256 [], true, true⟩ : Blk)] = H0 at hp0 hb0 ⊢
  refine AWp.loopVc (fun s : Nat => [(0, lv 3 i o bs.length), (3, .slice (some ⟨H.length, 0, none⟩) 256 256), (4, .int .i64 s)])
    (fun s H' => s <= bs.length /\ Same (fun k => k = H.length) H0 H' /\ H'[H.length]? = some ⟨metC 256 (codesB (bs.take s)), true, true⟩) (fun s => bs.length - s) 0 ?_ ?_ ?_
  · simp [upF, Fr.get, Up.refl]
  · exact ⟨by omega, Same.refl _ _, by simpa [codesB, pairsB] using hb0⟩
  · rintro K s H1 ⟨hs, hS1, hm⟩ hK
    have pre : ∀ {H' : Heap}, Same (fun k => k = H.length) H0 H' -> H <+: H' := fun hS => ((Same.of_prefix hp0).trans hS).prefix (by intro j hj e; omega)
    have st : ∀ {H' : Heap} {cs : List Nat} (c : Nat), H'[H.length]? = some ⟨metC 256 cs, true, true⟩ -> c < 256 ->
        storeAt H' H.length c [.bool true] = some (H'.set H.length ⟨metC 256 (cs ++ [c]), true, true⟩) /\ (H'.set H.length ⟨metC 256 (cs ++ [c]), true, true⟩)[H.length]? = some ⟨metC 256 (cs ++ [c]), true, true⟩ /\ Same (fun k => k = H.length) H' (H'.set H.length ⟨metC 256 (cs ++ [c]), true, true⟩) := by
      intro H' cs c hb hc
      refine ⟨?_, List.getElem?_set_self (List.getElem?_eq_some_iff.1 hb).1, same_set⟩
      rw [storeAt_of hb rfl rfl (by simp [metC_length]; omega) (by simp [Value.oneCell'])]
      have := metC_put (v := 256) (met := cs) hc
      simp only [over, List.length_singleton, List.append_assoc, List.singleton_append]
      rw [this]
    by_cases hlt : s < bs.length
    · have hbs : bs[s]? = some bs[s] := List.getElem?_eq_getElem hlt
      obtain ⟨x, y, z, hb, hxy, hyz, hz⟩ := good_nat (hg _ (List.mem_of_getElem? hbs)) (Int.le_refl _)
      rw [hb] at hbs
      have ct := codesB_take hbs
      have ld : ∀ {H' : Heap}, H <+: H' -> cellsAt H' i (o + s * 3) 1 = some [.int .i64 (x : Int)] /\ cellsAt H' i (o + s * 3 + 1) 1 = some [.int .i64 (y : Int)] /\ cellsAt H' i (o + s * 3 + 2) 1 = some [.int .i64 (z : Int)] := by
        intro H' hp
        exact ⟨by have := (h1.pre hp).num hbs (j := 0) rfl; simpa using this, (h1.pre hp).num hbs (j := 1) rfl, (h1.pre hp).num hbs (j := 2) rfl⟩
      have hw_s : IntKind.i64.wrap ((s : Int) + 1) = (s : Int) + 1 := i64w (by omega) (by omega)
      obtain ⟨c1, hc1⟩ : ∃ c, x * 16 + y = c := ⟨_, rfl⟩
      obtain ⟨c2, hc2⟩ : ∃ c, x * 16 + z = c := ⟨_, rfl⟩
      obtain ⟨c3, hc3⟩ : ∃ c, y * 16 + z = c := ⟨_, rfl⟩
      rw [hc1, hc2, hc3] at ct
      obtain ⟨a1, a2, a3⟩ := ld (pre hS1)
      obtain ⟨s1, m1, k1⟩ := st c1 hm (by omega)
      have hS2 := hS1.trans k1
      obtain ⟨b1, b2, b3⟩ := ld (pre hS2)
      obtain ⟨s2, m2, k2⟩ := st c2 m1 (by omega)
      have hS3 := hS2.trans k2
      obtain ⟨e1, e2, e3⟩ := ld (pre hS3)
      obtain ⟨s3, m3, k3⟩ := st c3 m2 (by omega)
      have hS4 := hS3.trans k3
      rw [<- ct] at m3 s3 hS4
      generalize H1.set H.length ⟨metC 256 (codesB (bs.take s) ++ [c1]), true, true⟩ = HA at *
      generalize HA.set H.length ⟨metC 256 (codesB (bs.take s) ++ [c1] ++ [c2]), true, true⟩ = HB at *
      generalize HB.set H.length ⟨metC 256 (codesB (bs.take (s + 1))), true, true⟩ = HC at *
      have n1 : c1 < 256 := by omega
      have n2 : c2 < 256 := by omega
      have n3 : c3 < 256 := by omega
      have n1' : (c1 : Int) < 256 := by omega
      have n2' : (c2 : Int) < 256 := by omega
      have n3' : (c3 : Int) < 256 := by omega
      simp (maxSteps := 1000000) [go_sem, hlt]
      refine AWp.draw mixed [(0, false), (1, false), (2, false), (3, false), (4, false), (5, false), (6, false), (7, false), (8, false), (9, false), (10, false), (11, false), (12, false), (13, false)] (by kernel_rfl) ?_
      simp (maxSteps := 1000000) [go_sem, hlt, a1, a2]
      refine l04Pair_ok hxy (by omega) _ ?_
      rw [hc1]
      simp (maxSteps := 1000000) [go_sem, n1, n1', s1]
      refine AWp.draw mixed [(0, false), (1, false), (2, false), (3, false), (4, false), (5, false), (6, false), (7, false), (8, false), (9, false), (10, false), (11, false), (12, false), (13, false)] (by kernel_rfl) ?_
      simp (maxSteps := 1000000) [go_sem, hlt, b1, b3]
      refine l04Pair_ok (by omega) hz _ ?_
      rw [hc2]
      simp (maxSteps := 1000000) [go_sem, n2, n2', s2]
      refine AWp.draw mixed [(0, false), (1, false), (2, false), (3, false), (4, false), (5, false), (6, false), (7, false), (8, false), (9, false), (10, false), (11, false), (12, false), (13, false)] (by kernel_rfl) ?_
      simp (maxSteps := 1000000) [go_sem, hlt, e2, e3]
      refine l04Pair_ok hyz hz _ ?_
      rw [hc3]
      simp (maxSteps := 1000000) [go_sem, n3, n3', s3, hw_s]
      exact hK (s + 1) _ _ (by omega) (by simp [upF, Fr.get, Up.refl]) ⟨by omega, hS4, m3⟩
    · have : s = bs.length := by omega
      subst this
      rw [List.take_length] at hm
      simp (maxSteps := 1000000) [go_sem]
      exact h H1 H.length (pre hS1) hm

end Go.Proofs.YtkimaohcmcfcnaaGreat
end

section
namespace Go.Proofs.YtkimaohcmcfcnaaGreat
open Go.Ab Go.Sort

theorem l04Same_ok {H : Heap} {u w : Value} {x y : List Bk} (hu : BlocksAt H u x) (hw : BlocksAt H w y) (hx : ∀ b ∈ x, good 15 b = true) (hy : ∀ b ∈ y, good 15 b = true) (hl : x.length <= 1048576) (hl' : y.length <= 1048576) (Post : Value -> Heap -> Prop)
    (h : ∀ H', H <+: H' -> Post (.bool (samePairs x y)) H') : ACalls Tryz.prog 34 [u, w] H Post := by
  refine acalls_vc (rs := [.tmp 4]) Tryz.func34 rfl rfl Tryz.ntmps34 rfl rfl ?_
  simp (maxSteps := 1000000) [go_sem]
  refine l04Pairs_ok hu hx hl _ ?_
  intro H1 i1 hp1 hb1
  simp (maxSteps := 1000000) [go_sem]
  refine l04Pairs_ok (hw.pre hp1) hy hl' _ ?_
  intro H2 i2 hp2 hb2
  have hb1 : H2[i1]? = some ⟨metC 256 (codesB x), true, true⟩ := pget hp2 hb1
  simp (maxSteps := 1000000) [go_sem]
  refine AWp.loopVc (fun s : Nat => [(5, .slice (some ⟨i1, 0, none⟩) 256 256), (6, .slice (some ⟨i2, 0, none⟩) 256 256), (7, .int .i64 s)])
    (fun s H' => s <= 256 /\ H' = H2 /\ ∀ c, c < s -> (c ∈ codesB x ↔ c ∈ codesB y)) (fun s => 256 - s) 0 ?_ ?_ ?_
  · simp [upF, Fr.get, Up.refl]
  · exact ⟨by omega, rfl, fun c hc => by omega⟩
  · rintro K s H' ⟨hs, rfl, hf⟩ hK
    by_cases hlt : s < 256
    · have hlt' : (s : Int) < 256 := by omega
      have c1 : cellsAt H' i1 s 1 = some [.bool (decide (s ∈ codesB x))] := Holds.cell (H := H') ⟨true, hb1⟩ (metC_get hlt)
      have c2 : cellsAt H' i2 s 1 = some [.bool (decide (s ∈ codesB y))] := Holds.cell (H := H') ⟨true, hb2⟩ (metC_get hlt)
      obtain ⟨p, hp⟩ : ∃ p, p = decide (s ∈ codesB x) := ⟨_, rfl⟩
      obtain ⟨q, hq⟩ : ∃ q, q = decide (s ∈ codesB y) := ⟨_, rfl⟩
      rw [<- hp] at c1
      rw [<- hq] at c2
      have hw_s : IntKind.i64.wrap ((s : Int) + 1) = (s : Int) + 1 := i64w (by omega) (by omega)
      simp (maxSteps := 1000000) [go_sem, hlt, hlt']
      refine AWp.draw mixed [(0, false), (1, false), (2, false), (3, false), (4, false), (5, false), (6, false), (7, false), (8, false)] (by kernel_rfl) ?_
      by_cases hpq : p = q
      · subst hpq
        simp (maxSteps := 1000000) [go_sem, hlt, hlt', c1, c2, hw_s]
        refine hK (s + 1) _ _ (by omega) (by simp [upF, Fr.get, Up.refl]) ⟨by omega, rfl, ?_⟩
        intro c hc
        rcases Nat.lt_or_ge c s with h1 | h1
        · exact hf c h1
        · have : c = s := by omega
          subst this
          rw [hp] at hq
          exact decide_eq_decide.1 hq
      · have fin := h H' (hp1.trans hp2)
        have e : false = samePairs x y := by
          refine same_codes hx hy ?_
          constructor
          · intro h; cases h
          · intro hall
            exact absurd (by rw [hp, hq]; exact decide_eq_decide.2 (hall s hlt)) hpq
        rw [<- e] at fin
        have hpq' : (p == q) = false := by rw [beq_eq_false_iff_ne]; exact hpq
        simp (maxSteps := 1000000) [go_sem, hlt, hlt', c1, c2, hpq']
        exact fin
    · have : s = 256 := by omega
      subst this
      have fin := h H' (hp1.trans hp2)
      have e : true = samePairs x y := same_codes hx hy ⟨fun _ => hf, fun _ => rfl⟩
      rw [<- e] at fin
      simp (maxSteps := 1000000) [go_sem]
      exact fin

theorem l04Member_ok {H : Heap} {u : Value} {bs : List Bk} {b : Bk} (hu : BlocksAt H u bs) (Post : Value -> Heap -> Prop) (h : ∀ H', H <+: H' -> Post (.bool (memB bs b)) H') :
    ACalls Tryz.prog 35 [u, b.val] H Post := by
  obtain ⟨i, o, rfl, h1, h2⟩ := hu
  refine acalls_vc (rs := [.tmp 4]) Tryz.func35 rfl rfl Tryz.ntmps35 rfl rfl ?_
  simp (maxSteps := 1000000) [go_sem, Bk.val]
  have hp0 : H <+: H ++ [⟨[.int .i64 b.a, .int .i64 b.b, .int .i64 b.c], true, true⟩] := List.prefix_append _ _
  have hx1 := Holds.last H [.int .i64 b.a, .int .i64 b.b, .int .i64 b.c]
  generalize H ++ [(⟨[.int .i64 b.a, .int .i64 b.b, .int .i64 b.c], true, true⟩ : Blk)] = H0 at hp0 hx1 ⊢
  obtain ⟨e0, e1, e2, e3⟩ := hx1.bk
  refine AWp.loopVc (fun s : Nat => [(0, lv 3 i o bs.length), (3, .pointer (some ⟨H.length, 0, none⟩)), (5, .int .i64 s)])
    (fun s H' => s <= bs.length /\ H' = H0 /\ b ∉ bs.take s) (fun s => bs.length - s) 0 ?_ ?_ ?_
  · simp [upF, Fr.get, Up.refl]
  · exact ⟨by omega, rfl, by simp⟩
  · rintro K s H' ⟨hs, rfl, hf⟩ hK
    by_cases hlt : s < bs.length
    · have hbs : bs[s]? = some bs[s] := List.getElem?_eq_getElem hlt
      have c1 := (h1.pre hp0).bk hbs
      simp only [Bk.cells] at c1
      have hw_s : IntKind.i64.wrap ((s : Int) + 1) = (s : Int) + 1 := i64w (by omega) (by omega)
      simp (maxSteps := 1000000) [go_sem, hlt]
      refine AWp.draw mixed [(0, false), (1, false), (2, false), (3, false), (4, false), (5, false)] (by kernel_rfl) ?_
      by_cases he : bs[s] = b
      · have he' := (Bk.eq3 _ _).1 he
        simp (maxSteps := 1000000) [go_sem, hlt, c1, e0, he'.1, he'.2.1, he'.2.2]
        have : memB bs b = true := by simp [memB, <- he]
        simpa [this] using h H' hp0
      · have he' : ¬ (bs[s].a = b.a /\ bs[s].b = b.b /\ bs[s].c = b.c) := fun hh => he ((Bk.eq3 _ _).2 hh)
        simp (maxSteps := 1000000) [go_sem, hlt, c1, e0, hw_s]
        have he2 : decide (bs[s].a = b.a /\ bs[s].b = b.b /\ bs[s].c = b.c) = false := by simpa using he'
        try rw [he2]
        try simp only [condK_false]
        refine condK_intro (fun hh => absurd (by simpa using hh) he') (fun _ => ?_)
        refine hK (s + 1) _ _ (by omega) (by simp [upF, Fr.get, Up.refl]) ⟨by omega, rfl, ?_⟩
        rw [List.take_succ_eq_append_getElem hlt, List.mem_append]
        rintro (hh | hh)
        · exact hf hh
        · simp at hh; exact he hh.symm
    · have : s = bs.length := by omega
      subst this
      rw [List.take_length] at hf
      simp (maxSteps := 1000000) [go_sem]
      have : memB bs b = false := by simp [memB, hf]
      simpa [this] using h H' hp0

theorem bothB_nil {o i : List Bk} : bothB o i = [] ↔ ∀ b ∈ o, memB i b = false := by
  unfold bothB
  rw [List.filter_eq_nil_iff]
  constructor <;> intro h b hb
  · simpa using h b hb
  · simpa using h b hb

theorem l04Is_ok {H : Heap} {u w : Value} {p : Int} {o i : List Bk} (hu : BlocksAt H u o) (hw : BlocksAt H w i) (hl : o.length <= 1048576) (hl' : i.length <= 1048576) (Post : Value -> Heap -> Prop) (h : ∀ H', H <+: H' -> Post (.bool (tradeB p o i)) H') :
    ACalls Tryz.prog 18 [tradeV p u w] H Post := by
  have hu0 := hu
  have hw0 := hw
  obtain ⟨j1, q1, eu, _, _⟩ := hu
  obtain ⟨j2, q2, ew, _, _⟩ := hw
  subst eu
  subst ew
  have hu := hu0
  have hw := hw0
  refine acalls_vc (rs := [.tmp 2]) Tryz.func18 rfl rfl Tryz.ntmps18 rfl rfl ?_
  simp (maxSteps := 1000000) [go_sem, tradeV]
  have hp0 : H <+: H ++ [⟨[.int .i64 p, lv 3 j1 q1 o.length, lv 3 j2 q2 i.length], true, true⟩, ⟨[.int .i64 p, lv 3 j1 q1 o.length], true, true⟩, ⟨[.int .i64 p, lv 3 j2 q2 i.length], true, true⟩] := List.prefix_append _ _
  have hx0 : Holds (H ++ [(⟨[.int .i64 p, lv 3 j1 q1 o.length, lv 3 j2 q2 i.length], true, true⟩ : Blk), ⟨[.int .i64 p, lv 3 j1 q1 o.length], true, true⟩, ⟨[.int .i64 p, lv 3 j2 q2 i.length], true, true⟩]) H.length [.int .i64 p, lv 3 j1 q1 o.length, lv 3 j2 q2 i.length] := ⟨true, by simp⟩
  have hx1 : Holds (H ++ [(⟨[.int .i64 p, lv 3 j1 q1 o.length, lv 3 j2 q2 i.length], true, true⟩ : Blk), ⟨[.int .i64 p, lv 3 j1 q1 o.length], true, true⟩, ⟨[.int .i64 p, lv 3 j2 q2 i.length], true, true⟩]) (H.length + 1) [.int .i64 p, lv 3 j1 q1 o.length] := ⟨true, by simp⟩
  have hx2 : Holds (H ++ [(⟨[.int .i64 p, lv 3 j1 q1 o.length, lv 3 j2 q2 i.length], true, true⟩ : Blk), ⟨[.int .i64 p, lv 3 j1 q1 o.length], true, true⟩, ⟨[.int .i64 p, lv 3 j2 q2 i.length], true, true⟩]) (H.length + 2) [.int .i64 p, lv 3 j2 q2 i.length] := ⟨true, by simp⟩
  generalize H ++ [(⟨[.int .i64 p, lv 3 j1 q1 o.length, lv 3 j2 q2 i.length], true, true⟩ : Blk), ⟨[.int .i64 p, lv 3 j1 q1 o.length], true, true⟩, ⟨[.int .i64 p, lv 3 j2 q2 i.length], true, true⟩] = H0 at hp0 hx0 hx1 hx2 ⊢
  refine l01Is' (hu.pre hp0) hl _ ?_
  intro H1 hp1
  obtain ⟨f0, f1, f2⟩ := (hx2.pre hp1).sys
  cases hs1 : sysB p o with
  | false =>
    have fin := h H1 (hp0.trans hp1)
    simp only [tradeB, hs1, Bool.false_and] at fin
    simp (maxSteps := 1000000) [go_sem, undef]
    exact fin
  | true =>
    have hS1 := sysB_of hs1
    simp (maxSteps := 1000000) [go_sem, f0]
    refine l01Is' (hw.pre (hp0.trans hp1)) hl' _ ?_
    intro H2 hp2
    have hp02 := hp0.trans (hp1.trans hp2)
    obtain ⟨d0, d1, d2, d3⟩ := (hx0.pre (hp1.trans hp2)).tr
    cases hs2 : sysB p i with
    | false =>
      have fin := h H2 hp02
      simp only [tradeB, hs1, hs2, Bool.false_and, Bool.and_false] at fin
      simp (maxSteps := 1000000) [go_sem, undef]
      exact fin
    | true =>
      have hS2 := sysB_of hs2
      simp (maxSteps := 1000000) [go_sem, d2, d3]
      refine l04Same_ok (hu.pre hp02) (hw.pre hp02) hS1.good15 hS2.good15 hl hl' _ ?_
      intro H3 hp3
      have hp03 := hp02.trans hp3
      cases hs3 : samePairs o i with
      | false =>
        have fin := h H3 hp03
        simp only [tradeB, hs1, hs2, hs3, Bool.and_false] at fin
        simp (maxSteps := 1000000) [go_sem]
        exact fin
      | true =>
        simp (maxSteps := 1000000) [go_sem]
        refine AWp.loopVc (fun s : Nat => [(1, .pointer (some ⟨H.length, 0, none⟩)), (5, .int .i64 s)])
          (fun s H' => s <= o.length /\ H3 <+: H' /\ ∀ b ∈ o.take s, memB i b = false) (fun s => o.length - s) 0 ?_ ?_ ?_
        · simp [upF, Fr.get, Up.refl]
        · exact ⟨by omega, List.prefix_refl _, by simp⟩
        · rintro K s H4 ⟨hs, hp4, hf⟩ hK
          obtain ⟨d0, d1, d2, d3⟩ := (hx0.pre ((hp1.trans hp2).trans (hp3.trans hp4))).tr
          have hu4 := hu.pre (hp03.trans hp4)
          have hw4 := hw.pre (hp03.trans hp4)
          obtain ⟨j, q, eu, g1, g2⟩ := hu4
          cases eu
          by_cases hlt : s < o.length
          · have hbs : o[s]? = some o[s] := List.getElem?_eq_getElem hlt
            have c1 := g1.bk hbs
            simp only [Bk.cells] at c1
            have htk := List.take_succ_eq_append_getElem hlt
            have hmem := List.mem_of_getElem? hbs
            generalize o[s] = b at *
            have hw_s : IntKind.i64.wrap ((s : Int) + 1) = (s : Int) + 1 := i64w (by omega) (by omega)
            simp (maxSteps := 1000000) [go_sem, hlt, d2]
            refine AWp.draw mixed [(0, false), (1, false), (2, false), (3, false), (4, false), (5, false), (6, false), (7, false)] (by kernel_rfl) ?_
            simp (maxSteps := 1000000) [go_sem, hlt, d2, d3, c1]
            refine l04Member_ok (b := b) hw4 _ ?_
            intro H5 hp5
            cases hm : memB i b with
            | true =>
              have fin := h H5 ((hp03.trans hp4).trans hp5)
              have e : ¬ bothB o i = [] := fun e => by rw [bothB_nil.1 e b hmem] at hm; cases hm
              simp only [tradeB, hs1, hs2, decide_eq_false e, Bool.false_and, Bool.and_false] at fin
              simp (maxSteps := 1000000) [go_sem]
              exact fin
            | false =>
              simp (maxSteps := 1000000) [go_sem, hw_s]
              refine hK (s + 1) _ _ (by omega) (by simp [upF, Fr.get, Up.refl]) ⟨by omega, hp4.trans hp5, ?_⟩
              intro x hx
              rw [htk, List.mem_append] at hx
              rcases hx with hx | hx
              · exact hf x hx
              · simp at hx; subst hx; exact hm
          · have : s = o.length := by omega
            subst this
            rw [List.take_length] at hf
            have fin := h H4 (hp03.trans hp4)
            have e : bothB o i = [] := bothB_nil.2 hf
            simp only [tradeB, hs1, hs2, hs3, e, decide_true, Bool.true_and] at fin
            simp (maxSteps := 1000000) [go_sem, d2]
            exact fin

end Go.Proofs.YtkimaohcmcfcnaaGreat
end

section
namespace Go.Proofs.YtkimaohcmcfcnaaGreat
open Go.Ab

def TradeAt (H : Heap) (u w : Value) (o i : List Bk) : Prop := BlocksAt H u o /\ BlocksAt H w i
def TradeIn (a b : Nat) (H : Heap) (u w : Value) (o i : List Bk) : Prop := ∃ m, a <= m /\ m <= b /\ BlocksIn a m H u o /\ BlocksIn m b H w i
theorem TradeIn.keep {a b : Nat} {H H' : Heap} {u w : Value} {o i : List Bk} (h : TradeIn a b H u w o i) {S : Nat -> Prop} (hs : Same S H H') (hd : ∀ j, Span a b j -> ¬ S j) : TradeIn a b H' u w o i := by
  obtain ⟨m, h1, h2, h3, h4⟩ := h
  exact ⟨m, h1, h2, h3.keep hs (fun j hj => hd j ⟨hj.1, by have := hj.2; omega⟩), h4.keep hs (fun j hj => hd j ⟨by have := hj.1; omega, hj.2⟩)⟩
theorem TradeIn.pre {a b : Nat} {H H' : Heap} (hp : H <+: H') {u w : Value} {o i : List Bk} (h : TradeIn a b H u w o i) : TradeIn a b H' u w o i := h.keep (S := fun _ => False) (Same.of_prefix hp) (fun _ _ h => h)
theorem TradeIn.read {a b : Nat} {H : Heap} {u w : Value} {o i : List Bk} (h : TradeIn a b H u w o i) : TradeAt H u w o i := by obtain ⟨m, _, _, h3, h4⟩ := h; exact ⟨h3.read, h4.read⟩
theorem TradeAt.one {H : Heap} {u w : Value} {o i : List Bk} (h : TradeAt H u w o i) : u.oneCell' = true /\ w.oneCell' = true := ⟨h.1.one, h.2.one⟩
theorem TradeIn.wider {a b c : Nat} {H : Heap} {u w : Value} {o i : List Bk} (h : TradeIn a b H u w o i) (hc : c <= a) : TradeIn c b H u w o i := by
  obtain ⟨m, h1, h2, h3, h4⟩ := h; exact ⟨m, by omega, h2, h3.wider hc, h4⟩
theorem TradeIn.nil {a b : Nat} (h : a <= b) (H : Heap) : TradeIn a b H (lv 3 0 0 0) (lv 3 0 0 0) [] [] := ⟨a, Nat.le_refl _, h, BlocksIn.nil _ _ _, BlocksIn.nil _ _ _⟩
end Go.Proofs.YtkimaohcmcfcnaaGreat
end

section
namespace Go.Proofs.YtkimaohcmcfcnaaGreat
open Go.Ab

theorem implIsTradeT {H : Heap} {u w : Value} {p : Int} {o i : List Bk} (ht : TradeAt H u w o i) (hl : o.length <= 1048576 /\ i.length <= 1048576) (Post : Value -> Heap -> Prop) (h : ∀ H', H <+: H' -> Post (.bool (tradeB p o i)) H') :
    ACalls Tryz.prog 12 [tradeV p u w] H Post := implIsTrade ht.1 ht.2 Post h

end Go.Proofs.YtkimaohcmcfcnaaGreat
end

section
namespace Go.Proofs.YtkimaohcmcfcnaaGreat
open Go.Ab Go.Sort

theorem put3 {H H0 H' : Heap} {id : Nat} {cs0 cs : List Value} (hp0 : H <+: H0) (hid : H.length <= id) (hb0 : H0[id]? = some ⟨cs0, true, true⟩) (h2 : cs0.length = 3) (hp : H0 <+: H') (hcl : cs.length = 3) (ho : cs.all Value.oneCell' = true) :
    storeAt H' id 0 cs = some (H'.set id ⟨cs, true, true⟩) /\ cellsAt (H'.set id ⟨cs, true, true⟩) id 0 3 = some cs /\ H <+: H'.set id ⟨cs, true, true⟩ /\ Same (fun j => j = id) H' (H'.set id ⟨cs, true, true⟩) := by
  have hb' := pget hp hb0
  have hsame : Same (fun j => j = id) H' (H'.set id ⟨cs, true, true⟩) := ⟨by simp, fun j hj hS => List.getElem?_set_ne (fun e => hS e.symm)⟩
  refine ⟨?_, ?_, ((Same.of_prefix (hp0.trans hp)).trans hsame).prefix (by intro j hj he; omega), hsame⟩
  · rw [storeAt_of hb' rfl rfl (by simp [hcl, h2]) ho]
    match cs, hcl, cs0, h2 with
    | [x, y, z], _, [a, b, c], _ => simp [over]
  · have := Holds.cells (n := 3) (o := 0) (H := H'.set id ⟨cs, true, true⟩) ⟨true, List.getElem?_set_self (List.getElem?_eq_some_iff.1 hb').1⟩ (by omega)
    rw [this, List.drop_zero, List.take_of_length_le (by omega)]

theorem zeroTr {H : Heap} : Up H (.agg #[.int .i64 0, .slice none 0 0, .slice none 0 0]) (tradeV 0 (lv 3 0 0 0) (lv 3 0 0 0)) := Up.agg ⟨Up.refl _ _, Up.nil _ _ _ _, Up.nil _ _ _ _, trivial⟩

theorem tradeB_sys {p : Int} {o i : List Bk} (h : tradeB p o i = true) : IsSys p o /\ IsSys p i := by
  unfold tradeB at h
  rw [Bool.and_eq_true, Bool.and_eq_true] at h
  exact ⟨sysB_of h.1, sysB_of h.2.1⟩
theorem sys_sort {p : Int} {bs : List Bk} (h : IsSys p bs) : sortB bs = bs := sortB_asc (asc_of _ rfl h.2.2.1)

theorem l04Made_ok {H : Heap} {u w : Value} {p : Int} {o i : List Bk} (hu : BlocksAt H u o) (hw : BlocksAt H w i) (hl : o.length <= 1048576) (hl' : i.length <= 1048576) (Post : Value -> Heap -> Prop)
    (h : ∀ H' v x, H <+: H' -> TradeIn H.length H'.length H' v x (sortB o) (sortB i) -> Post (tradeV p v x) H') : ACalls Tryz.prog 20 [.int .i64 p, u, w] H Post := by
  refine acalls_vc (rs := [.cell 6 26]) Tryz.func20 rfl rfl Tryz.ntmps20 rfl rfl ?_
  simp (maxSteps := 1000000) [go_sem]
  have hp0 : H <+: H ++ [⟨[.int .i64 0, .slice none 0 0, .slice none 0 0], true, true⟩] := List.prefix_append _ _
  have hb0 : (H ++ [(⟨[.int .i64 0, .slice none 0 0, .slice none 0 0], true, true⟩ : Blk)])[H.length]? = some ⟨[.int .i64 0, .slice none 0 0, .slice none 0 0], true, true⟩ := by simp
  have hlen : (H ++ [(⟨[.int .i64 0, .slice none 0 0, .slice none 0 0], true, true⟩ : Blk)]).length = H.length + 1 := by simp
  generalize H ++ [(⟨[.int .i64 0, .slice none 0 0, .slice none 0 0], true, true⟩ : Blk)] = H0 at hp0 hb0 hlen ⊢
  refine l01Sort_ok (hu.pre hp0) hl _ ?_
  intro H1 v1 hp1 hv1
  simp (maxSteps := 1000000) [go_sem]
  refine l01Sort_ok (hw.pre (hp0.trans hp1)) hl' _ ?_
  intro H2 v2 hp2 hv2
  have hv1' := hv1.pre hp2
  have hv2' := hv2
  obtain ⟨id1, ⟨rfl, _⟩, _⟩ := hv1
  obtain ⟨id2, ⟨rfl, _⟩, _⟩ := hv2
  obtain ⟨q1, q2, q3, q4⟩ := put3 (cs := [.int .i64 p, lv 3 id1 0 (sortB o).length, lv 3 id2 0 (sortB i).length]) hp0 (Nat.le_refl _) hb0 rfl (hp1.trans hp2) rfl rfl
  have hle1 := hp1.length_le
  have hle2 := hp2.length_le
  simp (maxSteps := 1000000) [go_sem, q1, q2]
  refine h _ _ _ q3 ?_
  rw [List.length_set]
  exact ⟨H1.length, by omega, by omega, (hv1'.keep q4 (fun j hj e => by have := hj.1; omega)).wider (by omega), hv2'.keep q4 (fun j hj e => by have := hj.1; omega)⟩

end Go.Proofs.YtkimaohcmcfcnaaGreat
end

section
namespace Go.Proofs.YtkimaohcmcfcnaaGreat
open Go.Ab Go.Sort

theorem asc_nodup {l : List Bk} (h : l.Pairwise fun x y => before x y = true) : l.Nodup := by
  refine List.Pairwise.imp (fun {x y} hxy e => ?_) h
  subst e
  have := before_asymm hxy
  rw [hxy] at this; cases this
end Go.Proofs.YtkimaohcmcfcnaaGreat
end

section
namespace Go.Proofs.YtkimaohcmcfcnaaGreat
open Go.Ab Go.Sort

instance : DecidableEq Bk := fun x y => decidable_of_iff _ (Bk.eq3 x y).symm
end Go.Proofs.YtkimaohcmcfcnaaGreat
end

section
namespace Go.Proofs.YtkimaohcmcfcnaaGreat
open Go.Ab Go.Sort

theorem _root_.Go.Ab.upH.cut {H : Heap} {id : Nat} {cs cs' : List Value} {li ow : Bool} (hb : H[id]? = some ⟨cs ++ cs', li, ow⟩) : upH H (H.set id ⟨cs, li, ow⟩) := by
  intro B w0 ρ w hR
  have hlt := (List.getElem?_eq_some_iff.1 hb).1
  have key : ∀ (i : Nat) (b : Blk), (H.set id ⟨cs, li, ow⟩)[i]? = some b -> (i = id /\ b = ⟨cs, li, ow⟩) \/ (i ≠ id /\ H[i]? = some b) := by
    intro i b h
    by_cases e : i = id
    · subst e; rw [List.getElem?_set_self hlt] at h; exact .inl ⟨rfl, (Option.some.inj h).symm⟩
    · rw [List.getElem?_set_ne (fun h => e h.symm)] at h; exact .inr ⟨e, h⟩
  have old : ∀ (i : Nat) (b : Blk), (H.set id ⟨cs, li, ow⟩)[i]? = some b -> ∃ b', H[i]? = some b' /\ b'.live = b.live /\ b'.own = b.own := by
    intro i b h
    rcases key i b h with ⟨rfl, rfl⟩ | ⟨_, h⟩
    · exact ⟨_, hb, rfl, rfl⟩
    · exact ⟨b, h, rfl, rfl⟩
  refine ⟨by rw [List.length_set]; exact hR.len, hR.below, hR.base, ?_, ?_, ?_⟩
  · intro i b l h hl' hlive
    rcases key i b h with ⟨rfl, rfl⟩ | ⟨_, h⟩
    · obtain ⟨arr, elem, fz, h1, h2, h3, h4⟩ := hR.blk i _ l hb hl' hlive
      refine ⟨arr, elem, fz, h1, h2, ?_, h4⟩
      intro k v hk
      exact h3 k v (by rw [List.getElem?_append_left (List.getElem?_eq_some_iff.1 hk).1]; exact hk)
    · exact hR.blk i b l h hl' hlive
  · intro i j b c l m hij h1 h2 h3 h4 h5 h6 h7
    obtain ⟨b', e1, e2, e3⟩ := old i b h1
    obtain ⟨c', f1, f2, f3⟩ := old j c h2
    exact hR.apart i j b' c' l m hij e1 f1 h3 h4 (by rw [e2]; exact h5) (by rw [f2]; exact h6) (by rw [e3]; exact h7)
  · intro i b l h1 h2 h3 h4
    obtain ⟨b', e1, e2, e3⟩ := old i b h1
    exact hR.ghost i b' l e1 h2 (by rw [e2]; exact h3) (by rw [e3]; exact h4)

def TellsS (g : FuncId) (fs cs : List Value) (P : Bk -> Bool) (id : Nat) (H : Heap) : Prop :=
  ∀ (H' : Heap) (x : Bk) (Post : Value -> Heap -> Prop), Same (fun k => k = id) H H' -> (∀ H'', H' <+: H'' -> Post (.bool (P x)) H'') -> ACalls Tryz.prog g (fs ++ x.val :: cs) H' Post

theorem deleteFunc0_ok {H : Heap} {id : Nat} {g : FuncId} {fs cs : List Value} (Post : Value -> Heap -> Prop) (h : ∀ H', H <+: H' -> Post (lv 3 id 0 0) H') :
    ACalls Tryz.prog 30 [lv 3 id 0 0, .func (.func g) fs.toArray cs.toArray] H Post := by
  refine acalls_vc (rs := [.tmp 4]) Tryz.func30 rfl rfl Tryz.ntmps30 rfl rfl ?_
  simp (maxSteps := 1000000) [go_sem]
  refine indexFuncB_ok (P := fun _ => true) (xs := []) ⟨id, 0, rfl, .inl rfl, by simp⟩ (fun H' x Post _ hx => by cases hx) _ ?_
  intro H1 n hp1 hn
  have : n = -1 := by
    rcases hn with ⟨e, _⟩ | ⟨s, x, _, e, _⟩
    · exact e
    · simp at e
  subst this
  simp (maxSteps := 1000000) [go_sem]
  exact h H1 hp1

theorem deleteFuncB_ok {H : Heap} {id n : Nat} {xs : List Bk} {g : FuncId} {fs cs : List Value} {P : Bk -> Bool} (hb : H[id]? = some ⟨tri xs, true, true⟩) (hn : xs.length = n) (hl : n <= 1048576) (hf : TellsS g fs cs P id H) (Post : Value -> Heap -> Prop)
    (h : ∀ (H' : Heap) (rest : List Value), Same (fun k => k = id) H H' -> H'[id]? = some ⟨tri (xs.filter fun x => !P x) ++ rest, true, true⟩ -> Post (lv 3 id 0 (xs.filter fun x => !P x).length) H') :
    ACalls Tryz.prog 30 [lv 3 id 0 n, .func (.func g) fs.toArray cs.toArray] H Post := by
  refine acalls_vc (rs := [.tmp 4]) Tryz.func30 rfl rfl Tryz.ntmps30 rfl rfl ?_
  simp (maxSteps := 1000000) [go_sem]
  subst hn
  refine indexFuncB_ok (P := P) (xs := xs) ⟨id, 0, rfl, Holds.at ⟨true, hb⟩, by omega⟩ (fun H' x Post hp _ hk => hf H' x Post (Same.of_prefix hp) hk) _ ?_
  intro H1 m hp1 hm
  have hb1 : H1[id]? = some ⟨tri xs, true, true⟩ := pget hp1 hb
  have hS1 : Same (fun k => k = id) H H1 := Same.of_prefix hp1
  rcases hm with ⟨rfl, hall⟩ | ⟨k, x, rfl, hk, hPk, hbefore⟩
  · have e : (xs.filter fun x => !P x) = xs := List.filter_eq_self.2 fun x hx => by simp [hall x hx]
    rw [e] at h
    have fin := h H1 [] hS1 (by simpa using hb1)
    simp (maxSteps := 1000000) [go_sem]
    exact fin
  · have hkl := (List.getElem?_eq_some_iff.1 hk).1
    have ek : ((k : Int) == -1) = false := by rw [beq_eq_false_iff_ne]; omega
    have ek' : ¬ (k : Int) = -1 := by omega
    have hw_k : IntKind.i64.wrap ((k : Int) + 1) = (k : Int) + 1 := i64w (by omega) (by omega)
    have f0 : (xs.take k).filter (fun x => !P x) = xs.take k := List.filter_eq_self.2 fun x hx => by simp [hbefore x hx]
    have hxk : xs[k] = x := (List.getElem?_eq_some_iff.1 hk).2
    simp (maxSteps := 1000000) [go_sem, ek, ek', hw_k]
    refine AWp.loopVc (St := Nat × Nat × List Bk) (fun s => [(0, lv 3 id 0 xs.length), (1, .func (.func g) fs.toArray cs.toArray), (5, .int .i64 s.1), (6, .int .i64 s.2.1)])
      (fun s H' => s.1 < s.2.1 /\ s.2.1 <= xs.length /\ s.2.2.length = xs.length /\ s.2.2.take s.1 = (xs.take s.2.1).filter (fun x => !P x) /\ s.2.2.drop s.2.1 = xs.drop s.2.1 /\ Same (fun k => k = id) H H' /\ H'[id]? = some ⟨tri s.2.2, true, true⟩) (fun s => xs.length - s.2.1) (k, k + 1, xs) ?_ ?_ ?_
    · simp [upF, Fr.get, Up.refl]
    · refine ⟨by simp, by simp only; omega, rfl, ?_, rfl, hS1, hb1⟩
      simp only
      rw [List.take_succ_eq_append_getElem hkl, List.filter_append, f0, hxk]
      simp [hPk]
    · rintro K ⟨i, j, d⟩ H2 ⟨hij, hj, hd, htk, hdr, hS2, hb2⟩ hK
      simp only at hij hj hd htk hdr hS2 hb2
      by_cases hlt : j < xs.length
      · have hw_j : IntKind.i64.wrap ((j : Int) + 1) = (j : Int) + 1 := i64w (by omega) (by omega)
        have hw_i : IntKind.i64.wrap ((i : Int) + 1) = (i : Int) + 1 := i64w (by omega) (by omega)
        have hdj : d[j]? = some xs[j] := by
          have := congrArg (fun z : List Bk => z[0]?) hdr
          simp only [List.getElem?_drop, Nat.add_zero] at this
          rw [this]; exact List.getElem?_eq_getElem hlt
        have hatd : At H2 id 0 (tri d) := Holds.at ⟨true, hb2⟩
        have c1 := hatd.bk hdj
        rw [Nat.zero_add] at c1
        have hxt := List.take_succ_eq_append_getElem hlt
        have hxd : xs.drop (j + 1) = d.drop (j + 1) := by
          have := congrArg (List.drop 1) hdr
          rw [List.drop_drop, List.drop_drop] at this
          exact this.symm
        generalize xs[j] = v at *
        simp only [Bk.cells] at c1
        simp (maxSteps := 1000000) [go_sem, hlt, c1]
        have hp3 : H2 <+: H2 ++ [⟨[.int .i64 v.a, .int .i64 v.b, .int .i64 v.c], true, true⟩] := List.prefix_append _ _
        have hx3 := Holds.last H2 [.int .i64 v.a, .int .i64 v.b, .int .i64 v.c]
        have hidl := (List.getElem?_eq_some_iff.1 hb2).1
        refine hf _ v _ (hS2.via (Same.of_prefix (S := fun _ => False) hp3) (fun _ _ h => h.elim)) ?_
        intro H4 hp4
        have hS4 : Same (fun k => k = id) H H4 := hS2.via (Same.of_prefix (S := fun _ => False) (hp3.trans hp4)) (fun _ _ h => h.elim)
        have hb4 : H4[id]? = some ⟨tri d, true, true⟩ := pget (hp3.trans hp4) hb2
        obtain ⟨e0, e1, e2, e3⟩ := (hx3.pre hp4).bk
        cases hP : P v with
        | true =>
          simp (maxSteps := 1000000) [go_sem, hw_j]
          refine hK (i, j + 1, d) _ _ (by simp only; omega) (by simp [upF, Fr.get, Up.refl]) ⟨by simp only; omega, by simp only; omega, hd, ?_, hxd.symm, hS4, hb4⟩
          simp only
          rw [hxt, List.filter_append, <- htk]
          simp [hP]
        | false =>
          have hst := storeBk (b := v) (s := i) hb4 (by omega)
          simp only [Bk.cells] at hst
          have hil : i < xs.length := by omega
          have hil' : (i : Int) < xs.length := by omega
          simp (maxSteps := 1000000) [go_sem, hw_j, hw_i, e0, hst, hil, hil']
          refine hK (i + 1, j + 1, d.set i v) _ _ (by simp only; omega) (by simp [upF, Fr.get, Up.refl]) ⟨by simp only; omega, by simp only; omega, by simp [hd], ?_, ?_, hS4.trans same_set, List.getElem?_set_self (List.getElem?_eq_some_iff.1 hb4).1⟩
          · simp only
            have hil2 : i < (d.set i v).length := by simp; omega
            rw [hxt, List.filter_append, <- htk, List.take_succ_eq_append_getElem hil2, List.getElem_set_self, List.take_set_of_le (Nat.le_refl _)]
            simp [hP]
          · simp only
            rw [List.drop_set_of_lt (by omega), hxd]
      · have : j = xs.length := by omega
        subst this
        rw [List.take_length] at htk
        have hil : i <= xs.length := by omega
        have hlen : (xs.filter fun x => !P x).length = i := by rw [<- htk, List.length_take]; omega
        have ed : tri d = tri (d.take i) ++ tri (d.drop i) := by rw [<- tri_append, List.take_append_drop]
        have hil0 : i < xs.length := hij
        have hil' : (i : Int) <= xs.length := by omega
        have hn0 : ¬ (xs.length - i = 0) := by omega
        have hn1 : ¬ (xs.length <= i) := by omega
        simp (maxSteps := 1000000) [go_sem, sliceV, boundV, lenV, hil, hil', hn0, hn1]
        obtain ⟨z, hz⟩ : ∃ z : List Value, z = (Builtin.zeroCells #[Value.int IntKind.i64 0, Value.int IntKind.i64 0, Value.int IntKind.i64 0] (xs.length - i)).toList := ⟨_, rfl⟩
        have hzl : z.length = (xs.length - i) * 3 := by rw [hz]; simp [Builtin.zeroCells]
        have hzo : z.all Value.oneCell' = true := by
          rw [hz, List.all_eq_true]
          intro v hv
          unfold Builtin.zeroCells at hv
          rw [Array.mem_toList_iff, Array.mem_map] at hv
          obtain ⟨k, _, rfl⟩ := hv
          have : k % 3 = 0 \/ k % 3 = 1 \/ k % 3 = 2 := by omega
          rcases this with e | e | e <;> simp [e, Value.oneCell']
        rw [<- hz]
        have hst := storeAt_of (o := i * 3) (vs := z) hb2 rfl rfl (by rw [hzl, tri_length]; omega) hzo
        have e3 : over (tri d) (i * 3) z = tri (d.take i) ++ z := by
          unfold over
          rw [ed, List.take_left' (by rw [tri_length, List.length_take]; omega)]
          rw [List.drop_eq_nil_of_le (by rw [List.length_append, tri_length, tri_length, List.length_take, List.length_drop]; omega), List.append_nil]
        rw [e3] at hst
        have hil3 : (i : Int) <= xs.length := by omega
        have fin := h _ z (hS2.trans same_set) (by rw [<- htk]; exact List.getElem?_set_self (List.getElem?_eq_some_iff.1 hb2).1)
        rw [hlen] at fin
        have hi0 : ¬ (i = 0 /\ False) := fun h => h.2
        simp (maxSteps := 1000000) [go_sem, hst, sliceV, boundV, lenV, hil, hil', hn0, hn1]
        exact fin

end Go.Proofs.YtkimaohcmcfcnaaGreat
end
