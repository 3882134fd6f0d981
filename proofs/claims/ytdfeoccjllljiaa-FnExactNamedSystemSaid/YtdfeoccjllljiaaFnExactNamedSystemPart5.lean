/- Part 5 of what the proof of the law FnExactNamedSystem rests on: contracts of functions of the program, for every argument that each names; no statement of the seat is proved here. -/
import Derived.Test.YtdfeoccjllljiaaFnExactNamedSystemPart4

section
/- Sorting by a function: the breaking of patterns. -/
set_option linter.all false
set_option maxRecDepth 20000
set_option maxHeartbeats 8000000
namespace Go.Proofs.Ytdfeoccjllljiaa
open Go.Ab Go.Sort

theorem breakO_ok {H : Heap} {id a b n : Nat} {d : Array Int} {Q : Int → Prop} (hA : Arr cellsI H id d) (hn : d.size = n) (hl : n ≤ 1048576) (hab : a ≤ b) (hb : b ≤ n) (hQ : QA Q d)
    (Post : Value → Heap → Prop) (h : ∀ H' d', Same (fun k => k = id) H H' → Arr cellsI H' id d' → QA Q d' → PermIn a b d d' → Post (.tuple #[]) H') :
    ACalls Try.prog 192 [lv 1 id 0 n, .int .i64 a, .int .i64 b] H Post := by
  refine acalls_vc (rs := []) Try.func192 rfl rfl Try.ntmps192 rfl rfl ?_
  obtain ⟨l, hll⟩ : ∃ l, l = b - a := ⟨_, rfl⟩
  obtain ⟨q, hq⟩ : ∃ q, q = l / 4 := ⟨_, rfl⟩
  have w0 : IntKind.i64.wrap ((b : Int) - a) = (l : Int) := by rw [hll, i64w (by omega) (by omega)]; omega
  by_cases h8 : 8 ≤ l
  · have h8' : (8 : Int) ≤ l := by omega
    obtain ⟨i0, hi0⟩ : ∃ i0, i0 = a + q * 2 - 1 := ⟨_, rfl⟩
    have w1 : IntKind.i64.wrap ((l : Int) / 4) = (q : Int) := by rw [hq, i64w (by omega) (by omega)]; omega
    have w2 : IntKind.i64.wrap ((q : Int) * 2) = (q : Int) * 2 := i64w (by omega) (by omega)
    have w3 : IntKind.i64.wrap ((a : Int) + (q : Int) * 2) = (a : Int) + (q : Int) * 2 := i64w (by omega) (by omega)
    have w4 : IntKind.i64.wrap ((a : Int) + (q : Int) * 2 - 1) = (i0 : Int) := by rw [hi0, i64w (by omega) (by omega)]; omega
    have w5 : IntKind.i64.wrap ((a : Int) + (q : Int) * 2 + 1) = (i0 : Int) + 2 := by rw [i64w (by omega) (by omega)]; omega
    have w6 : IntKind.u64.wrap (l : Int) = l := by rw [IntKind.wrap_u64]; omega
    simp (maxSteps := 1000000) [go_sem, w0, h8, h8', w6]
    have hp0 : H <+: H ++ [⟨[.int .u64 l], true, true⟩] := List.prefix_append _ _
    have hz0 : (H ++ [(⟨[.int .u64 l], true, true⟩ : Blk)])[H.length]? = some ⟨[.int .u64 l], true, true⟩ := by simp
    have hidl := hA.lt
    have hA0 := hA.pre hp0
    have hS0 : Same (fun k => k = id) H (H ++ [⟨[.int .u64 l], true, true⟩]) := Same.of_prefix hp0
    generalize H ++ [(⟨[.int .u64 l], true, true⟩ : Blk)] = H0 at hp0 hz0 hA0 hS0 ⊢
    refine nextPow_ok (by omega) (by omega) _ ?_
    intro m hm0 hm
    obtain ⟨m1, hm1⟩ : ∃ m1, m1 = m - 1 := ⟨_, rfl⟩
    have w7 : IntKind.u64.wrap ((m : Int) - 1) = (m1 : Int) := by rw [hm1, IntKind.wrap_u64]; omega
    simp (maxSteps := 1000000) [go_sem, w1, w2, w3, w4]
    refine AWp.loopVc (St := Nat × Array Int × Int) (fun s => [(0, lv 1 id 0 n), (1, .int .i64 a), (6, .int .i64 l), (7, .pointer (some ⟨H.length, 0, none⟩)), (8, .int .u64 m), (9, .int .i64 s.1)])
      (fun s H' => i0 ≤ s.1 ∧ s.1 ≤ i0 + 3 ∧ s.2.1.size = n ∧ QA Q s.2.1 ∧ Same (fun k => k = id) H H' ∧ Arr cellsI H' id s.2.1 ∧ PermIn a b d s.2.1 ∧ H'[H.length]? = some ⟨[.int .u64 s.2.2], true, true⟩) (fun s => i0 + 3 - s.1) (i0, d, (l : Int)) ?_ ?_ ?_
    · simp [upF, Fr.get, Up.refl]
    · exact ⟨Nat.le_refl _, by simp only; omega, hn, hQ, hS0, hA0, permIn_refl _ _ _, hz0⟩
    · rintro K ⟨i, d1, z⟩ H1 ⟨hi1, hi2, hsz, hQ1, hS1, hA1, hP, hz⟩ hK
      simp only at hi1 hi2 hsz hQ1 hS1 hA1 hP hz
      by_cases hi3 : i ≤ i0 + 2
      · have hi3' : (i : Int) ≤ (i0 : Int) + 2 := by omega
        have hw_i : IntKind.i64.wrap ((i : Int) + 1) = (i : Int) + 1 := i64w (by omega) (by omega)
        simp (maxSteps := 1000000) [go_sem, w1, w2, w3, w5, hi3, hi3']
        refine xorNext_ok hz _ ?_
        intro z' H2 hzl hS2 hz2
        have hA2 : Arr cellsI H2 id d1 := hS2.get hA1 (by omega)
        have hS2' : Same (fun k => k = id) H H2 := hS1.via hS2 (by intro j hj e; omega)
        obtain ⟨o, ho⟩ : ∃ o, o = (z' % 2 ^ 64) &&& m1 := ⟨_, rfl⟩
        have hol : o ≤ m1 := by rw [ho]; exact Nat.and_le_right
        have hand := and_u64r (a := z') (b := m1) (by omega)
        rw [← ho] at hand
        have w8 : IntKind.i64.wrap (o : Int) = o := i64w (by omega) (by omega)
        have fin : ∀ (o2 : Nat), o2 < l → ∀ (H3 : Heap), H3 = H2 → Same (fun k => k = id) H H3 := fun _ _ H3 e => e ▸ hS2'
        by_cases hol2 : l ≤ o
        · have hol2' : (l : Int) ≤ o := by omega
          obtain ⟨o2, ho2⟩ : ∃ o2, o2 = o - l := ⟨_, rfl⟩
          have w9 : IntKind.i64.wrap ((o : Int) - l) = (o2 : Int) := by rw [ho2, i64w (by omega) (by omega)]; omega
          have hlt : o2 < l := by omega
          simp (maxSteps := 1000000) [go_sem, w7, hand, w8, hol2, hol2', w9]
          obtain ⟨ao, hao⟩ : ∃ ao, ao = a + o2 := ⟨_, rfl⟩
          have wa : IntKind.i64.wrap ((a : Int) + o2) = (ao : Int) := by rw [hao, i64w (by omega) (by omega)]; omega
          have u1 : i < (d1).size := by omega
          have u2 : ao < (d1).size := by omega
          have u3 : i < n := by omega
          have u4 : ao < n := by omega
          have uca := (hA2).load cellsI_len u1
          have ucb := (hA2).load cellsI_len u2
          obtain ⟨H5, H6, us1, us0, hA6, hS6, ul⟩ := (hA2).swap cellsI_len cellsI_one u1 u2
          obtain ⟨ux, uhx⟩ : ∃ x, x = (d1)[i]! := ⟨_, rfl⟩
          obtain ⟨uy, uhy⟩ : ∃ y, y = (d1)[ao]! := ⟨_, rfl⟩
          rw [← uhx] at uca us0
          rw [← uhy] at ucb us1
          simp only [cellsI, Nat.mul_one, Row.val] at uca ucb us0 us1
          refine AWp.draw mixed [(0, false), (1, false), (2, false), (3, false), (4, false), (5, false), (6, false), (7, false), (8, false), (9, false), (10, false), (11, false), (12, false), (13, false), (14, false), (15, false), (16, false), (17, false), (18, false), (19, false)] (by kernel_rfl) ?_
          simp (maxSteps := 1000000) [go_sem, wa, uca, ucb, u3, u4, us1, us0, hw_i]
          have hz6 := hS6.get hz2 (by omega)
          exact hK (i + 1, swp d1 i ao, (z' : Int)) _ _ (by simp only; omega) (by simp [upF, Fr.get, Up.refl]) ⟨by simp only; omega, by simp only; omega, by rw [size_swp]; exact hsz, hQ1.swp u1 u2, hS2'.trans hS6, hA6, permIn_trans _ _ _ a b hP (swp_permIn d1 a b i ao (by omega) (by omega) (by omega) (by omega) (by omega)), hz6⟩
        · have hol2' : ¬ ((l : Int) ≤ o) := by omega
          have hlt : o < l := by omega
          simp (maxSteps := 1000000) [go_sem, w7, hand, w8, hol2, hol2']
          obtain ⟨ao, hao⟩ : ∃ ao, ao = a + o := ⟨_, rfl⟩
          have wa : IntKind.i64.wrap ((a : Int) + o) = (ao : Int) := by rw [hao, i64w (by omega) (by omega)]; omega
          have u1 : i < (d1).size := by omega
          have u2 : ao < (d1).size := by omega
          have u3 : i < n := by omega
          have u4 : ao < n := by omega
          have uca := (hA2).load cellsI_len u1
          have ucb := (hA2).load cellsI_len u2
          obtain ⟨H5, H6, us1, us0, hA6, hS6, ul⟩ := (hA2).swap cellsI_len cellsI_one u1 u2
          obtain ⟨ux, uhx⟩ : ∃ x, x = (d1)[i]! := ⟨_, rfl⟩
          obtain ⟨uy, uhy⟩ : ∃ y, y = (d1)[ao]! := ⟨_, rfl⟩
          rw [← uhx] at uca us0
          rw [← uhy] at ucb us1
          simp only [cellsI, Nat.mul_one, Row.val] at uca ucb us0 us1
          refine AWp.draw mixed [(0, false), (1, false), (2, false), (3, false), (4, false), (5, false), (6, false), (7, false), (8, false), (9, false), (10, false), (11, false), (12, false), (13, false), (14, false), (15, false), (16, false), (17, false), (18, false), (19, false)] (by kernel_rfl) ?_
          simp (maxSteps := 1000000) [go_sem, wa, uca, ucb, u3, u4, us1, us0, hw_i]
          have hz6 := hS6.get hz2 (by omega)
          exact hK (i + 1, swp d1 i ao, (z' : Int)) _ _ (by simp only; omega) (by simp [upF, Fr.get, Up.refl]) ⟨by simp only; omega, by simp only; omega, by rw [size_swp]; exact hsz, hQ1.swp u1 u2, hS2'.trans hS6, hA6, permIn_trans _ _ _ a b hP (swp_permIn d1 a b i ao (by omega) (by omega) (by omega) (by omega) (by omega)), hz6⟩
      · have hi3' : ¬ ((i : Int) ≤ (i0 : Int) + 2) := by omega
        simp (maxSteps := 1000000) [go_sem, w1, w2, w3, w5, hi3, hi3']
        exact h H1 d1 hS1 hA1 hQ1 hP
  · have h8' : ¬ ((8 : Int) ≤ l) := by omega
    have fin := h H d (Same.refl _ _) hA hQ (permIn_refl _ _ _)
    simp (maxSteps := 1000000) [go_sem, w0, h8, h8']
    exact fin

end Go.Proofs.Ytdfeoccjllljiaa
end

section
/- Sorting by a function: pdqsort. -/
set_option linter.all false
set_option maxRecDepth 20000
set_option maxHeartbeats 8000000
namespace Go.Proofs.Ytdfeoccjllljiaa
open Go.Ab Go.Sort

theorem pdqO_ok {lt : Int → Int → Bool} {Q : Int → Prop} {n : Nat} (hS : SWO lt) (hl : n ≤ 1048576) : ∀ (N : Nat) {H : Heap} {id a b limit : Nat} {d : Array Int}, b - a ≤ N → Arr cellsI H id d → d.size = n → a ≤ b → b ≤ n → limit ≤ 64 → Below lt a b d → QA Q d →
    CmpO lt Q id H → ∀ (Post : Value → Heap → Prop), (∀ H' d', Same (fun k => k = id) H H' → Arr cellsI H' id d' → PermIn a b d d' → SortedIn lt a b d' → Post (.tuple #[]) H') →
    ACalls Try.prog 183 [lv 1 id 0 n, .int .i64 a, .int .i64 b, .int .i64 limit] H Post := by
  intro N
  induction N using Nat.strongRecOn with
  | _ N ih =>
  intro H id a b limit d hN hA hn hab hb hlim hBel hQ hC Post h
  refine acalls_vc (rs := []) Try.func183 rfl rfl Try.ntmps183 rfl rfl ?_
  simp (maxSteps := 1000000) [go_sem]
  refine AWp.loopA (St := Nat × Nat × Nat × Bool × Bool × Array Int) (fun s => [(0, lv 1 id 0 n), (1, .int .i64 s.1), (2, .int .i64 s.2.1), (3, .int .i64 s.2.2.1), (8, .bool s.2.2.2.1), (9, .bool s.2.2.2.2.1)])
    (fun s H' => a ≤ s.1 ∧ s.1 ≤ s.2.1 ∧ s.2.1 ≤ b ∧ s.2.2.1 ≤ 64 ∧ s.2.2.2.2.2.size = n ∧ QA Q s.2.2.2.2.2 ∧ Same (fun k => k = id) H H' ∧ Arr cellsI H' id s.2.2.2.2.2 ∧ Below lt s.1 s.2.1 s.2.2.2.2.2 ∧
      ∀ R, PermIn s.1 s.2.1 s.2.2.2.2.2 R → SortedIn lt s.1 s.2.1 R → PermIn a b d R ∧ SortedIn lt a b R) (fun s => s.2.1 - s.1) (a, b, limit, true, true, d) ?_ ?_ ?_
  · simp [upF, Fr.get, Up.refl]
  · exact ⟨Nat.le_refl _, hab, Nat.le_refl _, hlim, hn, hQ, Same.refl _ _, hA, hBel, fun R h1 h2 => ⟨h1, h2⟩⟩
  · rintro K ⟨a1, b1, li, wb, wp, d1⟩ H1 ⟨haa, hab1, hbb, hli, hsz, hQ1, hS1, hA1, hB1, hfin⟩ hK
    simp only at haa hab1 hbb hli hsz hQ1 hS1 hA1 hB1 hfin
    obtain ⟨l, hll⟩ : ∃ l, l = b1 - a1 := ⟨_, rfl⟩
    have w0 : IntKind.i64.wrap ((b1 : Int) - a1) = (l : Int) := by rw [hll, i64w (by omega) (by omega)]; omega
    refine AWp.block ?_
    -- the length
    refine AWp.ofVc ?_
    simp (maxSteps := 1000000) [go_sem, w0]
    by_cases h12 : l ≤ 12
    · have h12' : (l : Int) ≤ 12 := by omega
      refine AWp.ofVc ?_
      simp (maxSteps := 1000000) [go_sem, h12, h12']
      refine insO_ok hA1 hsz hl (by omega) (by omega) hQ1 (hC.keep hS1) _ ?_
      intro H2 hS2 hA2
      obtain ⟨f1, f2⟩ := insertionSort_holds hS d1 a1 b1 (by omega) (by omega)
      obtain ⟨f3, f4⟩ := hfin _ f1 f2
      have fin := h H2 _ (hS1.trans hS2) hA2 f3 f4
      simp (maxSteps := 1000000) [go_sem]
      exact fin
    have h12' : ¬ ((l : Int) ≤ 12) := by omega
    refine AWp.ofVc ?_
    simp (maxSteps := 1000000) [go_sem, h12, h12']
    by_cases hl0 : li = 0
    · subst hl0
      refine AWp.ofVc ?_
      simp (maxSteps := 1000000) [go_sem]
      refine heapO_ok hA1 hsz hl (by omega) (by omega) hQ1 (hC.keep hS1) _ ?_
      intro H2 hS2 hA2
      obtain ⟨f1, f2⟩ := heapSort_holds hS d1 a1 b1 (by omega) (by omega)
      obtain ⟨f3, f4⟩ := hfin _ f1 f2
      have fin := h H2 _ (hS1.trans hS2) hA2 f3 f4
      simp (maxSteps := 1000000) [go_sem]
      exact fin
    have hl0' : ((li : Int) == 0) = false := by rw [beq_eq_false_iff_ne]; omega
    refine AWp.ofVc ?_
    simp (maxSteps := 1000000) [go_sem, hl0, hl0']
    -- the patterns
    refine AWp.seqCut (St := Nat × Array Int) (fun s => [(0, lv 1 id 0 n), (1, .int .i64 a1), (2, .int .i64 b1), (3, .int .i64 s.1), (8, .bool wb), (9, .bool wp), (10, .int .i64 l)])
      (fun s H' => s.1 ≤ 64 ∧ QA Q s.2 ∧ Same (fun k => k = id) H H' ∧ Arr cellsI H' id s.2 ∧ PermIn a1 b1 d1 s.2) ?_ ?_
    · intro KE hKE
      cases wb with
      | true =>
        simp (maxSteps := 1000000) [go_sem]
        exact hKE (li, d1) _ _ (by simp [upF, Fr.get, Up.refl]) ⟨hli, hQ1, hS1, hA1, permIn_refl _ _ _⟩
      | false =>
        obtain ⟨lj, hlj⟩ : ∃ lj, lj = li - 1 := ⟨_, rfl⟩
        have wl : IntKind.i64.wrap ((li : Int) - 1) = (lj : Int) := by rw [hlj, i64w (by omega) (by omega)]; omega
        simp (maxSteps := 1000000) [go_sem]
        refine breakO_ok hA1 hsz hl (by omega) (by omega) hQ1 _ ?_
        intro H2 d2 hS2 hA2 hQ2 hP2
        simp (maxSteps := 1000000) [go_sem, wl]
        exact hKE (lj, d2) _ _ (by simp [upF, Fr.get, Up.refl]) ⟨by simp only; omega, hQ2, hS1.trans hS2, hA2, hP2⟩
    rintro ⟨lj, d2⟩ H2 ⟨hlj, hQ2, hS2, hA2, hP2⟩
    simp only at hlj hQ2 hS2 hA2 hP2 ⊢
    have hsz2 : d2.size = n := by rw [hP2.1]; exact hsz
    -- the pivot
    refine AWp.ofVc ?_
    simp (maxSteps := 1000000) [go_sem]
    refine pivotO_ok hA2 hsz2 hl (by omega) (by omega) hQ2 (hC.keep hS2) _ ?_
    intro H3 p t hp3 hpr
    have hS3 := hS2.via (Same.of_prefix (S := fun _ => False) hp3) (fun _ _ h => h.elim)
    have hA3 := hA2.pre hp3
    simp (maxSteps := 1000000) [go_sem]
    refine AWp.seqCut (St := Nat × Int × Array Int) (fun s => [(0, lv 1 id 0 n), (1, .int .i64 a1), (2, .int .i64 b1), (3, .int .i64 lj), (8, .bool wb), (9, .bool wp), (10, .int .i64 l), (11, .int .i64 s.1), (12, .int .i64 s.2.1)])
      (fun s H' => a1 ≤ s.1 ∧ s.1 < b1 ∧ QA Q s.2.2 ∧ Same (fun k => k = id) H H' ∧ Arr cellsI H' id s.2.2 ∧ PermIn a1 b1 d2 s.2.2) ?_ ?_
    · intro KE hKE
      by_cases ht : t = 2
      · subst ht
        obtain ⟨p2, hp2⟩ : ∃ p2, p2 = b1 - 1 - (p - a1) := ⟨_, rfl⟩
        have w1 : IntKind.i64.wrap ((b1 : Int) - 1) = (b1 : Int) - 1 := i64w (by omega) (by omega)
        have w2 : IntKind.i64.wrap ((p : Int) - a1) = (p : Int) - a1 := i64w (by omega) (by omega)
        have w3 : IntKind.i64.wrap ((b1 : Int) - 1 - ((p : Int) - a1)) = (p2 : Int) := by rw [hp2, i64w (by omega) (by omega)]; omega
        simp (maxSteps := 1000000) [go_sem]
        refine reverseO_ok hA3 hsz2 hl (by omega) (by omega) _ ?_
        intro H4 hS4 hA4
        have hP4 := reverseRange_holds d2 a1 b1 (by omega) (by omega)
        simp (maxSteps := 1000000) [go_sem, w1, w2, w3]
        exact hKE (p2, 1, reverseRange d2 a1 b1) _ _ (by simp [upF, Fr.get, Up.refl]) ⟨by simp only; omega, by simp only; omega, QA_perm (by omega) hP4 hQ2, hS3.trans hS4, hA4, hP4⟩
      · have ht' : (t == 2) = false := by rw [beq_eq_false_iff_ne]; exact ht
        simp (maxSteps := 1000000) [go_sem, ht, ht']
        exact hKE (p, t, d2) _ _ (by simp [upF, Fr.get, Up.refl]) ⟨hpr.1, hpr.2, hQ2, hS3, hA3, permIn_refl _ _ _⟩
    rintro ⟨q, u, d3⟩ H4 ⟨hq1, hq2, hQ3, hS4, hA4, hP3⟩
    simp only at hq1 hq2 hQ3 hS4 hA4 hP3 ⊢
    have hsz3 : d3.size = n := by rw [hP3.1]; exact hsz2
    have hP13 := permIn_trans _ _ _ _ _ hP2 hP3
    have hB3 : Below lt a1 b1 d3 := hB1.perm (by omega) hP13
    -- it may be sorted
    refine AWp.seqCut (St := Array Int) (fun _ => [(0, lv 1 id 0 n), (1, .int .i64 a1), (2, .int .i64 b1), (3, .int .i64 lj), (8, .bool wb), (9, .bool wp), (10, .int .i64 l), (11, .int .i64 q)])
      (fun d4 H' => QA Q d4 ∧ Same (fun k => k = id) H H' ∧ Arr cellsI H' id d4 ∧ PermIn a1 b1 d1 d4) ?_ ?_
    · intro KE hKE
      have skip := fun fr' hfr => hKE d3 fr' H4 hfr ⟨hQ3, hS4, hA4, hP13⟩
      cases wb with
      | false =>
        simp (maxSteps := 1000000) [go_sem, undef]
        exact skip _ (by simp [upF, Fr.get, Up.refl])
      | true =>
        cases wp with
        | false =>
          simp (maxSteps := 1000000) [go_sem, undef]
          exact skip _ (by simp [upF, Fr.get, Up.refl])
        | true =>
          by_cases hu : u = 1
          · subst hu
            simp (maxSteps := 1000000) [go_sem]
            refine partInsO_ok hA4 hsz3 hl (by omega) (by omega) hQ3 (hC.keep hS4) _ ?_
            intro H6 hS6 hA6
            obtain ⟨f1, f2⟩ := partialInsertionSort_holds hS d3 a1 b1 (by omega) (by omega) hB3
            generalize partialInsertionSort lt d3 a1 b1 = r at *
            obtain ⟨d4, ok⟩ := r
            simp only at hA6 f1 f2 ⊢
            have hP14 := permIn_trans _ _ _ _ _ hP13 f1
            cases ok with
            | true =>
              obtain ⟨f3, f4⟩ := hfin _ hP14 (f2 rfl)
              have fin := h H6 _ (hS4.trans hS6) hA6 f3 f4
              simp (maxSteps := 1000000) [go_sem]
              exact fin
            | false =>
              simp (maxSteps := 1000000) [go_sem]
              exact hKE d4 _ _ (by simp [upF, Fr.get, Up.refl]) ⟨QA_perm (by omega) f1 hQ3, hS4.trans hS6, hA6, hP14⟩
          · have hu' : (u == 1) = false := by rw [beq_eq_false_iff_ne]; exact hu
            simp (maxSteps := 1000000) [go_sem, hu, hu']
            exact skip _ (by simp [upF, Fr.get, Up.refl])
    rintro d4 H6 ⟨hQ4, hS6, hA6, hP4⟩
    clear hA4 hA3 hA2 hS2 hS3 hS4 hP2 hP3 hP13 hQ2 hQ3 hB3
    have hsz4 : d4.size = n := by rw [hP4.1]; exact hsz
    have hB4 : Below lt a1 b1 d4 := hB1.perm (by omega) hP4
    have hfin4 : ∀ R, PermIn a1 b1 d4 R → SortedIn lt a1 b1 R → PermIn a b d R ∧ SortedIn lt a b R := fun R r1 r2 => hfin R (permIn_trans _ _ _ _ _ hP4 r1) r2
    -- the element ahead
    refine AWp.seqCut (St := Unit) (fun _ => [(0, lv 1 id 0 n), (1, .int .i64 a1), (2, .int .i64 b1), (3, .int .i64 lj), (8, .bool wb), (9, .bool wp), (10, .int .i64 l), (11, .int .i64 q)])
      (fun _ H' => Same (fun k => k = id) H H' ∧ Arr cellsI H' id d4) ?_ ?_
    · intro KE hKE
      by_cases ha0 : a1 = 0
      · subst ha0
        simp (maxSteps := 1000000) [go_sem]
        refine AWp.draw mixed [(0, false), (1, false), (2, false), (3, false), (4, false), (5, false), (6, false), (7, false), (8, false), (9, false), (10, false), (11, false), (12, false), (13, false), (14, false)] (by kernel_rfl) ?_
        simp (maxSteps := 1000000) [go_sem, undef]
        exact hKE () _ _ (by simp [upF, Fr.get, Up.refl]) ⟨hS6, hA6⟩
      · obtain ⟨r, hr⟩ : ∃ r, a1 - 1 = r := ⟨_, rfl⟩
        have wr : IntKind.i64.wrap ((a1 : Int) - 1) = (r : Int) := by rw [← hr, i64w (by omega) (by omega)]; omega
        have ha0' : (0 : Int) < a1 := by omega
        have ha1' : 0 < a1 := by omega
        have hi1 : r < d4.size := by omega
        have hi0 : q < d4.size := by omega
        have n1 : r < n := by omega
        have n0 : q < n := by omega
        have c1 := hA6.load cellsI_len hi1
        have c0 := hA6.load cellsI_len hi0
        have q1 := hQ4 _ hi1
        have q0 := hQ4 _ hi0
        obtain ⟨x, hx⟩ : ∃ x, d4[r]! = x := ⟨_, rfl⟩
        obtain ⟨y, hy⟩ : ∃ y, d4[q]! = y := ⟨_, rfl⟩
        rw [hx] at c1 q1
        rw [hy] at c0 q0
        simp only [cellsI, Nat.mul_one, Row.val] at c1 c0
        simp (maxSteps := 1000000) [go_sem]
        refine AWp.draw mixed [(0, false), (1, false), (2, false), (3, false), (4, false), (5, false), (6, false), (7, false), (8, false), (9, false), (10, false), (11, false), (12, false), (13, false), (14, false)] (by kernel_rfl) ?_
        simp (maxSteps := 1000000) [go_sem, ha0, ha0', ha1', c1, c0, n1, n0, wr]
        refine hC H6 x y _ hS6 q1 q0 ?_
        intro H7 c hp7 hc
        have hS7 := hS6.via (Same.of_prefix (S := fun _ => False) hp7) (fun _ _ h => h.elim)
        have hA7 := hA6.pre hp7
        cases hl' : lt x y with
        | true =>
          rw [hl'] at hc
          have hc0 := hc
          simp (maxSteps := 1000000) [go_sem, hc, hc0]
          exact hKE () _ _ (by simp [upF, Fr.get, Up.refl]) ⟨hS7, hA7⟩
        | false =>
          rw [hl'] at hc
          have hc0 := hc
          have hnl : lt d4[a1 - 1]! d4[q]! = false := by rw [hr, hx, hy]; exact hl'
          simp (maxSteps := 1000000) [go_sem, hc, hc0]
          refine partEqO_ok hA7 hsz4 hl hq1 hq2 (by omega) hQ4 (hC.keep hS7) _ ?_
          intro H8 hS8 hA8
          obtain ⟨⟨mid, d5⟩, he⟩ : ∃ r, partitionEqual lt d4 a1 b1 q = r := ⟨_, rfl⟩
          rw [he] at hA8 ⊢
          have hA8 : Arr cellsI H8 id d5 := hA8
          obtain ⟨r1, r2, r3, r4, r5⟩ := round_eq hS (partitionEqual_holds lt) ha1' hq1 hq2 (by omega) hB4 hnl he
          have hP5 : PermIn a1 b1 d4 d5 := by
            have := (partitionEqual_holds lt hS d4 a1 b1 q hq1 hq2 (by omega) (fun i hi hi' => by
              rcases hB4 with h0 | hB
              · omega
              · exact hS.ntrans _ _ _ (hB i hi hi') hnl)).2.2.1
            rw [he] at this; exact this
          simp (maxSteps := 1000000) [go_sem]
          exact hK (mid, b1, lj, wb, wp, d5) _ _ (by simp only; omega) (by simp [upF, Fr.get, Up.refl]) ⟨by simp only; omega, r2, hbb, hlj, by simp only; omega, QA_perm (by omega) hP5 hQ4, hS7.trans hS8, hA8, r4, fun R R1 R2 => by obtain ⟨g1, g2⟩ := r5 R R1 R2; exact hfin4 R g1 g2⟩
    rintro _ H7 ⟨hS7, hA7⟩
    refine AWp.ofVc ?_
    simp (maxSteps := 1000000) [go_sem]
    refine partO_ok hA7 hsz4 hl hq1 hq2 (by omega) hQ4 (hC.keep hS7) _ ?_
    intro H8 hS8 hA8
    obtain ⟨⟨mid, ap, d5⟩, he⟩ : ∃ r, partition lt d4 a1 b1 q = r := ⟨_, rfl⟩
    rw [he] at hA8 ⊢
    have hA8 : Arr cellsI H8 id d5 := hA8
    obtain ⟨r1, r2, r3, r4, r5, r6, r7⟩ := round_part hS (partition_holds lt) hq1 hq2 (by omega) hB4 he
    have hP5 : PermIn a1 b1 d4 d5 := by
      have := (partition_holds lt hS d4 a1 b1 q hq1 hq2 (by omega)).2.2.1
      rw [he] at this; exact this
    have hQ5 := QA_perm (by omega) hP5 hQ4
    have hS8 := hS7.trans hS8
    obtain ⟨ll, hll2⟩ : ∃ ll, ll = mid - a1 := ⟨_, rfl⟩
    obtain ⟨lr, hlr⟩ : ∃ lr, lr = b1 - mid := ⟨_, rfl⟩
    obtain ⟨m1, hm1⟩ : ∃ m1, m1 = mid + 1 := ⟨_, rfl⟩
    have w1 : IntKind.i64.wrap ((mid : Int) - a1) = (ll : Int) := by rw [hll2, i64w (by omega) (by omega)]; omega
    have w2 : IntKind.i64.wrap ((b1 : Int) - mid) = (lr : Int) := by rw [hlr, i64w (by omega) (by omega)]; omega
    have w3 : IntKind.i64.wrap ((l : Int) / 8) = (l : Int) / 8 := i64w (by omega) (by omega)
    have w4 : IntKind.i64.wrap ((mid : Int) + 1) = (m1 : Int) := by rw [hm1, i64w (by omega) (by omega)]; omega
    simp (maxSteps := 1000000) [go_sem]
    refine vc_sound _ _ _ _ ?_
    by_cases hlr2 : ll < lr
    · have hlr2' : (ll : Int) < lr := by omega
      simp (maxSteps := 1000000) [go_sem, w1, w2, w3, hlr2, hlr2']
      refine ih (mid - a1) (by omega) (Nat.le_refl _) hA8 (by omega) r1 (by omega) hlj r4 hQ5 (hC.keep hS8) _ ?_
      intro H9 d6 hS9 hA9 hP6 hs6
      obtain ⟨g1, g2⟩ := r6 d6 hP6 hs6
      simp (maxSteps := 1000000) [go_sem, w4]
      refine hK (m1, b1, lj, decide ((l : Int) / 8 ≤ ll), ap, d6) _ _ (by simp only; omega) (by simp [upF, Fr.get, Up.refl]) ⟨by simp only; omega, by simp only; omega, hbb, hlj, by simp only; rw [hP6.1]; omega, QA_perm (by omega) hP6 hQ5, hS8.trans hS9, hA9, by simp only [hm1]; exact g1, ?_⟩
      simp only [hm1]
      intro R R1 R2
      obtain ⟨k1, k2⟩ := g2 R R1 R2
      exact hfin4 R k1 k2
    · have hlr2' : ¬ ((ll : Int) < lr) := by omega
      simp (maxSteps := 1000000) [go_sem, w1, w2, w3, w4, hlr2, hlr2']
      refine ih (b1 - m1) (by omega) (Nat.le_refl _) hA8 (by omega) (by omega) (by omega) hlj (by rw [hm1]; exact r5) hQ5 (hC.keep hS8) _ ?_
      intro H9 d6 hS9 hA9 hP6 hs6
      rw [hm1] at hP6 hs6
      obtain ⟨g1, g2⟩ := r7 d6 hP6 hs6
      simp (maxSteps := 1000000) [go_sem]
      refine hK (a1, mid, lj, decide ((l : Int) / 8 ≤ lr), ap, d6) _ _ (by simp only; omega) (by simp [upF, Fr.get, Up.refl]) ⟨haa, r1, by simp only; omega, hlj, by simp only; rw [hP6.1]; omega, QA_perm (by omega) hP6 hQ5, hS8.trans hS9, hA9, g1, ?_⟩
      intro R R1 R2
      obtain ⟨k1, k2⟩ := g2 R R1 R2
      exact hfin4 R k1 k2

end Go.Proofs.Ytdfeoccjllljiaa
end

section
/- Sorting by a function: slices.Sort. -/
set_option linter.all false
set_option maxRecDepth 20000
set_option maxHeartbeats 8000000
namespace Go.Proofs.Ytdfeoccjllljiaa
open Go.Ab Go.Sort

theorem w64_0O : IntKind.i64.wrap 0 = 0 := i64w (by omega) (by omega)
theorem w64_1O : IntKind.i64.wrap 1 = 1 := i64w (by omega) (by omega)
theorem wu64_0O : IntKind.u64.wrap 0 = 0 := by rw [IntKind.wrap_u64]; omega
theorem ins0O_ok {H : Heap} {id : Nat} (Post : Value → Heap → Prop) (h : Post (.tuple #[]) H) :
    ACalls Try.prog 190 [lv 1 id 0 0, .int .i64 0, .int .i64 0] H Post := by
  refine acalls_vc (rs := []) Try.func190 rfl rfl Try.ntmps190 rfl rfl ?_
  simp (maxSteps := 1000000) [go_sem, w64_0O, w64_1O]
  refine AWp.loopVc (St := Unit) (fun _ => [(2, .int .i64 0), (6, .int .i64 1)]) (fun _ H' => H' = H) (fun _ => 0) () ?_ ?_ ?_
  · simp [upF, Fr.get, Up.refl]
  · rfl
  · rintro K _ H' rfl hK
    simp (maxSteps := 1000000) [go_sem, w64_0O, w64_1O]
    exact h
theorem pdq0O_ok {H : Heap} {id : Nat} {l : Int} (Post : Value → Heap → Prop) (h : Post (.tuple #[]) H) :
    ACalls Try.prog 183 [lv 1 id 0 0, .int .i64 0, .int .i64 0, .int .i64 l] H Post := by
  refine acalls_vc (rs := []) Try.func183 rfl rfl Try.ntmps183 rfl rfl ?_
  simp (maxSteps := 1000000) [go_sem, w64_0O, w64_1O]
  refine AWp.loopA (St := Unit) (fun _ => [(0, lv 1 id 0 0), (1, .int .i64 0), (2, .int .i64 0)]) (fun _ H' => H' = H) (fun _ => 0) () ?_ ?_ ?_
  · simp [upF, Fr.get, Up.refl]
  · rfl
  · rintro K _ H' rfl hK
    refine AWp.block ?_
    refine AWp.ofVc ?_
    simp (maxSteps := 1000000) [go_sem, w64_0O, w64_1O]
    refine AWp.ofVc ?_
    simp (maxSteps := 1000000) [go_sem, w64_0O, w64_1O]
    refine ins0O_ok _ ?_
    simp (maxSteps := 1000000) [go_sem, w64_0O, w64_1O]
    exact h

/-- slices.Sort: afterwards the same elements are there, ascending. -/
theorem sortFuncO_ok {H : Heap} {id n : Nat} {l : List Int} {lt : Int → Int → Bool} {Q : Int → Prop} (hS : SWO lt) (hA : OL 1 H id (l.flatMap cellsI) n) (hn : l.length = n) (hl : n ≤ 1048576) (hQ : ∀ x ∈ l, Q x)
    (hC : CmpO lt Q id H) (Post : Value → Heap → Prop)
    (h : ∀ (H' : Heap) (l' : List Int), Same (fun k => k = id) H H' → OL 1 H' id (l'.flatMap cellsI) n → l'.Perm l → l'.Pairwise (fun x y => lt y x = false) → Post (.tuple #[]) H') :
    ACalls Try.prog 161 [lv 1 id 0 n] H Post := by
  refine acalls_vc (rs := []) Try.func161 rfl rfl Try.ntmps161 rfl rfl ?_
  have w1 : IntKind.u64.wrap (n : Int) = n := by rw [IntKind.wrap_u64]; omega
  rcases hA.2 with ⟨h0, hg⟩ | hb
  · subst h0
    have hnil : l = [] := List.eq_nil_of_length_eq_zero hn
    subst hnil
    simp (maxSteps := 1000000) [go_sem, wu64_0O]
    refine bitsLenC_ok (x := 0) (by omega) _ ?_
    simp (maxSteps := 1000000) [go_sem]
    refine pdq0O_ok _ ?_
    simp (maxSteps := 1000000) [go_sem]
    exact h H [] (Same.refl _ _) hA (List.Perm.refl _) List.Pairwise.nil
  · have hA' : Arr cellsI H id l.toArray := by unfold Arr; simpa using hb
    have hQ' : QA Q l.toArray := by
      intro k hk
      rw [getElem!_pos l.toArray k hk]
      exact hQ _ (by simp)
    simp (maxSteps := 1000000) [go_sem, w1]
    refine bitsLenC_ok (by omega) _ ?_
    have hb64 : bitsLen n ≤ 64 := bitsLen_lt (by omega)
    simp (maxSteps := 1000000) [go_sem]
    refine pdqO_ok hS hl n (a := 0) (limit := bitsLen n) (by omega) hA' (by simpa using hn) (Nat.zero_le _) (Nat.le_refl _) hb64 (.inl rfl) hQ' hC _ ?_
    intro H' d' hS' hA2 hP hs
    have hsz : d'.size = n := by rw [hP.1]; simpa using hn
    have hp := perm_list (by simpa using hn) hP
    have fin := h H' d'.toList hS' ⟨by rw [flat_len cellsI_len, Array.length_toList, hsz], .inr hA2⟩ (by simpa using hp) (sorted_list hsz hs)
    simp (maxSteps := 1000000) [go_sem]
    exact fin

end Go.Proofs.Ytdfeoccjllljiaa
end

section
/- Contracts of the laws' own helpers over blocks and systems. They hold for every program that holds these functions. -/
set_option linter.all false
set_option maxRecDepth 20000
namespace Go.Proofs.Ytdfeoccjllljiaa
open Go.Ab

theorem eqBlock_ok {H : Heap} {b d : Bk} (Post : Value → Heap → Prop) (h : ∀ H', H <+: H' → Post (.bool (decide (b = d))) H') :
    ACalls Try.prog 124 [b.val, d.val] H Post := by
  refine acalls_vc (rs := [.tmp 4]) Try.func124 rfl rfl Try.ntmps124 rfl rfl ?_
  obtain ⟨b1, b2, b3⟩ := b
  obtain ⟨d1, d2, d3⟩ := d
  simp (maxSteps := 1000000) [go_sem, Bk.val, Value.oneCell']
  have h := h _ (List.prefix_append H [⟨[.int .i64 b1, .int .i64 b2, .int .i64 b3], true, true⟩, ⟨[.int .i64 d1, .int .i64 d2, .int .i64 d3], true, true⟩])
  refine AWp.loopVc (fun s : Nat => [(2, .pointer (some ⟨H.length, 0, none⟩)), (3, .pointer (some ⟨H.length + 1, 0, none⟩)), (5, .int .i64 s)])
    (fun s H' => s ≤ 3 ∧ H' = H ++ [⟨[.int .i64 b1, .int .i64 b2, .int .i64 b3], true, true⟩, ⟨[.int .i64 d1, .int .i64 d2, .int .i64 d3], true, true⟩] ∧ [b1, b2, b3].take s = [d1, d2, d3].take s) (fun s => 3 - s) 0 ?_ ?_ ?_
  · simp [upF, Fr.get, Up.refl]
  · simp
  · rintro K s H' ⟨hs, rfl, ht⟩ hK
    have : s = 0 ∨ s = 1 ∨ s = 2 ∨ s = 3 := by omega
    rcases this with rfl | rfl | rfl | rfl
    · simp (maxSteps := 1000000) [go_sem]
      refine AWp.draw mixed [(0, false), (1, false), (2, false), (3, false), (4, false), (5, false), (6, false)] (by kernel_rfl) ?_
      simp (maxSteps := 1000000) [go_sem, i64w (n := 1) (by omega) (by omega)]
      refine condK_intro (fun hne => ?_) (fun heq => ?_)
      · simp at hne; simpa [hne] using h
      · exact hK 1 _ _ (by omega) (by simp [upF, Fr.get, Up.refl]) ⟨by omega, rfl, by simpa using heq⟩
    · simp (maxSteps := 1000000) [go_sem]
      refine AWp.draw mixed [(0, false), (1, false), (2, false), (3, false), (4, false), (5, false), (6, false)] (by kernel_rfl) ?_
      simp (maxSteps := 1000000) [go_sem, i64w (n := 2) (by omega) (by omega)]
      refine condK_intro (fun hne => ?_) (fun heq => ?_)
      · simp at hne; simpa [hne] using h
      · exact hK 2 _ _ (by omega) (by simp [upF, Fr.get, Up.refl]) ⟨by omega, rfl, by simp at ht heq; simp [ht, heq]⟩
    · simp (maxSteps := 1000000) [go_sem]
      refine AWp.draw mixed [(0, false), (1, false), (2, false), (3, false), (4, false), (5, false), (6, false)] (by kernel_rfl) ?_
      simp (maxSteps := 1000000) [go_sem, i64w (n := 3) (by omega) (by omega)]
      refine condK_intro (fun hne => ?_) (fun heq => ?_)
      · simp at hne; simpa [hne] using h
      · exact hK 3 _ _ (by omega) (by simp [upF, Fr.get, Up.refl]) ⟨by omega, rfl, by simp at ht heq; simp [ht, heq]⟩
    · simp (maxSteps := 1000000) [go_sem]
      simp at ht
      simpa [ht] using h

theorem eqBlockS_ok {H : Heap} {u v : Value} {xs ys : List Bk} (hu : BlocksAt H u xs) (hv : BlocksAt H v ys) (Post : Value → Heap → Prop) (h : ∀ H', H <+: H' → Post (.bool (decide (xs = ys))) H') :
    ACalls Try.prog 59 [u, v] H Post := by
  obtain ⟨i, o, rfl, h1, h2⟩ := hu
  obtain ⟨j, q, rfl, h3, h4⟩ := hv
  refine acalls_vc (rs := [.tmp 4]) Try.func59 rfl rfl Try.ntmps59 rfl rfl ?_
  simp (maxSteps := 1000000) [go_sem]
  refine condK_intro (fun hne => ?_) (fun heq => ?_)
  · have : xs ≠ ys := by rintro rfl; simp at hne
    simpa [this] using h H (List.prefix_refl _)
  · have hlen : xs.length = ys.length := by simp at heq; omega
    refine AWp.loopVc (fun s : Nat => [(0, lv 3 i o xs.length), (1, lv 3 j q ys.length), (5, .int .i64 s)]) (fun s H' => H <+: H' ∧ s ≤ xs.length ∧ xs.take s = ys.take s) (fun s => xs.length - s) 0 ?_ ?_ ?_
    · simp [upF, Fr.get, Up.refl]
    · exact ⟨List.prefix_refl _, by omega, by simp⟩
    · rintro K s H' ⟨hp, hs, ht⟩ hK
      simp (maxSteps := 1000000) [go_sem]
      refine condK_intro (fun hlt => ?_) (fun hge => ?_)
      · have hlt : s < xs.length := by simpa using hlt
        have c1 := (h1.pre hp).bk (s := s) (b := xs[s]) (List.getElem?_eq_getElem _)
        have c2 := (h3.pre hp).bk (s := s) (b := ys[s]'(by omega)) (List.getElem?_eq_getElem _)
        simp only [Bk.cells] at c1 c2
        have hw : IntKind.i64.wrap ((s : Int) + 1) = (s : Int) + 1 := i64w (by omega) (by omega)
        refine AWp.draw mixed [(0, false), (1, false), (2, false), (3, false), (4, false), (5, false), (6, false), (7, false), (8, false), (9, false)] (by kernel_rfl) ?_
        simp (maxSteps := 1000000) [go_sem, hlt, hlen ▸ hlt, c1, c2]
        refine eqBlock_ok (b := xs[s]) (d := ys[s]'(by omega)) _ ?_
        intro H2 hp2
        simp (maxSteps := 1000000) [go_sem, hw]
        refine condK_intro (fun hne => ?_) (fun heq => ?_)
        · have : xs ≠ ys := by rintro rfl; simp at hne
          simpa [this] using h H2 (hp.trans hp2)
        · refine hK (s + 1) _ _ (by omega) (by simp [upF, Fr.get, Up.refl]) ⟨hp.trans hp2, by omega, ?_⟩
          have he : xs[s] = ys[s]'(by omega) := by simpa using heq
          rw [List.take_succ_eq_append_getElem hlt, List.take_succ_eq_append_getElem (by omega), ht, he]
      · have : s = xs.length := by simp at hge; omega
        subst this
        rw [List.take_length, hlen, List.take_length] at ht
        simpa [ht] using h H' hp

theorem eqSystem_ok {H : Heap} {u v : Value} {p q : Int} {xs ys : List Bk} (hu : BlocksAt H u xs) (hv : BlocksAt H v ys) (Post : Value → Heap → Prop) (h : ∀ H', H <+: H' → Post (.bool (decide (p = q ∧ xs = ys))) H') :
    ACalls Try.prog 26 [sysV p u, sysV q v] H Post := by
  refine acalls_vc (rs := [.tmp 4]) Try.func26 rfl rfl Try.ntmps26 rfl rfl ?_
  obtain ⟨i, o, rfl, h1, h2⟩ := hu
  obtain ⟨j, r, rfl, h3, h4⟩ := hv
  simp (maxSteps := 1000000) [go_sem, sysV, Value.oneCell']
  refine condK_intro (fun hne => ?_) (fun heq => ?_)
  · have : ¬ p = q := by simpa using hne
    simpa [this] using h _ (List.prefix_append H _)
  · have : p = q := by simpa using heq
    subst this
    refine eqBlockS_ok ⟨i, o, rfl, h1.pre (List.prefix_append _ _), h2⟩ ⟨j, r, rfl, h3.pre (List.prefix_append _ _), h4⟩ _ ?_
    intro H' hp
    have h := h H' ((List.prefix_append _ _).trans hp)
    simp (maxSteps := 1000000) [go_sem]
    refine condK_intro (fun hne => ?_) (fun heq => ?_)
    · have : ¬ xs = ys := by simpa using hne
      simpa [this] using h
    · have : xs = ys := by simpa using heq
      simpa [this] using h

end Go.Proofs.Ytdfeoccjllljiaa
end

section
/- Systems in plain terms: what is a good block, what comes before, what fits. No program is in sight here. -/
set_option linter.all false
namespace Go.Ab

def good (v : Int) (b : Bk) : Bool := decide (0 ≤ b.a) && decide (b.a < b.b) && decide (b.b < b.c) && decide (b.c < v)
def before (x y : Bk) : Bool := if x.a ≠ y.a then decide (x.a < y.a) else if x.b ≠ y.b then decide (x.b < y.b) else decide (x.c < y.c)
def eq01 (x y : Int) : Nat := if x = y then 1 else 0
def common (x y : Bk) : Nat := eq01 x.a y.a + eq01 x.a y.b + eq01 x.a y.c + (eq01 x.b y.a + eq01 x.b y.b + eq01 x.b y.c) + (eq01 x.c y.a + eq01 x.c y.b + eq01 x.c y.c)
/-- The first n blocks fit, each with those ahead of it. -/
def Fits (bs : List Bk) : Prop := ∀ (i k : Nat) (x y : Bk), k < i → bs[i]? = some x → bs[k]? = some y → common x y ≤ 1
/-- Each block is good and comes behind the one ahead of it. -/
def Sorted (v : Int) (bs : List Bk) : Prop := ∀ (i : Nat) (x : Bk), bs[i]? = some x → good v x = true ∧ ∀ y, 0 < i → bs[i - 1]? = some y → before y x = true
def IsSys (p : Int) (bs : List Bk) : Prop := (3 ≤ p ∧ p ≤ 15) ∧ bs.length ≤ 35 ∧ Sorted p bs ∧ Fits bs

/-- How two lists compare. -/
def lexC : List Int → List Int → Int
  | [], [] => 0
  | [], _ :: _ => -1
  | _ :: _, [] => 1
  | x :: xs, y :: ys => if x < y then -1 else if y < x then 1 else lexC xs ys

theorem lexC_block (x y : Bk) : (0 ≤ lexC [x.a, x.b, x.c] [y.a, y.b, y.c]) ↔ before x y = false := by
  simp only [lexC, before]
  repeat' split
  all_goals simp_all
  all_goals omega

end Go.Ab
end

section
/- What the specification's functions on systems compute. -/
set_option linter.all false
set_option maxRecDepth 20000
namespace Go.Proofs.Ytdfeoccjllljiaa
open Go.Ab

theorem l01Before_ok {H : Heap} {b d : Bk} (Post : Value → Heap → Prop) (h : ∀ H', H <+: H' → Post (.bool (before b d)) H') :
    ACalls Try.prog 140 [b.val, d.val] H Post := by
  refine acalls_vc (rs := [.tmp 4]) Try.func140 rfl rfl Try.ntmps140 rfl rfl ?_
  obtain ⟨b1, b2, b3⟩ := b
  obtain ⟨d1, d2, d3⟩ := d
  simp (maxSteps := 1000000) [go_sem, Bk.val, Value.oneCell']
  have h := h _ (List.prefix_append H [⟨[.int .i64 b1, .int .i64 b2, .int .i64 b3], true, true⟩, ⟨[.int .i64 d1, .int .i64 d2, .int .i64 d3], true, true⟩])
  simp only [before] at h
  refine AWp.loopVc (fun s : Nat => [(2, .pointer (some ⟨H.length, 0, none⟩)), (3, .pointer (some ⟨H.length + 1, 0, none⟩)), (5, .int .i64 s)])
    (fun s H' => s ≤ 3 ∧ H' = H ++ [⟨[.int .i64 b1, .int .i64 b2, .int .i64 b3], true, true⟩, ⟨[.int .i64 d1, .int .i64 d2, .int .i64 d3], true, true⟩] ∧ [b1, b2, b3].take s = [d1, d2, d3].take s) (fun s => 3 - s) 0 ?_ ?_ ?_
  · simp [upF, Fr.get, Up.refl]
  · simp
  · rintro K s H' ⟨hs, rfl, ht⟩ hK
    have cn : List (Nat × Bool) := []
    have : s = 0 ∨ s = 1 ∨ s = 2 ∨ s = 3 := by omega
    rcases this with rfl | rfl | rfl | rfl
    · simp (maxSteps := 1000000) [go_sem]
      refine AWp.draw mixed [(0, false), (1, false), (2, false), (3, false), (4, false), (5, false), (6, false)] (by kernel_rfl) ?_
      simp (maxSteps := 1000000) [go_sem, i64w (n := 1) (by omega) (by omega)]
      refine condK_intro (fun hne => ?_) (fun heq => ?_)
      · refine AWp.draw mixed [(0, false), (1, false), (2, false), (3, false), (4, false), (5, false), (6, false), (7, false)] (by kernel_rfl) ?_
        simp (maxSteps := 1000000) [go_sem]
        simp at hne; simpa [hne] using h
      · exact hK 1 _ _ (by omega) (by simp [upF, Fr.get, Up.refl]) ⟨by omega, rfl, by simpa using heq⟩
    · simp (maxSteps := 1000000) [go_sem]
      refine AWp.draw mixed [(0, false), (1, false), (2, false), (3, false), (4, false), (5, false), (6, false)] (by kernel_rfl) ?_
      simp (maxSteps := 1000000) [go_sem, i64w (n := 2) (by omega) (by omega)]
      refine condK_intro (fun hne => ?_) (fun heq => ?_)
      · refine AWp.draw mixed [(0, false), (1, false), (2, false), (3, false), (4, false), (5, false), (6, false), (7, false)] (by kernel_rfl) ?_
        simp (maxSteps := 1000000) [go_sem]
        simp at hne ht; simpa [hne, ht] using h
      · exact hK 2 _ _ (by omega) (by simp [upF, Fr.get, Up.refl]) ⟨by omega, rfl, by simp at ht heq; simp [ht, heq]⟩
    · simp (maxSteps := 1000000) [go_sem]
      refine AWp.draw mixed [(0, false), (1, false), (2, false), (3, false), (4, false), (5, false), (6, false)] (by kernel_rfl) ?_
      simp (maxSteps := 1000000) [go_sem, i64w (n := 3) (by omega) (by omega)]
      refine condK_intro (fun hne => ?_) (fun heq => ?_)
      · refine AWp.draw mixed [(0, false), (1, false), (2, false), (3, false), (4, false), (5, false), (6, false), (7, false)] (by kernel_rfl) ?_
        simp (maxSteps := 1000000) [go_sem]
        simp at hne ht; simpa [hne, ht] using h
      · exact hK 3 _ _ (by omega) (by simp [upF, Fr.get, Up.refl]) ⟨by omega, rfl, by simp at ht heq; simp [ht, heq]⟩
    · simp (maxSteps := 1000000) [go_sem]
      simp at ht
      simpa [ht] using h

end Go.Proofs.Ytdfeoccjllljiaa
end

section
/- What the program's functions on systems compute. -/
set_option linter.all false
set_option maxRecDepth 20000
namespace Go.Proofs.Ytdfeoccjllljiaa
open Go.Ab

theorem isNaN_ok {H : Heap} {x : Int} (Post : Value → Heap → Prop) (h : Post (.bool false) H) :
    ACalls Try.prog 188 [.int .i64 x] H Post := by
  refine acalls_vc (rs := [.tmp 2]) Try.func188 rfl rfl Try.ntmps188 rfl rfl ?_
  simp (maxSteps := 1000000) [go_sem]
  exact h

theorem cmpCompare_ok {H : Heap} {x y : Int} (Post : Value → Heap → Prop) (h : Post (.int .i64 (if x < y then -1 else if y < x then 1 else 0)) H) :
    ACalls Try.prog 177 [.int .i64 x, .int .i64 y] H Post := by
  refine acalls_vc (rs := [.tmp 4]) Try.func177 rfl rfl Try.ntmps177 rfl rfl ?_
  simp (maxSteps := 1000000) [go_sem]
  refine isNaN_ok _ ?_
  simp (maxSteps := 1000000) [go_sem]
  refine isNaN_ok _ ?_
  simp (maxSteps := 1000000) [go_sem]
  refine condK_intro (fun h1 => ?_) (fun h1 => ?_)
  · rw [if_pos (by simpa using h1)] at h; exact h
  · rw [if_neg (by simpa using h1)] at h
    refine condK_intro (fun h2 => ?_) (fun h2 => ?_)
    · rw [if_pos (by simpa using h2)] at h; exact h
    · rw [if_neg (by simpa using h2)] at h; exact h

theorem slicesCompare_ok {H : Heap} {u v : Value} {xs ys : List Int} (hu : IntsAt H u xs) (hv : IntsAt H v ys) (Post : Value → Heap → Prop) (h : Post (.int .i64 (lexC xs ys)) H) :
    ACalls Try.prog 149 [u, v] H Post := by
  obtain ⟨i, o, rfl, h1, h2⟩ := hu
  obtain ⟨j, q, rfl, h3, h4⟩ := hv
  refine acalls_vc (rs := [.tmp 4]) Try.func149 rfl rfl Try.ntmps149 rfl rfl ?_
  simp (maxSteps := 1000000) [go_sem]
  refine AWp.loopVc (fun s : Nat => [(0, lv 1 i o xs.length), (1, lv 1 j q ys.length), (9, lv 1 i o xs.length), (10, .int .i64 xs.length), (11, .int .i64 s)])
    (fun s H' => s ≤ xs.length ∧ s ≤ ys.length ∧ H' = H ∧ lexC xs ys = lexC (xs.drop s) (ys.drop s)) (fun s => xs.length - s) 0 ?_ ?_ ?_
  · simp [upF, Fr.get, Up.refl]
  · exact ⟨by omega, by omega, rfl, by simp⟩
  · rintro K s H' ⟨hs, hs', rfl, hf⟩ hK
    by_cases hlt : s < xs.length
    · have hdx : xs.drop s = xs[s] :: xs.drop (s + 1) := List.drop_eq_getElem_cons hlt
      have c1 := h1.cell (k := s) (v := .int .i64 xs[s]) (by simp [ints_get, hlt])
      have hw : IntKind.i64.wrap ((s : Int) + 1) = (s : Int) + 1 := i64w (by omega) (by omega)
      by_cases hly : s < ys.length
      · have hdy : ys.drop s = ys[s] :: ys.drop (s + 1) := List.drop_eq_getElem_cons hly
        have c2 := h3.cell (k := s) (v := .int .i64 ys[s]) (by simp [ints_get, hly])
        have hly' : ¬ ys.length ≤ s := by omega
        simp (maxSteps := 1000000) [go_sem, hlt, hly, hly', c1, c2]
        refine cmpCompare_ok _ ?_
        rw [hdx, hdy] at hf
        simp only [lexC] at hf
        by_cases hxy : xs[s] < ys[s]
        · rw [if_pos hxy] at hf ⊢
          simp (maxSteps := 1000000) [go_sem]
          rw [hf] at h; exact h
        · rw [if_neg hxy] at hf ⊢
          by_cases hyx : ys[s] < xs[s]
          · rw [if_pos hyx] at hf ⊢
            simp (maxSteps := 1000000) [go_sem]
            rw [hf] at h; exact h
          · rw [if_neg hyx] at hf ⊢
            simp (maxSteps := 1000000) [go_sem, hw]
            exact hK (s + 1) _ _ (by omega) (by simp [upF, Fr.get, Up.refl]) ⟨by omega, by omega, rfl, hf⟩
      · have hly' : ys.length ≤ s := by omega
        simp (maxSteps := 1000000) [go_sem, hlt, hly', c1]
        rw [hdx, List.drop_eq_nil_of_le hly'] at hf
        simp only [lexC] at hf
        rw [hf] at h; exact h
    · have : s = xs.length := by omega
      subst this
      simp (maxSteps := 1000000) [go_sem]
      rw [List.drop_eq_nil_of_le (Nat.le_refl _)] at hf
      refine condK_intro (fun hl => ?_) (fun hl => ?_)
      · have hl : xs.length < ys.length := by simpa using hl
        rw [List.drop_eq_getElem_cons hl] at hf
        simp only [lexC] at hf
        rw [hf] at h; exact h
      · have hl : ys.length ≤ xs.length := by simpa using hl
        rw [List.drop_eq_nil_of_le hl] at hf
        simp only [lexC] at hf
        rw [hf] at h; exact h

theorem compare_ok {H : Heap} {b d : Bk} (Post : Value → Heap → Prop) (h : ∀ H', H <+: H' → Post (.int .i64 (lexC [b.a, b.b, b.c] [d.a, d.b, d.c])) H') :
    ACalls Try.prog 170 [b.val, d.val] H Post := by
  refine acalls_vc (rs := [.tmp 4]) Try.func170 rfl rfl Try.ntmps170 rfl rfl ?_
  simp (maxSteps := 1000000) [go_sem, Bk.val, Value.oneCell']
  refine AWp.draw mixed [(0, false), (1, false), (2, false), (3, false)] (by kernel_rfl) ?_
  simp (maxSteps := 1000000) [go_sem]
  have ha : Holds (H ++ [⟨[.int .i64 b.a, .int .i64 b.b, .int .i64 b.c], true, true⟩, ⟨[.int .i64 d.a, .int .i64 d.b, .int .i64 d.c], true, true⟩]) H.length (ints [b.a, b.b, b.c]) := ⟨true, by simp [ints]⟩
  have hd : Holds (H ++ [⟨[.int .i64 b.a, .int .i64 b.b, .int .i64 b.c], true, true⟩, ⟨[.int .i64 d.a, .int .i64 d.b, .int .i64 d.c], true, true⟩]) (H.length + 1) (ints [d.a, d.b, d.c]) := ⟨true, by simp [ints]⟩
  refine ACalls.up (args' := [lv 1 H.length 0 3, lv 1 (H.length + 1) 0 3]) ⟨Up.ex (by omega) (.inr (by simp [go_sem])), Up.ex (by omega) (.inr (by simp [go_sem])), trivial⟩ ?_
  refine slicesCompare_ok (xs := [b.a, b.b, b.c]) (ys := [d.a, d.b, d.c]) ⟨H.length, 0, rfl, ha.at, by simp⟩ ⟨H.length + 1, 0, rfl, hd.at, by simp⟩ _ ?_
  simp (maxSteps := 1000000) [go_sem]
  exact h _ (List.prefix_append _ _)

end Go.Proofs.Ytdfeoccjllljiaa
end

section
/- The grid of third points in plain terms: what its entries are, and when a block fits. No program is in sight here. -/
set_option linter.all false
namespace Go.Ab

/-- A block has a point. -/
def Bk.has (b : Bk) (p : Int) : Bool := decide (b.a = p) || (decide (b.b = p) || decide (b.c = p))
/-- The third point of two, and -1 if there is none. -/
def third (bs : List Bk) (p q : Int) : Int :=
  match bs.find? (fun c => c.has p && c.has q) with
  | some c => c.a + c.b + c.c - p - q
  | none => -1

theorem good_iff {v : Int} {b : Bk} : good v b = true ↔ 0 ≤ b.a ∧ b.a < b.b ∧ b.b < b.c ∧ b.c < v := by
  simp only [good, Bool.and_eq_true, decide_eq_true_eq, and_assoc]

end Go.Ab
end

section
/- The grid of third points: what the program's functions on it compute. -/
set_option linter.all false
set_option maxRecDepth 20000
namespace Go.Proofs.Ytdfeoccjllljiaa
open Go.Ab

/-- The grid behind an id. -/
def GridAt (H : Heap) (id : Nat) (gs : List Int) : Prop := H[id]? = some ⟨ints gs, true, true⟩ ∧ gs.length = 225

theorem GridAt.load {H : Heap} {id : Nat} {gs : List Int} (h : GridAt H id gs) {k : Nat} (hk : k < 225) : cellsAt H id k 1 = some [.int .i64 (gs.getD k 0)] := by
  refine Holds.cell ⟨true, h.1⟩ ?_
  have := h.2
  rw [ints_get, List.getD_eq_getElem?_getD, List.getElem?_eq_getElem (by omega)]
  rfl

theorem GridAt.store {H : Heap} {id : Nat} {gs : List Int} (h : GridAt H id gs) {k : Nat} (hk : k < 225) (n : Int) :
    storeAt H id k [.int .i64 n] = some (H.set id ⟨ints (gs.set k n), true, true⟩) ∧ GridAt (H.set id ⟨ints (gs.set k n), true, true⟩) id (gs.set k n) := by
  have hl := h.2
  refine ⟨?_, by rw [List.getElem?_set_self (List.getElem?_eq_some_iff.1 h.1).1], by simpa using hl⟩
  rw [storeAt_of h.1 rfl rfl (by simp only [ints_length, List.length_singleton]; omega) (by simp [Value.oneCell']), over_one (by simp only [ints_length]; omega), ints_set]

end Go.Proofs.Ytdfeoccjllljiaa
end

section
/- The grid of a list of blocks; the program's test for systems. -/
set_option linter.all false
set_option maxRecDepth 20000
namespace Go.Proofs.Ytdfeoccjllljiaa
open Go.Ab

theorem GridAt.keep {H H' : Heap} {id : Nat} {gs : List Int} (h : GridAt H id gs) (hp : H <+: H') : GridAt H' id gs :=
  ⟨Same.get (S := fun _ => False) (Same.of_prefix hp) h.1 (fun h => h), h.2⟩

end Go.Proofs.Ytdfeoccjllljiaa
end

section
/- The arguments' shapes: numbers, lists, systems. It holds for every program that has these types. -/
set_option linter.all false
set_option maxRecDepth 20000
namespace Go.Proofs.Ytdfeoccjllljiaa
open Go.Ab

/-- As IntsAt, but the length is only what 64 bits hold. -/
def IntsAt0 (H : Heap) (v : Value) (xs : List Int) : Prop := ∃ i o, v = lv 1 i o xs.length ∧ At H i o (ints xs) ∧ xs.length ≤ 9223372036854775807
theorem IntsAt0.at {H : Heap} {v : Value} {xs : List Int} (h : IntsAt0 H v xs) (hl : xs.length ≤ 140737488355328) : IntsAt H v xs := by
  obtain ⟨i, o, h1, h2, _⟩ := h; exact ⟨i, o, h1, h2, hl⟩
theorem IntsAt0.pre {H H' : Heap} (hp : H <+: H') {v : Value} {xs : List Int} (h : IntsAt0 H v xs) : IntsAt0 H' v xs := by
  obtain ⟨i, o, h1, h2, h3⟩ := h; exact ⟨i, o, h1, h2.pre hp, h3⟩
def BlocksAt0 (H : Heap) (v : Value) (bs : List Bk) : Prop := ∃ i o, v = lv 3 i o bs.length ∧ At H i o (tri bs) ∧ bs.length ≤ 9223372036854775807
theorem BlocksAt0.at {H : Heap} {v : Value} {bs : List Bk} (h : BlocksAt0 H v bs) (hl : bs.length ≤ 140737488355328) : BlocksAt H v bs := by
  obtain ⟨i, o, h1, h2, _⟩ := h; exact ⟨i, o, h1, h2, hl⟩
theorem BlocksAt0.pre {H H' : Heap} (hp : H <+: H') {v : Value} {bs : List Bk} (h : BlocksAt0 H v bs) : BlocksAt0 H' v bs := by
  obtain ⟨i, o, h1, h2, h3⟩ := h; exact ⟨i, o, h1, h2.pre hp, h3⟩
def IntssAt0 (H : Heap) (v : Value) (xss : List (List Int)) : Prop :=
  ∃ i o vs, v = lv 1 i o xss.length ∧ vs.length = xss.length ∧ At H i o vs ∧ (∀ (k : Nat) (v : Value) (xs : List Int), vs[k]? = some v → xss[k]? = some xs → IntsAt0 H v xs) ∧ xss.length ≤ 9223372036854775807
theorem IntssAt0.at {H : Heap} {v : Value} {xss : List (List Int)} (h : IntssAt0 H v xss) (hl : xss.length ≤ 140737488355328) (hls : ∀ xs ∈ xss, xs.length ≤ 140737488355328) : IntssAt H v xss := by
  obtain ⟨i, o, vs, h1, h2, h3, h4, _⟩ := h
  exact ⟨i, o, vs, h1, h2, h3, fun k v xs hv hx => (h4 k v xs hv hx).at (hls xs (List.mem_of_getElem? hx)), hl⟩
theorem IntssAt0.pre {H H' : Heap} (hp : H <+: H') {v : Value} {xss : List (List Int)} (h : IntssAt0 H v xss) : IntssAt0 H' v xss := by
  obtain ⟨i, o, vs, h1, h2, h3, h4, h5⟩ := h
  exact ⟨i, o, vs, h1, h2, h3.pre hp, fun k v xs hv hx => (h4 k v xs hv hx).pre hp, h5⟩

end Go.Proofs.Ytdfeoccjllljiaa
end

section
/- Contracts of the laws' own helpers: copies of lists of numbers, marks over blocks and systems. -/
set_option linter.all false
set_option maxRecDepth 20000
namespace Go.Proofs.Ytdfeoccjllljiaa
open Go.Ab

/-- A slice of numbers that the call holds alone. -/
def OwnInts (H : Heap) (v : Value) (id : Nat) (xs : List Int) : Prop := v = lv 1 id 0 xs.length ∧ (xs = [] ∨ H[id]? = some ⟨ints xs, true, true⟩) ∧ xs.length ≤ 140737488355328
theorem OwnInts.read {H : Heap} {v : Value} {id : Nat} {xs : List Int} (h : OwnInts H v id xs) : IntsAt H v xs := by
  obtain ⟨h1, h2, h3⟩ := h
  refine ⟨id, 0, h1, ?_, h3⟩
  rcases h2 with rfl | h2
  · exact .inl rfl
  · exact Holds.at ⟨true, h2⟩
theorem OwnInts.keep {H H' : Heap} {v : Value} {id : Nat} {xs : List Int} (h : OwnInts H v id xs) {S : Nat → Prop} (hs : Same S H H') (hi : ¬ S id) : OwnInts H' v id xs :=
  ⟨h.1, h.2.1.imp (fun h => h) fun hb => hs.get hb hi, h.2.2⟩
theorem OwnInts.pre {H H' : Heap} (hp : H <+: H') {v : Value} {id : Nat} {xs : List Int} (h : OwnInts H v id xs) : OwnInts H' v id xs := h.keep (S := fun _ => False) (Same.of_prefix hp) (fun h => h)
theorem OwnInts.of_ol {H : Heap} {id : Nat} {xs : List Int} (h : OL 1 H id (ints xs) xs.length) (hl : xs.length ≤ 140737488355328) : OwnInts H (lv 1 id 0 xs.length) id xs :=
  ⟨rfl, h.2.imp (fun h => List.eq_nil_of_length_eq_zero h.1) (fun h => h), hl⟩
theorem OwnInts.one {H : Heap} {v : Value} {id : Nat} {xs : List Int} (h : OwnInts H v id xs) : v.oneCell' = true := h.read.one
theorem _root_.Go.Ab.OwnBlocks.pre {H H' : Heap} (hp : H <+: H') {v : Value} {id : Nat} {bs : List Bk} (h : OwnBlocks H v id bs) : OwnBlocks H' v id bs := h.keep (S := fun _ => False) (Same.of_prefix hp) (fun h => h)
theorem _root_.Go.Ab.OwnBlocks.one {H : Heap} {v : Value} {id : Nat} {bs : List Bk} (h : OwnBlocks H v id bs) : v.oneCell' = true := h.read.one
theorem _root_.Go.Ab.OwnBlocks.of_ol {H : Heap} {id : Nat} {bs : List Bk} (h : OL 3 H id (tri bs) bs.length) (hl : bs.length ≤ 140737488355328) : OwnBlocks H (lv 3 id 0 bs.length) id bs :=
  ⟨rfl, h.2.imp (fun h => List.eq_nil_of_length_eq_zero h.1) (fun h => h), hl⟩
theorem _root_.Go.Ab.OwnBlocks.lt {H : Heap} {v : Value} {id : Nat} {bs : List Bk} (h : OwnBlocks H v id bs) : bs = [] ∨ id < H.length := h.2.1.imp (fun h => h) fun h => (List.getElem?_eq_some_iff.1 h).1

theorem _root_.Go.Ab.Holds.keepS {H H' : Heap} {i : Nat} {cs : List Value} (h : Holds H i cs) {S : Nat → Prop} (hs : Same S H H') (hi : ¬ S i) : Holds H' i cs := by
  obtain ⟨o, h⟩ := h; exact ⟨o, hs.get h hi⟩
theorem _root_.Go.Ab.Holds.sys {H : Heap} {i : Nat} {p : Int} {u : Value} (h : Holds H i [.int .i64 p, u]) : cellsAt H i 0 2 = some [.int .i64 p, u] ∧ cellsAt H i 0 1 = some [.int .i64 p] ∧ cellsAt H i 1 1 = some [u] :=
  ⟨by simpa using h.cells (n := 2) (o := 0) (by simp), h.cell rfl, h.cell rfl⟩
theorem _root_.Go.Ab.Holds.bk {H : Heap} {i : Nat} {a b c : Int} (h : Holds H i [.int .i64 a, .int .i64 b, .int .i64 c]) : cellsAt H i 0 3 = some [.int .i64 a, .int .i64 b, .int .i64 c] ∧ cellsAt H i 0 1 = some [.int .i64 a] ∧ cellsAt H i 1 1 = some [.int .i64 b] ∧ cellsAt H i 2 1 = some [.int .i64 c] :=
  ⟨by simpa using h.cells (n := 3) (o := 0) (by simp), h.cell rfl, h.cell rfl, h.cell rfl⟩
theorem _root_.Go.Ab.Holds.last (H : Heap) (cs : List Value) : Holds (H ++ [⟨cs, true, true⟩]) H.length cs := ⟨true, by simp⟩

/-- The numbers of some blocks, one behind the other. -/
def nums (bs : List Bk) : List Int := bs.flatMap fun b => [b.a, b.b, b.c]
theorem tri_nums (bs : List Bk) : tri bs = ints (nums bs) := by
  induction bs with
  | nil => rfl
  | cons b bs ih => rw [tri_cons, ih]; simp [nums, ints, Bk.cells]
theorem nums_length (bs : List Bk) : (nums bs).length = bs.length * 3 := by
  have := tri_length bs; rw [tri_nums, ints_length] at this; exact this

theorem mark_set {k : Int} {ys : List Int} {m : Nat} (h : m < ys.length) : (upFrom k m ++ ys.drop m).set m (k + m) = upFrom k (m + 1) ++ ys.drop (m + 1) := by
  rw [List.set_append_right _ _ (by rw [upFrom_length]; exact Nat.le_refl _), upFrom_length, Nat.sub_self, List.drop_eq_getElem_cons h, List.set_cons_zero, ← upFrom_append k m 1]
  simp [upFrom]

theorem mark_store {H : Heap} {i : Nat} {k : Int} {ys : List Int} {m : Nat} (hm : m < ys.length) (hb : H[i]? = some ⟨ints (upFrom k m ++ ys.drop m), true, true⟩) :
    storeAt H i m [.int .i64 (k + m)] = some (H.set i ⟨ints (upFrom k (m + 1) ++ ys.drop (m + 1)), true, true⟩) := by
  rw [storeAt_of hb rfl rfl (by simp only [ints_length, List.length_append, upFrom_length, List.length_drop, List.length_singleton]; omega) (by simp [Value.oneCell']), over_one (by simp only [ints_length, List.length_append, upFrom_length, List.length_drop]; omega), ints_set, mark_set hm]

theorem markBlockS_ok {H : Heap} {i : Nat} {k : Int} {bs : List Bk} (hu : bs = [] ∨ H[i]? = some ⟨tri bs, true, true⟩) (hl : bs.length ≤ 140737488355328) (hk0 : 0 ≤ k) (hk : k ≤ 1000000000) (Post : Value → Heap → Prop)
    (h : ∀ H', H'.length = H.length → Same (fun j => bs ≠ [] ∧ j = i) H H' → At H' i 0 (ints (upFrom k (bs.length * 3))) → Post (.int .i64 (k + (bs.length * 3 : Nat))) H') :
    ACalls Try.prog 60 [lv 3 i 0 bs.length, .int .i64 k] H Post := by
  refine acalls_vc (rs := [.tmp 4]) Try.func60 rfl rfl Try.ntmps60 rfl rfl ?_
  simp (maxSteps := 1000000) [go_sem]
  have hnl := nums_length bs
  refine AWp.loopVc (fun s : Nat => [(0, lv 3 i 0 bs.length), (1, .int .i64 (k + (s * 3 : Nat))), (5, .int .i64 s)])
    (fun s H' => s ≤ bs.length ∧ H'.length = H.length ∧ Same (fun j => bs ≠ [] ∧ j = i) H H' ∧ (bs ≠ [] → H'[i]? = some ⟨ints (upFrom k (s * 3) ++ (nums bs).drop (s * 3)), true, true⟩)) (fun s => bs.length - s) 0 ?_ ?_ ?_
  · simp [upF, Fr.get, Up.refl]
  · refine ⟨by omega, rfl, Same.refl _ _, fun hne => ?_⟩
    rw [hu.resolve_left hne, tri_nums]; simp [upFrom]
  · rintro K s H' ⟨hs, hlen, hsame, hc⟩ hK
    by_cases hlt : s < bs.length
    · have hne : bs ≠ [] := by rintro rfl; simp at hlt
      simp (maxSteps := 1000000) [go_sem, hlt]
      refine AWp.loopVc (fun t : Nat => [(0, lv 3 i 0 bs.length), (1, .int .i64 (k + (s * 3 + t : Nat))), (5, .int .i64 s), (6, .int .i64 t)])
        (fun t H2 => t ≤ 3 ∧ H2.length = H.length ∧ Same (fun j => bs ≠ [] ∧ j = i) H H2 ∧ H2[i]? = some ⟨ints (upFrom k (s * 3 + t) ++ (nums bs).drop (s * 3 + t)), true, true⟩) (fun t => 3 - t) 0 ?_ ?_ ?_
      · simp [upF, Fr.get, Up.refl]
      · exact ⟨by omega, hlen, hsame, hc hne⟩
      · rintro K2 t H2 ⟨ht, hlen2, hsame2, hc2⟩ hK2
        by_cases htl : t < 3
        · have htl' : (t : Int) < 3 := by omega
          have hw_t : IntKind.i64.wrap ((t : Int) + 1) = (t : Int) + 1 := i64w (by omega) (by omega)
          have hw2 : IntKind.i64.wrap (k + ((s : Int) * 3 + t) + 1) = k + (s * 3 + (t + 1)) := by rw [i64w (by omega) (by omega)]; omega
          have hst := mark_store (k := k) (ys := nums bs) (by omega) hc2
          have e1 : ((s * 3 + t : Nat) : Int) = s * 3 + t := by omega
          rw [e1] at hst
          simp (maxSteps := 1000000) [go_sem, hlt, htl, htl', hst, hw_t, hw2]
          refine hK2 (t + 1) _ _ (by omega) (by simp [upF, Fr.get, Up.refl]) ⟨by omega, by simp [hlen2], hsame2.trans ⟨by simp, fun j hj hjs => List.getElem?_set_ne (fun e => hjs ⟨hne, e.symm⟩)⟩, ?_⟩
          rw [List.getElem?_set_self (List.getElem?_eq_some_iff.1 hc2).1]; rfl
        · have : t = 3 := by omega
          subst this
          have hw_s : IntKind.i64.wrap ((s : Int) + 1) = (s : Int) + 1 := i64w (by omega) (by omega)
          simp (maxSteps := 1000000) [go_sem, hw_s]
          refine hK (s + 1) _ _ (by omega) ?_ ⟨by omega, hlen2, hsame2, fun _ => ?_⟩
          · have e : k + ((s : Int) * 3 + 3) = k + ((s : Int) + 1) * 3 := by omega
            simp [upF, Fr.get, Up.refl, e]
          · rw [Nat.add_mul]; exact hc2
    · have : s = bs.length := by omega
      subst this
      simp (maxSteps := 1000000) [go_sem]
      have := h H' hlen hsame ?_
      · simpa using this
      · by_cases hne : bs = []
        · subst hne; exact .inl rfl
        · have := hc hne
          rw [List.drop_eq_nil_of_le (by omega), List.append_nil] at this
          exact Holds.at ⟨true, this⟩

theorem heldBlockS_ok {H : Heap} {i o : Nat} {k : Int} {n : Nat} (hu : At H i o (ints (upFrom k (n * 3)))) (hl : n ≤ 140737488355328) (hk0 : 0 ≤ k) (hk : k ≤ 1000000000) (Post : Value → Heap → Prop) (h : Post (.int .i64 (k + (n * 3 : Nat))) H) :
    ACalls Try.prog 86 [lv 3 i o n, .int .i64 k] H Post := by
  refine acalls_vc (rs := [.tmp 4]) Try.func86 rfl rfl Try.ntmps86 rfl rfl ?_
  simp (maxSteps := 1000000) [go_sem]
  refine AWp.loopVc (fun s : Nat => [(0, lv 3 i o n), (1, .int .i64 (k + (s * 3 : Nat))), (5, .int .i64 s)])
    (fun s H' => s ≤ n ∧ H' = H) (fun s => n - s) 0 ?_ ?_ ?_
  · simp [upF, Fr.get, Up.refl]
  · simp
  · rintro K s H' ⟨hs, rfl⟩ hK
    by_cases hlt : s < n
    · simp (maxSteps := 1000000) [go_sem, hlt]
      refine AWp.loopVc (fun t : Nat => [(0, lv 3 i o n), (1, .int .i64 (k + (s * 3 + t : Nat))), (5, .int .i64 s), (6, .int .i64 t)])
        (fun t H2 => t ≤ 3 ∧ H2 = H') (fun t => 3 - t) 0 ?_ ?_ ?_
      · simp [upF, Fr.get, Up.refl]
      · simp
      · rintro K2 t H2 ⟨ht, rfl⟩ hK2
        by_cases htl : t < 3
        · have htl' : (t : Int) < 3 := by omega
          have hw_t : IntKind.i64.wrap ((t : Int) + 1) = (t : Int) + 1 := i64w (by omega) (by omega)
          have hw2 : IntKind.i64.wrap (k + ((s : Int) * 3 + t) + 1) = k + (s * 3 + (t + 1)) := by rw [i64w (by omega) (by omega)]; omega
          have c1 := hu.cell (k := s * 3 + t) (v := .int .i64 (k + (s * 3 + t : Nat))) (by rw [ints_get, upFrom_get (by omega)]; rfl)
          rw [← Nat.add_assoc] at c1
          have e1 : ((s * 3 + t : Nat) : Int) = s * 3 + t := by omega
          rw [e1] at c1
          simp (maxSteps := 1000000) [go_sem, hlt, htl, htl', c1, hw_t, hw2]
          exact hK2 (t + 1) _ _ (by omega) (by simp [upF, Fr.get, Up.refl]) ⟨by omega, rfl⟩
        · have : t = 3 := by omega
          subst this
          have hw_s : IntKind.i64.wrap ((s : Int) + 1) = (s : Int) + 1 := i64w (by omega) (by omega)
          simp (maxSteps := 1000000) [go_sem, hw_s]
          refine hK (s + 1) _ _ (by omega) ?_ ⟨by omega, rfl⟩
          have e : k + ((s : Int) * 3 + 3) = k + ((s : Int) + 1) * 3 := by omega
          simp [upF, Fr.get, Up.refl, e]
    · have : s = n := by omega
      subst this
      simp (maxSteps := 1000000) [go_sem]
      simpa using h

theorem markSystem_ok {H : Heap} {i : Nat} {p k : Int} {bs : List Bk} (hu : bs = [] ∨ H[i]? = some ⟨tri bs, true, true⟩) (hl : bs.length ≤ 140737488355328) (hk0 : 0 ≤ k) (hk : k ≤ 1000000000) (Post : Value → Heap → Prop)
    (h : ∀ H', Same (fun j => bs ≠ [] ∧ j = i) H H' → At H' i 0 (ints (upFrom k (bs.length * 3))) → Post (.int .i64 (k + (bs.length * 3 : Nat))) H') :
    ACalls Try.prog 27 [sysV p (lv 3 i 0 bs.length), .int .i64 k] H Post := by
  refine acalls_vc (rs := [.tmp 4]) Try.func27 rfl rfl Try.ntmps27 rfl rfl ?_
  simp (maxSteps := 1000000) [go_sem, sysV]
  refine markBlockS_ok ?_ hl hk0 hk _ ?_
  · exact hu.imp (fun h => h) fun hb => Same.get (S := fun _ => False) (Same.of_prefix (List.prefix_append _ _)) hb (fun h => h)
  intro H' _ hs ha
  simp (maxSteps := 1000000) [go_sem]
  have := h H' ((Same.of_prefix (List.prefix_append _ _)).trans hs) ha
  simpa using this

theorem heldSystem_ok {H : Heap} {i o : Nat} {p k : Int} {n : Nat} (hu : At H i o (ints (upFrom k (n * 3)))) (hl : n ≤ 140737488355328) (hk0 : 0 ≤ k) (hk : k ≤ 1000000000) (Post : Value → Heap → Prop) (h : ∀ H', H <+: H' → Post (.int .i64 (k + (n * 3 : Nat))) H') :
    ACalls Try.prog 28 [sysV p (lv 3 i o n), .int .i64 k] H Post := by
  refine acalls_vc (rs := [.tmp 4]) Try.func28 rfl rfl Try.ntmps28 rfl rfl ?_
  simp (maxSteps := 1000000) [go_sem, sysV]
  refine heldBlockS_ok (hu.pre (List.prefix_append _ _)) hl hk0 hk _ ?_
  have hneg : decide (k + (n * 3 : Nat) < 0) = false := by simp; omega
  have := h _ (List.prefix_append H [⟨[.int .i64 p, lv 3 i o n], true, true⟩])
  simp only [Int.natCast_mul, Int.cast_ofNat_Int] at this hneg ⊢
  simp (maxSteps := 1000000) [go_sem, hneg]
  exact this

end Go.Proofs.Ytdfeoccjllljiaa
end

section
/- The third point of two: both sides. -/
set_option linter.all false
set_option maxRecDepth 20000
namespace Go.Proofs.Ytdfeoccjllljiaa
open Go.Ab

theorem _root_.Go.Ab.IsSys.good {p : Int} {bs : List Bk} (h : IsSys p bs) : ∀ x ∈ bs, good p x = true := by
  intro x hx
  obtain ⟨k, hk⟩ := List.mem_iff_getElem?.1 hx
  exact (h.2.2.1 k x hk).1
end Go.Proofs.Ytdfeoccjllljiaa
end

section
/- Ranges of numbers, and lists that a loop builds up over them. No program is in sight here. -/
set_option linter.all false
namespace Go.Ab

/-- The numbers from lo to below hi. -/
def upTo (lo hi : Nat) : List Nat := List.range' lo (hi - lo)
theorem upTo_succ {lo k : Nat} (h : lo ≤ k) : upTo lo (k + 1) = upTo lo k ++ [k] := by
  unfold upTo
  rw [show k + 1 - lo = (k - lo) + 1 by omega, List.range'_concat]
  congr 2; omega
theorem upTo_self {lo k : Nat} (h : k ≤ lo) : upTo lo k = [] := by
  unfold upTo; rw [show k - lo = 0 by omega]; rfl
theorem mem_upTo {lo hi k : Nat} : k ∈ upTo lo hi ↔ lo ≤ k ∧ k < hi := by
  unfold upTo; rw [List.mem_range'_1]; omega
theorem upTo_length (lo hi : Nat) : (upTo lo hi).length = hi - lo := by simp [upTo]

/-- All blocks of v points, in order. -/
def trip2 (v a b : Nat) (hi : Nat) : List Bk := (upTo (b + 1) hi).map fun c : Nat => ⟨a, b, c⟩
def trip1 (v a : Nat) (hi : Nat) : List Bk := (upTo (a + 1) hi).flatMap fun b => trip2 v a b v
def trip0 (v : Nat) (hi : Nat) : List Bk := (upTo 0 hi).flatMap fun a => trip1 v a v
def triples (v : Nat) : List Bk := trip0 v v

theorem trip2_succ {v a b k : Nat} (h : b + 1 ≤ k) : trip2 v a b (k + 1) = trip2 v a b k ++ [⟨a, b, k⟩] := by simp [trip2, upTo_succ h]
theorem trip1_succ {v a k : Nat} (h : a + 1 ≤ k) : trip1 v a (k + 1) = trip1 v a k ++ trip2 v a k v := by simp [trip1, upTo_succ h]
theorem trip0_succ {v k : Nat} : trip0 v (k + 1) = trip0 v k ++ trip1 v k v := by simp [trip0, upTo_succ (Nat.zero_le k)]
theorem trip2_start (v a b : Nat) : trip2 v a b (b + 1) = [] := by simp [trip2, upTo_self]
theorem trip1_start (v a : Nat) : trip1 v a (a + 1) = [] := by simp [trip1, upTo_self]
theorem trip0_start (v : Nat) : trip0 v 0 = [] := by simp [trip0, upTo_self]
theorem mem_triples {v : Nat} {b : Bk} (h : b ∈ triples v) : good v b = true ∧ ∃ x y z : Nat, b = ⟨x, y, z⟩ ∧ x < y ∧ y < z ∧ z < v := by
  simp only [triples, trip0, trip1, trip2, List.mem_flatMap, List.mem_map, mem_upTo] at h
  obtain ⟨x, h1, y, h2, z, h3, rfl⟩ := h
  refine ⟨?_, x, y, z, rfl, by omega, by omega, by omega⟩
  rw [good_iff]; simp only; omega

end Go.Ab
end

section
/- Degrees: both sides. -/
set_option linter.all false
set_option maxRecDepth 20000
namespace Go.Ab

/-- A list that a call builds, behind the memory H. -/
def Bl (e : Nat) (H H' : Heap) (id : Nat) (cs : List Value) (n : Nat) : Prop := H <+: H' ∧ OL e H' id cs n ∧ H.length ≤ id
theorem Bl.ghost (e : Nat) (H : Heap) : Bl e H (H ++ [⟨[], false, false⟩]) H.length [] 0 := ⟨List.prefix_append _ _, OL.ghost e H, Nat.le_refl _⟩
theorem Bl.nil (e : Nat) (H : Heap) : Bl e H (H ++ [⟨[], true, true⟩]) H.length [] 0 := ⟨List.prefix_append _ _, ⟨by simp, .inr (by simp)⟩, Nat.le_refl _⟩
theorem Bl.pre {e : Nat} {H H' H'' : Heap} {id n : Nat} {cs : List Value} (h : Bl e H H' id cs n) (hp : H' <+: H'') : Bl e H H'' id cs n :=
  ⟨h.1.trans hp, h.2.1.keep (S := fun _ => False) (Same.of_prefix hp) (fun h => h), h.2.2⟩
theorem Bl.push {e : Nat} {H H' : Heap} {id n : Nat} {cs xs : List Value} (h : Bl e H H' id cs n) (he : 0 < e) (hx : xs.length = e) :
    cellsAt (H' ++ [⟨xs, true, true⟩]) H'.length 0 e = some xs ∧ ∃ H3, appendH (H' ++ [⟨xs, true, true⟩]) e (lv e id 0 n) 1 xs = some (lv e (H'.length + 1) 0 (n + 1), H3) ∧ Bl e H H3 (H'.length + 1) (cs ++ xs) (n + 1) := by
  obtain ⟨h1, H3, h2, h3, h4, h5⟩ := h.2.1.push he hx
  refine ⟨h1, H3, h2, ((Same.of_prefix h.1).trans h4).prefix (by have := h.2.2; omega), h3, ?_⟩
  have := h.1.length_le
  omega

end Go.Ab
namespace Go.Proofs.Ytdfeoccjllljiaa
open Go.Ab

end Go.Proofs.Ytdfeoccjllljiaa
end

section
/- Results that a call holds alone, told by the span of the blocks that they lie in; marks on them. -/
set_option linter.all false
set_option maxRecDepth 20000
namespace Go.Proofs.Ytdfeoccjllljiaa
open Go.Ab

/-- The blocks from a to below b. -/
def Span (a b : Nat) (j : Nat) : Prop := a ≤ j ∧ j < b

def IntsIn (a b : Nat) (H : Heap) (v : Value) (xs : List Int) : Prop := ∃ id, OwnInts H v id xs ∧ (xs ≠ [] → Span a b id)
def BlocksIn (a b : Nat) (H : Heap) (v : Value) (bs : List Bk) : Prop := ∃ id, OwnBlocks H v id bs ∧ (bs ≠ [] → Span a b id)
/-- A slice of numbers, marked from k on. -/
def MarkIn (e : Nat) (a b : Nat) (H : Heap) (v : Value) (k : Int) (n : Nat) : Prop := ∃ id, v = lv e id 0 n ∧ At H id 0 (ints (upFrom k (n * e))) ∧ n ≤ 140737488355328 ∧ (n ≠ 0 → Span a b id)

theorem OwnInts.inn {H H' : Heap} {v : Value} {id : Nat} {xs : List Int} (h : OwnInts H' v id xs) (hid : H.length ≤ id) : IntsIn H.length H'.length H' v xs :=
  ⟨id, h, fun hne => ⟨hid, (List.getElem?_eq_some_iff.1 (h.2.1.resolve_left hne)).1⟩⟩
theorem OwnBlocks.inn {H H' : Heap} {v : Value} {id : Nat} {bs : List Bk} (h : OwnBlocks H' v id bs) (hid : H.length ≤ id) : BlocksIn H.length H'.length H' v bs :=
  ⟨id, h, fun hne => ⟨hid, h.lt.resolve_left hne⟩⟩

theorem IntsIn.keep {a b : Nat} {H H' : Heap} {v : Value} {xs : List Int} (h : IntsIn a b H v xs) {S : Nat → Prop} (hs : Same S H H') (hd : ∀ j, Span a b j → ¬ S j) : IntsIn a b H' v xs := by
  obtain ⟨id, h1, h2⟩ := h
  by_cases hne : xs = []
  · subst hne; exact ⟨id, ⟨h1.1, .inl rfl, h1.2.2⟩, h2⟩
  · exact ⟨id, h1.keep hs (hd _ (h2 hne)), h2⟩
theorem BlocksIn.keep {a b : Nat} {H H' : Heap} {v : Value} {bs : List Bk} (h : BlocksIn a b H v bs) {S : Nat → Prop} (hs : Same S H H') (hd : ∀ j, Span a b j → ¬ S j) : BlocksIn a b H' v bs := by
  obtain ⟨id, h1, h2⟩ := h
  by_cases hne : bs = []
  · subst hne; exact ⟨id, ⟨h1.1, .inl rfl, h1.2.2⟩, h2⟩
  · exact ⟨id, OwnBlocks.keep h1 hs (hd _ (h2 hne)), h2⟩
theorem MarkIn.keep {e a b : Nat} {H H' : Heap} {v : Value} {k : Int} {n : Nat} (h : MarkIn e a b H v k n) {S : Nat → Prop} (hs : Same S H H') (hd : ∀ j, Span a b j → ¬ S j) : MarkIn e a b H' v k n := by
  obtain ⟨id, h1, h2, h3, h4⟩ := h
  refine ⟨id, h1, ?_, h3, h4⟩
  rcases h2 with h0 | h2
  · exact .inl h0
  · by_cases hn : n = 0
    · subst hn; left; simp [upFrom, ints]
    · right
      obtain ⟨blk, hb, hbl, hbn, he⟩ := cellsAt_inv h2
      rw [cellsAt_of (hs.get hb (hd _ (h4 hn))) hbl hbn, ← he]
theorem IntsIn.pre {a b : Nat} {H H' : Heap} (hp : H <+: H') {v : Value} {xs : List Int} (h : IntsIn a b H v xs) : IntsIn a b H' v xs := h.keep (S := fun _ => False) (Same.of_prefix hp) (fun _ _ h => h)
theorem BlocksIn.pre {a b : Nat} {H H' : Heap} (hp : H <+: H') {v : Value} {bs : List Bk} (h : BlocksIn a b H v bs) : BlocksIn a b H' v bs := h.keep (S := fun _ => False) (Same.of_prefix hp) (fun _ _ h => h)
theorem MarkIn.pre {e a b : Nat} {H H' : Heap} (hp : H <+: H') {v : Value} {k : Int} {n : Nat} (h : MarkIn e a b H v k n) : MarkIn e a b H' v k n := h.keep (S := fun _ => False) (Same.of_prefix hp) (fun _ _ h => h)
theorem IntsIn.read {a b : Nat} {H : Heap} {v : Value} {xs : List Int} (h : IntsIn a b H v xs) : IntsAt H v xs := by obtain ⟨id, h, _⟩ := h; exact h.read
theorem BlocksIn.read {a b : Nat} {H : Heap} {v : Value} {bs : List Bk} (h : BlocksIn a b H v bs) : BlocksAt H v bs := by obtain ⟨id, h, _⟩ := h; exact OwnBlocks.read h
theorem IntsIn.one {a b : Nat} {H : Heap} {v : Value} {xs : List Int} (h : IntsIn a b H v xs) : v.oneCell' = true := h.read.one
theorem BlocksIn.one {a b : Nat} {H : Heap} {v : Value} {bs : List Bk} (h : BlocksIn a b H v bs) : v.oneCell' = true := h.read.one
theorem IntsIn.nil (a b : Nat) (H : Heap) : IntsIn a b H (lv 1 0 0 0) [] := ⟨0, ⟨rfl, .inl rfl, by simp⟩, fun h => absurd rfl h⟩
theorem BlocksIn.nil (a b : Nat) (H : Heap) : BlocksIn a b H (lv 3 0 0 0) [] := ⟨0, ⟨rfl, .inl rfl, by simp⟩, fun h => absurd rfl h⟩
theorem IntsIn.wider {a b c : Nat} {H : Heap} {v : Value} {xs : List Int} (h : IntsIn a b H v xs) (hc : c ≤ a) : IntsIn c b H v xs := by
  obtain ⟨id, h1, h2⟩ := h; exact ⟨id, h1, fun hne => ⟨Nat.le_trans hc (h2 hne).1, (h2 hne).2⟩⟩
theorem BlocksIn.wider {a b c : Nat} {H : Heap} {v : Value} {bs : List Bk} (h : BlocksIn a b H v bs) (hc : c ≤ a) : BlocksIn c b H v bs := by
  obtain ⟨id, h1, h2⟩ := h; exact ⟨id, h1, fun hne => ⟨Nat.le_trans hc (h2 hne).1, (h2 hne).2⟩⟩

theorem markSys_ok {a b : Nat} {H : Heap} {v : Value} {p : Int} {bs : List Bk} {k : Int} (h : BlocksIn a b H v bs) (hk0 : 0 ≤ k) (hk : k ≤ 1000000000) (Post : Value → Heap → Prop)
    (hP : ∀ H', Same (Span a b) H H' → MarkIn 3 a b H' v k bs.length → Post (.int .i64 (k + (bs.length * 3 : Nat))) H') : ACalls Try.prog 27 [sysV p v, .int .i64 k] H Post := by
  obtain ⟨id, ⟨rfl, h1, h2⟩, h3⟩ := h
  refine markSystem_ok h1 h2 hk0 hk _ fun H' hs ha => hP H' (hs.mono fun j _ ⟨hne, e⟩ => e ▸ h3 hne) ⟨id, rfl, ha, h2, fun hn => h3 (by rintro rfl; simp at hn)⟩
theorem heldSys_ok {a b : Nat} {H : Heap} {v : Value} {p : Int} {n : Nat} {k : Int} (h : MarkIn 3 a b H v k n) (hk0 : 0 ≤ k) (hk : k ≤ 1000000000) (Post : Value → Heap → Prop)
    (hP : ∀ H', H <+: H' → Post (.int .i64 (k + (n * 3 : Nat))) H') : ACalls Try.prog 28 [sysV p v, .int .i64 k] H Post := by
  obtain ⟨id, rfl, h1, h2, h3⟩ := h
  exact heldSystem_ok h1 h2 hk0 hk _ hP

end Go.Proofs.Ytdfeoccjllljiaa
end

section
/- Common blocks: both sides. -/
set_option linter.all false
set_option maxRecDepth 20000
namespace Go.Proofs.Ytdfeoccjllljiaa
open Go.Ab

theorem infoInt : (Try.prog.info? 2).map (·.size) = some 1 := by kernel_rfl
theorem intsOf3 (a b c : Int) : intsOf .i64 [.int .i64 a, .int .i64 b, .int .i64 c] = some [a, b, c] := by simp [intsOf]
attribute [go_sem] infoInt intsOf3

theorem Bk.eq3 (b d : Bk) : b = d ↔ b.a = d.a ∧ b.b = d.b ∧ b.c = d.c := by
  obtain ⟨b1, b2, b3⟩ := b; obtain ⟨d1, d2, d3⟩ := d; simp

/-- Membership, as a Boolean. -/
def memB (bs : List Bk) (b : Bk) : Bool := decide (b ∈ bs)

/-- Where a thing stands first in a list, or -1. -/
def IdxIs {α : Type} (xs : List α) (x : α) (n : Int) : Prop := (n = -1 ∧ x ∉ xs) ∨ ∃ s : Nat, n = s ∧ xs[s]? = some x ∧ x ∉ xs.take s

theorem IdxIs.pos {α : Type} {xs : List α} {x : α} {n : Int} (h : IdxIs xs x n) : 0 ≤ n ↔ x ∈ xs := by
  rcases h with ⟨rfl, h⟩ | ⟨s, rfl, h, _⟩
  · constructor
    · intro hh; omega
    · intro hh; exact absurd hh h
  · exact ⟨fun _ => List.mem_of_getElem? h, fun _ => by omega⟩

theorem slicesIndexB_ok {H : Heap} {u : Value} {bs : List Bk} {b : Bk} (hu : BlocksAt H u bs) (Post : Value → Heap → Prop) (h : ∀ H' n, H <+: H' → IdxIs bs b n → Post (.int .i64 n) H') :
    ACalls Try.prog 176 [u, b.val] H Post := by
  obtain ⟨i, o, rfl, h1, h2⟩ := hu
  refine acalls_vc (rs := [.tmp 4]) Try.func176 rfl rfl Try.ntmps176 rfl rfl ?_
  simp (maxSteps := 1000000) [go_sem, Bk.val]
  have hp0 : H <+: H ++ [⟨[.int .i64 b.a, .int .i64 b.b, .int .i64 b.c], true, true⟩] := List.prefix_append _ _
  have hx0 := Holds.last H [.int .i64 b.a, .int .i64 b.b, .int .i64 b.c]
  generalize H ++ [(⟨[.int .i64 b.a, .int .i64 b.b, .int .i64 b.c], true, true⟩ : Blk)] = H0 at hp0 hx0 ⊢
  obtain ⟨e0, e1, e2, e3⟩ := hx0.bk
  refine AWp.loopVc (fun s : Nat => [(0, lv 3 i o bs.length), (3, .pointer (some ⟨H.length, 0, none⟩)), (7, .int .i64 bs.length), (8, .int .i64 s)])
    (fun s H' => s ≤ bs.length ∧ H' = H0 ∧ b ∉ bs.take s) (fun s => bs.length - s) 0 ?_ ?_ ?_
  · simp [upF, Fr.get, Up.refl]
  · exact ⟨by omega, rfl, by simp⟩
  · rintro K s H' ⟨hs, rfl, hf⟩ hK
    by_cases hlt : s < bs.length
    · have hbs : bs[s]? = some bs[s] := List.getElem?_eq_getElem hlt
      have c1 := (h1.pre hp0).bk hbs
      simp only [Bk.cells] at c1
      have hw_s : IntKind.i64.wrap ((s : Int) + 1) = (s : Int) + 1 := i64w (by omega) (by omega)
      simp (maxSteps := 1000000) [go_sem, hlt]
      refine AWp.draw mixed [(0, false), (1, false), (2, false), (3, false), (4, false), (5, false)] (by kernel_rfl) ?_
      simp (maxSteps := 1000000) [go_sem, hlt, c1, e0, hw_s]
      refine condK_intro (fun hh => ?_) (fun hh => ?_)
      · have he : b = bs[s] := (Bk.eq3 _ _).2 (by simpa using hh)
        exact h H' s hp0 (.inr ⟨s, rfl, by rw [hbs, ← he], hf⟩)
      · have he : b ≠ bs[s] := fun e => by have := (Bk.eq3 _ _).1 e; simp [this.1, this.2.1, this.2.2] at hh
        refine hK (s + 1) _ _ (by omega) (by simp [upF, Fr.get, Up.refl]) ⟨by omega, rfl, ?_⟩
        rw [List.take_succ_eq_append_getElem hlt, List.mem_append]
        rintro (hh | hh)
        · exact hf hh
        · simp at hh; exact he hh
    · have : s = bs.length := by omega
      subst this
      rw [List.take_length] at hf
      simp (maxSteps := 1000000) [go_sem]
      exact h H' (-1) hp0 (.inl ⟨rfl, hf⟩)

theorem slicesContainsB_ok {H : Heap} {u : Value} {bs : List Bk} {b : Bk} (hu : BlocksAt H u bs) (Post : Value → Heap → Prop) (h : ∀ H', H <+: H' → Post (.bool (memB bs b)) H') :
    ACalls Try.prog 145 [u, b.val] H Post := by
  refine acalls_vc (rs := [.tmp 4]) Try.func145 rfl rfl Try.ntmps145 rfl rfl ?_
  simp (maxSteps := 1000000) [go_sem, Bk.val]
  have hp0 : H <+: H ++ [⟨[.int .i64 b.a, .int .i64 b.b, .int .i64 b.c], true, true⟩] := List.prefix_append _ _
  refine slicesIndexB_ok (b := b) (hu.pre hp0) _ ?_
  intro H' n hp hn
  have e : decide (0 ≤ n) = memB bs b := by simp only [memB, hn.pos]
  simp (maxSteps := 1000000) [go_sem, e]
  exact h H' (hp0.trans hp)

end Go.Proofs.Ytdfeoccjllljiaa
end

section
/- Free blocks: both sides. -/
set_option linter.all false
set_option maxRecDepth 20000
namespace Go.Proofs.Ytdfeoccjllljiaa
open Go.Ab

/-- A function value that tells of blocks, with what it bears. -/
def TellsB (g : FuncId) (fs bs : List Value) (Q : Bk → Prop) (P : Bk → Bool) (H : Heap) : Prop :=
  ∀ (H' : Heap) (b : Bk) (Post : Value → Heap → Prop), H <+: H' → Q b → (∀ H'', H' <+: H'' → Post (.bool (P b)) H'') → ACalls Try.prog g (fs ++ b.val :: bs) H' Post

theorem triples_ok {H : Heap} {v : Nat} {g : FuncId} {fs bs : List Value} {P : Bk → Bool} (hv : v ≤ 15) (hf : TellsB g fs bs (fun b => b ∈ triples v) P H) (Post : Value → Heap → Prop)
    (h : ∀ H' w, H <+: H' → BlocksIn H.length H'.length H' w ((triples v).filter P) → Post w H') :
    ACalls Try.prog 83 [.int .i64 v, .func (.func g) fs.toArray bs.toArray] H Post := by
  refine ACalls.res ?_
  refine acalls_vc (rs := [.tmp 4]) Try.func83 rfl rfl Try.ntmps83 rfl rfl ?_
  simp (maxSteps := 1000000) [go_sem]
  refine AWp.addGhost ?_
  have hb0 := Bl.ghost 3 H
  generalize H ++ [(⟨[], false, false⟩ : Blk)] = H0 at hb0 ⊢
  have hmem : ∀ {a b c : Nat}, a < b → b < c → c < v → (⟨a, b, c⟩ : Bk) ∈ triples v := by
    intro a b c h1 h2 h3
    simp only [triples, trip0, trip1, trip2, List.mem_flatMap, List.mem_map, mem_upTo]
    exact ⟨a, by omega, b, by omega, c, by omega, rfl⟩
  have hle2 : ∀ a b k : Nat, (trip2 v a b k).length ≤ k := by intro a b k; rw [trip2, List.length_map, upTo_length]; omega
  have hle1 : ∀ a k : Nat, (trip1 v a k).length ≤ k * 15 := by
    intro a k
    induction k with
    | zero => simp [trip1, upTo_self]
    | succ k ih =>
      by_cases hak : a + 1 ≤ k
      · rw [trip1_succ hak, List.length_append]; have := hle2 a k v; omega
      · have : trip1 v a (k + 1) = [] := by unfold trip1; rw [upTo_self (by omega)]; rfl
        rw [this]; simp
  have hle0 : ∀ k : Nat, k ≤ 15 → (trip0 v k).length ≤ k * 225 := by
    intro k hk
    induction k with
    | zero => simp [trip0, upTo_self]
    | succ k ih => rw [trip0_succ, List.length_append]; have := ih (by omega); have := hle1 k v; omega
  -- a list that grows
  refine AWp.loopVc (St := Nat × Nat × List Bk) (fun s => [(0, .int .i64 v), (1, .func (.func g) fs.toArray bs.toArray), (5, lv 3 s.2.1 0 s.2.2.length), (9, .int .i64 v), (10, .int .i64 s.1)])
    (fun s H' => s.1 ≤ v ∧ s.2.2 = (trip0 v s.1).filter P ∧ Bl 3 H H' s.2.1 (tri s.2.2) s.2.2.length) (fun s => v - s.1) (0, H.length, []) ?_ ?_ ?_
  · simp [upF, Fr.get, Up.refl, Up.nil]
  · exact ⟨by simp, by simp [trip0_start], by simpa [tri] using hb0⟩
  · rintro K ⟨a, id, acc⟩ H' ⟨ha, hacc, hbl⟩ hK
    simp only at ha hacc hbl
    by_cases hlt : a < v
    · have hw_a : IntKind.i64.wrap ((a : Int) + 1) = (a : Int) + 1 := i64w (by omega) (by omega)
      simp (maxSteps := 1000000) [go_sem, hlt, hw_a]
      refine AWp.loopVc (St := Nat × Nat × List Bk) (fun s => [(0, .int .i64 v), (1, .func (.func g) fs.toArray bs.toArray), (5, lv 3 s.2.1 0 s.2.2.length), (6, .int .i64 a), (7, .int .i64 s.1), (9, .int .i64 v), (10, .int .i64 a)])
        (fun s H' => a + 1 ≤ s.1 ∧ s.1 ≤ v ∧ s.2.2 = (trip0 v a ++ trip1 v a s.1).filter P ∧ Bl 3 H H' s.2.1 (tri s.2.2) s.2.2.length) (fun s => v - s.1) (a + 1, id, acc) ?_ ?_ ?_
      · simp [upF, Fr.get, Up.refl]
      · exact ⟨by simp, by simp only; omega, by simp [trip1_start, hacc], hbl⟩
      · rintro K2 ⟨b, id2, acc2⟩ H2 ⟨hab, hb, hacc2, hbl2⟩ hK2
        simp only at hab hb hacc2 hbl2
        by_cases hlt2 : b < v
        · have hw_b : IntKind.i64.wrap ((b : Int) + 1) = (b : Int) + 1 := i64w (by omega) (by omega)
          simp (maxSteps := 1000000) [go_sem, hlt2, hw_b]
          refine AWp.loopVc (St := Nat × Nat × List Bk) (fun s => [(0, .int .i64 v), (1, .func (.func g) fs.toArray bs.toArray), (5, lv 3 s.2.1 0 s.2.2.length), (6, .int .i64 a), (7, .int .i64 b), (8, .int .i64 s.1), (9, .int .i64 v), (10, .int .i64 a)])
            (fun s H' => b + 1 ≤ s.1 ∧ s.1 ≤ v ∧ s.2.2 = (trip0 v a ++ trip1 v a b ++ trip2 v a b s.1).filter P ∧ Bl 3 H H' s.2.1 (tri s.2.2) s.2.2.length) (fun s => v - s.1) (b + 1, id2, acc2) ?_ ?_ ?_
          · simp [upF, Fr.get, Up.refl]
          · exact ⟨by simp, by simp only; omega, by simp [trip2_start, hacc2], hbl2⟩
          · rintro K3 ⟨c, id3, acc3⟩ H3 ⟨hbc, hc, hacc3, hbl3⟩ hK3
            simp only at hbc hc hacc3 hbl3
            by_cases hlt3 : c < v
            · have hw_c : IntKind.i64.wrap ((c : Int) + 1) = (c : Int) + 1 := i64w (by omega) (by omega)
              have hlen : acc3.length ≤ 10000 := by
                rw [hacc3]
                refine Nat.le_trans (List.length_filter_le _ _) ?_
                simp only [List.length_append]
                have := hle0 a (by omega); have := hle1 a b; have := hle2 a b c
                omega
              simp (maxSteps := 1000000) [go_sem, hlt3]
              refine hf H3 ⟨a, b, c⟩ _ hbl3.1 (hmem (by omega) (by omega) hlt3) ?_
              intro H4 hp4
              have hbl4 := hbl3.pre hp4
              have hsn : ∀ l : List Bk, (l ++ trip2 v a b (c + 1)).filter P = (l ++ trip2 v a b c).filter P ++ (if P ⟨a, b, c⟩ then [⟨a, b, c⟩] else []) := by
                intro l
                rw [trip2_succ hbc, ← List.append_assoc, List.filter_append (_ ++ _)]
                congr 1
                cases hP : P ⟨a, b, c⟩ <;> simp [hP]
              cases hP : P ⟨a, b, c⟩ with
              | false =>
                simp (maxSteps := 1000000) [go_sem, hw_c]
                exact hK3 (c + 1, id3, acc3) _ _ (by simp only; omega) (by simp [upF, Fr.get, Up.refl]) ⟨by simp only; omega, by simp only; omega, by simp only [hsn, hP, hacc3]; simp, hbl4⟩
              | true =>
                obtain ⟨hsrc, H5, hap, hbl5⟩ := hbl4.push (xs := (⟨a, b, c⟩ : Bk).cells) (by omega) rfl
                simp only [Bk.cells] at hsrc hap hbl5
                simp (maxSteps := 1000000) [go_sem, hw_c, hsrc, hap]
                refine andK_intro (by omega) (hK3 (c + 1, H4.length + 1, acc3 ++ [⟨a, b, c⟩]) _ _ (by simp only; omega) (by simp [upF, Fr.get, Up.refl]) ⟨by simp only; omega, by simp only; omega, by simp only [hsn, hP, hacc3]; simp, ?_⟩)
                simp only [List.length_append, List.length_singleton, tri_append, tri_one, Bk.cells]
                exact hbl5
            · have : c = v := by omega
              subst this
              simp (maxSteps := 1000000) [go_sem, hw_b]
              exact hK2 (b + 1, id3, acc3) _ _ (by simp only; omega) (by simp [upF, Fr.get, Up.refl]) ⟨by simp only; omega, by simp only; omega, by simp only [trip1_succ hab, ← List.append_assoc]; exact hacc3, hbl3⟩
        · have : b = v := by omega
          subst this
          simp (maxSteps := 1000000) [go_sem, hw_a]
          exact hK (a + 1, id2, acc2) _ _ (by simp only; omega) (by simp [upF, Fr.get, Up.refl]) ⟨by simp only; omega, by simp only [trip0_succ]; exact hacc2, hbl2⟩
    · have : a = v := by omega
      subst this
      simp (maxSteps := 1000000) [go_sem]
      have hlen : acc.length ≤ 10000 := by
        rw [hacc]
        refine Nat.le_trans (List.length_filter_le _ _) ?_
        have := hle0 a (by omega)
        omega
      refine ⟨_, Up.refl _ _, h H' _ hbl.1 ?_⟩
      have := OwnBlocks.inn (OwnBlocks.of_ol hbl.2.1 (by omega)) hbl.2.2
      rw [hacc] at this
      rw [hacc]
      exact this

end Go.Proofs.Ytdfeoccjllljiaa
end

section
/- Regions whose order is open, where old blocks alone are read: what stands from L on may be changed. No statement of the seat is proved here; it holds for every program. -/
set_option linter.all false
namespace Go.Ab
open Go.RowKit (Below)

/-- The block that a value leads to. -/
def blkOf : Value → Option Nat
  | .pointer (some ⟨i, _, _⟩) => some i
  | .slice (some ⟨i, _, _⟩) _ _ => some i
  | _ => none
/-- The block that an operation may read. -/
def rdBlk (o : Op) (fr : Fr) : Option Nat :=
  match o with
  | .load _ x => (ev fr x).bind blkOf
  | .convert _ _ x => (ev fr x).bind blkOf
  | .slice _ x _ _ _ => (ev fr x).bind blkOf
  | _ => none
def offL (L : Nat) (o : Op) (fr : Fr) : Prop := ∀ i, rdBlk o fr = some i → i < L
/-- The blocks ahead of L stay. -/
def KeepL (L : Nat) (H h : Heap) : Prop := ∀ i, i < L → h[i]? = H[i]?

section
variable {P : Program} {N : Nat} {o : Oper} {fr fr' : Fr} {H : Heap} {K : Fr → Heap → Prop}

end

def eKX (L : Nat) (fl : Bool) (H : Heap) (k : Fr → Heap → Prop) (f : Fr) (h : Heap) : Prop :=
  match fl with
  | true => andK (KeepL L H h) (k f h)
  | false => k f h

def vEX (P : Program) (N : Nat) (ops : Array Oper) (L : Nat) (K : Fr → Heap → Prop) : List (Nat × Bool) → Fr → Heap → Prop
  | [], fr, H => K fr H
  | (i, fl) :: l, fr, H => match ops[i]? with
    | none => False
    | some o => match isR o.op with
      | true => offL L o.op fr ∧ vstep P N ops o (vEX P N ops L K l) fr H
      | false => vstep P N ops o (eKX L fl H (vEX P N ops L K l)) fr H

section
variable {P : Program} {N : Nat} {ops : Array Oper} {L : Nat} {K : Fr → Heap → Prop}

/-! The words of such an order, for simp. -/

def vEXK (P : Program) (N : Nat) (ops : Array Oper) (L : Nat) (K : Fr → Heap → Prop) (l : List (Nat × Bool)) (fr : Fr) (H : Heap) : Prop := vEX P N ops L K l fr H
def eKXK (P : Program) (N : Nat) (ops : Array Oper) (L : Nat) (K : Fr → Heap → Prop) (l : List (Nat × Bool)) (fl : Bool) (H : Heap) (fr : Fr) (H' : Heap) : Prop :=
  match fl with
  | true => andK (KeepL L H H') (vEX P N ops L K l fr H')
  | false => vEX P N ops L K l fr H'
def offB (L : Nat) (o : Op) (fr : Fr) : Prop := match rdBlk o fr with
  | some i => i < L
  | none => True
theorem offB_iff {L : Nat} {o : Op} {fr : Fr} : offB L o fr = offL L o fr := by
  unfold offB offL
  cases rdBlk o fr with
  | none => simp
  | some i => simp
def vEXo (P : Program) (N : Nat) (ops : Array Oper) (L : Nat) (K : Fr → Heap → Prop) (l : List (Nat × Bool)) (fl : Bool) (fr : Fr) (H : Heap) (o : Oper) : Prop :=
  match isR o.op with
  | true => andK (offB L o.op fr) (vstep P N ops o (vEXK P N ops L K l) fr H)
  | false => vstep P N ops o (eKXK P N ops L K l fl H) fr H

theorem vEX_nil (K : Fr → Heap → Prop) (fr : Fr) (H : Heap) : vEX P N ops L K [] fr H = K fr H := rfl
theorem vEX_cons (K : Fr → Heap → Prop) (i : Nat) (fl : Bool) (l : List (Nat × Bool)) (fr : Fr) (H : Heap) : vEX P N ops L K ((i, fl) :: l) fr H = bindO ops[i]? (vEXo P N ops L K l fl fr H) := by
  have e : eKX L fl H (vEX P N ops L K l) = eKXK P N ops L K l fl H := by
    funext f h
    cases fl <;> rfl
  simp only [vEX]
  cases ops[i]? with
  | none => simp [bindO]
  | some o =>
    simp only [bindO_some, vEXo]
    cases isR o.op with
    | true => rw [offB_iff]; rfl
    | false => simp only [e]

attribute [go_sem] vEXK eKXK vEXo vEX_nil vEX_cons offB rdBlk blkOf

end
end Go.Ab
end

section
/- Appending whole lists to a list that the call holds alone; slices.Clone, Grow and Concat over blocks. -/
set_option linter.all false
set_option maxRecDepth 20000
namespace Go.Ab

/-- A slice of n elements that the call holds alone: nil, empty, or a block of its own, from L on. -/
def OE (e L : Nat) (H : Heap) (v : Value) (cs : List Value) (n : Nat) : Prop :=
  cs.length = n * e ∧ ((n = 0 ∧ v = .slice none 0 0) ∨ (∃ id, n = 0 ∧ L ≤ id ∧ v = .slice (some ⟨id, 0, none⟩) 0 0 ∧ H[id]? = some ⟨[], true, true⟩) ∨
    ∃ id, L ≤ id ∧ v = lv e id 0 n ∧ ((n = 0 ∧ (ghostAt H id = true ∨ ownAt H id = true)) ∨ H[id]? = some ⟨cs, true, true⟩))

theorem OE.nil (e L : Nat) (H : Heap) : OE e L H (.slice none 0 0) [] 0 := ⟨by simp, .inl ⟨rfl, rfl⟩⟩
theorem OE.empty {e L : Nat} {H : Heap} {id : Nat} (hL : L ≤ id) (h : H[id]? = some ⟨[], true, true⟩) : OE e L H (.slice (some ⟨id, 0, none⟩) 0 0) [] 0 := ⟨by simp, .inr (.inl ⟨id, rfl, hL, rfl, h⟩)⟩
theorem OE.len {e L : Nat} {H : Heap} {v : Value} {cs : List Value} {n : Nat} (h : OE e L H v cs n) : lenV v = n := by
  rcases h.2 with ⟨rfl, rfl⟩ | ⟨id, rfl, _, rfl, _⟩ | ⟨id, _, rfl, _⟩ <;> rfl
theorem OE.one {e L : Nat} {H : Heap} {v : Value} {cs : List Value} {n : Nat} (h : OE e L H v cs n) : v.oneCell' = true := by
  rcases h.2 with ⟨rfl, rfl⟩ | ⟨id, rfl, _, rfl, _⟩ | ⟨id, _, rfl, _⟩ <;> rfl
theorem OE.shape {e L : Nat} {H : Heap} {v : Value} {cs : List Value} {n : Nat} (h : OE e L H v cs n) : ∃ a, v = .slice a n n := by
  rcases h.2 with ⟨rfl, rfl⟩ | ⟨id, rfl, _, rfl, _⟩ | ⟨id, _, rfl, _⟩ <;> exact ⟨_, rfl⟩
theorem OE.keep {e L : Nat} {H H' : Heap} {S : Nat → Prop} (hs : Same S H H') (hS : ∀ j, L ≤ j → ¬ S j) {v : Value} {cs : List Value} {n : Nat} (h : OE e L H v cs n) : OE e L H' v cs n := by
  have keep : ∀ {id : Nat} {b : Blk}, L ≤ id → H[id]? = some b → H'[id]? = some b := fun hL hb => hs.get hb (hS _ hL)
  refine ⟨h.1, ?_⟩
  rcases h.2 with h | ⟨id, h1, h2, h3, h4⟩ | ⟨id, h1, h2, h3⟩
  · exact .inl h
  · exact .inr (.inl ⟨id, h1, h2, h3, keep h2 h4⟩)
  · refine .inr (.inr ⟨id, h1, h2, ?_⟩)
    rcases h3 with ⟨h0, h3⟩ | h3
    · refine .inl ⟨h0, ?_⟩
      rcases h3 with h3 | h3
      · obtain ⟨b, hb, h5, h6⟩ := ghostAt_inv h3
        left; simp [ghostAt, keep h1 hb, h5, h6]
      · obtain ⟨b, hb, h5, h6⟩ := ownAt_inv h3
        right; simp [ownAt, keep h1 hb, h5, h6]
    · exact .inr (keep h1 h3)
theorem OE.pre {e L : Nat} {H H' : Heap} (hp : H <+: H') {v : Value} {cs : List Value} {n : Nat} (h : OE e L H v cs n) : OE e L H' v cs n := h.keep (S := fun _ => False) (Same.of_prefix hp) (fun _ _ h => h)

theorem KeepL.of_prefix {L : Nat} {H H' : Heap} (hp : H <+: H') (hL : L ≤ H.length) : KeepL L H H' := by
  intro i hi
  obtain ⟨t, rfl⟩ := hp
  exact List.getElem?_append_left (by omega)
theorem KeepL.refl (L : Nat) (H : Heap) : KeepL L H H := fun _ _ => rfl

theorem OE.append {e L : Nat} {H : Heap} {v : Value} {cs : List Value} {n : Nat} (h : OE e L H v cs n) (he : 0 < e) (hL : L ≤ H.length) {m : Nat} {news : List Value} (hn : news.length = m * e) :
    ∃ v' H', appendH H e v m news = some (v', H') ∧ OE e L H' v' (cs ++ news) (n + m) ∧ KeepL L H H' ∧ H.length ≤ H'.length := by
  by_cases hm : m = 0
  · subst hm
    have : news = [] := List.eq_nil_of_length_eq_zero (by simpa using hn)
    subst this
    obtain ⟨a, rfl⟩ := h.shape
    exact ⟨.slice a n n, H, by simp [appendH], by simpa using h, KeepL.refl _ _, Nat.le_refl _⟩
  · have new : ∀ cs' : List Value, (H ++ [(⟨cs', true, true⟩ : Blk)])[H.length]? = some ⟨cs', true, true⟩ := by intro cs'; simp
    rcases h.2 with ⟨rfl, rfl⟩ | ⟨id, rfl, h1, rfl, h2⟩ | ⟨id, h1, rfl, h2⟩
    · have : cs = [] := List.eq_nil_of_length_eq_zero (by simpa using h.1)
      subst this
      refine ⟨lv e H.length 0 m, H ++ [⟨news, true, true⟩], by simp [appendH, hm], ⟨by simpa using hn, .inr (.inr ⟨H.length, hL, by simp, .inr (new _)⟩)⟩, KeepL.of_prefix (List.prefix_append _ _) hL, by simp⟩
    · have : cs = [] := List.eq_nil_of_length_eq_zero (by simpa using h.1)
      subst this
      have hc : cellsAt H id 0 0 = some [] := by rw [cellsAt_of h2 rfl (by simp)]; simp
      refine ⟨lv e H.length 0 m, H ++ [⟨news, true, true⟩], by simp [appendH, hm, hc], ⟨by simpa using hn, .inr (.inr ⟨H.length, hL, by simp, .inr (new _)⟩)⟩, KeepL.of_prefix (List.prefix_append _ _) hL, by simp⟩
    · have kill : ∀ cs' : List Value, KeepL L H (H.kill id ++ [⟨cs', true, true⟩]) := by
        intro cs' i hi
        rw [List.getElem?_append_left (by rw [Heap.kill_length]; omega)]
        unfold Heap.kill
        split
        · exact List.getElem?_set_ne (by omega)
        · rfl
      have newk : ∀ cs' : List Value, (H.kill id ++ [(⟨cs', true, true⟩ : Blk)])[H.length]? = some ⟨cs', true, true⟩ := by
        intro cs'
        rw [List.getElem?_append_right (by rw [Heap.kill_length]; exact Nat.le_refl _), Heap.kill_length]; simp
      rcases h2 with ⟨rfl, h2⟩ | h2
      · have : cs = [] := List.eq_nil_of_length_eq_zero (by simpa using h.1)
        subst this
        by_cases hg : ghostAt H id = true
        · refine ⟨lv e H.length 0 m, H ++ [⟨news, true, true⟩], by simp [appendH, hm, hg, he], ⟨by simpa using hn, .inr (.inr ⟨H.length, hL, by simp, .inr (new _)⟩)⟩, KeepL.of_prefix (List.prefix_append _ _) hL, by simp⟩
        · have ho := h2.resolve_left hg
          obtain ⟨b, hb, hbl, hbo⟩ := ownAt_inv ho
          have hc : cellsAt H id 0 0 = some [] := by rw [cellsAt_of hb hbl (by simp)]; simp
          exact ⟨lv e H.length 0 m, H.kill id ++ [⟨news, true, true⟩], by simp [appendH, hm, hg, ho, hc], ⟨by simpa using hn, .inr (.inr ⟨H.length, hL, by simp, .inr (newk _)⟩)⟩, kill _, by simp [Heap.kill_length]⟩
      · have hc : cellsAt H id 0 (n * e) = some cs := by rw [← h.1, cellsAt_of h2 rfl (by simp)]; simp
        have hown : ownAt H id = true := by simp [ownAt, h2]
        have hng : ghostAt H id = false := by simp [ghostAt, h2]
        exact ⟨lv e H.length 0 (n + m), H.kill id ++ [⟨cs ++ news, true, true⟩], by simp [appendH, hm, hown, hng, hc], ⟨by simp [h.1, hn, Nat.add_mul], .inr (.inr ⟨H.length, hL, rfl, .inr (newk _)⟩)⟩, kill _, by simp [Heap.kill_length]⟩

theorem KeepL.prefix {L : Nat} {H0 H H' : Heap} (hp : H0 <+: H) (hL : H0.length ≤ L) (hk : KeepL L H H') (hl : H.length ≤ H'.length) : H0 <+: H' :=
  (show Same (fun j => L ≤ j) H0 H' from (Same.of_prefix hp).trans ⟨hl, fun j _ hj => hk j (by omega)⟩).prefix (by intro j hj h; omega)

theorem At.src {H : Heap} {i o n : Nat} {cs : List Value} {e : Nat} {s : Option Nat} (h : At H i o cs) (hn : cs.length = n * e) (he : 0 < e) (c : Nat) : srcCells H e (.slice (some ⟨i, o, s⟩) n c) = some cs := by
  simp only [srcCells]
  by_cases h0 : n = 0
  · rw [if_pos h0]; subst h0; simp at hn; rw [hn]
  · rw [if_neg h0, ← hn]
    refine h.resolve_left (fun hc => ?_)
    have hpos : 0 < n * e := Nat.mul_pos (by omega) he
    rw [hc, List.length_nil] at hn
    omega

end Go.Ab
namespace Go.Proofs.Ytdfeoccjllljiaa
open Go.Ab

theorem _root_.Go.Ab.OE.blocks {L : Nat} {H : Heap} {v : Value} {bs : List Bk} (h : OE 3 L H v (tri bs) bs.length) (hl : bs.length ≤ 140737488355328) : ∃ w, Up H v w ∧ BlocksIn L H.length H w bs := by
  rcases h.2 with ⟨h0, rfl⟩ | ⟨id, h0, h1, rfl, h2⟩ | ⟨id, h1, rfl, h2⟩
  · obtain rfl := List.eq_nil_of_length_eq_zero h0
    exact ⟨_, Up.nil _ 0 0 3, BlocksIn.nil _ _ _⟩
  · obtain rfl := List.eq_nil_of_length_eq_zero h0
    exact ⟨_, Up.ex0 _ _ _ 3 0 0, BlocksIn.nil _ _ _⟩
  · refine ⟨_, Up.refl _ _, id, ⟨rfl, ?_, hl⟩, fun hne => ?_⟩
    · rcases h2 with ⟨h0, _⟩ | h2
      · exact .inl (List.eq_nil_of_length_eq_zero h0)
      · exact .inr h2
    · rcases h2 with ⟨h0, _⟩ | h2
      · exact absurd (List.eq_nil_of_length_eq_zero h0) hne
      · exact ⟨h1, (List.getElem?_eq_some_iff.1 h2).1⟩
theorem _root_.Go.Ab.OE.ints {L : Nat} {H : Heap} {v : Value} {xs : List Int} (h : OE 1 L H v (ints xs) xs.length) (hl : xs.length ≤ 140737488355328) : ∃ w, Up H v w ∧ IntsIn L H.length H w xs := by
  rcases h.2 with ⟨h0, rfl⟩ | ⟨id, h0, h1, rfl, h2⟩ | ⟨id, h1, rfl, h2⟩
  · obtain rfl := List.eq_nil_of_length_eq_zero h0
    exact ⟨_, Up.nil _ 0 0 1, IntsIn.nil _ _ _⟩
  · obtain rfl := List.eq_nil_of_length_eq_zero h0
    exact ⟨_, Up.ex0 _ _ _ 1 0 0, IntsIn.nil _ _ _⟩
  · refine ⟨_, Up.refl _ _, id, ⟨rfl, ?_, hl⟩, fun hne => ?_⟩
    · rcases h2 with ⟨h0, _⟩ | h2
      · exact .inl (List.eq_nil_of_length_eq_zero h0)
      · exact .inr h2
    · rcases h2 with ⟨h0, _⟩ | h2
      · exact absurd (List.eq_nil_of_length_eq_zero h0) hne
      · exact ⟨h1, (List.getElem?_eq_some_iff.1 h2).1⟩

/-- A system without the block k. -/
def without (bs : List Bk) (k : Nat) : List Bk := bs.take k ++ bs.drop (k + 1)

theorem zeroSys {H : Heap} : Up H (.agg #[.int .i64 0, .slice none 0 0]) (sysV 0 (lv 3 0 0 0)) := Up.agg ⟨Up.refl _ _, Up.nil _ _ _ _, trivial⟩

end Go.Proofs.Ytdfeoccjllljiaa
end

section
/- A test against nil whose answer is open; regions by their operations' meaning. No statement of the seat is proved here; it holds for every program. -/
set_option linter.all false
namespace Go.Ab
open Go.RowKit (Below)

section
variable {P : Program} {N : Nat} {ops : Array Oper} {o : Oper} {fr : Fr} {H : Heap} {K : Fr → Heap → Prop}

/-- One operation of a region does its due. -/
def StepOK (P : Program) (N : Nat) (ops : Array Oper) (o : Oper) (K : Fr → Heap → Prop) (fr : Fr) (H : Heap) : Prop :=
  ∀ (B : Nat) (w0 : World) (ρ : Rho) (w : World) (a : Act) (next : Act → World → Prop) (Q : Exit → Act → World → Prop), R B w0 ρ H w → FR N ρ fr a →
    (∀ (ρ' : Rho) (fr' : Fr) (H' : Heap) (a' : Act) (w' : World), ρ <+: ρ' → K fr' H' → R B w0 ρ' H' w' → FR N ρ' fr' a' → next a' w') → opDue P ops o a w next Q

theorem StepOK.of_v (h : vstep P N ops o K fr H) : StepOK P N ops o K fr H :=
  fun B w0 ρ w a next Q hR hF hK => vstep_sound h hR hF Q hK
theorem StepOK.of_op (hg : o.guard = none) (h : OpOK P N o fr H K) : StepOK P N ops o K fr H := by
  intro B w0 ρ w a next Q hR hF hK
  unfold opDue
  have : Region.wanted o (yielded ops a.tmps) = true := by simp [Region.wanted, hg]
  rw [if_pos this]
  exact .inl (h B w0 ρ w a next Q hR hF hK)

def OpsOK (P : Program) (N : Nat) (ops : Array Oper) (K : Fr → Heap → Prop) : List Oper → Fr → Heap → Prop
  | [], fr, H => K fr H
  | o :: rest, fr, H => StepOK P N ops o (OpsOK P N ops K rest) fr H

theorem opsOK_sound {B : Nat} {w0 : World} {Q : Exit → Act → World → Prop} : ∀ (l : List Nat) (os : List Oper), l.map (ops[·]?) = os.map some → ∀ (fr : Fr) (H : Heap) (ρ : Rho) (w : World) (a : Act),
    OpsOK P N ops K os fr H → R B w0 ρ H w → FR N ρ fr a →
    (∀ (ρ' : Rho) (fr' : Fr) (H' : Heap) (a' : Act) (w' : World), ρ <+: ρ' → K fr' H' → R B w0 ρ' H' w' → FR N ρ' fr' a' → Q .normal a' w') → wpOps P ops Q l a w
  | [], [], _, fr, H, ρ, w, a, h, hR, hF, hK => hK ρ fr H a w (List.prefix_refl _) h hR hF
  | i :: l, o :: os, hl, fr, H, ρ, w, a, h, hR, hF, hK => by
    simp only [List.map_cons, List.cons.injEq] at hl
    rw [wpOps_cons hl.1]
    refine h B w0 ρ w a _ Q hR hF ?_
    intro ρ' fr' H' a' w' hp hk hR' hF'
    exact opsOK_sound l os hl.2 fr' H' ρ' w' a' hk hR' hF' (fun ρ'' fr'' H'' a'' w'' hp' => hK ρ'' fr'' H'' a'' w'' (hp.trans hp'))
  | [], _ :: _, hl, _, _, _, _, _, _, _, _, _ => by simp at hl
  | _ :: _, [], hl, _, _, _, _, _, _, _, _, _ => by simp at hl

theorem AWp.regionS {id : Nat} {Q : Exit → Fr → Heap → Prop} (h : OpsOK P N ops (Q .normal) ops.toList fr H) : AWp P N (.region id ops false) Q fr H :=
  fun B w0 ρ w a hR hF => wp_region (opsOK_sound (List.range ops.size) ops.toList (range_map_get ops) fr H ρ w a h hR hF
    (fun ρ' fr' H' a' w' h1 h2 h3 h4 => ⟨ρ', fr', H', h1, h3, h4, h2⟩))

/-- Whether an empty slice is nil may be open: then both answers are to be met. -/
theorem ok_eqlNil2 {ty ty' : TypeId} {x y : Operand} (ho : o.op = .binOp .eql ty x y ty') {te : TypeId} (ht : P.underlying ty = some (.slice te)) {a : Option Addr} {n c : Nat} (hx : ev fr x = some (.slice a n c)) (hy : ev fr y = some (.slice none 0 0))
    (hd : dstOK N o.dst) (hk : ∀ b : Bool, K (fr.put o.dst (.bool b)) H) : OpOK P N o fr H K :=
  opOK_same fun ρ w ac hF => by
    have hv := hF.ev hx
    have hyv : ac.eval y = .slice none 0 0 := by
      have := hF.ev hy
      generalize ac.eval y = cy at this
      cases this; rfl
    have hex : ∃ a' n' c', ac.eval x = .slice a' n' c' := by
      generalize ac.eval x = cx at hv
      cases hv with
      | sliceNil => exact ⟨_, _, _, rfl⟩
      | sliceEx => exact ⟨_, _, _, rfl⟩
      | sliceUnk => exact ⟨_, _, _, rfl⟩
      | sliceZero i o e a' => exact ⟨a', 0, 0, rfl⟩
    obtain ⟨a', n', c', he⟩ := hex
    have hg := run_eqGuard_plain (P := P) w .eql ty x y (.slice a' n' c') (.slice none 0 0) rfl
    have heq : (Op.equal ty (.slice a' n' c') (.slice none 0 0)).run P w = .ok a'.isNone w := run_equalIn_slNil w ht a' n' c' 9999
    exact ⟨.bool a'.isNone, .bool a'.isNone, by simp [execOp, ho, he, hyv, hg, binOp, heq], .bool _, hd, hk _⟩
end

end Go.Ab
end

section
/- Sets of points by their bits. -/
set_option linter.all false
set_option maxRecDepth 20000
set_option maxHeartbeats 4000000
namespace Go.Proofs.Ytdfeoccjllljiaa
open Go.Ab

/-- The bits of a list of points. -/
def maskL (xs : List Int) : Nat := xs.foldl (fun m x => m ||| 2 ^ x.toNat) 0
def bm (b : Bk) : Nat := maskL [b.a, b.b, b.c]
/-! The same, in the shape that a walk shows. -/
end Go.Proofs.Ytdfeoccjllljiaa
end

section
/- Colourings: the tests on both sides. -/
set_option linter.all false
set_option maxRecDepth 20000
set_option maxHeartbeats 8000000
namespace Go.Proofs.Ytdfeoccjllljiaa
open Go.Ab

/-- Where a list first has such a thing, or -1. -/
def IdxP {α : Type} (xs : List α) (P : α → Bool) (n : Int) : Prop := (n = -1 ∧ ∀ x ∈ xs, P x = false) ∨ ∃ (s : Nat) (x : α), n = s ∧ xs[s]? = some x ∧ P x = true ∧ ∀ y ∈ xs.take s, P y = false
theorem IdxP.pos {α : Type} {xs : List α} {P : α → Bool} {n : Int} (h : IdxP xs P n) : decide (0 ≤ n) = xs.any P := by
  rcases h with ⟨rfl, h⟩ | ⟨s, x, rfl, h, hP, _⟩
  · have : xs.any P = false := by rw [List.any_eq_false]; intro x hx; simp [h x hx]
    rw [this]; rfl
  · have : xs.any P = true := List.any_eq_true.2 ⟨x, List.mem_of_getElem? h, hP⟩
    rw [this]; simp

end Go.Proofs.Ytdfeoccjllljiaa
end

section
/- Independent sets: both sides. -/
set_option linter.all false
set_option maxRecDepth 20000
set_option maxHeartbeats 4000000
namespace Go.Proofs.Ytdfeoccjllljiaa
open Go.Ab

/-- No block lies in the set. -/
def inSet (m : Nat) (b : Bk) : Bool := decide (bm b &&& m = bm b)
def indep (bs : List Bk) (m : Nat) : Bool := bs.all fun b => !inSet m b

end Go.Proofs.Ytdfeoccjllljiaa
end
