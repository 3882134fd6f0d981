/- Part 9 of what the proof of the law FnBlocks rests on: contracts of functions of the program, for every argument that each names; no statement of the seat is proved here. -/
import Derived.Test.YtfnegaedkomcgaaGreatFnBlocksPart8

set_option linter.all false
set_option maxRecDepth 20000
set_option maxHeartbeats 8000000
section
namespace Go.Proofs.YtfnegaedkomcgaaGreat
open Go.Ab Go.Sort

theorem partEqB_ok {H : Heap} {id a b pivot n : Nat} {d : Array Bk} {lt : Bk -> Bk -> Bool} {g : FuncId} {fs cs : List Value} {Q : Bk -> Prop} (hA : Arr Bk.cells H id d) (hn : d.size = n) (hl : n <= 1048576) (hap : a <= pivot) (hpb : pivot < b) (hb : b <= n) (hQ : QA Q d)
    (hC : Cmp Tryz.prog Bk.val lt g fs cs Q id H) (Post : Value -> Heap -> Prop) (h : ∀ H', Same (fun k => k = id) H H' -> Arr Bk.cells H' id (partitionEqual lt d a b pivot).2 -> Post (.int .i64 ((partitionEqual lt d a b pivot).1 : Nat)) H') :
    ACalls Tryz.prog 178 [lv 3 id 0 n, .int .i64 a, .int .i64 b, .int .i64 pivot, .func (.func g) fs.toArray cs.toArray] H Post := by
  refine acalls_vc (rs := [.tmp 10]) Tryz.func178 rfl rfl Tryz.ntmps178 rfl rfl ?_
  obtain ⟨b1, hb1⟩ : ∃ b1, b1 = b - 1 := ⟨_, rfl⟩
  obtain ⟨a1, ha1⟩ : ∃ a1, a1 = a + 1 := ⟨_, rfl⟩
  have w0 : IntKind.i64.wrap ((b : Int) - 1) = (b1 : Int) := by rw [hb1, i64w (by omega) (by omega)]; omega
  have w1 : IntKind.i64.wrap ((a : Int) + 1) = (a1 : Int) := by rw [ha1, i64w (by omega) (by omega)]; omega
  have hi1 : a < d.size := by omega
  have hi2 : pivot < d.size := by omega
  have n1 : a < n := by omega
  have n2 : pivot < n := by omega
  have ca := hA.load Bk.cells_len hi1
  have cb := hA.load Bk.cells_len hi2
  obtain ⟨H5, H6, s1, s0, hA6, hS6, hl6⟩ := hA.swap Bk.cells_len Bk.cells_one hi1 hi2
  obtain ⟨x, hx⟩ : ∃ x, x = d[a]! := ⟨_, rfl⟩
  obtain ⟨y, hy⟩ : ∃ y, y = d[pivot]! := ⟨_, rfl⟩
  rw [<- hx] at ca s0
  rw [<- hy] at cb s1
  simp only [Bk.cells, Nat.mul_one, Row.val] at ca cb s0 s1
  have e0 : partitionEqual lt d a b pivot = partEqLoop lt a a1 b1 (swp d a pivot) := by rw [hb1, ha1]; rfl
  rw [e0] at h
  have hQ6 := hQ.swp hi1 hi2
  have hsz6 : (swp d a pivot).size = n := by rw [size_swp]; exact hn
  generalize swp d a pivot = d0 at *
  simp (maxSteps := 1000000) [go_sem]
  refine AWp.draw mixed [(0, false), (1, false), (2, false), (3, false), (4, false), (5, false), (6, false), (7, false), (8, false), (9, false), (10, false), (11, false), (12, false), (13, false), (14, false), (15, false)] (by kernel_rfl) ?_
  simp (maxSteps := 1000000) [go_sem, ca, cb, n1, n2, s1, s0, w0, w1]
  refine AWp.loopVc (St := Nat × Nat × Array Bk) (fun s => [(0, lv 3 id 0 n), (1, .int .i64 a), (4, .func (.func g) fs.toArray cs.toArray), (11, .int .i64 s.1), (12, .int .i64 s.2.1)])
    (fun s H' => a < s.1 /\ s.1 <= s.2.1 + 1 /\ s.2.1 < n /\ s.2.2.size = n /\ QA Q s.2.2 /\ Same (fun k => k = id) H H' /\ Arr Bk.cells H' id s.2.2 /\ partEqLoop lt a s.1 s.2.1 s.2.2 = partEqLoop lt a a1 b1 d0) (fun s => s.2.1 + 1 - s.1) (a1, b1, d0) ?_ ?_ ?_
  · simp [upF, Fr.get, Up.refl]
  · exact ⟨by simp only; omega, by simp only; omega, by simp only; omega, hsz6, hQ6, hS6, hA6, rfl⟩
  · rintro K0 ⟨i, j, d1⟩ H1 ⟨hai, hij, hjn, hsz, hQ1, hS1, hA1, hO⟩ hK0
    simp only at hai hij hjn hsz hQ1 hS1 hA1 hO
    obtain ⟨pv, hpv⟩ : ∃ pv, pv = d1[a]! := ⟨_, rfl⟩
    rw [partEqLoop_eq, <- hpv] at hO
    simp (maxSteps := 1000000) [go_sem]
    refine AWp.loopCut (St := Nat) (St' := Unit) 2 (fun s => [(0, lv 3 id 0 n), (1, .int .i64 a), (4, .func (.func g) fs.toArray cs.toArray), (11, .int .i64 s), (12, .int .i64 j)])
      (fun s H2 => a < s /\ s <= j + 1 /\ Same (fun k => k = id) H H2 /\ Arr Bk.cells H2 id d1 /\ scanUp (fun x => !lt pv x) d1 j s = scanUp (fun x => !lt pv x) d1 j i) (fun s => j + 1 - s) i
      (fun _ => [(0, lv 3 id 0 n), (1, .int .i64 a), (4, .func (.func g) fs.toArray cs.toArray), (11, .int .i64 ((scanUp (fun x => !lt pv x) d1 j i : Nat) : Int)), (12, .int .i64 j)])
      (fun _ H2 => Same (fun k => k = id) H H2 /\ Arr Bk.cells H2 id d1) ?_ ?_ ?_ ?_
    · simp [upF, Fr.get, Up.refl]
    · exact ⟨by omega, by omega, hS1, hA1, rfl⟩
    · rintro K KE s H2 ⟨has, hsj, hS2, hA2, hP⟩ hK hKE
      by_cases hsj2 : s <= j
      · have hi1 : s < (d1).size := by omega
        have hi0 : a < (d1).size := by omega
        have n1 : s < n := by omega
        have n0 : a < n := by omega
        have hsj3 : (s : Int) <= ((j : Nat) : Int) := by omega
        have hw_s : IntKind.i64.wrap ((s : Int) + 1) = (s : Int) + 1 := i64w (by omega) (by omega)
        have c1 := hA2.load Bk.cells_len hi1
        have c0 := hA2.load Bk.cells_len hi0
        have q1 := hQ1 _ hi1
        have q0 := hQ1 _ hi0
        obtain ⟨x, hx⟩ : ∃ x, x = (d1)[s]! := ⟨_, rfl⟩
        rw [<- hx] at c1 q1
        rw [<- hpv] at c0 q0
        simp only [Bk.cells, Nat.mul_one, Row.val] at c1 c0
        refine AWp.draw mixed [(0, false), (1, false), (2, false), (3, false), (4, false), (5, false), (6, false), (7, false), (8, false), (9, false), (10, false), (11, false), (12, false), (13, false), (14, false), (15, false), (16, false)] (by kernel_rfl) ?_
        simp (maxSteps := 1000000) [go_sem, hsj2, hsj3, c1, c0, n1, n0]
        refine hC H2 pv x _ hS2 q0 q1 ?_
        intro H3 c hp3 hc
        have hS3 := hS2.via (Same.of_prefix (S := fun _ => False) hp3) (fun _ _ h => h.elim)
        have hA3 := hA2.pre hp3
        cases hl' : lt pv x with
        | false =>
          rw [hl'] at hc
          have hc0 := hc
          simp only [decide_eq_true_eq, decide_eq_false_iff_not] at hc0
          simp (maxSteps := 1000000) [go_sem, hc, hc0, hw_s]
          exact hK (s + 1) _ _ (by omega) (by simp [upF, Fr.get, Up.refl]) ⟨by omega, by omega, hS3, hA3, by rw [<- hP]; exact (scanUp_go hsj2 (by show (!lt pv d1[s]!) = true; rw [<- hx]; simp [hl'])).symm⟩
        | true =>
          rw [hl'] at hc
          have hc0 := hc
          simp only [decide_eq_true_eq, decide_eq_false_iff_not] at hc0
          rw [scanUp_stop (.inr (by show (!lt pv d1[s]!) = false; rw [<- hx]; simp [hl']))] at hP
          simp (maxSteps := 1000000) [go_sem, hc, hc0]
          exact hKE () _ _ (by simp [upF, Fr.get, Up.refl, hP]) ⟨hS3, hA3⟩
      · rw [scanUp_stop (.inl (by omega))] at hP
        have hsj3 : ¬ ((s : Int) <= ((j : Nat) : Int)) := by omega
        refine AWp.draw mixed [(0, false), (1, false), (2, false), (3, false), (4, false), (5, false), (6, false), (7, false), (8, false), (9, false), (10, false), (11, false), (12, false), (13, false), (14, false), (15, false), (16, false)] (by kernel_rfl) ?_
        simp (maxSteps := 1000000) [go_sem, undef, hsj2, hsj3]
        exact hKE () _ _ (by simp [upF, Fr.get, Up.refl, hP]) ⟨hS2, hA2⟩
    rintro _ H3 ⟨hS3, hA3⟩
    have hge1 := scanUp_ge (fun x => !lt pv x) d1 j i
    have hle1 := (scanUp_spec (fun x => !lt pv x) d1 j _ i rfl).2.1 (by omega)
    have hle1s := (scanUp_spec (fun x => !lt pv x) d1 j _ i rfl).2.2.2
    obtain ⟨i2, hi2'⟩ : ∃ I, scanUp (fun x => !lt pv x) d1 j i = I := ⟨_, rfl⟩
    rw [hi2'] at hge1 hle1 hle1s ⊢
    simp (maxSteps := 1000000) [go_sem]
    refine AWp.loopCut (St := Nat) (St' := Unit) 4 (fun s => [(0, lv 3 id 0 n), (1, .int .i64 a), (4, .func (.func g) fs.toArray cs.toArray), (11, .int .i64 i2), (12, .int .i64 s)])
      (fun s H2 => s < n /\ i2 <= s + 1 /\ Same (fun k => k = id) H H2 /\ Arr Bk.cells H2 id d1 /\ scanDown (fun x => lt pv x) d1 i2 s = scanDown (fun x => lt pv x) d1 i2 j) (fun s => s) j
      (fun _ => [(0, lv 3 id 0 n), (1, .int .i64 a), (4, .func (.func g) fs.toArray cs.toArray), (11, .int .i64 i2), (12, .int .i64 ((scanDown (fun x => lt pv x) d1 i2 j : Nat) : Int))])
      (fun _ H2 => Same (fun k => k = id) H H2 /\ Arr Bk.cells H2 id d1) ?_ ?_ ?_ ?_
    · simp [upF, Fr.get, Up.refl]
    · exact ⟨by omega, by omega, hS3, hA3, rfl⟩
    · rintro K KE s H2 ⟨hsn, his, hS2, hA2, hP⟩ hK hKE
      by_cases his2 : i2 <= s
      · obtain ⟨r, rfl⟩ : ∃ r, s = r + 1 := ⟨s - 1, by omega⟩
        have hi1 : r + 1 < (d1).size := by omega
        have hi0 : a < (d1).size := by omega
        have n1 : r + 1 < n := by omega
        have n0 : a < n := by omega
        have m1 : (r : Int) + 1 < n := by omega
        have z1 : (0 : Int) <= (r : Int) + 1 := by omega
        have his3 : ((i2 : Nat) : Int) <= (r : Int) + 1 := by omega
        have hwr : IntKind.i64.wrap (r : Int) = (r : Int) := i64w (by omega) (by omega)
        have c1 := hA2.load Bk.cells_len hi1
        have c0 := hA2.load Bk.cells_len hi0
        have q1 := hQ1 _ hi1
        have q0 := hQ1 _ hi0
        obtain ⟨x, hx⟩ : ∃ x, x = (d1)[r + 1]! := ⟨_, rfl⟩
        rw [<- hx] at c1 q1
        rw [<- hpv] at c0 q0
        simp only [Bk.cells, Nat.mul_one, Row.val] at c1 c0
        refine AWp.draw mixed [(0, false), (1, false), (2, false), (3, false), (4, false), (5, false), (6, false), (7, false), (8, false), (9, false), (10, false), (11, false), (12, false), (13, false), (14, false), (15, false)] (by kernel_rfl) ?_
        simp (maxSteps := 1000000) [go_sem, his2, his3, c1, c0, n1, n0, m1, z1]
        refine hC H2 pv x _ hS2 q0 q1 ?_
        intro H3 c hp3 hc
        have hS3 := hS2.via (Same.of_prefix (S := fun _ => False) hp3) (fun _ _ h => h.elim)
        have hA3 := hA2.pre hp3
        cases hl' : lt pv x with
        | true =>
          rw [hl'] at hc
          have hc0 := hc
          simp only [decide_eq_true_eq, decide_eq_false_iff_not] at hc0
          simp (maxSteps := 1000000) [go_sem, hc, hc0, hwr]
          exact hK r _ _ (by omega) (by simp [upF, Fr.get, Up.refl]) ⟨by omega, by omega, hS3, hA3, by rw [<- hP]; exact (scanDown_go his2 (by show (lt pv d1[r + 1]!) = true; rw [<- hx]; simp [hl'])).symm⟩
        | false =>
          rw [hl'] at hc
          have hc0 := hc
          simp only [decide_eq_true_eq, decide_eq_false_iff_not] at hc0
          rw [scanDown_stop (.inr (by show (lt pv d1[r + 1]!) = false; rw [<- hx]; simp [hl']))] at hP
          have hP' : ((r : Nat) : Int) + 1 = ((scanDown (fun x => lt pv x) d1 i2 j : Nat) : Int) := by rw [<- hP]; simp
          simp (maxSteps := 1000000) [go_sem, hc, hc0]
          exact hKE () _ _ (by simp [upF, Fr.get, Up.refl, hP']) ⟨hS3, hA3⟩
      · rw [scanDown_stop (.inl (by omega))] at hP
        have his3 : ¬ (((i2 : Nat) : Int) <= (s : Int)) := by omega
        refine AWp.draw mixed [(0, false), (1, false), (2, false), (3, false), (4, false), (5, false), (6, false), (7, false), (8, false), (9, false), (10, false), (11, false), (12, false), (13, false), (14, false), (15, false)] (by kernel_rfl) ?_
        simp (maxSteps := 1000000) [go_sem, undef, his2, his3]
        exact hKE () _ _ (by simp [upF, Fr.get, Up.refl, hP]) ⟨hS2, hA2⟩
    rintro _ H4 ⟨hS4, hA4⟩
    have hge2 := scanDown_le (fun x => lt pv x) d1 i2 j
    have hle2 := (scanDown_spec (fun x => lt pv x) d1 i2 j).2.1 (by omega)
    have hle2s := (scanDown_spec (fun x => lt pv x) d1 i2 j).2.2.2
    obtain ⟨j2, hj2'⟩ : ∃ J, scanDown (fun x => lt pv x) d1 i2 j = J := ⟨_, rfl⟩
    rw [hj2'] at hge2 hle2 hle2s ⊢
    simp (maxSteps := 1000000) [go_sem]
    rw [hi2', hj2'] at hO
    by_cases hgt : j2 < i2
    · have hgt' : (j2 : Int) < i2 := by omega
      rw [if_pos hgt] at hO
      simp (maxSteps := 1000000) [go_sem, hgt, hgt']
      rw [<- hO] at h
      exact h H4 hS4 hA4
    · have hgt' : ¬ ((j2 : Int) < i2) := by omega
      rw [if_neg hgt] at hO
      have hne : i2 ≠ j2 := by
        intro e
        have f1 := hle1s (by omega)
        have f2 := hle2s (by omega) (by omega)
        rw [<- e] at f2
        simp only [Bool.not_eq_false'] at f1
        rw [f1] at f2; cases f2
      obtain ⟨r, rfl⟩ : ∃ r, j2 = r + 1 := ⟨j2 - 1, by omega⟩
      have hi1 : i2 < d1.size := by omega
      have hi2 : r + 1 < d1.size := by omega
      have n1 : i2 < n := by omega
      have n2 : r + 1 < n := by omega
      have m2 : (r : Int) + 1 < n := by omega
      have z2 : (0 : Int) <= (r : Int) + 1 := by omega
      have hgt3 : ¬ ((r : Int) + 1 < i2) := by omega
      have hwr : IntKind.i64.wrap (r : Int) = (r : Int) := i64w (by omega) (by omega)
      have hwi : IntKind.i64.wrap ((i2 : Int) + 1) = (i2 : Int) + 1 := i64w (by omega) (by omega)
      have ca := hA4.load Bk.cells_len hi1
      have cb := hA4.load Bk.cells_len hi2
      obtain ⟨H5, H6, s1, s0, hA6, hS6, hl6⟩ := hA4.swap Bk.cells_len Bk.cells_one hi1 hi2
      obtain ⟨x, hx⟩ : ∃ x, x = d1[i2]! := ⟨_, rfl⟩
      obtain ⟨y, hy⟩ : ∃ y, y = d1[r + 1]! := ⟨_, rfl⟩
      rw [<- hx] at ca s0
      rw [<- hy] at cb s1
      simp only [Bk.cells, Nat.mul_one, Row.val] at ca cb s0 s1
      simp (maxSteps := 1000000) [go_sem, hgt, hgt', hgt3]
      refine AWp.draw mixed [(0, false), (1, false), (2, false), (3, false), (4, false), (5, false), (6, false), (7, false), (8, false), (9, false), (10, false), (11, false), (12, false), (13, false), (14, false), (15, false)] (by kernel_rfl) ?_
      simp (maxSteps := 1000000) [go_sem, ca, cb, n1, n2, m2, z2, s1, s0, hwr, hwi]
      exact hK0 (i2 + 1, r, swp d1 i2 (r + 1)) _ _ (by simp only; omega) (by simp [upF, Fr.get, Up.refl]) ⟨by simp only; omega, by simp only; omega, by simp only; omega, by rw [size_swp]; exact hsz, hQ1.swp hi1 hi2, hS4.trans hS6, hA6, hO⟩

end Go.Proofs.YtfnegaedkomcgaaGreat
end

section
namespace Go.Proofs.YtfnegaedkomcgaaGreat
open Go.Ab Go.Sort

theorem partB_ok {H : Heap} {id a b pivot n : Nat} {d : Array Bk} {lt : Bk -> Bk -> Bool} {g : FuncId} {fs cs : List Value} {Q : Bk -> Prop} (hA : Arr Bk.cells H id d) (hn : d.size = n) (hl : n <= 1048576) (hap : a <= pivot) (hpb : pivot < b) (hb : b <= n) (hQ : QA Q d)
    (hC : Cmp Tryz.prog Bk.val lt g fs cs Q id H) (Post : Value -> Heap -> Prop) (h : ∀ H', Same (fun k => k = id) H H' -> Arr Bk.cells H' id (partition lt d a b pivot).2.2 -> Post (.tuple #[.int .i64 ((partition lt d a b pivot).1 : Nat), .bool (partition lt d a b pivot).2.1]) H') :
    ACalls Tryz.prog 179 [lv 3 id 0 n, .int .i64 a, .int .i64 b, .int .i64 pivot, .func (.func g) fs.toArray cs.toArray] H Post := by
  refine acalls_vc (rs := [.tmp 10, .tmp 11]) Tryz.func179 rfl rfl Tryz.ntmps179 rfl rfl ?_
  obtain ⟨b1, hb1⟩ : ∃ b1, b1 = b - 1 := ⟨_, rfl⟩
  obtain ⟨a1, ha1⟩ : ∃ a1, a1 = a + 1 := ⟨_, rfl⟩
  have w0 : IntKind.i64.wrap ((b : Int) - 1) = (b1 : Int) := by rw [hb1, i64w (by omega) (by omega)]; omega
  have w1 : IntKind.i64.wrap ((a : Int) + 1) = (a1 : Int) := by rw [ha1, i64w (by omega) (by omega)]; omega
  have u1 : a < (d).size := by omega
  have u2 : pivot < (d).size := by omega
  have u3 : a < n := by omega
  have u4 : pivot < n := by omega
  have uca := (hA).load Bk.cells_len u1
  have ucb := (hA).load Bk.cells_len u2
  obtain ⟨H5, H6, us1, us0, hA6, hS6, ul⟩ := (hA).swap Bk.cells_len Bk.cells_one u1 u2
  obtain ⟨ux, uhx⟩ : ∃ x, x = (d)[a]! := ⟨_, rfl⟩
  obtain ⟨uy, uhy⟩ : ∃ y, y = (d)[pivot]! := ⟨_, rfl⟩
  rw [<- uhx] at uca us0
  rw [<- uhy] at ucb us1
  simp only [Bk.cells, Nat.mul_one, Row.val] at uca ucb us0 us1
  have e0 : partition lt d a b pivot = (let i := scanUp (fun x => lt x (swp d a pivot)[a]!) (swp d a pivot) b1 a1
      let j := scanDown (fun x => !lt x (swp d a pivot)[a]!) (swp d a pivot) i b1
      if i > j then (j, true, swp (swp d a pivot) j a) else
        (let r := partLoop lt a (i + 1) (j - 1) (swp (swp d a pivot) i j)
        (r.1, false, swp r.2 r.1 a))) := by rw [hb1, ha1]; rfl
  have hQ6 := hQ.swp u1 u2
  have hsz6 : (swp d a pivot).size = n := by rw [size_swp]; exact hn
  generalize swp d a pivot = d0 at *
  obtain ⟨pv, hpv⟩ : ∃ pv, pv = d0[a]! := ⟨_, rfl⟩
  simp only [<- hpv] at e0
  simp (maxSteps := 1000000) [go_sem]
  refine AWp.draw mixed [(0, false), (1, false), (2, false), (3, false), (4, false), (5, false), (6, false), (7, false), (8, false), (9, false), (10, false), (11, false), (12, false), (13, false), (14, false), (15, false)] (by kernel_rfl) ?_
  simp (maxSteps := 1000000) [go_sem, uca, ucb, u3, u4, us1, us0, w0, w1]
  refine AWp.loopCut (St := Nat) (St' := Unit) 0 (fun s => [(0, lv 3 id 0 n), (1, .int .i64 a), (4, .func (.func g) fs.toArray cs.toArray), (12, .int .i64 s), (13, .int .i64 b1)])
    (fun s H2 => a < s /\ s <= b1 + 1 /\ Same (fun k => k = id) H H2 /\ Arr Bk.cells H2 id d0 /\ scanUp (fun x => lt x pv) d0 b1 s = scanUp (fun x => lt x pv) d0 b1 a1) (fun s => b1 + 1 - s) a1
    (fun _ => [(0, lv 3 id 0 n), (1, .int .i64 a), (4, .func (.func g) fs.toArray cs.toArray), (12, .int .i64 ((scanUp (fun x => lt x pv) d0 b1 a1 : Nat) : Int)), (13, .int .i64 b1)])
    (fun _ H2 => Same (fun k => k = id) H H2 /\ Arr Bk.cells H2 id d0) ?_ ?_ ?_ ?_
  · simp [upF, Fr.get, Up.refl]
  · exact ⟨by omega, by omega, hS6, hA6, rfl⟩
  · rintro K KE s H2 ⟨has, hsj, hS2, hA2, hP⟩ hK hKE
    by_cases hsj2 : s <= b1
    · have hi1 : s < (d0).size := by omega
      have hi0 : a < (d0).size := by omega
      have n1 : s < n := by omega
      have n0 : a < n := by omega
      have hsj3 : (s : Int) <= ((b1 : Nat) : Int) := by omega
      have hw_s : IntKind.i64.wrap ((s : Int) + 1) = (s : Int) + 1 := i64w (by omega) (by omega)
      have c1 := hA2.load Bk.cells_len hi1
      have c0 := hA2.load Bk.cells_len hi0
      have q1 := hQ6 _ hi1
      have q0 := hQ6 _ hi0
      obtain ⟨x, hx⟩ : ∃ x, x = (d0)[s]! := ⟨_, rfl⟩
      rw [<- hx] at c1 q1
      rw [<- hpv] at c0 q0
      simp only [Bk.cells, Nat.mul_one, Row.val] at c1 c0
      refine AWp.draw mixed [(0, false), (1, false), (2, false), (3, false), (4, false), (5, false), (6, false), (7, false), (8, false), (9, false), (10, false), (11, false), (12, false), (13, false), (14, false), (15, false)] (by kernel_rfl) ?_
      simp (maxSteps := 1000000) [go_sem, hsj2, hsj3, c1, c0, n1, n0]
      refine hC H2 x pv _ hS2 q1 q0 ?_
      intro H3 c hp3 hc
      have hS3 := hS2.via (Same.of_prefix (S := fun _ => False) hp3) (fun _ _ h => h.elim)
      have hA3 := hA2.pre hp3
      cases hl' : lt x pv with
      | true =>
        rw [hl'] at hc
        have hc0 := hc
        simp only [decide_eq_true_eq, decide_eq_false_iff_not] at hc0
        simp (maxSteps := 1000000) [go_sem, hc, hc0, hw_s]
        exact hK (s + 1) _ _ (by omega) (by simp [upF, Fr.get, Up.refl]) ⟨by omega, by omega, hS3, hA3, by rw [<- hP]; exact (scanUp_go hsj2 (by show lt d0[s]! pv = true; rw [<- hx]; simp [hl'])).symm⟩
      | false =>
        rw [hl'] at hc
        have hc0 := hc
        simp only [decide_eq_true_eq, decide_eq_false_iff_not] at hc0
        rw [scanUp_stop (.inr (by show lt d0[s]! pv = false; rw [<- hx]; simp [hl']))] at hP
        simp (maxSteps := 1000000) [go_sem, hc, hc0]
        exact hKE () _ _ (by simp [upF, Fr.get, Up.refl, hP]) ⟨hS3, hA3⟩
    · rw [scanUp_stop (.inl (by omega))] at hP
      have hsj3 : ¬ ((s : Int) <= ((b1 : Nat) : Int)) := by omega
      refine AWp.draw mixed [(0, false), (1, false), (2, false), (3, false), (4, false), (5, false), (6, false), (7, false), (8, false), (9, false), (10, false), (11, false), (12, false), (13, false), (14, false), (15, false)] (by kernel_rfl) ?_
      simp (maxSteps := 1000000) [go_sem, undef, hsj2, hsj3]
      exact hKE () _ _ (by simp [upF, Fr.get, Up.refl, hP]) ⟨hS2, hA2⟩
  rintro _ H7 ⟨hS7, hA7⟩
  have hge1 := scanUp_ge (fun x => lt x pv) d0 b1 a1
  have hle1 := (scanUp_spec (fun x => lt x pv) d0 b1 _ a1 rfl).2.1 (by omega)
  have hle1s := (scanUp_spec (fun x => lt x pv) d0 b1 _ a1 rfl).2.2.2
  obtain ⟨i2, hi2'⟩ : ∃ I, scanUp (fun x => lt x pv) d0 b1 a1 = I := ⟨_, rfl⟩
  rw [hi2'] at hge1 hle1 hle1s ⊢
  simp (maxSteps := 1000000) [go_sem]
  refine AWp.loopCut (St := Nat) (St' := Unit) 2 (fun s => [(0, lv 3 id 0 n), (1, .int .i64 a), (4, .func (.func g) fs.toArray cs.toArray), (12, .int .i64 i2), (13, .int .i64 s)])
    (fun s H2 => s < n /\ i2 <= s + 1 /\ Same (fun k => k = id) H H2 /\ Arr Bk.cells H2 id d0 /\ scanDown (fun x => !lt x pv) d0 i2 s = scanDown (fun x => !lt x pv) d0 i2 b1) (fun s => s) b1
    (fun _ => [(0, lv 3 id 0 n), (1, .int .i64 a), (4, .func (.func g) fs.toArray cs.toArray), (12, .int .i64 i2), (13, .int .i64 ((scanDown (fun x => !lt x pv) d0 i2 b1 : Nat) : Int))])
    (fun _ H2 => Same (fun k => k = id) H H2 /\ Arr Bk.cells H2 id d0) ?_ ?_ ?_ ?_
  · simp [upF, Fr.get, Up.refl]
  · exact ⟨by omega, by omega, hS7, hA7, rfl⟩
  · rintro K KE s H2 ⟨hsn, his, hS2, hA2, hP⟩ hK hKE
    by_cases his2 : i2 <= s
    · obtain ⟨r, rfl⟩ : ∃ r, s = r + 1 := ⟨s - 1, by omega⟩
      have hi1 : r + 1 < (d0).size := by omega
      have hi0 : a < (d0).size := by omega
      have n1 : r + 1 < n := by omega
      have n0 : a < n := by omega
      have m1 : (r : Int) + 1 < n := by omega
      have z1 : (0 : Int) <= (r : Int) + 1 := by omega
      have his3 : ((i2 : Nat) : Int) <= (r : Int) + 1 := by omega
      have hwr : IntKind.i64.wrap (r : Int) = (r : Int) := i64w (by omega) (by omega)
      have c1 := hA2.load Bk.cells_len hi1
      have c0 := hA2.load Bk.cells_len hi0
      have q1 := hQ6 _ hi1
      have q0 := hQ6 _ hi0
      obtain ⟨x, hx⟩ : ∃ x, x = (d0)[r + 1]! := ⟨_, rfl⟩
      rw [<- hx] at c1 q1
      rw [<- hpv] at c0 q0
      simp only [Bk.cells, Nat.mul_one, Row.val] at c1 c0
      refine AWp.draw mixed [(0, false), (1, false), (2, false), (3, false), (4, false), (5, false), (6, false), (7, false), (8, false), (9, false), (10, false), (11, false), (12, false), (13, false), (14, false), (15, false), (16, false)] (by kernel_rfl) ?_
      simp (maxSteps := 1000000) [go_sem, his2, his3, c1, c0, n1, n0, m1, z1]
      refine hC H2 x pv _ hS2 q1 q0 ?_
      intro H3 c hp3 hc
      have hS3 := hS2.via (Same.of_prefix (S := fun _ => False) hp3) (fun _ _ h => h.elim)
      have hA3 := hA2.pre hp3
      cases hl' : lt x pv with
      | false =>
        rw [hl'] at hc
        have hc0 := hc
        simp only [decide_eq_true_eq, decide_eq_false_iff_not] at hc0
        simp (maxSteps := 1000000) [go_sem, hc, hc0, hwr]
        exact hK r _ _ (by omega) (by simp [upF, Fr.get, Up.refl]) ⟨by omega, by omega, hS3, hA3, by rw [<- hP]; exact (scanDown_go his2 (by show (!lt d0[r + 1]! pv) = true; rw [<- hx]; simp [hl'])).symm⟩
      | true =>
        rw [hl'] at hc
        have hc0 := hc
        simp only [decide_eq_true_eq, decide_eq_false_iff_not] at hc0
        rw [scanDown_stop (.inr (by show (!lt d0[r + 1]! pv) = false; rw [<- hx]; simp [hl']))] at hP
        have hP' : ((r : Nat) : Int) + 1 = ((scanDown (fun x => !lt x pv) d0 i2 b1 : Nat) : Int) := by rw [<- hP]; simp
        simp (maxSteps := 1000000) [go_sem, hc, hc0]
        exact hKE () _ _ (by simp [upF, Fr.get, Up.refl, hP']) ⟨hS3, hA3⟩
    · rw [scanDown_stop (.inl (by omega))] at hP
      have his3 : ¬ (((i2 : Nat) : Int) <= (s : Int)) := by omega
      refine AWp.draw mixed [(0, false), (1, false), (2, false), (3, false), (4, false), (5, false), (6, false), (7, false), (8, false), (9, false), (10, false), (11, false), (12, false), (13, false), (14, false), (15, false), (16, false)] (by kernel_rfl) ?_
      simp (maxSteps := 1000000) [go_sem, undef, his2, his3]
      exact hKE () _ _ (by simp [upF, Fr.get, Up.refl, hP]) ⟨hS2, hA2⟩
  rintro _ H8 ⟨hS8, hA8⟩
  have hge2 := scanDown_le (fun x => !lt x pv) d0 i2 b1
  have hle2 := (scanDown_spec (fun x => !lt x pv) d0 i2 b1).2.1 (by omega)
  have hle2s := (scanDown_spec (fun x => !lt x pv) d0 i2 b1).2.2.2
  obtain ⟨j2, hj2'⟩ : ∃ J, scanDown (fun x => !lt x pv) d0 i2 b1 = J := ⟨_, rfl⟩
  rw [hj2'] at hge2 hle2 hle2s ⊢
  simp (maxSteps := 1000000) [go_sem]
  simp only [hi2', hj2'] at e0
  by_cases hgt : j2 < i2
  · have hgt' : (j2 : Int) < i2 := by omega
    rw [if_pos hgt] at e0
    rw [e0] at h
    have v1 : j2 < (d0).size := by omega
    have v2 : a < (d0).size := by omega
    have v3 : j2 < n := by omega
    have v4 : a < n := by omega
    have vca := (hA8).load Bk.cells_len v1
    have vcb := (hA8).load Bk.cells_len v2
    obtain ⟨H9, HA, vs1, vs0, hAA, hSA, vl⟩ := (hA8).swap Bk.cells_len Bk.cells_one v1 v2
    obtain ⟨vx, vhx⟩ : ∃ x, x = (d0)[j2]! := ⟨_, rfl⟩
    obtain ⟨vy, vhy⟩ : ∃ y, y = (d0)[a]! := ⟨_, rfl⟩
    rw [<- vhx] at vca vs0
    rw [<- vhy] at vcb vs1
    simp only [Bk.cells, Nat.mul_one, Row.val] at vca vcb vs0 vs1
    simp (maxSteps := 1000000) [go_sem, hgt, hgt']
    refine AWp.draw mixed [(0, false), (1, false), (2, false), (3, false), (4, false), (5, false), (6, false), (7, false), (8, false), (9, false), (10, false), (11, false), (12, false), (13, false), (14, false), (15, false)] (by kernel_rfl) ?_
    simp (maxSteps := 1000000) [go_sem, vca, vcb, v3, v4, vs1, vs0]
    exact h HA (hS8.trans hSA) hAA
  · have hgt' : ¬ ((j2 : Int) < i2) := by omega
    rw [if_neg hgt] at e0
    have hne : i2 ≠ j2 := by
      intro e
      have f1 := hle1s (by omega)
      have f2 := hle2s (by omega) (by omega)
      rw [<- e] at f2
      rw [f1] at f2; cases f2
    have v1 : i2 < (d0).size := by omega
    have v2 : j2 < (d0).size := by omega
    have v3 : i2 < n := by omega
    have v4 : j2 < n := by omega
    have vca := (hA8).load Bk.cells_len v1
    have vcb := (hA8).load Bk.cells_len v2
    obtain ⟨H9, HA, vs1, vs0, hAA, hSA, vl⟩ := (hA8).swap Bk.cells_len Bk.cells_one v1 v2
    obtain ⟨vx, vhx⟩ : ∃ x, x = (d0)[i2]! := ⟨_, rfl⟩
    obtain ⟨vy, vhy⟩ : ∃ y, y = (d0)[j2]! := ⟨_, rfl⟩
    rw [<- vhx] at vca vs0
    rw [<- vhy] at vcb vs1
    simp only [Bk.cells, Nat.mul_one, Row.val] at vca vcb vs0 vs1
    have hQA := hQ6.swp v1 v2
    have hszA : (swp d0 i2 j2).size = n := by rw [size_swp]; exact hsz6
    have hSA := hS8.trans hSA
    obtain ⟨i3, hi3⟩ : ∃ i3, i3 = i2 + 1 := ⟨_, rfl⟩
    obtain ⟨j3, hj3⟩ : ∃ j3, j3 = j2 - 1 := ⟨_, rfl⟩
    have w4 : IntKind.i64.wrap ((j2 : Int) - 1) = (j3 : Int) := by rw [hj3, i64w (by omega) (by omega)]; omega
    have w5 : IntKind.i64.wrap ((i2 : Int) + 1) = (i3 : Int) := by rw [hi3, i64w (by omega) (by omega)]; omega
    rw [<- hi3, <- hj3] at e0
    have hj3n : j3 < n := by omega
    have hi3j : i3 <= j3 + 1 := by omega
    have hai3 : a < i3 := by omega
    generalize swp d0 i2 j2 = dA at *
    simp (maxSteps := 1000000) [go_sem, hgt, hgt']
    refine AWp.draw mixed [(0, false), (1, false), (2, false), (3, false), (4, false), (5, false), (6, false), (7, false), (8, false), (9, false), (10, false), (11, false), (12, false), (13, false), (14, false), (15, false)] (by kernel_rfl) ?_
    simp (maxSteps := 1000000) [go_sem, vca, vcb, v3, v4, vs1, vs0, w4, w5]
    clear hle1s hle2s hi2' hj2' vs1 vs0 vca vcb us1 us0 uca ucb
    refine AWp.loopVc (St := Nat × Nat × Array Bk) (fun s => [(0, lv 3 id 0 n), (1, .int .i64 a), (4, .func (.func g) fs.toArray cs.toArray), (12, .int .i64 s.1), (13, .int .i64 s.2.1)])
      (fun s H' => a < s.1 /\ s.1 <= s.2.1 + 1 /\ s.2.1 < n /\ s.2.2.size = n /\ QA Q s.2.2 /\ Same (fun k => k = id) H H' /\ Arr Bk.cells H' id s.2.2 /\ partLoop lt a s.1 s.2.1 s.2.2 = partLoop lt a i3 j3 dA) (fun s => s.2.1 + 1 - s.1) (i3, j3, dA) ?_ ?_ ?_
    · simp [upF, Fr.get, Up.refl]
    · exact ⟨hai3, hi3j, hj3n, hszA, hQA, hSA, hAA, rfl⟩
    · rintro K0 ⟨i, j, d1⟩ H1 ⟨hai, hij, hjn, hsz, hQ1, hS1, hA1, hO⟩ hK0
      simp only at hai hij hjn hsz hQ1 hS1 hA1 hO
      obtain ⟨pw, hpw⟩ : ∃ pw, pw = d1[a]! := ⟨_, rfl⟩
      rw [partLoop_eq, <- hpw] at hO
      simp (maxSteps := 1000000) [go_sem]
      refine AWp.loopCut (St := Nat) (St' := Unit) 6 (fun s => [(0, lv 3 id 0 n), (1, .int .i64 a), (4, .func (.func g) fs.toArray cs.toArray), (12, .int .i64 s), (13, .int .i64 j)])
        (fun s H2 => a < s /\ s <= j + 1 /\ Same (fun k => k = id) H H2 /\ Arr Bk.cells H2 id d1 /\ scanUp (fun x => lt x pw) d1 j s = scanUp (fun x => lt x pw) d1 j i) (fun s => j + 1 - s) i
        (fun _ => [(0, lv 3 id 0 n), (1, .int .i64 a), (4, .func (.func g) fs.toArray cs.toArray), (12, .int .i64 ((scanUp (fun x => lt x pw) d1 j i : Nat) : Int)), (13, .int .i64 j)])
        (fun _ H2 => Same (fun k => k = id) H H2 /\ Arr Bk.cells H2 id d1) ?_ ?_ ?_ ?_
      · simp [upF, Fr.get, Up.refl]
      · exact ⟨by omega, by omega, hS1, hA1, rfl⟩
      · rintro K KE s H2 ⟨has, hsj, hS2, hA2, hP⟩ hK hKE
        by_cases hsj2 : s <= j
        · have hi1 : s < (d1).size := by omega
          have hi0 : a < (d1).size := by omega
          have n1 : s < n := by omega
          have n0 : a < n := by omega
          have hsj3 : (s : Int) <= ((j : Nat) : Int) := by omega
          have hw_s : IntKind.i64.wrap ((s : Int) + 1) = (s : Int) + 1 := i64w (by omega) (by omega)
          have c1 := hA2.load Bk.cells_len hi1
          have c0 := hA2.load Bk.cells_len hi0
          have q1 := hQ1 _ hi1
          have q0 := hQ1 _ hi0
          obtain ⟨x, hx⟩ : ∃ x, x = (d1)[s]! := ⟨_, rfl⟩
          rw [<- hx] at c1 q1
          rw [<- hpw] at c0 q0
          simp only [Bk.cells, Nat.mul_one, Row.val] at c1 c0
          refine AWp.draw mixed [(0, false), (1, false), (2, false), (3, false), (4, false), (5, false), (6, false), (7, false), (8, false), (9, false), (10, false), (11, false), (12, false), (13, false), (14, false), (15, false)] (by kernel_rfl) ?_
          simp (maxSteps := 1000000) [go_sem, hsj2, hsj3, c1, c0, n1, n0]
          refine hC H2 x pw _ hS2 q1 q0 ?_
          intro H3 c hp3 hc
          have hS3 := hS2.via (Same.of_prefix (S := fun _ => False) hp3) (fun _ _ h => h.elim)
          have hA3 := hA2.pre hp3
          cases hl' : lt x pw with
          | true =>
            rw [hl'] at hc
            have hc0 := hc
            simp only [decide_eq_true_eq, decide_eq_false_iff_not] at hc0
            simp (maxSteps := 1000000) [go_sem, hc, hc0, hw_s]
            exact hK (s + 1) _ _ (by omega) (by simp [upF, Fr.get, Up.refl]) ⟨by omega, by omega, hS3, hA3, by rw [<- hP]; exact (scanUp_go hsj2 (by show lt d1[s]! pw = true; rw [<- hx]; simp [hl'])).symm⟩
          | false =>
            rw [hl'] at hc
            have hc0 := hc
            simp only [decide_eq_true_eq, decide_eq_false_iff_not] at hc0
            rw [scanUp_stop (.inr (by show lt d1[s]! pw = false; rw [<- hx]; simp [hl']))] at hP
            simp (maxSteps := 1000000) [go_sem, hc, hc0]
            exact hKE () _ _ (by simp [upF, Fr.get, Up.refl, hP]) ⟨hS3, hA3⟩
        · rw [scanUp_stop (.inl (by omega))] at hP
          have hsj3 : ¬ ((s : Int) <= ((j : Nat) : Int)) := by omega
          refine AWp.draw mixed [(0, false), (1, false), (2, false), (3, false), (4, false), (5, false), (6, false), (7, false), (8, false), (9, false), (10, false), (11, false), (12, false), (13, false), (14, false), (15, false)] (by kernel_rfl) ?_
          simp (maxSteps := 1000000) [go_sem, undef, hsj2, hsj3]
          exact hKE () _ _ (by simp [upF, Fr.get, Up.refl, hP]) ⟨hS2, hA2⟩
      rintro _ H3 ⟨hS3, hA3⟩
      have hge3 := scanUp_ge (fun x => lt x pw) d1 j i
      have hle3 := (scanUp_spec (fun x => lt x pw) d1 j _ i rfl).2.1 (by omega)
      have hle3s := (scanUp_spec (fun x => lt x pw) d1 j _ i rfl).2.2.2
      obtain ⟨i4, hi4'⟩ : ∃ I, scanUp (fun x => lt x pw) d1 j i = I := ⟨_, rfl⟩
      rw [hi4'] at hge3 hle3 hle3s ⊢
      simp (maxSteps := 1000000) [go_sem]
      refine AWp.loopCut (St := Nat) (St' := Unit) 8 (fun s => [(0, lv 3 id 0 n), (1, .int .i64 a), (4, .func (.func g) fs.toArray cs.toArray), (12, .int .i64 i4), (13, .int .i64 s)])
        (fun s H2 => s < n /\ i4 <= s + 1 /\ Same (fun k => k = id) H H2 /\ Arr Bk.cells H2 id d1 /\ scanDown (fun x => !lt x pw) d1 i4 s = scanDown (fun x => !lt x pw) d1 i4 j) (fun s => s) j
        (fun _ => [(0, lv 3 id 0 n), (1, .int .i64 a), (4, .func (.func g) fs.toArray cs.toArray), (12, .int .i64 i4), (13, .int .i64 ((scanDown (fun x => !lt x pw) d1 i4 j : Nat) : Int))])
        (fun _ H2 => Same (fun k => k = id) H H2 /\ Arr Bk.cells H2 id d1) ?_ ?_ ?_ ?_
      · simp [upF, Fr.get, Up.refl]
      · exact ⟨by omega, by omega, hS3, hA3, rfl⟩
      · rintro K KE s H2 ⟨hsn, his, hS2, hA2, hP⟩ hK hKE
        by_cases his2 : i4 <= s
        · obtain ⟨r, rfl⟩ : ∃ r, s = r + 1 := ⟨s - 1, by omega⟩
          have hi1 : r + 1 < (d1).size := by omega
          have hi0 : a < (d1).size := by omega
          have n1 : r + 1 < n := by omega
          have n0 : a < n := by omega
          have m1 : (r : Int) + 1 < n := by omega
          have z1 : (0 : Int) <= (r : Int) + 1 := by omega
          have his3 : ((i4 : Nat) : Int) <= (r : Int) + 1 := by omega
          have hwr : IntKind.i64.wrap (r : Int) = (r : Int) := i64w (by omega) (by omega)
          have c1 := hA2.load Bk.cells_len hi1
          have c0 := hA2.load Bk.cells_len hi0
          have q1 := hQ1 _ hi1
          have q0 := hQ1 _ hi0
          obtain ⟨x, hx⟩ : ∃ x, x = (d1)[r + 1]! := ⟨_, rfl⟩
          rw [<- hx] at c1 q1
          rw [<- hpw] at c0 q0
          simp only [Bk.cells, Nat.mul_one, Row.val] at c1 c0
          refine AWp.draw mixed [(0, false), (1, false), (2, false), (3, false), (4, false), (5, false), (6, false), (7, false), (8, false), (9, false), (10, false), (11, false), (12, false), (13, false), (14, false), (15, false), (16, false)] (by kernel_rfl) ?_
          simp (maxSteps := 1000000) [go_sem, his2, his3, c1, c0, n1, n0, m1, z1]
          refine hC H2 x pw _ hS2 q1 q0 ?_
          intro H3 c hp3 hc
          have hS3 := hS2.via (Same.of_prefix (S := fun _ => False) hp3) (fun _ _ h => h.elim)
          have hA3 := hA2.pre hp3
          cases hl' : lt x pw with
          | false =>
            rw [hl'] at hc
            have hc0 := hc
            simp only [decide_eq_true_eq, decide_eq_false_iff_not] at hc0
            simp (maxSteps := 1000000) [go_sem, hc, hc0, hwr]
            exact hK r _ _ (by omega) (by simp [upF, Fr.get, Up.refl]) ⟨by omega, by omega, hS3, hA3, by rw [<- hP]; exact (scanDown_go his2 (by show (!lt d1[r + 1]! pw) = true; rw [<- hx]; simp [hl'])).symm⟩
          | true =>
            rw [hl'] at hc
            have hc0 := hc
            simp only [decide_eq_true_eq, decide_eq_false_iff_not] at hc0
            rw [scanDown_stop (.inr (by show (!lt d1[r + 1]! pw) = false; rw [<- hx]; simp [hl']))] at hP
            have hP' : ((r : Nat) : Int) + 1 = ((scanDown (fun x => !lt x pw) d1 i4 j : Nat) : Int) := by rw [<- hP]; simp
            simp (maxSteps := 1000000) [go_sem, hc, hc0]
            exact hKE () _ _ (by simp [upF, Fr.get, Up.refl, hP']) ⟨hS3, hA3⟩
        · rw [scanDown_stop (.inl (by omega))] at hP
          have his3 : ¬ (((i4 : Nat) : Int) <= (s : Int)) := by omega
          refine AWp.draw mixed [(0, false), (1, false), (2, false), (3, false), (4, false), (5, false), (6, false), (7, false), (8, false), (9, false), (10, false), (11, false), (12, false), (13, false), (14, false), (15, false), (16, false)] (by kernel_rfl) ?_
          simp (maxSteps := 1000000) [go_sem, undef, his2, his3]
          exact hKE () _ _ (by simp [upF, Fr.get, Up.refl, hP]) ⟨hS2, hA2⟩
      rintro _ H4 ⟨hS4, hA4⟩
      have hge4 := scanDown_le (fun x => !lt x pw) d1 i4 j
      have hle4 := (scanDown_spec (fun x => !lt x pw) d1 i4 j).2.1 (by omega)
      have hle4s := (scanDown_spec (fun x => !lt x pw) d1 i4 j).2.2.2
      obtain ⟨j4, hj4'⟩ : ∃ J, scanDown (fun x => !lt x pw) d1 i4 j = J := ⟨_, rfl⟩
      rw [hj4'] at hge4 hle4 hle4s ⊢
      simp (maxSteps := 1000000) [go_sem]
      rw [hi4', hj4'] at hO
      by_cases hgt : j4 < i4
      · have hgt' : (j4 : Int) < i4 := by omega
        rw [if_pos hgt] at hO
        rw [<- hO] at e0
        rw [e0] at h
        have z1 : j4 < (d1).size := by omega
        have z2 : a < (d1).size := by omega
        have z3 : j4 < n := by omega
        have z4 : a < n := by omega
        have zca := (hA4).load Bk.cells_len z1
        have zcb := (hA4).load Bk.cells_len z2
        obtain ⟨HC, HD, zs1, zs0, hAD, hSD, zl⟩ := (hA4).swap Bk.cells_len Bk.cells_one z1 z2
        obtain ⟨zx, zhx⟩ : ∃ x, x = (d1)[j4]! := ⟨_, rfl⟩
        obtain ⟨zy, zhy⟩ : ∃ y, y = (d1)[a]! := ⟨_, rfl⟩
        rw [<- zhx] at zca zs0
        rw [<- zhy] at zcb zs1
        simp only [Bk.cells, Nat.mul_one, Row.val] at zca zcb zs0 zs1
        simp (maxSteps := 1000000) [go_sem, hgt, hgt']
        refine AWp.draw mixed [(0, false), (1, false), (2, false), (3, false), (4, false), (5, false), (6, false), (7, false), (8, false), (9, false), (10, false), (11, false), (12, false), (13, false), (14, false), (15, false)] (by kernel_rfl) ?_
        simp (maxSteps := 1000000) [go_sem, zca, zcb, z3, z4, zs1, zs0]
        exact h HD (hS4.trans hSD) hAD
      · have hgt' : ¬ ((j4 : Int) < i4) := by omega
        rw [if_neg hgt] at hO
        have hne : i4 ≠ j4 := by
          intro e
          have f1 := hle3s (by omega)
          have f2 := hle4s (by omega) (by omega)
          rw [<- e] at f2
          rw [f1] at f2; cases f2
        have z1 : i4 < (d1).size := by omega
        have z2 : j4 < (d1).size := by omega
        have z3 : i4 < n := by omega
        have z4 : j4 < n := by omega
        have zca := (hA4).load Bk.cells_len z1
        have zcb := (hA4).load Bk.cells_len z2
        obtain ⟨HC, HD, zs1, zs0, hAD, hSD, zl⟩ := (hA4).swap Bk.cells_len Bk.cells_one z1 z2
        obtain ⟨zx, zhx⟩ : ∃ x, x = (d1)[i4]! := ⟨_, rfl⟩
        obtain ⟨zy, zhy⟩ : ∃ y, y = (d1)[j4]! := ⟨_, rfl⟩
        rw [<- zhx] at zca zs0
        rw [<- zhy] at zcb zs1
        simp only [Bk.cells, Nat.mul_one, Row.val] at zca zcb zs0 zs1
        obtain ⟨i5, hi5⟩ : ∃ i5, i5 = i4 + 1 := ⟨_, rfl⟩
        obtain ⟨j5, hj5⟩ : ∃ j5, j5 = j4 - 1 := ⟨_, rfl⟩
        have w6 : IntKind.i64.wrap ((j4 : Int) - 1) = (j5 : Int) := by rw [hj5, i64w (by omega) (by omega)]; omega
        have w7 : IntKind.i64.wrap ((i4 : Int) + 1) = (i5 : Int) := by rw [hi5, i64w (by omega) (by omega)]; omega
        rw [<- hi5, <- hj5] at hO
        simp (maxSteps := 1000000) [go_sem, hgt, hgt']
        refine AWp.draw mixed [(0, false), (1, false), (2, false), (3, false), (4, false), (5, false), (6, false), (7, false), (8, false), (9, false), (10, false), (11, false), (12, false), (13, false), (14, false), (15, false)] (by kernel_rfl) ?_
        simp (maxSteps := 1000000) [go_sem, zca, zcb, z3, z4, zs1, zs0, w6, w7]
        exact hK0 (i5, j5, swp d1 i4 j4) _ _ (by simp only; omega) (by simp [upF, Fr.get, Up.refl]) ⟨by simp only; omega, by simp only; omega, by simp only; omega, by rw [size_swp]; exact hsz, hQ1.swp z1 z2, hS4.trans hSD, hAD, hO⟩

end Go.Proofs.YtfnegaedkomcgaaGreat
end

section
namespace Go.Proofs.YtfnegaedkomcgaaGreat
open Go.Ab Go.Sort

theorem partInsB_ok {H : Heap} {id a b n : Nat} {d : Array Bk} {lt : Bk -> Bk -> Bool} {g : FuncId} {fs cs : List Value} {Q : Bk -> Prop} (hA : Arr Bk.cells H id d) (hn : d.size = n) (hl : n <= 1048576) (hab : a < b) (hb : b <= n) (hQ : QA Q d)
    (hC : Cmp Tryz.prog Bk.val lt g fs cs Q id H) (Post : Value -> Heap -> Prop) (h : ∀ H', Same (fun k => k = id) H H' -> Arr Bk.cells H' id (partialInsertionSort lt d a b).1 -> Post (.bool (partialInsertionSort lt d a b).2) H') :
    ACalls Tryz.prog 177 [lv 3 id 0 n, .int .i64 a, .int .i64 b, .func (.func g) fs.toArray cs.toArray] H Post := by
  refine acalls_vc (rs := [.tmp 8]) Tryz.func177 rfl rfl Tryz.ntmps177 rfl rfl ?_
  obtain ⟨a1, ha1⟩ : ∃ a1, a1 = a + 1 := ⟨_, rfl⟩
  have w1 : IntKind.i64.wrap ((a : Int) + 1) = (a1 : Int) := by rw [ha1, i64w (by omega) (by omega)]; omega
  have w0 : IntKind.i64.wrap ((b : Int) - a) = (b : Int) - a := i64w (by omega) (by omega)
  have e0 : partialInsertionSort lt d a b = partialIns lt a b 5 a1 d := by rw [ha1]; rfl
  rw [e0] at h
  simp (maxSteps := 1000000) [go_sem, w1]
  refine AWp.loopVc (St := Nat × Nat × Array Bk) (fun s => [(0, lv 3 id 0 n), (1, .int .i64 a), (2, .int .i64 b), (3, .func (.func g) fs.toArray cs.toArray), (9, .int .i64 s.2.1), (10, .int .i64 s.1)])
    (fun s H' => s.1 <= 5 /\ a < s.2.1 /\ s.2.1 <= b /\ s.2.2.size = n /\ QA Q s.2.2 /\ Same (fun k => k = id) H H' /\ Arr Bk.cells H' id s.2.2 /\ partialIns lt a b (5 - s.1) s.2.1 s.2.2 = partialIns lt a b 5 a1 d) (fun s => 5 - s.1) (0, a1, d) ?_ ?_ ?_
  · simp [upF, Fr.get, Up.refl]
  · exact ⟨by simp, by simp only; omega, by simp only; omega, hn, hQ, Same.refl _ _, hA, rfl⟩
  · rintro K0 ⟨t, i, d1⟩ H1 ⟨ht, hai, hib, hsz, hQ1, hS1, hA1, hO⟩ hK0
    simp only at ht hai hib hsz hQ1 hS1 hA1 hO
    by_cases ht5 : t < 5
    · have ht5' : (t : Int) < 5 := by omega
      have hw_t : IntKind.i64.wrap ((t : Int) + 1) = (t : Int) + 1 := i64w (by omega) (by omega)
      obtain ⟨q, hq⟩ : ∃ q, 5 - t = q + 1 := ⟨4 - t, by omega⟩
      have hq2 : 5 - (t + 1) = q := by omega
      rw [hq, partialIns_succ] at hO
      obtain ⟨bd1, bd2⟩ := scanSorted_bd (lt := lt) (d := d1) (i := i) (b := b) hib
      simp (maxSteps := 1000000) [go_sem, ht5, ht5']
      refine AWp.loopCut (St := Nat) (St' := Unit) 2 (fun s => [(0, lv 3 id 0 n), (1, .int .i64 a), (2, .int .i64 b), (3, .func (.func g) fs.toArray cs.toArray), (9, .int .i64 s), (10, .int .i64 t)])
        (fun s H2 => a < s /\ s <= b /\ Same (fun k => k = id) H H2 /\ Arr Bk.cells H2 id d1 /\ scanSorted lt d1 b s = scanSorted lt d1 b i) (fun s => b - s) i
        (fun _ => [(0, lv 3 id 0 n), (1, .int .i64 a), (2, .int .i64 b), (3, .func (.func g) fs.toArray cs.toArray), (9, .int .i64 ((scanSorted lt d1 b i : Nat) : Int)), (10, .int .i64 t)])
        (fun _ H2 => Same (fun k => k = id) H H2 /\ Arr Bk.cells H2 id d1) ?_ ?_ ?_ ?_
      · simp [upF, Fr.get, Up.refl]
      · exact ⟨hai, hib, hS1, hA1, rfl⟩
      · rintro K KE s H2 ⟨has, hsb, hS2, hA2, hP⟩ hK hKE
        by_cases hsb2 : s < b
        · have hsb3 : (s : Int) < b := by omega
          obtain ⟨p, hp⟩ : ∃ p, s - 1 = p := ⟨_, rfl⟩
          have wp : IntKind.i64.wrap ((s : Int) - 1) = (p : Int) := by rw [<- hp, i64w (by omega) (by omega)]; omega
          have hw_s : IntKind.i64.wrap ((s : Int) + 1) = (s : Int) + 1 := i64w (by omega) (by omega)
          have hi1 : s < d1.size := by omega
          have hi0 : p < d1.size := by omega
          have n1 : s < n := by omega
          have n0 : p < n := by omega
          have c1 := hA2.load Bk.cells_len hi1
          have c0 := hA2.load Bk.cells_len hi0
          have q1 := hQ1 _ hi1
          have q0 := hQ1 _ hi0
          obtain ⟨x, hx⟩ : ∃ x, d1[s]! = x := ⟨_, rfl⟩
          obtain ⟨y, hy⟩ : ∃ y, d1[p]! = y := ⟨_, rfl⟩
          rw [hx] at c1 q1
          rw [hy] at c0 q0
          simp only [Bk.cells, Nat.mul_one, Row.val] at c1 c0
          refine AWp.draw mixed [(0, false), (1, false), (2, false), (3, false), (4, false), (5, false), (6, false), (7, false), (8, false), (9, false), (10, false), (11, false), (12, false), (13, false), (14, false), (15, false), (16, false), (17, false)] (by kernel_rfl) ?_
          simp (maxSteps := 1000000) [go_sem, hsb2, hsb3, c1, c0, n1, n0, wp]
          refine hC H2 x y _ hS2 q1 q0 ?_
          intro H3 c hp3 hc
          have hS3 := hS2.via (Same.of_prefix (S := fun _ => False) hp3) (fun _ _ h => h.elim)
          have hA3 := hA2.pre hp3
          cases hl' : lt x y with
          | false =>
            rw [hl'] at hc
            have hc0 := hc
            simp only [decide_eq_true_eq, decide_eq_false_iff_not] at hc0
            simp (maxSteps := 1000000) [go_sem, hc, hc0, hw_s]
            exact hK (s + 1) _ _ (by omega) (by simp [upF, Fr.get, Up.refl]) ⟨by omega, by omega, hS3, hA3, by rw [<- hP]; exact (scanSorted_go hsb2 (by rw [hp, hx, hy]; exact hl')).symm⟩
          | true =>
            rw [hl'] at hc
            have hc0 := hc
            simp only [decide_eq_true_eq, decide_eq_false_iff_not] at hc0
            rw [scanSorted_stop (.inr (by rw [hp, hx, hy]; exact hl'))] at hP
            simp (maxSteps := 1000000) [go_sem, hc, hc0]
            exact hKE () _ _ (by simp [upF, Fr.get, Up.refl, hP]) ⟨hS3, hA3⟩
        · rw [scanSorted_stop (.inl (by omega))] at hP
          have hsb3 : ¬ ((s : Int) < b) := by omega
          refine AWp.draw mixed [(0, false), (1, false), (2, false), (3, false), (4, false), (5, false), (6, false), (7, false), (8, false), (9, false), (10, false), (11, false), (12, false), (13, false), (14, false), (15, false), (16, false), (17, false)] (by kernel_rfl) ?_
          simp (maxSteps := 1000000) [go_sem, undef, hsb2, hsb3]
          exact hKE () _ _ (by simp [upF, Fr.get, Up.refl, hP]) ⟨hS2, hA2⟩
      rintro _ H2 ⟨hS2, hA2⟩
      obtain ⟨i2, hi2⟩ : ∃ I, scanSorted lt d1 b i = I := ⟨_, rfl⟩
      rw [hi2] at bd1 bd2 hO ⊢
      by_cases hib2 : i2 = b
      · subst hib2
        rw [if_pos rfl] at hO
        rw [<- hO] at h
        simp (maxSteps := 1000000) [go_sem]
        exact h H2 hS2 hA2
      · rw [if_neg hib2] at hO
        have hib3 : ((i2 : Int) == (b : Int)) = false := by rw [beq_eq_false_iff_ne]; omega
        by_cases h50 : b - a < 50
        · have h50' : (b : Int) - a < 50 := by omega
          rw [if_pos h50] at hO
          rw [<- hO] at h
          simp (maxSteps := 1000000) [go_sem, hib2, hib3, w0, h50']
          exact h H2 hS2 hA2
        · have h50' : ¬ ((b : Int) - a < 50) := by omega
          rw [if_neg h50] at hO
          obtain ⟨p, hp⟩ : ∃ p, i2 - 1 = p := ⟨_, rfl⟩
          have wp : IntKind.i64.wrap ((i2 : Int) - 1) = (p : Int) := by rw [<- hp, i64w (by omega) (by omega)]; omega
          have wia : IntKind.i64.wrap ((i2 : Int) - a) = (i2 : Int) - a := i64w (by omega) (by omega)
          have wbi : IntKind.i64.wrap ((b : Int) - i2) = (b : Int) - i2 := i64w (by omega) (by omega)
          have wi1 : IntKind.i64.wrap ((i2 : Int) + 1) = (i2 : Int) + 1 := i64w (by omega) (by omega)
          rw [hp] at hO
          have u1 : i2 < (d1).size := by omega
          have u2 : p < (d1).size := by omega
          have u3 : i2 < n := by omega
          have u4 : p < n := by omega
          have uca := (hA2).load Bk.cells_len u1
          have ucb := (hA2).load Bk.cells_len u2
          obtain ⟨H5, H6, us1, us0, hA6, hS6, ul⟩ := (hA2).swap Bk.cells_len Bk.cells_one u1 u2
          obtain ⟨ux, uhx⟩ : ∃ x, x = (d1)[i2]! := ⟨_, rfl⟩
          obtain ⟨uy, uhy⟩ : ∃ y, y = (d1)[p]! := ⟨_, rfl⟩
          rw [<- uhx] at uca us0
          rw [<- uhy] at ucb us1
          simp only [Bk.cells, Nat.mul_one, Row.val] at uca ucb us0 us1
          have hQ6 := hQ1.swp u1 u2
          have hsz6 : (swp d1 i2 p).size = n := by rw [size_swp]; exact hsz
          have hS6 := hS2.trans hS6
          simp (maxSteps := 1000000) [go_sem, hib2, hib3, w0, h50']
          refine AWp.draw mixed [(0, false), (1, false), (2, false), (3, false), (4, false), (5, false), (6, false), (7, false), (8, false), (9, false), (10, false), (11, false), (12, false), (13, false), (14, false), (15, false), (16, false), (17, false)] (by kernel_rfl) ?_
          simp (maxSteps := 1000000) [go_sem, uca, ucb, u3, u4, us1, us0, wp]
          generalize swp d1 i2 p = d2 at *
          clear uca ucb us1 us0
          by_cases hd : 2 <= i2 - a
          · have hd' : (2 : Int) <= (i2 : Int) - a := by omega
            have e1 : fixDown lt a i2 d2 = shiftDown lt p d2 := by unfold fixDown; rw [if_pos hd, hp]
            rw [e1] at hO
            simp (maxSteps := 1000000) [go_sem, wia, hd, hd', wp]
            refine AWp.loopCut (St := Nat × Array Bk) (St' := Unit) 4 (fun s => [(0, lv 3 id 0 n), (1, .int .i64 a), (2, .int .i64 b), (3, .func (.func g) fs.toArray cs.toArray), (9, .int .i64 i2), (10, .int .i64 t), (11, .int .i64 s.1)])
              (fun s H2 => s.1 <= p /\ s.2.size = n /\ QA Q s.2 /\ Same (fun k => k = id) H H2 /\ Arr Bk.cells H2 id s.2 /\ shiftDown lt s.1 s.2 = shiftDown lt p d2) (fun s => s.1) (p, d2)
              (fun _ => [(0, lv 3 id 0 n), (1, .int .i64 a), (2, .int .i64 b), (3, .func (.func g) fs.toArray cs.toArray), (9, .int .i64 i2), (10, .int .i64 t)])
              (fun _ H2 => Same (fun k => k = id) H H2 /\ Arr Bk.cells H2 id (shiftDown lt p d2)) ?_ ?_ ?_ ?_
            · simp [upF, Fr.get, Up.refl]
            · exact ⟨Nat.le_refl _, hsz6, hQ6, hS6, hA6, rfl⟩
            · rintro K KE ⟨s, d3⟩ H7 ⟨hsp, hsz3, hQ3, hS7, hA7, hP⟩ hK hKE
              simp only at hsp hsz3 hQ3 hS7 hA7 hP
              cases s with
              | zero =>
                have hP' : d3 = shiftDown lt p d2 := hP
                simp (maxSteps := 1000000) [go_sem]
                exact hKE () _ _ (by simp [upF, Fr.get, Up.refl]) ⟨hS7, hP' ▸ hA7⟩
              | succ r =>
                have hi1 : r + 1 < d3.size := by omega
                have hi0 : r < d3.size := by omega
                have n1 : r + 1 < n := by omega
                have n0 : r < n := by omega
                have m1 : (r : Int) + 1 < n := by omega
                have z1 : (0 : Int) <= (r : Int) + 1 := by omega
                have z2 : (1 : Int) <= (r : Int) + 1 := by omega
                have hwr : IntKind.i64.wrap (r : Int) = (r : Int) := i64w (by omega) (by omega)
                have c1 := hA7.load Bk.cells_len hi1
                have c0 := hA7.load Bk.cells_len hi0
                have q1 := hQ3 _ hi1
                have q0 := hQ3 _ hi0
                obtain ⟨x, hx⟩ : ∃ x, d3[r + 1]! = x := ⟨_, rfl⟩
                obtain ⟨y, hy⟩ : ∃ y, d3[r]! = y := ⟨_, rfl⟩
                rw [hx] at c1 q1
                rw [hy] at c0 q0
                simp only [Bk.cells, Nat.mul_one, Row.val] at c1 c0
                simp (maxSteps := 1000000) [go_sem, z2]
                refine AWp.draw mixed [(0, false), (1, false), (2, false), (3, false), (4, false), (5, false), (6, false), (7, false), (8, false), (9, false), (10, false), (11, false), (12, false)] (by kernel_rfl) ?_
                simp (maxSteps := 1000000) [go_sem, c1, c0, n1, n0, m1, z1, hwr]
                refine hC H7 x y _ hS7 q1 q0 ?_
                intro H8 c hp8 hc
                have hS8 := hS7.via (Same.of_prefix (S := fun _ => False) hp8) (fun _ _ h => h.elim)
                have hA8 := hA7.pre hp8
                cases hl' : lt x y with
                | false =>
                  rw [hl'] at hc
                  have hc0 := hc
                  simp only [decide_eq_true_eq, decide_eq_false_iff_not] at hc0
                  rw [shiftDown_stop (by rw [hx, hy]; exact hl')] at hP
                  simp (maxSteps := 1000000) [go_sem, hc, hc0]
                  exact hKE () _ _ (by simp [upF, Fr.get, Up.refl]) ⟨hS8, hP ▸ hA8⟩
                | true =>
                  rw [hl'] at hc
                  have hc0 := hc
                  simp only [decide_eq_true_eq, decide_eq_false_iff_not] at hc0
                  rw [shiftDown_go (by rw [hx, hy]; exact hl')] at hP
                  have v1 : (r + 1) < (d3).size := by omega
                  have v2 : r < (d3).size := by omega
                  have v3 : (r + 1) < n := by omega
                  have v4 : r < n := by omega
                  have vca := (hA8).load Bk.cells_len v1
                  have vcb := (hA8).load Bk.cells_len v2
                  obtain ⟨H9, HA, vs1, vs0, hAA, hSA, vl⟩ := (hA8).swap Bk.cells_len Bk.cells_one v1 v2
                  obtain ⟨vx, vhx⟩ : ∃ x, x = (d3)[(r + 1)]! := ⟨_, rfl⟩
                  obtain ⟨vy, vhy⟩ : ∃ y, y = (d3)[r]! := ⟨_, rfl⟩
                  rw [<- vhx] at vca vs0
                  rw [<- vhy] at vcb vs1
                  simp only [Bk.cells, Nat.mul_one, Row.val] at vca vcb vs0 vs1
                  simp (maxSteps := 1000000) [go_sem, hc, hc0]
                  refine AWp.draw mixed [(0, false), (1, false), (2, false), (3, false), (4, false), (5, false), (6, false), (7, false), (8, false), (9, false), (10, false), (11, false), (12, false), (13, false), (14, false), (15, false), (16, false), (17, false)] (by kernel_rfl) ?_
                  simp (maxSteps := 1000000) [go_sem, vca, vcb, v3, v4, m1, z1, vs1, vs0, hwr]
                  exact hK (r, swp d3 (r + 1) r) _ _ (by simp only; omega) (by simp [upF, Fr.get, Up.refl]) ⟨by simp only; omega, by rw [size_swp]; exact hsz3, hQ3.swp v1 v2, hS8.trans hSA, hAA, hP⟩
            rintro _ H7 ⟨hS7, hA7⟩
            have hsz7 : (shiftDown lt p d2).size = n := by rw [shiftDown_size]; exact hsz6
            have hQ7 := shiftDown_QA (lt := lt) (j := p) (by omega) hQ6
            simp (maxSteps := 1000000) [go_sem]
            obtain ⟨d9, hd9⟩ : ∃ d9, shiftDown lt p d2 = d9 := ⟨_, rfl⟩
            have hA9 := hA7
            have hQ9 := hQ7
            have hz9 := hsz7
            rw [hd9] at hA9 hQ9 hz9 hO
            by_cases hu : 2 <= b - i2
            · have hu' : (2 : Int) <= (b : Int) - i2 := by omega
              have e2 : fixUp lt b i2 d9 = shiftUp lt b (i2 + 1) d9 := by unfold fixUp; rw [if_pos hu]
              rw [e2] at hO
              simp (maxSteps := 1000000) [go_sem, wbi, hu, hu', wi1]
              refine AWp.loopCut (St := Nat × Array Bk) (St' := Unit) 6 (fun s => [(0, lv 3 id 0 n), (1, .int .i64 a), (2, .int .i64 b), (3, .func (.func g) fs.toArray cs.toArray), (9, .int .i64 i2), (10, .int .i64 t), (12, .int .i64 s.1)])
                (fun s H2 => i2 < s.1 /\ s.1 <= b /\ s.2.size = n /\ QA Q s.2 /\ Same (fun k => k = id) H H2 /\ Arr Bk.cells H2 id s.2 /\ shiftUp lt b s.1 s.2 = shiftUp lt b (i2 + 1) d9) (fun s => b - s.1) (i2 + 1, d9)
                (fun _ => [(0, lv 3 id 0 n), (1, .int .i64 a), (2, .int .i64 b), (3, .func (.func g) fs.toArray cs.toArray), (9, .int .i64 i2), (10, .int .i64 t)])
                (fun _ H2 => Same (fun k => k = id) H H2 /\ Arr Bk.cells H2 id (shiftUp lt b (i2 + 1) d9)) ?_ ?_ ?_ ?_
              · simp [upF, Fr.get, Up.refl]
              · exact ⟨by simp only; omega, by simp only; omega, hz9, hQ9, hS7, hA9, rfl⟩
              · rintro K KE ⟨s, d3⟩ HB ⟨hsi, hsb, hsz3, hQ3, hSB, hAB, hP⟩ hK hKE
                simp only at hsi hsb hsz3 hQ3 hSB hAB hP
                by_cases hsb2 : s < b
                · have hsb3 : (s : Int) < b := by omega
                  obtain ⟨r, hr⟩ : ∃ r, s - 1 = r := ⟨_, rfl⟩
                  have wr : IntKind.i64.wrap ((s : Int) - 1) = (r : Int) := by rw [<- hr, i64w (by omega) (by omega)]; omega
                  have hw_s : IntKind.i64.wrap ((s : Int) + 1) = (s : Int) + 1 := i64w (by omega) (by omega)
                  have hi1 : s < d3.size := by omega
                  have hi0 : r < d3.size := by omega
                  have n1 : s < n := by omega
                  have n0 : r < n := by omega
                  have c1 := hAB.load Bk.cells_len hi1
                  have c0 := hAB.load Bk.cells_len hi0
                  have q1 := hQ3 _ hi1
                  have q0 := hQ3 _ hi0
                  obtain ⟨x, hx⟩ : ∃ x, d3[s]! = x := ⟨_, rfl⟩
                  obtain ⟨y, hy⟩ : ∃ y, d3[r]! = y := ⟨_, rfl⟩
                  rw [hx] at c1 q1
                  rw [hy] at c0 q0
                  simp only [Bk.cells, Nat.mul_one, Row.val] at c1 c0
                  simp (maxSteps := 1000000) [go_sem, hsb2, hsb3]
                  refine AWp.draw mixed [(0, false), (1, false), (2, false), (3, false), (4, false), (5, false), (6, false), (7, false), (8, false), (9, false), (10, false), (11, false), (12, false)] (by kernel_rfl) ?_
                  simp (maxSteps := 1000000) [go_sem, c1, c0, n1, n0, wr]
                  refine hC HB x y _ hSB q1 q0 ?_
                  intro HC c hpC hc
                  have hSC := hSB.via (Same.of_prefix (S := fun _ => False) hpC) (fun _ _ h => h.elim)
                  have hAC := hAB.pre hpC
                  cases hl' : lt x y with
                  | false =>
                    rw [hl'] at hc
                    have hc0 := hc
                    simp only [decide_eq_true_eq, decide_eq_false_iff_not] at hc0
                    rw [shiftUp_stop hsb2 (by rw [hr, hx, hy]; exact hl')] at hP
                    simp (maxSteps := 1000000) [go_sem, hc, hc0]
                    exact hKE () _ _ (by simp [upF, Fr.get, Up.refl]) ⟨hSC, hP ▸ hAC⟩
                  | true =>
                    rw [hl'] at hc
                    have hc0 := hc
                    simp only [decide_eq_true_eq, decide_eq_false_iff_not] at hc0
                    rw [shiftUp_go hsb2 (by rw [hr, hx, hy]; exact hl'), hr] at hP
                    have v1 : s < (d3).size := by omega
                    have v2 : r < (d3).size := by omega
                    have v3 : s < n := by omega
                    have v4 : r < n := by omega
                    have vca := (hAC).load Bk.cells_len v1
                    have vcb := (hAC).load Bk.cells_len v2
                    obtain ⟨HD, HE, vs1, vs0, hAE, hSE, vl⟩ := (hAC).swap Bk.cells_len Bk.cells_one v1 v2
                    obtain ⟨vx, vhx⟩ : ∃ x, x = (d3)[s]! := ⟨_, rfl⟩
                    obtain ⟨vy, vhy⟩ : ∃ y, y = (d3)[r]! := ⟨_, rfl⟩
                    rw [<- vhx] at vca vs0
                    rw [<- vhy] at vcb vs1
                    simp only [Bk.cells, Nat.mul_one, Row.val] at vca vcb vs0 vs1
                    simp (maxSteps := 1000000) [go_sem, hc, hc0]
                    refine AWp.draw mixed [(0, false), (1, false), (2, false), (3, false), (4, false), (5, false), (6, false), (7, false), (8, false), (9, false), (10, false), (11, false), (12, false), (13, false), (14, false), (15, false), (16, false), (17, false)] (by kernel_rfl) ?_
                    simp (maxSteps := 1000000) [go_sem, vca, vcb, v3, v4, vs1, vs0, wr, hw_s]
                    exact hK (s + 1, swp d3 s r) _ _ (by simp only; omega) (by simp [upF, Fr.get, Up.refl]) ⟨by simp only; omega, by simp only; omega, by rw [size_swp]; exact hsz3, hQ3.swp v1 v2, hSC.trans hSE, hAE, hP⟩
                · rw [shiftUp_end (by omega)] at hP
                  have hsb3 : ¬ ((s : Int) < b) := by omega
                  simp (maxSteps := 1000000) [go_sem, hsb2, hsb3]
                  exact hKE () _ _ (by simp [upF, Fr.get, Up.refl]) ⟨hSB, hP ▸ hAB⟩
              rintro _ HB ⟨hSB, hAB⟩
              simp (maxSteps := 1000000) [go_sem, hw_t]
              exact hK0 (t + 1, i2, shiftUp lt b (i2 + 1) d9) _ _ (by simp only; omega) (by simp [upF, Fr.get, Up.refl]) ⟨by simp only; omega, by simp only; omega, bd2, by rw [shiftUp_size]; exact hz9, shiftUp_QA (by omega) hQ9, hSB, hAB, by simp only [hq2]; exact hO⟩
            · have hu' : ¬ ((2 : Int) <= (b : Int) - i2) := by omega
              have e2 : fixUp lt b i2 d9 = d9 := by unfold fixUp; rw [if_neg hu]
              rw [e2] at hO
              simp (maxSteps := 1000000) [go_sem, wbi, hu, hu', hw_t]
              exact hK0 (t + 1, i2, d9) _ _ (by simp only; omega) (by simp [upF, Fr.get, Up.refl]) ⟨by simp only; omega, by simp only; omega, bd2, hz9, hQ9, hS7, hA9, by simp only [hq2]; exact hO⟩
          · have hd' : ¬ ((2 : Int) <= (i2 : Int) - a) := by omega
            have e1 : fixDown lt a i2 d2 = d2 := by unfold fixDown; rw [if_neg hd]
            rw [e1] at hO
            simp (maxSteps := 1000000) [go_sem, wia, hd, hd']
            obtain ⟨d9, hd9⟩ : ∃ d9, d2 = d9 := ⟨_, rfl⟩
            have hA9 := hA6
            have hQ9 := hQ6
            have hz9 := hsz6
            rw [hd9] at hA9 hQ9 hz9 hO
            by_cases hu : 2 <= b - i2
            · have hu' : (2 : Int) <= (b : Int) - i2 := by omega
              have e2 : fixUp lt b i2 d9 = shiftUp lt b (i2 + 1) d9 := by unfold fixUp; rw [if_pos hu]
              rw [e2] at hO
              simp (maxSteps := 1000000) [go_sem, wbi, hu, hu', wi1]
              refine AWp.loopCut (St := Nat × Array Bk) (St' := Unit) 6 (fun s => [(0, lv 3 id 0 n), (1, .int .i64 a), (2, .int .i64 b), (3, .func (.func g) fs.toArray cs.toArray), (9, .int .i64 i2), (10, .int .i64 t), (12, .int .i64 s.1)])
                (fun s H2 => i2 < s.1 /\ s.1 <= b /\ s.2.size = n /\ QA Q s.2 /\ Same (fun k => k = id) H H2 /\ Arr Bk.cells H2 id s.2 /\ shiftUp lt b s.1 s.2 = shiftUp lt b (i2 + 1) d9) (fun s => b - s.1) (i2 + 1, d9)
                (fun _ => [(0, lv 3 id 0 n), (1, .int .i64 a), (2, .int .i64 b), (3, .func (.func g) fs.toArray cs.toArray), (9, .int .i64 i2), (10, .int .i64 t)])
                (fun _ H2 => Same (fun k => k = id) H H2 /\ Arr Bk.cells H2 id (shiftUp lt b (i2 + 1) d9)) ?_ ?_ ?_ ?_
              · simp [upF, Fr.get, Up.refl]
              · exact ⟨by simp only; omega, by simp only; omega, hz9, hQ9, hS6, hA9, rfl⟩
              · rintro K KE ⟨s, d3⟩ HB ⟨hsi, hsb, hsz3, hQ3, hSB, hAB, hP⟩ hK hKE
                simp only at hsi hsb hsz3 hQ3 hSB hAB hP
                by_cases hsb2 : s < b
                · have hsb3 : (s : Int) < b := by omega
                  obtain ⟨r, hr⟩ : ∃ r, s - 1 = r := ⟨_, rfl⟩
                  have wr : IntKind.i64.wrap ((s : Int) - 1) = (r : Int) := by rw [<- hr, i64w (by omega) (by omega)]; omega
                  have hw_s : IntKind.i64.wrap ((s : Int) + 1) = (s : Int) + 1 := i64w (by omega) (by omega)
                  have hi1 : s < d3.size := by omega
                  have hi0 : r < d3.size := by omega
                  have n1 : s < n := by omega
                  have n0 : r < n := by omega
                  have c1 := hAB.load Bk.cells_len hi1
                  have c0 := hAB.load Bk.cells_len hi0
                  have q1 := hQ3 _ hi1
                  have q0 := hQ3 _ hi0
                  obtain ⟨x, hx⟩ : ∃ x, d3[s]! = x := ⟨_, rfl⟩
                  obtain ⟨y, hy⟩ : ∃ y, d3[r]! = y := ⟨_, rfl⟩
                  rw [hx] at c1 q1
                  rw [hy] at c0 q0
                  simp only [Bk.cells, Nat.mul_one, Row.val] at c1 c0
                  simp (maxSteps := 1000000) [go_sem, hsb2, hsb3]
                  refine AWp.draw mixed [(0, false), (1, false), (2, false), (3, false), (4, false), (5, false), (6, false), (7, false), (8, false), (9, false), (10, false), (11, false), (12, false)] (by kernel_rfl) ?_
                  simp (maxSteps := 1000000) [go_sem, c1, c0, n1, n0, wr]
                  refine hC HB x y _ hSB q1 q0 ?_
                  intro HC c hpC hc
                  have hSC := hSB.via (Same.of_prefix (S := fun _ => False) hpC) (fun _ _ h => h.elim)
                  have hAC := hAB.pre hpC
                  cases hl' : lt x y with
                  | false =>
                    rw [hl'] at hc
                    have hc0 := hc
                    simp only [decide_eq_true_eq, decide_eq_false_iff_not] at hc0
                    rw [shiftUp_stop hsb2 (by rw [hr, hx, hy]; exact hl')] at hP
                    simp (maxSteps := 1000000) [go_sem, hc, hc0]
                    exact hKE () _ _ (by simp [upF, Fr.get, Up.refl]) ⟨hSC, hP ▸ hAC⟩
                  | true =>
                    rw [hl'] at hc
                    have hc0 := hc
                    simp only [decide_eq_true_eq, decide_eq_false_iff_not] at hc0
                    rw [shiftUp_go hsb2 (by rw [hr, hx, hy]; exact hl'), hr] at hP
                    have v1 : s < (d3).size := by omega
                    have v2 : r < (d3).size := by omega
                    have v3 : s < n := by omega
                    have v4 : r < n := by omega
                    have vca := (hAC).load Bk.cells_len v1
                    have vcb := (hAC).load Bk.cells_len v2
                    obtain ⟨HD, HE, vs1, vs0, hAE, hSE, vl⟩ := (hAC).swap Bk.cells_len Bk.cells_one v1 v2
                    obtain ⟨vx, vhx⟩ : ∃ x, x = (d3)[s]! := ⟨_, rfl⟩
                    obtain ⟨vy, vhy⟩ : ∃ y, y = (d3)[r]! := ⟨_, rfl⟩
                    rw [<- vhx] at vca vs0
                    rw [<- vhy] at vcb vs1
                    simp only [Bk.cells, Nat.mul_one, Row.val] at vca vcb vs0 vs1
                    simp (maxSteps := 1000000) [go_sem, hc, hc0]
                    refine AWp.draw mixed [(0, false), (1, false), (2, false), (3, false), (4, false), (5, false), (6, false), (7, false), (8, false), (9, false), (10, false), (11, false), (12, false), (13, false), (14, false), (15, false), (16, false), (17, false)] (by kernel_rfl) ?_
                    simp (maxSteps := 1000000) [go_sem, vca, vcb, v3, v4, vs1, vs0, wr, hw_s]
                    exact hK (s + 1, swp d3 s r) _ _ (by simp only; omega) (by simp [upF, Fr.get, Up.refl]) ⟨by simp only; omega, by simp only; omega, by rw [size_swp]; exact hsz3, hQ3.swp v1 v2, hSC.trans hSE, hAE, hP⟩
                · rw [shiftUp_end (by omega)] at hP
                  have hsb3 : ¬ ((s : Int) < b) := by omega
                  simp (maxSteps := 1000000) [go_sem, hsb2, hsb3]
                  exact hKE () _ _ (by simp [upF, Fr.get, Up.refl]) ⟨hSB, hP ▸ hAB⟩
              rintro _ HB ⟨hSB, hAB⟩
              simp (maxSteps := 1000000) [go_sem, hw_t]
              exact hK0 (t + 1, i2, shiftUp lt b (i2 + 1) d9) _ _ (by simp only; omega) (by simp [upF, Fr.get, Up.refl]) ⟨by simp only; omega, by simp only; omega, bd2, by rw [shiftUp_size]; exact hz9, shiftUp_QA (by omega) hQ9, hSB, hAB, by simp only [hq2]; exact hO⟩
            · have hu' : ¬ ((2 : Int) <= (b : Int) - i2) := by omega
              have e2 : fixUp lt b i2 d9 = d9 := by unfold fixUp; rw [if_neg hu]
              rw [e2] at hO
              simp (maxSteps := 1000000) [go_sem, wbi, hu, hu', hw_t]
              exact hK0 (t + 1, i2, d9) _ _ (by simp only; omega) (by simp [upF, Fr.get, Up.refl]) ⟨by simp only; omega, by simp only; omega, bd2, hz9, hQ9, hS6, hA9, by simp only [hq2]; exact hO⟩
    · have ht5' : ¬ ((t : Int) < 5) := by omega
      have e : 5 - t = 0 := by omega
      rw [e] at hO
      have hO' : (d1, false) = partialIns lt a b 5 a1 d := hO
      rw [<- hO'] at h
      simp (maxSteps := 1000000) [go_sem, ht5, ht5']
      exact h H1 hS1 hA1

end Go.Proofs.YtfnegaedkomcgaaGreat
end

section
namespace Go.Proofs.YtfnegaedkomcgaaGreat
open Go.Ab Go.Sort

theorem breakB_ok {H : Heap} {id a b n : Nat} {d : Array Bk} {g : FuncId} {fs cs : List Value} {Q : Bk -> Prop} (hA : Arr Bk.cells H id d) (hn : d.size = n) (hl : n <= 1048576) (hab : a <= b) (hb : b <= n) (hQ : QA Q d)
    (Post : Value -> Heap -> Prop) (h : ∀ H' d', Same (fun k => k = id) H H' -> Arr Bk.cells H' id d' -> QA Q d' -> PermIn a b d d' -> Post (.tuple #[]) H') :
    ACalls Tryz.prog 174 [lv 3 id 0 n, .int .i64 a, .int .i64 b, .func (.func g) fs.toArray cs.toArray] H Post := by
  refine acalls_vc (rs := []) Tryz.func174 rfl rfl Tryz.ntmps174 rfl rfl ?_
  obtain ⟨l, hll⟩ : ∃ l, l = b - a := ⟨_, rfl⟩
  obtain ⟨q, hq⟩ : ∃ q, q = l / 4 := ⟨_, rfl⟩
  have w0 : IntKind.i64.wrap ((b : Int) - a) = (l : Int) := by rw [hll, i64w (by omega) (by omega)]; omega
  by_cases h8 : 8 <= l
  · have h8' : (8 : Int) <= l := by omega
    obtain ⟨i0, hi0⟩ : ∃ i0, i0 = a + q * 2 - 1 := ⟨_, rfl⟩
    have w1 : IntKind.i64.wrap ((l : Int) / 4) = (q : Int) := by rw [hq, i64w (by omega) (by omega)]; omega
    have w2 : IntKind.i64.wrap ((q : Int) * 2) = (q : Int) * 2 := i64w (by omega) (by omega)
    have w3 : IntKind.i64.wrap ((a : Int) + (q : Int) * 2) = (a : Int) + (q : Int) * 2 := i64w (by omega) (by omega)
    have w4 : IntKind.i64.wrap ((a : Int) + (q : Int) * 2 - 1) = (i0 : Int) := by rw [hi0, i64w (by omega) (by omega)]; omega
    have w5 : IntKind.i64.wrap ((a : Int) + (q : Int) * 2 + 1) = (i0 : Int) + 2 := by rw [i64w (by omega) (by omega)]; omega
    have w6 : IntKind.u64.wrap (l : Int) = l := by rw [IntKind.wrap_u64]; omega
    simp (maxSteps := 1000000) [go_sem, w0, h8, h8', w6]
    have hp0 : H <+: H ++ [⟨[.int .u64 l], true, true⟩] := List.prefix_append _ _
    have hz0 : (H ++ [(⟨[.int .u64 l], true, true⟩ : Blk)])[H.length]? = some ⟨[.int .u64 l], true, true⟩ := by simp
    have hidl := hA.lt
    have hA0 := hA.pre hp0
    have hS0 : Same (fun k => k = id) H (H ++ [⟨[.int .u64 l], true, true⟩]) := Same.of_prefix hp0
    generalize H ++ [(⟨[.int .u64 l], true, true⟩ : Blk)] = H0 at hp0 hz0 hA0 hS0 ⊢
    refine nextPow_ok (by omega) (by omega) _ ?_
    intro m hm0 hm
    obtain ⟨m1, hm1⟩ : ∃ m1, m1 = m - 1 := ⟨_, rfl⟩
    have w7 : IntKind.u64.wrap ((m : Int) - 1) = (m1 : Int) := by rw [hm1, IntKind.wrap_u64]; omega
    simp (maxSteps := 1000000) [go_sem, w1, w2, w3, w4]
    refine AWp.loopVc (St := Nat × Array Bk × Int) (fun s => [(0, lv 3 id 0 n), (1, .int .i64 a), (8, .int .i64 l), (9, .pointer (some ⟨H.length, 0, none⟩)), (10, .int .u64 m), (11, .int .i64 s.1)])
      (fun s H' => i0 <= s.1 /\ s.1 <= i0 + 3 /\ s.2.1.size = n /\ QA Q s.2.1 /\ Same (fun k => k = id) H H' /\ Arr Bk.cells H' id s.2.1 /\ PermIn a b d s.2.1 /\ H'[H.length]? = some ⟨[.int .u64 s.2.2], true, true⟩) (fun s => i0 + 3 - s.1) (i0, d, (l : Int)) ?_ ?_ ?_
    · simp [upF, Fr.get, Up.refl]
    · exact ⟨Nat.le_refl _, by simp only; omega, hn, hQ, hS0, hA0, permIn_refl _ _ _, hz0⟩
    · rintro K ⟨i, d1, z⟩ H1 ⟨hi1, hi2, hsz, hQ1, hS1, hA1, hP, hz⟩ hK
      simp only at hi1 hi2 hsz hQ1 hS1 hA1 hP hz
      by_cases hi3 : i <= i0 + 2
      · have hi3' : (i : Int) <= (i0 : Int) + 2 := by omega
        have hw_i : IntKind.i64.wrap ((i : Int) + 1) = (i : Int) + 1 := i64w (by omega) (by omega)
        simp (maxSteps := 1000000) [go_sem, w1, w2, w3, w5, hi3, hi3']
        refine xorNext_ok hz _ ?_
        intro z' H2 hzl hS2 hz2
        have hA2 : Arr Bk.cells H2 id d1 := hS2.get hA1 (by omega)
        have hS2' : Same (fun k => k = id) H H2 := hS1.via hS2 (by intro j hj e; omega)
        obtain ⟨o, ho⟩ : ∃ o, o = (z' % 2 ^ 64) &&& m1 := ⟨_, rfl⟩
        have hol : o <= m1 := by rw [ho]; exact Nat.and_le_right
        have hand := and_u64r (a := z') (b := m1) (by omega)
        rw [<- ho] at hand
        have w8 : IntKind.i64.wrap (o : Int) = o := i64w (by omega) (by omega)
        have fin : ∀ (o2 : Nat), o2 < l -> ∀ (H3 : Heap), H3 = H2 -> Same (fun k => k = id) H H3 := fun _ _ H3 e => e ▸ hS2'
        by_cases hol2 : l <= o
        · have hol2' : (l : Int) <= o := by omega
          obtain ⟨o2, ho2⟩ : ∃ o2, o2 = o - l := ⟨_, rfl⟩
          have w9 : IntKind.i64.wrap ((o : Int) - l) = (o2 : Int) := by rw [ho2, i64w (by omega) (by omega)]; omega
          have hlt : o2 < l := by omega
          simp (maxSteps := 1000000) [go_sem, w7, hand, w8, hol2, hol2', w9]
          obtain ⟨ao, hao⟩ : ∃ ao, ao = a + o2 := ⟨_, rfl⟩
          have wa : IntKind.i64.wrap ((a : Int) + o2) = (ao : Int) := by rw [hao, i64w (by omega) (by omega)]; omega
          have u1 : i < (d1).size := by omega
          have u2 : ao < (d1).size := by omega
          have u3 : i < n := by omega
          have u4 : ao < n := by omega
          have uca := (hA2).load Bk.cells_len u1
          have ucb := (hA2).load Bk.cells_len u2
          obtain ⟨H5, H6, us1, us0, hA6, hS6, ul⟩ := (hA2).swap Bk.cells_len Bk.cells_one u1 u2
          obtain ⟨ux, uhx⟩ : ∃ x, x = (d1)[i]! := ⟨_, rfl⟩
          obtain ⟨uy, uhy⟩ : ∃ y, y = (d1)[ao]! := ⟨_, rfl⟩
          rw [<- uhx] at uca us0
          rw [<- uhy] at ucb us1
          simp only [Bk.cells, Nat.mul_one, Row.val] at uca ucb us0 us1
          refine AWp.draw mixed [(0, false), (1, false), (2, false), (3, false), (4, false), (5, false), (6, false), (7, false), (8, false), (9, false), (10, false), (11, false), (12, false), (13, false), (14, false), (15, false), (16, false), (17, false), (18, false), (19, false)] (by kernel_rfl) ?_
          simp (maxSteps := 1000000) [go_sem, wa, uca, ucb, u3, u4, us1, us0, hw_i]
          have hz6 := hS6.get hz2 (by omega)
          exact hK (i + 1, swp d1 i ao, (z' : Int)) _ _ (by simp only; omega) (by simp [upF, Fr.get, Up.refl]) ⟨by simp only; omega, by simp only; omega, by rw [size_swp]; exact hsz, hQ1.swp u1 u2, hS2'.trans hS6, hA6, permIn_trans _ _ _ a b hP (swp_permIn d1 a b i ao (by omega) (by omega) (by omega) (by omega) (by omega)), hz6⟩
        · have hol2' : ¬ ((l : Int) <= o) := by omega
          have hlt : o < l := by omega
          simp (maxSteps := 1000000) [go_sem, w7, hand, w8, hol2, hol2']
          obtain ⟨ao, hao⟩ : ∃ ao, ao = a + o := ⟨_, rfl⟩
          have wa : IntKind.i64.wrap ((a : Int) + o) = (ao : Int) := by rw [hao, i64w (by omega) (by omega)]; omega
          have u1 : i < (d1).size := by omega
          have u2 : ao < (d1).size := by omega
          have u3 : i < n := by omega
          have u4 : ao < n := by omega
          have uca := (hA2).load Bk.cells_len u1
          have ucb := (hA2).load Bk.cells_len u2
          obtain ⟨H5, H6, us1, us0, hA6, hS6, ul⟩ := (hA2).swap Bk.cells_len Bk.cells_one u1 u2
          obtain ⟨ux, uhx⟩ : ∃ x, x = (d1)[i]! := ⟨_, rfl⟩
          obtain ⟨uy, uhy⟩ : ∃ y, y = (d1)[ao]! := ⟨_, rfl⟩
          rw [<- uhx] at uca us0
          rw [<- uhy] at ucb us1
          simp only [Bk.cells, Nat.mul_one, Row.val] at uca ucb us0 us1
          refine AWp.draw mixed [(0, false), (1, false), (2, false), (3, false), (4, false), (5, false), (6, false), (7, false), (8, false), (9, false), (10, false), (11, false), (12, false), (13, false), (14, false), (15, false), (16, false), (17, false), (18, false), (19, false)] (by kernel_rfl) ?_
          simp (maxSteps := 1000000) [go_sem, wa, uca, ucb, u3, u4, us1, us0, hw_i]
          have hz6 := hS6.get hz2 (by omega)
          exact hK (i + 1, swp d1 i ao, (z' : Int)) _ _ (by simp only; omega) (by simp [upF, Fr.get, Up.refl]) ⟨by simp only; omega, by simp only; omega, by rw [size_swp]; exact hsz, hQ1.swp u1 u2, hS2'.trans hS6, hA6, permIn_trans _ _ _ a b hP (swp_permIn d1 a b i ao (by omega) (by omega) (by omega) (by omega) (by omega)), hz6⟩
      · have hi3' : ¬ ((i : Int) <= (i0 : Int) + 2) := by omega
        simp (maxSteps := 1000000) [go_sem, w1, w2, w3, w5, hi3, hi3']
        exact h H1 d1 hS1 hA1 hQ1 hP
  · have h8' : ¬ ((8 : Int) <= l) := by omega
    have fin := h H d (Same.refl _ _) hA hQ (permIn_refl _ _ _)
    simp (maxSteps := 1000000) [go_sem, w0, h8, h8']
    exact fin

end Go.Proofs.YtfnegaedkomcgaaGreat
end

section
namespace Go.Proofs.YtfnegaedkomcgaaGreat
open Go.Ab Go.Sort

theorem pdqB_ok {lt : Bk -> Bk -> Bool} {g : FuncId} {fs cs : List Value} {Q : Bk -> Prop} {n : Nat} (hS : SWO lt) (hl : n <= 1048576) : ∀ (N : Nat) {H : Heap} {id a b limit : Nat} {d : Array Bk}, b - a <= N -> Arr Bk.cells H id d -> d.size = n -> a <= b -> b <= n -> limit <= 64 -> Below lt a b d -> QA Q d ->
    Cmp Tryz.prog Bk.val lt g fs cs Q id H -> ∀ (Post : Value -> Heap -> Prop), (∀ H' d', Same (fun k => k = id) H H' -> Arr Bk.cells H' id d' -> PermIn a b d d' -> SortedIn lt a b d' -> Post (.tuple #[]) H') ->
    ACalls Tryz.prog 161 [lv 3 id 0 n, .int .i64 a, .int .i64 b, .int .i64 limit, .func (.func g) fs.toArray cs.toArray] H Post := by
  intro N
  induction N using Nat.strongRecOn with
  | _ N ih =>
  intro H id a b limit d hN hA hn hab hb hlim hBel hQ hC Post h
  refine acalls_vc (rs := []) Tryz.func161 rfl rfl Tryz.ntmps161 rfl rfl ?_
  simp (maxSteps := 1000000) [go_sem]
  refine AWp.loopA (St := Nat × Nat × Nat × Bool × Bool × Array Bk) (fun s => [(0, lv 3 id 0 n), (1, .int .i64 s.1), (2, .int .i64 s.2.1), (3, .int .i64 s.2.2.1), (4, .func (.func g) fs.toArray cs.toArray), (10, .bool s.2.2.2.1), (11, .bool s.2.2.2.2.1)])
    (fun s H' => a <= s.1 /\ s.1 <= s.2.1 /\ s.2.1 <= b /\ s.2.2.1 <= 64 /\ s.2.2.2.2.2.size = n /\ QA Q s.2.2.2.2.2 /\ Same (fun k => k = id) H H' /\ Arr Bk.cells H' id s.2.2.2.2.2 /\ Below lt s.1 s.2.1 s.2.2.2.2.2 /\
      ∀ R, PermIn s.1 s.2.1 s.2.2.2.2.2 R -> SortedIn lt s.1 s.2.1 R -> PermIn a b d R /\ SortedIn lt a b R) (fun s => s.2.1 - s.1) (a, b, limit, true, true, d) ?_ ?_ ?_
  · simp [upF, Fr.get, Up.refl]
  · exact ⟨Nat.le_refl _, hab, Nat.le_refl _, hlim, hn, hQ, Same.refl _ _, hA, hBel, fun R h1 h2 => ⟨h1, h2⟩⟩
  · rintro K ⟨a1, b1, li, wb, wp, d1⟩ H1 ⟨haa, hab1, hbb, hli, hsz, hQ1, hS1, hA1, hB1, hfin⟩ hK
    simp only at haa hab1 hbb hli hsz hQ1 hS1 hA1 hB1 hfin
    obtain ⟨l, hll⟩ : ∃ l, l = b1 - a1 := ⟨_, rfl⟩
    have w0 : IntKind.i64.wrap ((b1 : Int) - a1) = (l : Int) := by rw [hll, i64w (by omega) (by omega)]; omega
    refine AWp.block ?_
    refine AWp.ofVc ?_
    simp (maxSteps := 1000000) [go_sem, w0]
    by_cases h12 : l <= 12
    · have h12' : (l : Int) <= 12 := by omega
      refine AWp.ofVc ?_
      simp (maxSteps := 1000000) [go_sem, h12, h12']
      refine insB_ok hA1 hsz hl (by omega) (by omega) hQ1 (hC.keep hS1) _ ?_
      intro H2 hS2 hA2
      obtain ⟨f1, f2⟩ := insertionSort_holds hS d1 a1 b1 (by omega) (by omega)
      obtain ⟨f3, f4⟩ := hfin _ f1 f2
      have fin := h H2 _ (hS1.trans hS2) hA2 f3 f4
      simp (maxSteps := 1000000) [go_sem]
      exact fin
    have h12' : ¬ ((l : Int) <= 12) := by omega
    refine AWp.ofVc ?_
    simp (maxSteps := 1000000) [go_sem, h12, h12']
    by_cases hl0 : li = 0
    · subst hl0
      refine AWp.ofVc ?_
      simp (maxSteps := 1000000) [go_sem]
      refine heapB_ok hA1 hsz hl (by omega) (by omega) hQ1 (hC.keep hS1) _ ?_
      intro H2 hS2 hA2
      obtain ⟨f1, f2⟩ := heapSort_holds hS d1 a1 b1 (by omega) (by omega)
      obtain ⟨f3, f4⟩ := hfin _ f1 f2
      have fin := h H2 _ (hS1.trans hS2) hA2 f3 f4
      simp (maxSteps := 1000000) [go_sem]
      exact fin
    have hl0' : ((li : Int) == 0) = false := by rw [beq_eq_false_iff_ne]; omega
    refine AWp.ofVc ?_
    simp (maxSteps := 1000000) [go_sem, hl0, hl0']
    refine AWp.seqCut (St := Nat × Array Bk) (fun s => [(0, lv 3 id 0 n), (1, .int .i64 a1), (2, .int .i64 b1), (3, .int .i64 s.1), (4, .func (.func g) fs.toArray cs.toArray), (10, .bool wb), (11, .bool wp), (12, .int .i64 l)])
      (fun s H' => s.1 <= 64 /\ QA Q s.2 /\ Same (fun k => k = id) H H' /\ Arr Bk.cells H' id s.2 /\ PermIn a1 b1 d1 s.2) ?_ ?_
    · intro KE hKE
      cases wb with
      | true =>
        simp (maxSteps := 1000000) [go_sem]
        exact hKE (li, d1) _ _ (by simp [upF, Fr.get, Up.refl]) ⟨hli, hQ1, hS1, hA1, permIn_refl _ _ _⟩
      | false =>
        obtain ⟨lj, hlj⟩ : ∃ lj, lj = li - 1 := ⟨_, rfl⟩
        have wl : IntKind.i64.wrap ((li : Int) - 1) = (lj : Int) := by rw [hlj, i64w (by omega) (by omega)]; omega
        simp (maxSteps := 1000000) [go_sem]
        refine breakB_ok hA1 hsz hl (by omega) (by omega) hQ1 _ ?_
        intro H2 d2 hS2 hA2 hQ2 hP2
        simp (maxSteps := 1000000) [go_sem, wl]
        exact hKE (lj, d2) _ _ (by simp [upF, Fr.get, Up.refl]) ⟨by simp only; omega, hQ2, hS1.trans hS2, hA2, hP2⟩
    rintro ⟨lj, d2⟩ H2 ⟨hlj, hQ2, hS2, hA2, hP2⟩
    simp only at hlj hQ2 hS2 hA2 hP2 ⊢
    have hsz2 : d2.size = n := by rw [hP2.1]; exact hsz
    refine AWp.ofVc ?_
    simp (maxSteps := 1000000) [go_sem]
    refine pivotB_ok hA2 hsz2 hl (by omega) (by omega) hQ2 (hC.keep hS2) _ ?_
    intro H3 p t hp3 hpr
    have hS3 := hS2.via (Same.of_prefix (S := fun _ => False) hp3) (fun _ _ h => h.elim)
    have hA3 := hA2.pre hp3
    simp (maxSteps := 1000000) [go_sem]
    refine AWp.seqCut (St := Nat × Int × Array Bk) (fun s => [(0, lv 3 id 0 n), (1, .int .i64 a1), (2, .int .i64 b1), (3, .int .i64 lj), (4, .func (.func g) fs.toArray cs.toArray), (10, .bool wb), (11, .bool wp), (12, .int .i64 l), (13, .int .i64 s.1), (14, .int .i64 s.2.1)])
      (fun s H' => a1 <= s.1 /\ s.1 < b1 /\ QA Q s.2.2 /\ Same (fun k => k = id) H H' /\ Arr Bk.cells H' id s.2.2 /\ PermIn a1 b1 d2 s.2.2) ?_ ?_
    · intro KE hKE
      by_cases ht : t = 2
      · subst ht
        obtain ⟨p2, hp2⟩ : ∃ p2, p2 = b1 - 1 - (p - a1) := ⟨_, rfl⟩
        have w1 : IntKind.i64.wrap ((b1 : Int) - 1) = (b1 : Int) - 1 := i64w (by omega) (by omega)
        have w2 : IntKind.i64.wrap ((p : Int) - a1) = (p : Int) - a1 := i64w (by omega) (by omega)
        have w3 : IntKind.i64.wrap ((b1 : Int) - 1 - ((p : Int) - a1)) = (p2 : Int) := by rw [hp2, i64w (by omega) (by omega)]; omega
        simp (maxSteps := 1000000) [go_sem]
        refine reverseB_ok hA3 hsz2 hl (by omega) (by omega) _ ?_
        intro H4 hS4 hA4
        have hP4 := reverseRange_holds d2 a1 b1 (by omega) (by omega)
        simp (maxSteps := 1000000) [go_sem, w1, w2, w3]
        exact hKE (p2, 1, reverseRange d2 a1 b1) _ _ (by simp [upF, Fr.get, Up.refl]) ⟨by simp only; omega, by simp only; omega, QA_perm (by omega) hP4 hQ2, hS3.trans hS4, hA4, hP4⟩
      · have ht' : (t == 2) = false := by rw [beq_eq_false_iff_ne]; exact ht
        simp (maxSteps := 1000000) [go_sem, ht, ht']
        exact hKE (p, t, d2) _ _ (by simp [upF, Fr.get, Up.refl]) ⟨hpr.1, hpr.2, hQ2, hS3, hA3, permIn_refl _ _ _⟩
    rintro ⟨q, u, d3⟩ H4 ⟨hq1, hq2, hQ3, hS4, hA4, hP3⟩
    simp only at hq1 hq2 hQ3 hS4 hA4 hP3 ⊢
    have hsz3 : d3.size = n := by rw [hP3.1]; exact hsz2
    have hP13 := permIn_trans _ _ _ _ _ hP2 hP3
    have hB3 : Below lt a1 b1 d3 := hB1.perm (by omega) hP13
    refine AWp.seqCut (St := Array Bk) (fun _ => [(0, lv 3 id 0 n), (1, .int .i64 a1), (2, .int .i64 b1), (3, .int .i64 lj), (4, .func (.func g) fs.toArray cs.toArray), (10, .bool wb), (11, .bool wp), (12, .int .i64 l), (13, .int .i64 q)])
      (fun d4 H' => QA Q d4 /\ Same (fun k => k = id) H H' /\ Arr Bk.cells H' id d4 /\ PermIn a1 b1 d1 d4) ?_ ?_
    · intro KE hKE
      have skip := fun fr' hfr => hKE d3 fr' H4 hfr ⟨hQ3, hS4, hA4, hP13⟩
      cases wb with
      | false =>
        simp (maxSteps := 1000000) [go_sem, undef]
        exact skip _ (by simp [upF, Fr.get, Up.refl])
      | true =>
        cases wp with
        | false =>
          simp (maxSteps := 1000000) [go_sem, undef]
          exact skip _ (by simp [upF, Fr.get, Up.refl])
        | true =>
          by_cases hu : u = 1
          · subst hu
            simp (maxSteps := 1000000) [go_sem]
            refine partInsB_ok hA4 hsz3 hl (by omega) (by omega) hQ3 (hC.keep hS4) _ ?_
            intro H6 hS6 hA6
            obtain ⟨f1, f2⟩ := partialInsertionSort_holds hS d3 a1 b1 (by omega) (by omega) hB3
            generalize partialInsertionSort lt d3 a1 b1 = r at *
            obtain ⟨d4, ok⟩ := r
            simp only at hA6 f1 f2 ⊢
            have hP14 := permIn_trans _ _ _ _ _ hP13 f1
            cases ok with
            | true =>
              obtain ⟨f3, f4⟩ := hfin _ hP14 (f2 rfl)
              have fin := h H6 _ (hS4.trans hS6) hA6 f3 f4
              simp (maxSteps := 1000000) [go_sem]
              exact fin
            | false =>
              simp (maxSteps := 1000000) [go_sem]
              exact hKE d4 _ _ (by simp [upF, Fr.get, Up.refl]) ⟨QA_perm (by omega) f1 hQ3, hS4.trans hS6, hA6, hP14⟩
          · have hu' : (u == 1) = false := by rw [beq_eq_false_iff_ne]; exact hu
            simp (maxSteps := 1000000) [go_sem, hu, hu']
            exact skip _ (by simp [upF, Fr.get, Up.refl])
    rintro d4 H6 ⟨hQ4, hS6, hA6, hP4⟩
    clear hA4 hA3 hA2 hS2 hS3 hS4 hP2 hP3 hP13 hQ2 hQ3 hB3
    have hsz4 : d4.size = n := by rw [hP4.1]; exact hsz
    have hB4 : Below lt a1 b1 d4 := hB1.perm (by omega) hP4
    have hfin4 : ∀ R, PermIn a1 b1 d4 R -> SortedIn lt a1 b1 R -> PermIn a b d R /\ SortedIn lt a b R := fun R r1 r2 => hfin R (permIn_trans _ _ _ _ _ hP4 r1) r2
    refine AWp.seqCut (St := Unit) (fun _ => [(0, lv 3 id 0 n), (1, .int .i64 a1), (2, .int .i64 b1), (3, .int .i64 lj), (4, .func (.func g) fs.toArray cs.toArray), (10, .bool wb), (11, .bool wp), (12, .int .i64 l), (13, .int .i64 q)])
      (fun _ H' => Same (fun k => k = id) H H' /\ Arr Bk.cells H' id d4) ?_ ?_
    · intro KE hKE
      by_cases ha0 : a1 = 0
      · subst ha0
        simp (maxSteps := 1000000) [go_sem]
        refine AWp.draw mixed [(0, false), (1, false), (2, false), (3, false), (4, false), (5, false), (6, false), (7, false), (8, false), (9, false), (10, false), (11, false), (12, false), (13, false), (14, false), (15, false), (16, false)] (by kernel_rfl) ?_
        simp (maxSteps := 1000000) [go_sem, undef]
        exact hKE () _ _ (by simp [upF, Fr.get, Up.refl]) ⟨hS6, hA6⟩
      · obtain ⟨r, hr⟩ : ∃ r, a1 - 1 = r := ⟨_, rfl⟩
        have wr : IntKind.i64.wrap ((a1 : Int) - 1) = (r : Int) := by rw [<- hr, i64w (by omega) (by omega)]; omega
        have ha0' : (0 : Int) < a1 := by omega
        have ha1' : 0 < a1 := by omega
        have hi1 : r < d4.size := by omega
        have hi0 : q < d4.size := by omega
        have n1 : r < n := by omega
        have n0 : q < n := by omega
        have c1 := hA6.load Bk.cells_len hi1
        have c0 := hA6.load Bk.cells_len hi0
        have q1 := hQ4 _ hi1
        have q0 := hQ4 _ hi0
        obtain ⟨x, hx⟩ : ∃ x, d4[r]! = x := ⟨_, rfl⟩
        obtain ⟨y, hy⟩ : ∃ y, d4[q]! = y := ⟨_, rfl⟩
        rw [hx] at c1 q1
        rw [hy] at c0 q0
        simp only [Bk.cells, Nat.mul_one, Row.val] at c1 c0
        simp (maxSteps := 1000000) [go_sem]
        refine AWp.draw mixed [(0, false), (1, false), (2, false), (3, false), (4, false), (5, false), (6, false), (7, false), (8, false), (9, false), (10, false), (11, false), (12, false), (13, false), (14, false), (15, false), (16, false)] (by kernel_rfl) ?_
        simp (maxSteps := 1000000) [go_sem, ha0, ha0', ha1', c1, c0, n1, n0, wr]
        refine hC H6 x y _ hS6 q1 q0 ?_
        intro H7 c hp7 hc
        have hS7 := hS6.via (Same.of_prefix (S := fun _ => False) hp7) (fun _ _ h => h.elim)
        have hA7 := hA6.pre hp7
        cases hl' : lt x y with
        | true =>
          rw [hl'] at hc
          have hc0 := hc
          simp only [decide_eq_true_eq, decide_eq_false_iff_not] at hc0
          simp (maxSteps := 1000000) [go_sem, hc, hc0]
          exact hKE () _ _ (by simp [upF, Fr.get, Up.refl]) ⟨hS7, hA7⟩
        | false =>
          rw [hl'] at hc
          have hc0 := hc
          simp only [decide_eq_true_eq, decide_eq_false_iff_not] at hc0
          have hnl : lt d4[a1 - 1]! d4[q]! = false := by rw [hr, hx, hy]; exact hl'
          simp (maxSteps := 1000000) [go_sem, hc, hc0]
          refine partEqB_ok hA7 hsz4 hl hq1 hq2 (by omega) hQ4 (hC.keep hS7) _ ?_
          intro H8 hS8 hA8
          obtain ⟨⟨mid, d5⟩, he⟩ : ∃ r, partitionEqual lt d4 a1 b1 q = r := ⟨_, rfl⟩
          rw [he] at hA8 ⊢
          have hA8 : Arr Bk.cells H8 id d5 := hA8
          obtain ⟨r1, r2, r3, r4, r5⟩ := round_eq hS (partitionEqual_holds lt) ha1' hq1 hq2 (by omega) hB4 hnl he
          have hP5 : PermIn a1 b1 d4 d5 := by
            have := (partitionEqual_holds lt hS d4 a1 b1 q hq1 hq2 (by omega) (fun i hi hi' => by
              rcases hB4 with h0 | hB
              · omega
              · exact hS.ntrans _ _ _ (hB i hi hi') hnl)).2.2.1
            rw [he] at this; exact this
          simp (maxSteps := 1000000) [go_sem]
          exact hK (mid, b1, lj, wb, wp, d5) _ _ (by simp only; omega) (by simp [upF, Fr.get, Up.refl]) ⟨by simp only; omega, r2, hbb, hlj, by simp only; omega, QA_perm (by omega) hP5 hQ4, hS7.trans hS8, hA8, r4, fun R R1 R2 => by obtain ⟨g1, g2⟩ := r5 R R1 R2; exact hfin4 R g1 g2⟩
    rintro _ H7 ⟨hS7, hA7⟩
    refine AWp.ofVc ?_
    simp (maxSteps := 1000000) [go_sem]
    refine partB_ok hA7 hsz4 hl hq1 hq2 (by omega) hQ4 (hC.keep hS7) _ ?_
    intro H8 hS8 hA8
    obtain ⟨⟨mid, ap, d5⟩, he⟩ : ∃ r, partition lt d4 a1 b1 q = r := ⟨_, rfl⟩
    rw [he] at hA8 ⊢
    have hA8 : Arr Bk.cells H8 id d5 := hA8
    obtain ⟨r1, r2, r3, r4, r5, r6, r7⟩ := round_part hS (partition_holds lt) hq1 hq2 (by omega) hB4 he
    have hP5 : PermIn a1 b1 d4 d5 := by
      have := (partition_holds lt hS d4 a1 b1 q hq1 hq2 (by omega)).2.2.1
      rw [he] at this; exact this
    have hQ5 := QA_perm (by omega) hP5 hQ4
    have hS8 := hS7.trans hS8
    obtain ⟨ll, hll2⟩ : ∃ ll, ll = mid - a1 := ⟨_, rfl⟩
    obtain ⟨lr, hlr⟩ : ∃ lr, lr = b1 - mid := ⟨_, rfl⟩
    obtain ⟨m1, hm1⟩ : ∃ m1, m1 = mid + 1 := ⟨_, rfl⟩
    have w1 : IntKind.i64.wrap ((mid : Int) - a1) = (ll : Int) := by rw [hll2, i64w (by omega) (by omega)]; omega
    have w2 : IntKind.i64.wrap ((b1 : Int) - mid) = (lr : Int) := by rw [hlr, i64w (by omega) (by omega)]; omega
    have w3 : IntKind.i64.wrap ((l : Int) / 8) = (l : Int) / 8 := i64w (by omega) (by omega)
    have w4 : IntKind.i64.wrap ((mid : Int) + 1) = (m1 : Int) := by rw [hm1, i64w (by omega) (by omega)]; omega
    simp (maxSteps := 1000000) [go_sem]
    refine vc_sound _ _ _ _ ?_
    by_cases hlr2 : ll < lr
    · have hlr2' : (ll : Int) < lr := by omega
      simp (maxSteps := 1000000) [go_sem, w1, w2, w3, hlr2, hlr2']
      refine ih (mid - a1) (by omega) (Nat.le_refl _) hA8 (by omega) r1 (by omega) hlj r4 hQ5 (hC.keep hS8) _ ?_
      intro H9 d6 hS9 hA9 hP6 hs6
      obtain ⟨g1, g2⟩ := r6 d6 hP6 hs6
      simp (maxSteps := 1000000) [go_sem, w4]
      refine hK (m1, b1, lj, decide ((l : Int) / 8 <= ll), ap, d6) _ _ (by simp only; omega) (by simp [upF, Fr.get, Up.refl]) ⟨by simp only; omega, by simp only; omega, hbb, hlj, by simp only; rw [hP6.1]; omega, QA_perm (by omega) hP6 hQ5, hS8.trans hS9, hA9, by simp only [hm1]; exact g1, ?_⟩
      simp only [hm1]
      intro R R1 R2
      obtain ⟨k1, k2⟩ := g2 R R1 R2
      exact hfin4 R k1 k2
    · have hlr2' : ¬ ((ll : Int) < lr) := by omega
      simp (maxSteps := 1000000) [go_sem, w1, w2, w3, w4, hlr2, hlr2']
      refine ih (b1 - m1) (by omega) (Nat.le_refl _) hA8 (by omega) (by omega) (by omega) hlj (by rw [hm1]; exact r5) hQ5 (hC.keep hS8) _ ?_
      intro H9 d6 hS9 hA9 hP6 hs6
      rw [hm1] at hP6 hs6
      obtain ⟨g1, g2⟩ := r7 d6 hP6 hs6
      simp (maxSteps := 1000000) [go_sem]
      refine hK (a1, mid, lj, decide ((l : Int) / 8 <= lr), ap, d6) _ _ (by simp only; omega) (by simp [upF, Fr.get, Up.refl]) ⟨haa, r1, by simp only; omega, hlj, by simp only; rw [hP6.1]; omega, QA_perm (by omega) hP6 hQ5, hS8.trans hS9, hA9, g1, ?_⟩
      intro R R1 R2
      obtain ⟨k1, k2⟩ := g2 R R1 R2
      exact hfin4 R k1 k2

end Go.Proofs.YtfnegaedkomcgaaGreat
end

section
namespace Go.Proofs.YtfnegaedkomcgaaGreat
open Go.Ab Go.Sort

theorem w64_0B : IntKind.i64.wrap 0 = 0 := i64w (by omega) (by omega)
theorem w64_1B : IntKind.i64.wrap 1 = 1 := i64w (by omega) (by omega)
theorem wu64_0B : IntKind.u64.wrap 0 = 0 := by rw [IntKind.wrap_u64]; omega
theorem ins0B_ok {H : Heap} {id : Nat} {fv : Value} (Post : Value -> Heap -> Prop) (h : Post (.tuple #[]) H) :
    ACalls Tryz.prog 172 [lv 3 id 0 0, .int .i64 0, .int .i64 0, fv] H Post := by
  refine acalls_vc (rs := []) Tryz.func172 rfl rfl Tryz.ntmps172 rfl rfl ?_
  simp (maxSteps := 1000000) [go_sem, w64_0B, w64_1B]
  refine AWp.loopVc (St := Unit) (fun _ => [(2, .int .i64 0), (8, .int .i64 1)]) (fun _ H' => H' = H) (fun _ => 0) () ?_ ?_ ?_
  · simp [upF, Fr.get, Up.refl]
  · rfl
  · rintro K _ H' rfl hK
    simp (maxSteps := 1000000) [go_sem, w64_0B, w64_1B]
    exact h
theorem pdq0B_ok {H : Heap} {id : Nat} {fv : Value} {l : Int} (Post : Value -> Heap -> Prop) (h : Post (.tuple #[]) H) :
    ACalls Tryz.prog 161 [lv 3 id 0 0, .int .i64 0, .int .i64 0, .int .i64 l, fv] H Post := by
  refine acalls_vc (rs := []) Tryz.func161 rfl rfl Tryz.ntmps161 rfl rfl ?_
  simp (maxSteps := 1000000) [go_sem, w64_0B, w64_1B]
  refine AWp.loopA (St := Unit) (fun _ => [(0, lv 3 id 0 0), (1, .int .i64 0), (2, .int .i64 0), (4, fv)]) (fun _ H' => H' = H) (fun _ => 0) () ?_ ?_ ?_
  · simp [upF, Fr.get, Up.refl]
  · rfl
  · rintro K _ H' rfl hK
    refine AWp.block ?_
    refine AWp.ofVc ?_
    simp (maxSteps := 1000000) [go_sem, w64_0B, w64_1B]
    refine AWp.ofVc ?_
    simp (maxSteps := 1000000) [go_sem, w64_0B, w64_1B]
    refine ins0B_ok _ ?_
    simp (maxSteps := 1000000) [go_sem, w64_0B, w64_1B]
    exact h

theorem sortFuncB_ok {H : Heap} {id n : Nat} {l : List Bk} {lt : Bk -> Bk -> Bool} {g : FuncId} {fs cs : List Value} {Q : Bk -> Prop} (hS : SWO lt) (hA : OL 3 H id (l.flatMap Bk.cells) n) (hn : l.length = n) (hl : n <= 1048576) (hQ : ∀ x ∈ l, Q x)
    (hC : Cmp Tryz.prog Bk.val lt g fs cs Q id H) (Post : Value -> Heap -> Prop)
    (h : ∀ (H' : Heap) (l' : List Bk), Same (fun k => k = id) H H' -> OL 3 H' id (l'.flatMap Bk.cells) n -> l'.Perm l -> l'.Pairwise (fun x y => lt y x = false) -> Post (.tuple #[]) H') :
    ACalls Tryz.prog 133 [lv 3 id 0 n, .func (.func g) fs.toArray cs.toArray] H Post := by
  refine acalls_vc (rs := []) Tryz.func133 rfl rfl Tryz.ntmps133 rfl rfl ?_
  have w1 : IntKind.u64.wrap (n : Int) = n := by rw [IntKind.wrap_u64]; omega
  rcases hA.2 with ⟨h0, hg⟩ | hb
  · subst h0
    have hnil : l = [] := List.eq_nil_of_length_eq_zero hn
    subst hnil
    simp (maxSteps := 1000000) [go_sem, wu64_0B]
    refine bitsLenC_ok (x := 0) (by omega) _ ?_
    simp (maxSteps := 1000000) [go_sem]
    refine pdq0B_ok _ ?_
    simp (maxSteps := 1000000) [go_sem]
    exact h H [] (Same.refl _ _) hA (List.Perm.refl _) List.Pairwise.nil
  · have hA' : Arr Bk.cells H id l.toArray := by unfold Arr; simpa using hb
    have hQ' : QA Q l.toArray := by
      intro k hk
      rw [getElem!_pos l.toArray k hk]
      exact hQ _ (by simp)
    simp (maxSteps := 1000000) [go_sem, w1]
    refine bitsLenC_ok (by omega) _ ?_
    have hb64 : bitsLen n <= 64 := bitsLen_lt (by omega)
    simp (maxSteps := 1000000) [go_sem]
    refine pdqB_ok hS hl n (a := 0) (limit := bitsLen n) (by omega) hA' (by simpa using hn) (Nat.zero_le _) (Nat.le_refl _) hb64 (.inl rfl) hQ' hC _ ?_
    intro H' d' hS' hA2 hP hs
    have hsz : d'.size = n := by rw [hP.1]; simpa using hn
    have hp := perm_list (by simpa using hn) hP
    have fin := h H' d'.toList hS' ⟨by rw [flat_len Bk.cells_len, Array.length_toList, hsz], .inr hA2⟩ (by simpa using hp) (sorted_list hsz hs)
    simp (maxSteps := 1000000) [go_sem]
    exact fin

end Go.Proofs.YtfnegaedkomcgaaGreat
end

section
namespace Go.Ab

def upH (H H' : Heap) : Prop := ∀ B w0 ρ w, R B w0 ρ H w -> R B w0 ρ H' w
theorem upH.cells {H : Heap} {id : Nat} {cs cs' : List Value} {li ow : Bool} (hb : H[id]? = some ⟨cs, li, ow⟩) (hl : cs'.length = cs.length)
    (hu : ∀ (k : Nat) (v v' : Value), cs[k]? = some v -> cs'[k]? = some v' -> Up H v v') : upH H (H.set id ⟨cs', li, ow⟩) := by
  intro B w0 ρ w hR
  have hlt := (List.getElem?_eq_some_iff.1 hb).1
  have key : ∀ (i : Nat) (b : Blk), (H.set id ⟨cs', li, ow⟩)[i]? = some b -> (i = id /\ b = ⟨cs', li, ow⟩) \/ (i ≠ id /\ H[i]? = some b) := by
    intro i b h
    by_cases e : i = id
    · subst e; rw [List.getElem?_set_self hlt] at h; exact .inl ⟨rfl, (Option.some.inj h).symm⟩
    · rw [List.getElem?_set_ne (fun h => e h.symm)] at h; exact .inr ⟨e, h⟩
  have old : ∀ (i : Nat) (b : Blk), (H.set id ⟨cs', li, ow⟩)[i]? = some b -> ∃ b', H[i]? = some b' /\ b'.live = b.live /\ b'.own = b.own := by
    intro i b h
    rcases key i b h with ⟨rfl, rfl⟩ | ⟨_, h⟩
    · exact ⟨_, hb, rfl, rfl⟩
    · exact ⟨b, h, rfl, rfl⟩
  refine ⟨by rw [List.length_set]; exact hR.len, hR.below, hR.base, ?_, ?_, ?_⟩
  · intro i b l h hl' hlive
    rcases key i b h with ⟨rfl, rfl⟩ | ⟨_, h⟩
    · obtain ⟨arr, elem, fz, h1, h2, h3, h4⟩ := hR.blk i _ l hb hl' hlive
      refine ⟨arr, elem, fz, h1, h2, ?_, h4⟩
      intro k v hk
      have hk' : k < cs.length := by have := (List.getElem?_eq_some_iff.1 hk).1; simp only at this; omega
      obtain ⟨h5, cv, h6, h7⟩ := h3 k cs[k] (List.getElem?_eq_getElem hk')
      have h8 := hu k _ v (List.getElem?_eq_getElem hk') hk _ _ _ _ _ hR h7
      exact ⟨by rw [h8.oneCell, <- h7.oneCell]; exact h5, cv, h6, h8⟩
    · exact hR.blk i b l h hl' hlive
  · intro i j b c l m hij h1 h2 h3 h4 h5 h6 h7
    obtain ⟨b', e1, e2, e3⟩ := old i b h1
    obtain ⟨c', f1, f2, f3⟩ := old j c h2
    exact hR.apart i j b' c' l m hij e1 f1 h3 h4 (by rw [e2]; exact h5) (by rw [f2]; exact h6) (by rw [e3]; exact h7)
  · intro i b l h1 h2 h3 h4
    obtain ⟨b', e1, e2, e3⟩ := old i b h1
    exact hR.ghost i b' l e1 h2 (by rw [e2]; exact h3) (by rw [e3]; exact h4)

end Go.Ab
end

section
namespace Go.Ab

def alt (f g : Nat -> Nat) (p : Nat) : Nat -> Nat
  | 0 => p
  | k + 1 => if k % 2 = 0 then f (alt f g p k) else g (alt f g p k)

end Go.Ab
end

section
namespace Go.Proofs.YtfnegaedkomcgaaGreat
open Go.Ab

theorem sub_len : ∀ (l m : List Nat), l.Nodup -> (∀ x ∈ l, x ∈ m) -> l.length <= m.length
  | [], m, _, _ => by simp
  | x :: l, m, hn, h => by
    have hn' := List.nodup_cons.1 hn
    have hx := h x List.mem_cons_self
    have h1 := sub_len l (m.erase x) hn'.2 fun y hy => by
      have hne : y ≠ x := fun e => hn'.1 (e ▸ hy)
      exact (List.mem_erase_of_ne hne).2 (h y (List.mem_cons_of_mem _ hy))
    rw [List.length_erase_of_mem hx] at h1
    have := List.length_pos_of_mem hx
    rw [List.length_cons]; omega
def allP (v : Nat) : List Nat := (List.range v).flatMap fun i => (upTo (i + 1) v).map fun j => i * 15 + j
def blkP (b : Bk) : List Nat := [b.a.toNat * 15 + b.b.toNat, b.a.toNat * 15 + b.c.toNat, b.b.toNat * 15 + b.c.toNat]
theorem allP_length : ∀ v, v < 16 -> (allP v).length * 2 = v * (v - 1) := by decide +kernel
theorem mem_allP {v i j : Nat} (h1 : i < j) (h2 : j < v) : i * 15 + j ∈ allP v := by
  simp only [allP, List.mem_flatMap, List.mem_range, List.mem_map, mem_upTo]
  exact ⟨i, by omega, j, by omega, rfl⟩
theorem flatP_length (bs : List Bk) : (bs.flatMap blkP).length = bs.length * 3 := by
  induction bs with
  | nil => rfl
  | cons b bs ih => rw [List.flatMap_cons, List.length_append, ih, List.length_cons]; simp only [blkP, List.length_cons, List.length_nil]; omega

end Go.Proofs.YtfnegaedkomcgaaGreat
end

section
namespace Go.Proofs.YtfnegaedkomcgaaGreat
open Go.Ab

theorem l01On_ok {H : Heap} {u v : Value} {p : Int} {bs : List Bk} {xs : List Int} (hu : BlocksAt H u bs) (hl : bs.length <= 1048576) (hv : IntsAt H v xs) (Post : Value -> Heap -> Prop)
    (h : ∀ H' w, H <+: H' -> BlocksIn H.length H'.length H' w (sortB (onB xs bs)) -> Post (sysV xs.length w) H') : ACalls Tryz.prog 88 [sysV p u, v] H Post := by
  have hvo := hv
  have huo := hu.one
  obtain ⟨i, o, rfl, h1, h2⟩ := hu
  obtain ⟨j, q, rfl, h3, h4⟩ := hv
  refine acalls_vc (rs := [.cell 4 26]) Tryz.func88 rfl rfl Tryz.ntmps88 rfl rfl ?_
  simp (maxSteps := 1000000) [go_sem, sysV]
  have hp0 : H <+: H ++ [⟨[.int .i64 p, lv 3 i o bs.length], true, true⟩, ⟨[.int .i64 0, .slice none 0 0], true, true⟩] := List.prefix_append _ _
  have hx0 : Holds (H ++ [⟨[.int .i64 p, lv 3 i o bs.length], true, true⟩, ⟨[.int .i64 0, .slice none 0 0], true, true⟩]) H.length [.int .i64 p, lv 3 i o bs.length] := ⟨true, by simp⟩
  have hb0 : (H ++ [(⟨[.int .i64 p, lv 3 i o bs.length], true, true⟩ : Blk), ⟨[.int .i64 0, .slice none 0 0], true, true⟩])[H.length + 1]? = some ⟨[.int .i64 0, .slice none 0 0], true, true⟩ := by simp
  have hbl0 := Bl.nil 3 (H ++ [⟨[.int .i64 p, lv 3 i o bs.length], true, true⟩, ⟨[.int .i64 0, .slice none 0 0], true, true⟩])
  simp only [List.length_append, List.length_cons, List.length_nil, List.append_assoc, List.cons_append, List.nil_append] at hbl0
  have hlen0 : (H ++ [(⟨[.int .i64 p, lv 3 i o bs.length], true, true⟩ : Blk), ⟨[.int .i64 0, .slice none 0 0], true, true⟩]).length = H.length + 2 := by simp
  generalize H ++ [(⟨[.int .i64 p, lv 3 i o bs.length], true, true⟩ : Blk), ⟨[.int .i64 0, .slice none 0 0], true, true⟩] = H0 at hp0 hx0 hb0 hbl0 hlen0
  refine AWp.loopVc (St := Nat × Nat × List Bk) (fun s => [(1, lv 1 j q xs.length), (2, .pointer (some ⟨H.length, 0, none⟩)), (4, .pointer (some ⟨H.length + 1, 0, none⟩)), (5, lv 3 s.2.1 0 s.2.2.length), (6, .int .i64 s.1)])
    (fun s H' => s.1 <= bs.length /\ s.2.2 = onB xs (bs.take s.1) /\ Bl 3 H0 H' s.2.1 (tri s.2.2) s.2.2.length) (fun s => bs.length - s.1) (0, H.length + 2, []) ?_ ?_ ?_
  · simp [upF, Fr.get, Up.refl, Up.ex0]
  · exact ⟨by simp, by simp [onB], by simpa [tri] using hbl0⟩
  · rintro K ⟨s, id, acc⟩ H' ⟨hs, hacc, hbl⟩ hK
    simp only at hs hacc hbl
    obtain ⟨d0, d1, d2⟩ := (hx0.pre hbl.1).sys
    by_cases hlt : s < bs.length
    · have hbs : bs[s]? = some bs[s] := List.getElem?_eq_getElem hlt
      have c1 := (h1.pre (hp0.trans hbl.1)).bk hbs
      simp only [Bk.cells] at c1
      have hw_s : IntKind.i64.wrap ((s : Int) + 1) = (s : Int) + 1 := i64w (by omega) (by omega)
      have hsn := onB_snoc xs (bs.take s) bs[s]
      rw [<- List.take_succ_eq_append_getElem hlt] at hsn
      have hlen : acc.length <= s := by rw [hacc]; exact Nat.le_trans (onB_length _ _) (by simp; omega)
      obtain ⟨e0, e1, e2, e3⟩ := (Holds.last H' [.int .i64 bs[s].a, .int .i64 bs[s].b, .int .i64 bs[s].c]).bk
      have hpb : H' <+: H' ++ [⟨[.int .i64 bs[s].a, .int .i64 bs[s].b, .int .i64 bs[s].c], true, true⟩] := List.prefix_append _ _
      have hvb := hvo.pre (hp0.trans (hbl.1.trans hpb))
      have hbl2 := hbl.pre hpb
      simp (maxSteps := 1000000) [go_sem, hlt, d2, c1]
      refine AWp.up (f := [(1, lv 1 j q xs.length), (2, .pointer (some ⟨H.length, 0, none⟩)), (4, .pointer (some ⟨H.length + 1, 0, none⟩)), (5, lv 3 id 0 acc.length), (6, .int .i64 s), (7, .pointer (some ⟨H'.length, 0, none⟩))]) (by simp [upF, Fr.get, Up.refl]) ?_
      refine AWp.draw mixed [(0, false), (1, false), (2, false), (4, false), (5, false), (6, false), (8, false), (9, false), (10, false), (3, true), (7, true), (11, false), (12, false), (13, false), (14, false)] (by kernel_rfl) ?_
      simp (maxSteps := 1000000) [go_sem]
      refine l01Place_ok hvb _ ?_
      simp (maxSteps := 1000000) [go_sem]
      refine l01Place_ok hvb _ ?_
      simp (maxSteps := 1000000) [go_sem]
      refine l01Place_ok hvb _ ?_
      generalize plc xs bs[s].a = pa at *
      generalize plc xs bs[s].b = pb at *
      generalize plc xs bs[s].c = pc at *
      generalize H' ++ [(⟨[.int .i64 bs[s].a, .int .i64 bs[s].b, .int .i64 bs[s].c], true, true⟩ : Blk)] = H2 at *
      have stay : (decide (0 <= pa) && (decide (0 <= pb) && decide (0 <= pc))) = false -> ∀ fr, upF H2 [(1, lv 1 j q xs.length), (2, .pointer (some ⟨H.length, 0, none⟩)), (4, .pointer (some ⟨H.length + 1, 0, none⟩)), (5, lv 3 id 0 acc.length), (6, .int .i64 ((s : Int) + 1))] fr -> K fr H2 := by
        intro hf fr hfr
        rw [hf] at hsn
        refine hK (s + 1, id, acc) fr H2 (by simp only; omega) (by simpa using hfr) ⟨by simp only; omega, ?_, hbl2⟩
        simp only [hsn, hacc]; simp
      by_cases ha : 0 <= pa
      · by_cases hb : 0 <= pb
        · by_cases hc : 0 <= pc
          · obtain ⟨hsrc, H3, hap, hbl3⟩ := hbl2.push (xs := (⟨pa, pb, pc⟩ : Bk).cells) (by omega) rfl
            simp only [Bk.cells] at hsrc hap hbl3
            simp (maxSteps := 1000000) [go_sem, ha, hb, hc, hsrc, hap, hw_s]
            rw [decide_eq_true ha, decide_eq_true hb, decide_eq_true hc] at hsn
            refine andK_intro (by omega) (hK (s + 1, H2.length + 1, acc ++ [⟨pa, pb, pc⟩]) _ _ (by simp only; omega) (by simp [upF, Fr.get, Up.refl]) ⟨by simp only; omega, by simp only [hsn, hacc]; simp, ?_⟩)
            simp only [List.length_append, List.length_singleton, tri_append, tri_one, Bk.cells]
            exact hbl3
          · simp (maxSteps := 1000000) [go_sem, undef, ha, hb, hc, hw_s]
            exact stay (by simp [hc]) _ (by simp [upF, Fr.get, Up.refl])
        · simp (maxSteps := 1000000) [go_sem, undef, ha, hb, hw_s]
          exact stay (by simp [hb]) _ (by simp [upF, Fr.get, Up.refl])
      · simp (maxSteps := 1000000) [go_sem, undef, ha, hw_s]
        exact stay (by simp [ha]) _ (by simp [upF, Fr.get, Up.refl])
    · have : s = bs.length := by omega
      subst this
      rw [List.take_length] at hacc
      have hal : acc.length <= 1048576 := by rw [hacc]; exact Nat.le_trans (onB_length _ _) hl
      simp (maxSteps := 1000000) [go_sem, d2]
      refine l01Made_ok (bs := acc) (OwnBlocks.read (OwnBlocks.of_ol hbl.2.1 (by omega))) hal _ ?_
      intro H1 w hp1 hw
      rw [hacc] at hw
      have hb1 := pget (hbl.1.trans hp1) hb0
      have hlt1 := (List.getElem?_eq_some_iff.1 hb1).1
      have ho := hw.one
      have hst : storeAt H1 (H.length + 1) 0 [.int .i64 xs.length, w] = some (H1.set (H.length + 1) ⟨[.int .i64 xs.length, w], true, true⟩) := by
        rw [storeAt_of hb1 rfl rfl (by simp) (by simp only [List.all_cons, ho]; rfl)]; simp [over]
      have hld : cellsAt (H1.set (H.length + 1) ⟨[.int .i64 xs.length, w], true, true⟩) (H.length + 1) 0 2 = some [.int .i64 xs.length, w] := by
        have := Holds.cells (n := 2) (o := 0) (H := H1.set (H.length + 1) ⟨[.int .i64 xs.length, w], true, true⟩) ⟨true, List.getElem?_set_self hlt1⟩ (by simp)
        rw [this]; rfl
      have hsame : Same (fun j => j = H.length + 1) H1 (H1.set (H.length + 1) ⟨[.int .i64 xs.length, w], true, true⟩) := ⟨by simp, fun j hj hS => List.getElem?_set_ne (fun e => hS e.symm)⟩
      have hle := hbl.1.length_le
      have fin := h (H1.set (H.length + 1) ⟨[.int .i64 xs.length, w], true, true⟩) w (((Same.of_prefix (hp0.trans (hbl.1.trans hp1))).trans hsame).prefix (by intro j hj e; omega))
        (by
          have := (hw.keep hsame (by rintro j ⟨h1, h2⟩ e; omega)).wider (c := H.length) (by omega)
          rwa [List.length_set])
      simp (maxSteps := 1000000) [go_sem, sysV, ho, hst, hld]
      exact fin

end Go.Proofs.YtfnegaedkomcgaaGreat
end
