/- Part 8 of what the proof of the law FnMadeSystems rests on: contracts of functions of the program, for every argument that each names; no statement of the seat is proved here. -/
import Derived.Test.YtfnegaedkomcgaaGreatFnMadeSystemsPart7

set_option linter.all false
set_option maxRecDepth 20000
set_option maxHeartbeats 8000000
section
namespace Go.Proofs.YtfnegaedkomcgaaGreat
open Go.Ab Go.Sort

theorem siftB_ok {H : Heap} {id lo hi first n : Nat} {d : Array Bk} {lt : Bk -> Bk -> Bool} {g : FuncId} {fs cs : List Value} {Q : Bk -> Prop} (hA : Arr Bk.cells H id d) (hn : d.size = n) (hl : n <= 1048576) (hlo : lo <= n) (hhi : first + hi <= n) (hQ : QA Q d)
    (hC : Cmp Tryz.prog Bk.val lt g fs cs Q id H) (Post : Value -> Heap -> Prop) (h : ∀ H', Same (fun k => k = id) H H' -> Arr Bk.cells H' id (siftDown lt hi first lo d) -> Post (.tuple #[]) H') :
    ACalls Tryz.prog 190 [lv 3 id 0 n, .int .i64 lo, .int .i64 hi, .int .i64 first, .func (.func g) fs.toArray cs.toArray] H Post := by
  refine acalls_vc (rs := []) Tryz.func190 rfl rfl Tryz.ntmps190 rfl rfl ?_
  simp (maxSteps := 1000000) [go_sem]
  refine AWp.loopVc (St := Nat × Array Bk) (fun s => [(0, lv 3 id 0 n), (2, .int .i64 hi), (3, .int .i64 first), (4, .func (.func g) fs.toArray cs.toArray), (10, .int .i64 s.1)])
    (fun s H' => s.1 <= n /\ s.2.size = n /\ QA Q s.2 /\ Same (fun k => k = id) H H' /\ Arr Bk.cells H' id s.2 /\ siftDown lt hi first s.1 s.2 = siftDown lt hi first lo d) (fun s => n - s.1) (lo, d) ?_ ?_ ?_
  · simp [upF, Fr.get, Up.refl]
  · exact ⟨hlo, hn, hQ, Same.refl _ _, hA, rfl⟩
  · rintro K ⟨root, d1⟩ H1 ⟨hr, hsz, hQ1, hS1, hA1, hO⟩ hK
    simp only at hr hsz hQ1 hS1 hA1 hO
    obtain ⟨ch, hch⟩ : ∃ ch, ch = 2 * root + 1 := ⟨_, rfl⟩
    obtain ⟨c2, hc2⟩ : ∃ c2, c2 = ch + 1 := ⟨_, rfl⟩
    obtain ⟨fr, hfr⟩ : ∃ fr, fr = first + root := ⟨_, rfl⟩
    obtain ⟨fc, hfc⟩ : ∃ fc, fc = first + ch := ⟨_, rfl⟩
    obtain ⟨fc2, hfc2⟩ : ∃ fc2, fc2 = first + c2 := ⟨_, rfl⟩
    have w1 : IntKind.i64.wrap (2 * (root : Int)) = 2 * (root : Int) := i64w (by omega) (by omega)
    have w2 : IntKind.i64.wrap (2 * (root : Int) + 1) = (ch : Int) := by rw [hch]; rw [i64w (by omega) (by omega)]; omega
    have w3 : IntKind.i64.wrap ((ch : Int) + 1) = (c2 : Int) := by rw [hc2]; rw [i64w (by omega) (by omega)]; omega
    by_cases hh : hi <= ch
    · rw [sift_end hch hh] at hO
      have hh' : (hi : Int) <= ch := by omega
      simp (maxSteps := 1000000) [go_sem, w1, w2, hh, hh']
      exact h H1 hS1 (hO ▸ hA1)
    · rw [sift_step hch hc2 hfr hfc hfc2 hh] at hO
      have hh' : ¬ ((hi : Int) <= ch) := by omega
      have hh2 : ch < hi := by omega
      have w4 : IntKind.i64.wrap ((first : Int) + root) = (fr : Int) := by rw [hfr]; rw [i64w (by omega) (by omega)]; omega
      have w5 : IntKind.i64.wrap ((first : Int) + ch) = (fc : Int) := by rw [hfc]; rw [i64w (by omega) (by omega)]; omega
      have w6 : IntKind.i64.wrap ((first : Int) + c2) = (fc2 : Int) := by rw [hfc2]; rw [i64w (by omega) (by omega)]; omega
      have w7 : IntKind.i64.wrap ((fc : Int) + 1) = (fc2 : Int) := by rw [hfc2, hfc, hc2]; rw [i64w (by omega) (by omega)]; omega
      have hfr1 : fr < d1.size := by omega
      have hfc1 : fc < d1.size := by omega
      have n1 : fr < n := by omega
      have n2 : fc < n := by omega
      obtain ⟨x, hx⟩ : ∃ x, x = d1[fr]! := ⟨_, rfl⟩
      obtain ⟨y, hy⟩ : ∃ y, y = d1[fc]! := ⟨_, rfl⟩
      obtain ⟨z, hz⟩ : ∃ z, z = d1[fc2]! := ⟨_, rfl⟩
      rw [<- hx, <- hy, <- hz] at hO
      have qx := hQ1 _ hfr1
      have qy := hQ1 _ hfc1
      rw [<- hx] at qx
      rw [<- hy] at qy
      have cy := hA1.load Bk.cells_len hfc1
      rw [<- hy] at cy
      simp only [Bk.cells, Nat.mul_one, Row.val] at cy
      by_cases h2 : c2 < hi
      · have h2' : (c2 : Int) < hi := by omega
        have hfc21 : fc2 < d1.size := by omega
        have n3 : fc2 < n := by omega
        have qz := hQ1 _ hfc21
        rw [<- hz] at qz
        have cz := hA1.load Bk.cells_len hfc21
        rw [<- hz] at cz
        simp only [Bk.cells, Nat.mul_one, Row.val] at cz
        have e2 : decide (c2 < hi) = true := decide_eq_true h2
        rw [e2, Bool.true_and] at hO
        simp (maxSteps := 1000000) [go_sem, w1, w2, w3, hh, hh', hh2]
        refine AWp.draw mixed [(0, false), (1, false), (2, false), (3, false), (4, false), (5, false), (6, false), (7, false), (8, false), (9, false), (10, false), (11, false), (12, false), (13, false), (14, false), (15, false), (16, false), (17, false), (18, false), (19, false), (20, false), (21, false)] (by kernel_rfl) ?_
        simp (maxSteps := 1000000) [go_sem, w3, w5, w7, h2, h2', cy, cz, n2, n3]
        refine hC H1 y z _ hS1 qy qz ?_
        intro H3 c hp3 hc
        have hS3 := hS1.via (Same.of_prefix (S := fun _ => False) hp3) (fun _ _ h => h.elim)
        have hA3 := hA1.pre hp3
        have cx := hA3.load Bk.cells_len hfr1
        rw [<- hx] at cx
        simp only [Bk.cells, Nat.mul_one, Row.val] at cx
        cases hyz : lt y z with
        | true =>
          rw [hyz] at hc hO
          have hc0 : c < 0 := by simpa using hc
          have cz := hA3.load Bk.cells_len hfc21
          rw [<- hz] at cz
          simp only [Bk.cells, Nat.mul_one, Row.val] at cz
          simp (maxSteps := 1000000) [go_sem, hc, hc0, w3]
          refine AWp.draw mixed [(0, false), (1, false), (2, false), (3, false), (4, false), (5, false), (6, false), (7, false), (8, false), (9, false), (10, false), (11, false), (12, false), (13, false), (14, false), (15, false)] (by kernel_rfl) ?_
          simp (maxSteps := 1000000) [go_sem, w4, w6, cx, cz, n1, n3]
          refine hC H3 x z _ hS3 qx qz ?_
          intro H4 e hp4 he
          have hS4 := hS3.via (Same.of_prefix (S := fun _ => False) hp4) (fun _ _ h => h.elim)
          have hA4 := hA3.pre hp4
          cases hxz : lt x z with
          | false =>
            rw [hxz] at he hO
            have he0 : ¬ e < 0 := by simpa using he
            simp (maxSteps := 1000000) [go_sem, he, he0]
            exact h H4 hS4 (by simpa [<- hO] using hA4)
          | true =>
            rw [hxz] at he hO
            have he0 : e < 0 := by simpa using he
            have ca := hA4.load Bk.cells_len hfr1
            have cb := hA4.load Bk.cells_len hfc21
            obtain ⟨H5, H6, s1, s0, hA6, hS6, hl6⟩ := hA4.swap Bk.cells_len Bk.cells_one hfr1 hfc21
            rw [<- hx] at ca s0
            rw [<- hz] at cb s1
            simp only [Bk.cells, Nat.mul_one, Row.val] at ca cb s0 s1
            simp (maxSteps := 1000000) [go_sem, he, he0]
            refine AWp.draw mixed [(0, false), (1, false), (2, false), (3, false), (4, false), (5, false), (6, false), (7, false), (8, false), (9, false), (10, false), (11, false), (12, false), (13, false), (14, false), (15, false), (16, false), (17, false), (18, false), (19, false), (20, false), (21, false), (22, false), (23, false)] (by kernel_rfl) ?_
            simp (maxSteps := 1000000) [go_sem, w4, w6, ca, cb, n1, n3, s1, s0]
            exact hK (c2, swp d1 fr fc2) _ _ (by simp only; omega) (by simp [upF, Fr.get, Up.refl]) ⟨by simp only; omega, by rw [size_swp]; exact hsz, hQ1.swp hfr1 hfc21, hS4.trans hS6, hA6, by simp only; rw [<- hO]; simp⟩
        | false =>
          rw [hyz] at hc hO
          have hc0 : ¬ c < 0 := by simpa using hc
          have cy := hA3.load Bk.cells_len hfc1
          rw [<- hy] at cy
          simp only [Bk.cells, Nat.mul_one, Row.val] at cy
          simp (maxSteps := 1000000) [go_sem, hc, hc0]
          refine AWp.draw mixed [(0, false), (1, false), (2, false), (3, false), (4, false), (5, false), (6, false), (7, false), (8, false), (9, false), (10, false), (11, false), (12, false), (13, false), (14, false), (15, false)] (by kernel_rfl) ?_
          simp (maxSteps := 1000000) [go_sem, w4, w5, cx, cy, n1, n2]
          refine hC H3 x y _ hS3 qx qy ?_
          intro H4 e hp4 he
          have hS4 := hS3.via (Same.of_prefix (S := fun _ => False) hp4) (fun _ _ h => h.elim)
          have hA4 := hA3.pre hp4
          cases hxz : lt x y with
          | false =>
            rw [hxz] at he hO
            have he0 : ¬ e < 0 := by simpa using he
            simp (maxSteps := 1000000) [go_sem, he, he0]
            exact h H4 hS4 (by simpa [<- hO] using hA4)
          | true =>
            rw [hxz] at he hO
            have he0 : e < 0 := by simpa using he
            have ca := hA4.load Bk.cells_len hfr1
            have cb := hA4.load Bk.cells_len hfc1
            obtain ⟨H5, H6, s1, s0, hA6, hS6, hl6⟩ := hA4.swap Bk.cells_len Bk.cells_one hfr1 hfc1
            rw [<- hx] at ca s0
            rw [<- hy] at cb s1
            simp only [Bk.cells, Nat.mul_one, Row.val] at ca cb s0 s1
            simp (maxSteps := 1000000) [go_sem, he, he0]
            refine AWp.draw mixed [(0, false), (1, false), (2, false), (3, false), (4, false), (5, false), (6, false), (7, false), (8, false), (9, false), (10, false), (11, false), (12, false), (13, false), (14, false), (15, false), (16, false), (17, false), (18, false), (19, false), (20, false), (21, false), (22, false), (23, false)] (by kernel_rfl) ?_
            simp (maxSteps := 1000000) [go_sem, w4, w5, ca, cb, n1, n2, s1, s0]
            exact hK (ch, swp d1 fr fc) _ _ (by simp only; omega) (by simp [upF, Fr.get, Up.refl]) ⟨by simp only; omega, by rw [size_swp]; exact hsz, hQ1.swp hfr1 hfc1, hS4.trans hS6, hA6, by simp only; rw [<- hO]; simp⟩
      · have h2' : ¬ ((c2 : Int) < hi) := by omega
        have e2 : decide (c2 < hi) = false := decide_eq_false h2
        rw [e2, Bool.false_and] at hO
        have hA3 := hA1
        have hS3 := hS1
        have cx := hA3.load Bk.cells_len hfr1
        rw [<- hx] at cx
        simp only [Bk.cells, Nat.mul_one, Row.val] at cx
        simp (maxSteps := 1000000) [go_sem, w1, w2, w3, hh, hh', hh2]
        refine AWp.draw mixed [(0, false), (1, false), (2, false), (3, false), (4, false), (5, false), (6, false), (7, false), (8, false), (9, false), (10, false), (11, false), (12, false), (13, false), (14, false), (15, false), (16, false), (17, false), (18, false), (19, false), (20, false), (21, false)] (by kernel_rfl) ?_
        simp (maxSteps := 1000000) [go_sem, undef, w3, h2, h2']
        obtain ⟨H3, eH3⟩ : ∃ H3, H3 = H1 := ⟨_, rfl⟩
        rw [<- eH3] at hA3 hS3 cx cy ⊢
        refine AWp.draw mixed [(0, false), (1, false), (2, false), (3, false), (4, false), (5, false), (6, false), (7, false), (8, false), (9, false), (10, false), (11, false), (12, false), (13, false), (14, false), (15, false)] (by kernel_rfl) ?_
        simp (maxSteps := 1000000) [go_sem, w4, w5, cx, cy, n1, n2]
        refine hC H3 x y _ hS3 qx qy ?_
        intro H4 e hp4 he
        have hS4 := hS3.via (Same.of_prefix (S := fun _ => False) hp4) (fun _ _ h => h.elim)
        have hA4 := hA3.pre hp4
        cases hxz : lt x y with
        | false =>
          rw [hxz] at he hO
          have he0 : ¬ e < 0 := by simpa using he
          simp (maxSteps := 1000000) [go_sem, he, he0]
          exact h H4 hS4 (by simpa [<- hO] using hA4)
        | true =>
          rw [hxz] at he hO
          have he0 : e < 0 := by simpa using he
          have ca := hA4.load Bk.cells_len hfr1
          have cb := hA4.load Bk.cells_len hfc1
          obtain ⟨H5, H6, s1, s0, hA6, hS6, hl6⟩ := hA4.swap Bk.cells_len Bk.cells_one hfr1 hfc1
          rw [<- hx] at ca s0
          rw [<- hy] at cb s1
          simp only [Bk.cells, Nat.mul_one, Row.val] at ca cb s0 s1
          simp (maxSteps := 1000000) [go_sem, he, he0]
          refine AWp.draw mixed [(0, false), (1, false), (2, false), (3, false), (4, false), (5, false), (6, false), (7, false), (8, false), (9, false), (10, false), (11, false), (12, false), (13, false), (14, false), (15, false), (16, false), (17, false), (18, false), (19, false), (20, false), (21, false), (22, false), (23, false)] (by kernel_rfl) ?_
          simp (maxSteps := 1000000) [go_sem, w4, w5, ca, cb, n1, n2, s1, s0]
          exact hK (ch, swp d1 fr fc) _ _ (by simp only; omega) (by simp [upF, Fr.get, Up.refl]) ⟨by simp only; omega, by rw [size_swp]; exact hsz, hQ1.swp hfr1 hfc1, hS4.trans hS6, hA6, by simp only; rw [<- hO]; simp⟩

theorem heapB_ok {H : Heap} {id a b n : Nat} {d : Array Bk} {lt : Bk -> Bk -> Bool} {g : FuncId} {fs cs : List Value} {Q : Bk -> Prop} (hA : Arr Bk.cells H id d) (hn : d.size = n) (hl : n <= 1048576) (hab : a < b) (hb : b <= n) (hQ : QA Q d)
    (hC : Cmp Tryz.prog Bk.val lt g fs cs Q id H) (Post : Value -> Heap -> Prop) (h : ∀ H', Same (fun k => k = id) H H' -> Arr Bk.cells H' id (heapSort lt d a b) -> Post (.tuple #[]) H') :
    ACalls Tryz.prog 173 [lv 3 id 0 n, .int .i64 a, .int .i64 b, .func (.func g) fs.toArray cs.toArray] H Post := by
  refine acalls_vc (rs := []) Tryz.func173 rfl rfl Tryz.ntmps173 rfl rfl ?_
  obtain ⟨hi, hhi⟩ : ∃ hi, hi = b - a := ⟨_, rfl⟩
  obtain ⟨h1, hh1⟩ : ∃ h1, h1 = hi - 1 := ⟨_, rfl⟩
  obtain ⟨k0, hk0⟩ : ∃ k0, k0 = h1 / 2 := ⟨_, rfl⟩
  have w0 : IntKind.i64.wrap ((b : Int) - a) = (hi : Int) := by rw [hhi, i64w (by omega) (by omega)]; omega
  have w1 : IntKind.i64.wrap ((hi : Int) - 1) = (h1 : Int) := by rw [hh1, i64w (by omega) (by omega)]; omega
  have w2 : IntKind.i64.wrap ((h1 : Int) / 2) = (k0 : Int) := by rw [hk0, i64w (by omega) (by omega)]; omega
  have e0 : heapSort lt d a b = heapPop lt a hi (heapBuild lt hi a (k0 + 1) d) := by rw [hk0, hh1, hhi]; rfl
  rw [e0] at h
  simp (maxSteps := 1000000) [go_sem, w0, w1, w2]
  refine AWp.loopVc (St := Nat × Array Bk) (fun s => [(0, lv 3 id 0 n), (3, .func (.func g) fs.toArray cs.toArray), (8, .int .i64 a), (9, .int .i64 0), (10, .int .i64 hi), (11, .int .i64 ((s.1 : Int) - 1))])
    (fun s H' => s.1 <= k0 + 1 /\ s.2.size = n /\ QA Q s.2 /\ Same (fun k => k = id) H H' /\ Arr Bk.cells H' id s.2 /\ heapBuild lt hi a s.1 s.2 = heapBuild lt hi a (k0 + 1) d) (fun s => s.1) (k0 + 1, d) ?_ ?_ ?_
  · have e : ((k0 + 1 : Nat) : Int) - 1 = k0 := by omega
    simp [upF, Fr.get, Up.refl, e]
  · exact ⟨Nat.le_refl _, hn, hQ, Same.refl _ _, hA, rfl⟩
  · rintro K ⟨k, d1⟩ H1 ⟨hk, hsz, hQ1, hS1, hA1, hO⟩ hK
    simp only at hk hsz hQ1 hS1 hA1 hO
    cases k with
    | succ r =>
      have hwr : IntKind.i64.wrap ((r : Int) - 1) = (r : Int) - 1 := i64w (by omega) (by omega)
      simp (maxSteps := 1000000) [go_sem]
      refine siftB_ok hA1 hsz hl (by omega) (by omega) hQ1 (hC.keep hS1) _ ?_
      intro H2 hS2 hA2
      have hsz2 : (siftDown lt hi a r d1).size = n := by rw [sift_size]; exact hsz
      simp (maxSteps := 1000000) [go_sem, hwr]
      exact hK (r, siftDown lt hi a r d1) _ _ (by simp only; omega) (by simp [upF, Fr.get, Up.refl]) ⟨by simp only; omega, hsz2, sift_QA (by omega) hQ1, hS1.trans hS2, hA2, hO⟩
    | zero =>
      simp (maxSteps := 1000000) [go_sem, w1]
      have hO' : d1 = heapBuild lt hi a (k0 + 1) d := hO
      rw [<- hO'] at h
      refine AWp.loopVc (St := Nat × Array Bk) (fun s => [(0, lv 3 id 0 n), (3, .func (.func g) fs.toArray cs.toArray), (8, .int .i64 a), (9, .int .i64 0), (12, .int .i64 ((s.1 : Int) - 1))])
        (fun s H' => s.1 <= hi /\ s.2.size = n /\ QA Q s.2 /\ Same (fun k => k = id) H H' /\ Arr Bk.cells H' id s.2 /\ heapPop lt a s.1 s.2 = heapPop lt a hi d1) (fun s => s.1) (hi, d1) ?_ ?_ ?_
      · have e : (hi : Int) - 1 = h1 := by omega
        simp [upF, Fr.get, Up.refl, e]
      · exact ⟨Nat.le_refl _, hsz, hQ1, hS1, hA1, rfl⟩
      · rintro K2 ⟨k, d2⟩ H2 ⟨hk2, hsz2, hQ2, hS2, hA2, hP⟩ hK2
        simp only at hk2 hsz2 hQ2 hS2 hA2 hP
        cases k with
        | succ r =>
          have hwr : IntKind.i64.wrap ((r : Int) - 1) = (r : Int) - 1 := i64w (by omega) (by omega)
          obtain ⟨ar, har⟩ : ∃ ar, ar = a + r := ⟨_, rfl⟩
          have w4 : IntKind.i64.wrap ((a : Int) + r) = (ar : Int) := by rw [har]; rw [i64w (by omega) (by omega)]; omega
          have hi1 : a < d2.size := by omega
          have hi2 : ar < d2.size := by omega
          have n1 : a < n := by omega
          have n2 : ar < n := by omega
          have ca := hA2.load Bk.cells_len hi1
          have cb := hA2.load Bk.cells_len hi2
          obtain ⟨H5, H6, s1, s0, hA6, hS6, hl6⟩ := hA2.swap Bk.cells_len Bk.cells_one hi1 hi2
          obtain ⟨x, hx⟩ : ∃ x, x = d2[a]! := ⟨_, rfl⟩
          obtain ⟨y, hy⟩ : ∃ y, y = d2[ar]! := ⟨_, rfl⟩
          rw [<- hx] at ca s0
          rw [<- hy] at cb s1
          simp only [Bk.cells, Nat.mul_one, Row.val] at ca cb s0 s1
          rw [heapPop, <- har] at hP
          have hsz3 : (swp d2 a ar).size = n := by rw [size_swp]; exact hsz2
          have hQ3 := hQ2.swp hi1 hi2
          simp (maxSteps := 1000000) [go_sem]
          refine AWp.draw mixed [(0, false), (1, false), (2, false), (3, false), (4, false), (5, false), (6, false), (7, false), (8, false), (9, false), (10, false), (11, false), (12, false), (13, false), (14, false), (15, false), (16, false), (17, false), (18, false), (19, false)] (by kernel_rfl) ?_
          simp (maxSteps := 1000000) [go_sem, w4, ca, cb, n1, n2, s1, s0]
          refine siftB_ok (lo := 0) hA6 hsz3 hl (by omega) (by omega) hQ3 (hC.keep (hS2.trans hS6)) _ ?_
          intro H7 hS7 hA7
          have hsz4 : (siftDown lt r a 0 (swp d2 a ar)).size = n := by rw [sift_size]; exact hsz3
          simp (maxSteps := 1000000) [go_sem, hwr]
          exact hK2 (r, siftDown lt r a 0 (swp d2 a ar)) _ _ (by simp only; omega) (by simp [upF, Fr.get, Up.refl]) ⟨by simp only; omega, hsz4, sift_QA (by omega) hQ3, (hS2.trans hS6).trans hS7, hA7, hP⟩
        | zero =>
          simp (maxSteps := 1000000) [go_sem]
          refine h H2 hS2 ?_
          rw [<- hP]; exact hA2

end Go.Proofs.YtfnegaedkomcgaaGreat
end

section
namespace Go.Proofs.YtfnegaedkomcgaaGreat
open Go.Ab Go.Sort

theorem reverseB_ok {H : Heap} {id a b n : Nat} {d : Array Bk} {g : FuncId} {fs cs : List Value} (hA : Arr Bk.cells H id d) (hn : d.size = n) (hl : n <= 1048576) (hab : a < b) (hb : b <= n)
    (Post : Value -> Heap -> Prop) (h : ∀ H', Same (fun k => k = id) H H' -> Arr Bk.cells H' id (reverseRange d a b) -> Post (.tuple #[]) H') :
    ACalls Tryz.prog 176 [lv 3 id 0 n, .int .i64 a, .int .i64 b, .func (.func g) fs.toArray cs.toArray] H Post := by
  refine acalls_vc (rs := []) Tryz.func176 rfl rfl Tryz.ntmps176 rfl rfl ?_
  obtain ⟨b1, hb1⟩ : ∃ b1, b1 = b - 1 := ⟨_, rfl⟩
  have w0 : IntKind.i64.wrap ((b : Int) - 1) = (b1 : Int) := by rw [hb1, i64w (by omega) (by omega)]; omega
  have e0 : reverseRange d a b = reverseLoop a b1 d := by rw [hb1]; rfl
  rw [e0] at h
  simp (maxSteps := 1000000) [go_sem, w0]
  refine AWp.loopVc (St := Nat × Nat × Array Bk) (fun s => [(0, lv 3 id 0 n), (8, .int .i64 s.1), (9, .int .i64 s.2.1)])
    (fun s H' => s.2.1 < n /\ s.1 <= n /\ s.2.2.size = n /\ Same (fun k => k = id) H H' /\ Arr Bk.cells H' id s.2.2 /\ reverseLoop s.1 s.2.1 s.2.2 = reverseLoop a b1 d) (fun s => s.2.1 - s.1) (a, b1, d) ?_ ?_ ?_
  · simp [upF, Fr.get, Up.refl]
  · exact ⟨by simp only; omega, by simp only; omega, hn, Same.refl _ _, hA, rfl⟩
  · rintro K ⟨i, j, d1⟩ H1 ⟨hj, hi, hsz, hS1, hA1, hO⟩ hK
    simp only at hj hi hsz hS1 hA1 hO
    by_cases hij : i < j
    · obtain ⟨r, rfl⟩ : ∃ r, j = r + 1 := ⟨j - 1, by omega⟩
      rw [reverse_go hij] at hO
      have hi1 : i < d1.size := by omega
      have hi2 : r + 1 < d1.size := by omega
      have n1 : i < n := by omega
      have n2 : r + 1 < n := by omega
      have m2 : (r : Int) + 1 < n := by omega
      have z2 : (0 : Int) <= (r : Int) + 1 := by omega
      have hij' : (i : Int) < (r : Int) + 1 := by omega
      have hwr : IntKind.i64.wrap (r : Int) = (r : Int) := i64w (by omega) (by omega)
      have hw_i : IntKind.i64.wrap ((i : Int) + 1) = (i : Int) + 1 := i64w (by omega) (by omega)
      have ca := hA1.load Bk.cells_len hi1
      have cb := hA1.load Bk.cells_len hi2
      obtain ⟨H5, H6, s1, s0, hA6, hS6, hl6⟩ := hA1.swap Bk.cells_len Bk.cells_one hi1 hi2
      obtain ⟨x, hx⟩ : ∃ x, x = d1[i]! := ⟨_, rfl⟩
      obtain ⟨y, hy⟩ : ∃ y, y = d1[r + 1]! := ⟨_, rfl⟩
      rw [<- hx] at ca s0
      rw [<- hy] at cb s1
      simp only [Bk.cells, Nat.mul_one, Row.val] at ca cb s0 s1
      simp (maxSteps := 1000000) [go_sem, hij, hij']
      refine AWp.draw mixed [(0, false), (1, false), (2, false), (3, false), (4, false), (5, false), (6, false), (7, false), (8, false), (9, false), (10, false), (11, false), (12, false), (13, false), (14, false), (15, false)] (by kernel_rfl) ?_
      simp (maxSteps := 1000000) [go_sem, ca, cb, n1, n2, m2, z2, s1, s0, hw_i, hwr]
      exact hK (i + 1, r, swp d1 i (r + 1)) _ _ (by simp only; omega) (by simp [upF, Fr.get, Up.refl]) ⟨by simp only; omega, by simp only; omega, by rw [size_swp]; exact hsz, hS1.trans hS6, hA6, hO⟩
    · rw [reverse_stop hij] at hO
      have hij' : ¬ ((i : Int) < j) := by omega
      simp (maxSteps := 1000000) [go_sem, hij, hij']
      exact h H1 hS1 (hO ▸ hA1)

theorem order2B_ok {HB H : Heap} {id sw a b n : Nat} {z : Int} {d : Array Bk} {lt : Bk -> Bk -> Bool} {g : FuncId} {fs cs : List Value} {Q : Bk -> Prop} (hA : Arr Bk.cells H id d) (hn : d.size = n) (hl : n <= 1048576) (ha : a < n) (hb : b < n) (hQ : QA Q d)
    (hC : Cmp Tryz.prog Bk.val lt g fs cs Q id HB) (hB : Same (fun k => k = id) HB H) (hz : H[sw]? = some ⟨[.int .i64 z], true, true⟩) (hsw : HB.length <= sw) (hid : id ≠ sw) (Post : Value -> Heap -> Prop)
    (h : ∀ H' (x y : Nat) (z' : Int), Same (fun k => k = sw) H H' -> H'[sw]? = some ⟨[.int .i64 z'], true, true⟩ -> (x = a /\ y = b \/ x = b /\ y = a) -> Post (.tuple #[.int .i64 x, .int .i64 y]) H') :
    ACalls Tryz.prog 196 [lv 3 id 0 n, .int .i64 a, .int .i64 b, .pointer (some ⟨sw, 0, none⟩), .func (.func g) fs.toArray cs.toArray] H Post := by
  refine acalls_vc (rs := [.tmp 10, .tmp 11]) Tryz.func196 rfl rfl Tryz.ntmps196 rfl rfl ?_
  have hi1 : a < d.size := by omega
  have hi2 : b < d.size := by omega
  have ca := hA.load Bk.cells_len hi1
  have cb := hA.load Bk.cells_len hi2
  have qa := hQ _ hi1
  have qb := hQ _ hi2
  obtain ⟨x, hx⟩ : ∃ x, x = d[a]! := ⟨_, rfl⟩
  obtain ⟨y, hy⟩ : ∃ y, y = d[b]! := ⟨_, rfl⟩
  rw [<- hx] at ca qa
  rw [<- hy] at cb qb
  simp only [Bk.cells, Nat.mul_one, Row.val] at ca cb
  simp (maxSteps := 1000000) [go_sem]
  refine AWp.draw mixed [(0, false), (1, false), (2, false), (3, false), (4, false), (5, false), (6, false), (7, false), (8, false), (9, false), (10, false)] (by kernel_rfl) ?_
  simp (maxSteps := 1000000) [go_sem, ca, cb, ha, hb]
  refine hC H y x _ hB qb qa ?_
  intro H3 c hp3 hc
  have hz3 : H3[sw]? = some ⟨[.int .i64 z], true, true⟩ := pget hp3 hz
  cases hyx : lt y x with
  | true =>
    rw [hyx] at hc
    have hc0 : c < 0 := by simpa using hc
    have lz : cellsAt H3 sw 0 1 = some [.int .i64 z] := by rw [cellsAt_of hz3 rfl (by simp)]; rfl
    obtain ⟨z1, hz1⟩ : ∃ z1, IntKind.i64.wrap (z + 1) = z1 := ⟨_, rfl⟩
    have sz : storeAt H3 sw 0 [.int .i64 z1] = some (H3.set sw ⟨[.int .i64 z1], true, true⟩) := by
      rw [storeAt_of hz3 rfl rfl (by simp) (by simp [Value.oneCell'])]; rfl
    have hlt := (List.getElem?_eq_some_iff.1 hz3).1
    have fin := h (H3.set sw ⟨[.int .i64 z1], true, true⟩) b a _ ((Same.of_prefix hp3).trans same_set) (List.getElem?_set_self hlt) (.inr ⟨rfl, rfl⟩)
    generalize H3.set sw ⟨[.int .i64 z1], true, true⟩ = H4 at sz fin
    simp (maxSteps := 1000000) [go_sem, hc, hc0, lz, hz1, sz]
    exact fin
  | false =>
    rw [hyx] at hc
    have hc0 : ¬ c < 0 := by simpa using hc
    have fin := h H3 a b z (Same.of_prefix hp3) hz3 (.inl ⟨rfl, rfl⟩)
    simp (maxSteps := 1000000) [go_sem, hc, hc0]
    exact fin

theorem medianB_ok {HB H : Heap} {id sw a b c n : Nat} {z : Int} {d : Array Bk} {lt : Bk -> Bk -> Bool} {g : FuncId} {fs cs : List Value} {Q : Bk -> Prop} (hA : Arr Bk.cells H id d) (hn : d.size = n) (hl : n <= 1048576) (ha : a < n) (hb : b < n) (hc : c < n) (hQ : QA Q d)
    (hC : Cmp Tryz.prog Bk.val lt g fs cs Q id HB) (hB : Same (fun k => k = id) HB H) (hz : H[sw]? = some ⟨[.int .i64 z], true, true⟩) (hsw : HB.length <= sw) (hid : id ≠ sw) (Post : Value -> Heap -> Prop)
    (h : ∀ H' (x : Nat) (z' : Int), Same (fun k => k = sw) H H' -> H'[sw]? = some ⟨[.int .i64 z'], true, true⟩ -> (x = a \/ x = b \/ x = c) -> Post (.int .i64 x) H') :
    ACalls Tryz.prog 192 [lv 3 id 0 n, .int .i64 a, .int .i64 b, .int .i64 c, .pointer (some ⟨sw, 0, none⟩), .func (.func g) fs.toArray cs.toArray] H Post := by
  have stepB : ∀ {H1 : Heap}, Same (fun k => k = sw) H H1 -> Same (fun k => k = id) HB H1 := fun h1 => hB.via h1 (by intro j hj e; omega)
  have stepA : ∀ {H1 : Heap}, Same (fun k => k = sw) H H1 -> Arr Bk.cells H1 id d := fun h1 => h1.get hA hid
  refine acalls_vc (rs := [.tmp 12]) Tryz.func192 rfl rfl Tryz.ntmps192 rfl rfl ?_
  simp (maxSteps := 1000000) [go_sem]
  refine order2B_ok hA hn hl ha hb hQ hC hB hz hsw hid _ ?_
  intro H1 a1 b1 z1 hs1 hz1 h1
  simp (maxSteps := 1000000) [go_sem]
  refine order2B_ok (stepA hs1) hn hl (by omega) hc hQ hC (stepB hs1) hz1 hsw hid _ ?_
  intro H2 b2 c2 z2 hs2 hz2 h2
  have hs2 := hs1.trans hs2
  simp (maxSteps := 1000000) [go_sem]
  refine order2B_ok (stepA hs2) hn hl (by omega) (by omega) hQ hC (stepB hs2) hz2 hsw hid _ ?_
  intro H3 a3 b3 z3 hs3 hz3 h3
  simp (maxSteps := 1000000) [go_sem]
  exact h H3 b3 z3 (hs2.trans hs3) hz3 (by omega)

theorem medianAdjB_ok {HB H : Heap} {id sw a n : Nat} {z : Int} {d : Array Bk} {lt : Bk -> Bk -> Bool} {g : FuncId} {fs cs : List Value} {Q : Bk -> Prop} (hA : Arr Bk.cells H id d) (hn : d.size = n) (hl : n <= 1048576) (ha0 : 0 < a) (ha : a + 1 < n) (hQ : QA Q d)
    (hC : Cmp Tryz.prog Bk.val lt g fs cs Q id HB) (hB : Same (fun k => k = id) HB H) (hz : H[sw]? = some ⟨[.int .i64 z], true, true⟩) (hsw : HB.length <= sw) (hid : id ≠ sw) (Post : Value -> Heap -> Prop)
    (h : ∀ H' (x : Nat) (z' : Int), Same (fun k => k = sw) H H' -> H'[sw]? = some ⟨[.int .i64 z'], true, true⟩ -> (a <= x + 1 /\ x <= a + 1) -> Post (.int .i64 x) H') :
    ACalls Tryz.prog 191 [lv 3 id 0 n, .int .i64 a, .pointer (some ⟨sw, 0, none⟩), .func (.func g) fs.toArray cs.toArray] H Post := by
  obtain ⟨p, hp⟩ : ∃ p, p = a - 1 := ⟨_, rfl⟩
  obtain ⟨q, hq⟩ : ∃ q, q = a + 1 := ⟨_, rfl⟩
  have w0 : IntKind.i64.wrap ((a : Int) - 1) = (p : Int) := by rw [hp, i64w (by omega) (by omega)]; omega
  have w1 : IntKind.i64.wrap ((a : Int) + 1) = (q : Int) := by rw [hq, i64w (by omega) (by omega)]; omega
  refine acalls_vc (rs := [.tmp 8]) Tryz.func191 rfl rfl Tryz.ntmps191 rfl rfl ?_
  simp (maxSteps := 1000000) [go_sem, w0, w1]
  refine medianB_ok hA hn hl (by omega) (by omega) (by omega) hQ hC hB hz hsw hid _ ?_
  intro H1 x z1 hs1 hz1 h1
  simp (maxSteps := 1000000) [go_sem]
  exact h H1 x z1 hs1 hz1 (by omega)

theorem pivotB_ok {H : Heap} {id a b n : Nat} {d : Array Bk} {lt : Bk -> Bk -> Bool} {g : FuncId} {fs cs : List Value} {Q : Bk -> Prop} (hA : Arr Bk.cells H id d) (hn : d.size = n) (hl : n <= 1048576) (hab : a < b) (hb : b <= n) (hQ : QA Q d)
    (hC : Cmp Tryz.prog Bk.val lt g fs cs Q id H) (Post : Value -> Heap -> Prop)
    (h : ∀ H' (x : Nat) (t : Int), H <+: H' -> (a <= x /\ x < b) -> Post (.tuple #[.int .i64 x, .int .i64 t]) H') :
    ACalls Tryz.prog 175 [lv 3 id 0 n, .int .i64 a, .int .i64 b, .func (.func g) fs.toArray cs.toArray] H Post := by
  obtain ⟨l, hll⟩ : ∃ l, l = b - a := ⟨_, rfl⟩
  obtain ⟨q, hq⟩ : ∃ q, q = l / 4 := ⟨_, rfl⟩
  obtain ⟨i, hi⟩ : ∃ i, i = a + q := ⟨_, rfl⟩
  obtain ⟨j, hj⟩ : ∃ j, j = a + q * 2 := ⟨_, rfl⟩
  obtain ⟨k, hk⟩ : ∃ k, k = a + q * 3 := ⟨_, rfl⟩
  have w0 : IntKind.i64.wrap ((b : Int) - a) = (l : Int) := by rw [hll, i64w (by omega) (by omega)]; omega
  have w1 : IntKind.i64.wrap ((l : Int) / 4) = (q : Int) := by rw [hq, i64w (by omega) (by omega)]; omega
  have w1' : IntKind.i64.wrap (q : Int) = (q : Int) := i64w (by omega) (by omega)
  have w2 : IntKind.i64.wrap ((q : Int) * 2) = (q : Int) * 2 := i64w (by omega) (by omega)
  have w3 : IntKind.i64.wrap ((q : Int) * 3) = (q : Int) * 3 := i64w (by omega) (by omega)
  have w4 : IntKind.i64.wrap ((a : Int) + q) = (i : Int) := by rw [hi, i64w (by omega) (by omega)]; omega
  have w5 : IntKind.i64.wrap ((a : Int) + (q : Int) * 2) = (j : Int) := by rw [hj, i64w (by omega) (by omega)]; omega
  have w6 : IntKind.i64.wrap ((a : Int) + (q : Int) * 3) = (k : Int) := by rw [hk, i64w (by omega) (by omega)]; omega
  have hidl := hA.lt
  have hp0 : H <+: H ++ [⟨[.int .i64 0], true, true⟩] := List.prefix_append _ _
  have hz0 : (H ++ [(⟨[.int .i64 0], true, true⟩ : Blk)])[H.length]? = some ⟨[.int .i64 0], true, true⟩ := by simp
  have fin0 : ∀ (H' : Heap) (x : Nat) (t : Int), Same (fun k => k = H.length) (H ++ [⟨[.int .i64 0], true, true⟩]) H' -> (a <= x /\ x < b) -> Post (.tuple #[.int .i64 x, .int .i64 t]) H' := by
    intro H' x t hs hx
    refine h H' x t ?_ hx
    exact ((Same.of_prefix (S := fun k => k = H.length) hp0).trans hs).prefix (by intro j hj e; omega)
  have lz : ∀ {H' : Heap} {z : Int}, H'[H.length]? = some ⟨[.int .i64 z], true, true⟩ -> cellsAt H' H.length 0 1 = some [.int .i64 z] := by
    intro H' z hz; rw [cellsAt_of hz rfl (by simp)]; rfl
  refine acalls_vc (rs := [.tmp 8, .tmp 9]) Tryz.func175 rfl rfl Tryz.ntmps175 rfl rfl ?_
  by_cases h8 : 8 <= l
  · have h8' : (8 : Int) <= l := by omega
    by_cases h50 : 50 <= l
    · have h50' : (50 : Int) <= l := by omega
      simp (maxSteps := 1000000) [go_sem, w0, w1, w1', w2, w3, w4, w5, w6, h8, h8', h50, h50']
      have hA0 := hA.pre hp0
      have hB0 : Same (fun k => k = id) H (H ++ [⟨[.int .i64 0], true, true⟩]) := Same.of_prefix hp0
      generalize H ++ [(⟨[.int .i64 0], true, true⟩ : Blk)] = H0 at hp0 hz0 fin0 hA0 hB0 ⊢
      have stepB : ∀ {H1 : Heap}, Same (fun k => k = H.length) H0 H1 -> Same (fun k => k = id) H H1 := fun h1 => hB0.via h1 (by intro j hj e; omega)
      have stepA : ∀ {H1 : Heap}, Same (fun k => k = H.length) H0 H1 -> Arr Bk.cells H1 id d := fun h1 => h1.get hA0 (by omega)
      refine medianAdjB_ok hA0 hn hl (by omega) (by omega) hQ hC hB0 hz0 (Nat.le_refl _) (by omega) _ ?_
      intro H1 i1 z1 hs1 hz1 h1
      simp (maxSteps := 1000000) [go_sem]
      refine medianAdjB_ok (stepA hs1) hn hl (by omega) (by omega) hQ hC (stepB hs1) hz1 (Nat.le_refl _) (by omega) _ ?_
      intro H2 j1 z2 hs2 hz2 h2
      have hs2 := hs1.trans hs2
      simp (maxSteps := 1000000) [go_sem]
      refine medianAdjB_ok (stepA hs2) hn hl (by omega) (by omega) hQ hC (stepB hs2) hz2 (Nat.le_refl _) (by omega) _ ?_
      intro H3 k1 z3 hs3 hz3 h3
      have hs3 := hs2.trans hs3
      simp (maxSteps := 1000000) [go_sem]
      refine medianB_ok (stepA hs3) hn hl (by omega) (by omega) (by omega) hQ hC (stepB hs3) hz3 (Nat.le_refl _) (by omega) _ ?_
      intro H4 x z4 hs4 hz4 h4
      have hs4 := hs3.trans hs4
      have c4 := lz hz4
      have hx : a <= x /\ x < b := by omega
      by_cases e0 : z4 = 0
      · have fin := fin0 H4 x 1 hs4 hx
        subst e0
        simp (maxSteps := 1000000) [go_sem, c4]
        exact fin
      · have e0' : (z4 == 0) = false := by simpa using e0
        by_cases e1 : z4 = 12
        · have fin := fin0 H4 x 2 hs4 hx
          subst e1
          simp (maxSteps := 1000000) [go_sem, c4]
          exact fin
        · have fin := fin0 H4 x 0 hs4 hx
          have e1' : (z4 == 12) = false := by simpa using e1
          simp (maxSteps := 1000000) [go_sem, c4, e0, e0', e1, e1']
          exact fin
    · have h50' : ¬ ((50 : Int) <= l) := by omega
      simp (maxSteps := 1000000) [go_sem, w0, w1, w1', w2, w3, w4, w5, w6, h8, h8', h50, h50']
      have hA0 := hA.pre hp0
      have hB0 : Same (fun k => k = id) H (H ++ [⟨[.int .i64 0], true, true⟩]) := Same.of_prefix hp0
      generalize H ++ [(⟨[.int .i64 0], true, true⟩ : Blk)] = H0 at hp0 hz0 fin0 hA0 hB0 ⊢
      refine medianB_ok hA0 hn hl (by omega) (by omega) (by omega) hQ hC hB0 hz0 (Nat.le_refl _) (by omega) _ ?_
      intro H4 x z4 hs4 hz4 h4
      have c4 := lz hz4
      have hx : a <= x /\ x < b := by omega
      by_cases e0 : z4 = 0
      · have fin := fin0 H4 x 1 hs4 hx
        subst e0
        simp (maxSteps := 1000000) [go_sem, c4]
        exact fin
      · have e0' : (z4 == 0) = false := by simpa using e0
        by_cases e1 : z4 = 12
        · have fin := fin0 H4 x 2 hs4 hx
          subst e1
          simp (maxSteps := 1000000) [go_sem, c4]
          exact fin
        · have fin := fin0 H4 x 0 hs4 hx
          have e1' : (z4 == 12) = false := by simpa using e1
          simp (maxSteps := 1000000) [go_sem, c4, e0, e0', e1, e1']
          exact fin
  · have h8' : ¬ ((8 : Int) <= l) := by omega
    have fin := fin0 _ j 1 (Same.refl _ _) (by omega)
    simp (maxSteps := 1000000) [go_sem, w0, w1, w1', w2, w3, w4, w5, w6, h8, h8']
    exact fin

end Go.Proofs.YtfnegaedkomcgaaGreat
end

section
namespace Go.Proofs.YtfnegaedkomcgaaGreat
open Go.Ab Go.Sort

theorem partEqB_ok {H : Heap} {id a b pivot n : Nat} {d : Array Bk} {lt : Bk -> Bk -> Bool} {g : FuncId} {fs cs : List Value} {Q : Bk -> Prop} (hA : Arr Bk.cells H id d) (hn : d.size = n) (hl : n <= 1048576) (hap : a <= pivot) (hpb : pivot < b) (hb : b <= n) (hQ : QA Q d)
    (hC : Cmp Tryz.prog Bk.val lt g fs cs Q id H) (Post : Value -> Heap -> Prop) (h : ∀ H', Same (fun k => k = id) H H' -> Arr Bk.cells H' id (partitionEqual lt d a b pivot).2 -> Post (.int .i64 ((partitionEqual lt d a b pivot).1 : Nat)) H') :
    ACalls Tryz.prog 178 [lv 3 id 0 n, .int .i64 a, .int .i64 b, .int .i64 pivot, .func (.func g) fs.toArray cs.toArray] H Post := by
  refine acalls_vc (rs := [.tmp 10]) Tryz.func178 rfl rfl Tryz.ntmps178 rfl rfl ?_
  obtain ⟨b1, hb1⟩ : ∃ b1, b1 = b - 1 := ⟨_, rfl⟩
  obtain ⟨a1, ha1⟩ : ∃ a1, a1 = a + 1 := ⟨_, rfl⟩
  have w0 : IntKind.i64.wrap ((b : Int) - 1) = (b1 : Int) := by rw [hb1, i64w (by omega) (by omega)]; omega
  have w1 : IntKind.i64.wrap ((a : Int) + 1) = (a1 : Int) := by rw [ha1, i64w (by omega) (by omega)]; omega
  have hi1 : a < d.size := by omega
  have hi2 : pivot < d.size := by omega
  have n1 : a < n := by omega
  have n2 : pivot < n := by omega
  have ca := hA.load Bk.cells_len hi1
  have cb := hA.load Bk.cells_len hi2
  obtain ⟨H5, H6, s1, s0, hA6, hS6, hl6⟩ := hA.swap Bk.cells_len Bk.cells_one hi1 hi2
  obtain ⟨x, hx⟩ : ∃ x, x = d[a]! := ⟨_, rfl⟩
  obtain ⟨y, hy⟩ : ∃ y, y = d[pivot]! := ⟨_, rfl⟩
  rw [<- hx] at ca s0
  rw [<- hy] at cb s1
  simp only [Bk.cells, Nat.mul_one, Row.val] at ca cb s0 s1
  have e0 : partitionEqual lt d a b pivot = partEqLoop lt a a1 b1 (swp d a pivot) := by rw [hb1, ha1]; rfl
  rw [e0] at h
  have hQ6 := hQ.swp hi1 hi2
  have hsz6 : (swp d a pivot).size = n := by rw [size_swp]; exact hn
  generalize swp d a pivot = d0 at *
  simp (maxSteps := 1000000) [go_sem]
  refine AWp.draw mixed [(0, false), (1, false), (2, false), (3, false), (4, false), (5, false), (6, false), (7, false), (8, false), (9, false), (10, false), (11, false), (12, false), (13, false), (14, false), (15, false)] (by kernel_rfl) ?_
  simp (maxSteps := 1000000) [go_sem, ca, cb, n1, n2, s1, s0, w0, w1]
  refine AWp.loopVc (St := Nat × Nat × Array Bk) (fun s => [(0, lv 3 id 0 n), (1, .int .i64 a), (4, .func (.func g) fs.toArray cs.toArray), (11, .int .i64 s.1), (12, .int .i64 s.2.1)])
    (fun s H' => a < s.1 /\ s.1 <= s.2.1 + 1 /\ s.2.1 < n /\ s.2.2.size = n /\ QA Q s.2.2 /\ Same (fun k => k = id) H H' /\ Arr Bk.cells H' id s.2.2 /\ partEqLoop lt a s.1 s.2.1 s.2.2 = partEqLoop lt a a1 b1 d0) (fun s => s.2.1 + 1 - s.1) (a1, b1, d0) ?_ ?_ ?_
  · simp [upF, Fr.get, Up.refl]
  · exact ⟨by simp only; omega, by simp only; omega, by simp only; omega, hsz6, hQ6, hS6, hA6, rfl⟩
  · rintro K0 ⟨i, j, d1⟩ H1 ⟨hai, hij, hjn, hsz, hQ1, hS1, hA1, hO⟩ hK0
    simp only at hai hij hjn hsz hQ1 hS1 hA1 hO
    obtain ⟨pv, hpv⟩ : ∃ pv, pv = d1[a]! := ⟨_, rfl⟩
    rw [partEqLoop_eq, <- hpv] at hO
    simp (maxSteps := 1000000) [go_sem]
    refine AWp.loopCut (St := Nat) (St' := Unit) 2 (fun s => [(0, lv 3 id 0 n), (1, .int .i64 a), (4, .func (.func g) fs.toArray cs.toArray), (11, .int .i64 s), (12, .int .i64 j)])
      (fun s H2 => a < s /\ s <= j + 1 /\ Same (fun k => k = id) H H2 /\ Arr Bk.cells H2 id d1 /\ scanUp (fun x => !lt pv x) d1 j s = scanUp (fun x => !lt pv x) d1 j i) (fun s => j + 1 - s) i
      (fun _ => [(0, lv 3 id 0 n), (1, .int .i64 a), (4, .func (.func g) fs.toArray cs.toArray), (11, .int .i64 ((scanUp (fun x => !lt pv x) d1 j i : Nat) : Int)), (12, .int .i64 j)])
      (fun _ H2 => Same (fun k => k = id) H H2 /\ Arr Bk.cells H2 id d1) ?_ ?_ ?_ ?_
    · simp [upF, Fr.get, Up.refl]
    · exact ⟨by omega, by omega, hS1, hA1, rfl⟩
    · rintro K KE s H2 ⟨has, hsj, hS2, hA2, hP⟩ hK hKE
      by_cases hsj2 : s <= j
      · have hi1 : s < (d1).size := by omega
        have hi0 : a < (d1).size := by omega
        have n1 : s < n := by omega
        have n0 : a < n := by omega
        have hsj3 : (s : Int) <= ((j : Nat) : Int) := by omega
        have hw_s : IntKind.i64.wrap ((s : Int) + 1) = (s : Int) + 1 := i64w (by omega) (by omega)
        have c1 := hA2.load Bk.cells_len hi1
        have c0 := hA2.load Bk.cells_len hi0
        have q1 := hQ1 _ hi1
        have q0 := hQ1 _ hi0
        obtain ⟨x, hx⟩ : ∃ x, x = (d1)[s]! := ⟨_, rfl⟩
        rw [<- hx] at c1 q1
        rw [<- hpv] at c0 q0
        simp only [Bk.cells, Nat.mul_one, Row.val] at c1 c0
        refine AWp.draw mixed [(0, false), (1, false), (2, false), (3, false), (4, false), (5, false), (6, false), (7, false), (8, false), (9, false), (10, false), (11, false), (12, false), (13, false), (14, false), (15, false), (16, false)] (by kernel_rfl) ?_
        simp (maxSteps := 1000000) [go_sem, hsj2, hsj3, c1, c0, n1, n0]
        refine hC H2 pv x _ hS2 q0 q1 ?_
        intro H3 c hp3 hc
        have hS3 := hS2.via (Same.of_prefix (S := fun _ => False) hp3) (fun _ _ h => h.elim)
        have hA3 := hA2.pre hp3
        cases hl' : lt pv x with
        | false =>
          rw [hl'] at hc
          have hc0 := hc
          simp only [decide_eq_true_eq, decide_eq_false_iff_not] at hc0
          simp (maxSteps := 1000000) [go_sem, hc, hc0, hw_s]
          exact hK (s + 1) _ _ (by omega) (by simp [upF, Fr.get, Up.refl]) ⟨by omega, by omega, hS3, hA3, by rw [<- hP]; exact (scanUp_go hsj2 (by show (!lt pv d1[s]!) = true; rw [<- hx]; simp [hl'])).symm⟩
        | true =>
          rw [hl'] at hc
          have hc0 := hc
          simp only [decide_eq_true_eq, decide_eq_false_iff_not] at hc0
          rw [scanUp_stop (.inr (by show (!lt pv d1[s]!) = false; rw [<- hx]; simp [hl']))] at hP
          simp (maxSteps := 1000000) [go_sem, hc, hc0]
          exact hKE () _ _ (by simp [upF, Fr.get, Up.refl, hP]) ⟨hS3, hA3⟩
      · rw [scanUp_stop (.inl (by omega))] at hP
        have hsj3 : ¬ ((s : Int) <= ((j : Nat) : Int)) := by omega
        refine AWp.draw mixed [(0, false), (1, false), (2, false), (3, false), (4, false), (5, false), (6, false), (7, false), (8, false), (9, false), (10, false), (11, false), (12, false), (13, false), (14, false), (15, false), (16, false)] (by kernel_rfl) ?_
        simp (maxSteps := 1000000) [go_sem, undef, hsj2, hsj3]
        exact hKE () _ _ (by simp [upF, Fr.get, Up.refl, hP]) ⟨hS2, hA2⟩
    rintro _ H3 ⟨hS3, hA3⟩
    have hge1 := scanUp_ge (fun x => !lt pv x) d1 j i
    have hle1 := (scanUp_spec (fun x => !lt pv x) d1 j _ i rfl).2.1 (by omega)
    have hle1s := (scanUp_spec (fun x => !lt pv x) d1 j _ i rfl).2.2.2
    obtain ⟨i2, hi2'⟩ : ∃ I, scanUp (fun x => !lt pv x) d1 j i = I := ⟨_, rfl⟩
    rw [hi2'] at hge1 hle1 hle1s ⊢
    simp (maxSteps := 1000000) [go_sem]
    refine AWp.loopCut (St := Nat) (St' := Unit) 4 (fun s => [(0, lv 3 id 0 n), (1, .int .i64 a), (4, .func (.func g) fs.toArray cs.toArray), (11, .int .i64 i2), (12, .int .i64 s)])
      (fun s H2 => s < n /\ i2 <= s + 1 /\ Same (fun k => k = id) H H2 /\ Arr Bk.cells H2 id d1 /\ scanDown (fun x => lt pv x) d1 i2 s = scanDown (fun x => lt pv x) d1 i2 j) (fun s => s) j
      (fun _ => [(0, lv 3 id 0 n), (1, .int .i64 a), (4, .func (.func g) fs.toArray cs.toArray), (11, .int .i64 i2), (12, .int .i64 ((scanDown (fun x => lt pv x) d1 i2 j : Nat) : Int))])
      (fun _ H2 => Same (fun k => k = id) H H2 /\ Arr Bk.cells H2 id d1) ?_ ?_ ?_ ?_
    · simp [upF, Fr.get, Up.refl]
    · exact ⟨by omega, by omega, hS3, hA3, rfl⟩
    · rintro K KE s H2 ⟨hsn, his, hS2, hA2, hP⟩ hK hKE
      by_cases his2 : i2 <= s
      · obtain ⟨r, rfl⟩ : ∃ r, s = r + 1 := ⟨s - 1, by omega⟩
        have hi1 : r + 1 < (d1).size := by omega
        have hi0 : a < (d1).size := by omega
        have n1 : r + 1 < n := by omega
        have n0 : a < n := by omega
        have m1 : (r : Int) + 1 < n := by omega
        have z1 : (0 : Int) <= (r : Int) + 1 := by omega
        have his3 : ((i2 : Nat) : Int) <= (r : Int) + 1 := by omega
        have hwr : IntKind.i64.wrap (r : Int) = (r : Int) := i64w (by omega) (by omega)
        have c1 := hA2.load Bk.cells_len hi1
        have c0 := hA2.load Bk.cells_len hi0
        have q1 := hQ1 _ hi1
        have q0 := hQ1 _ hi0
        obtain ⟨x, hx⟩ : ∃ x, x = (d1)[r + 1]! := ⟨_, rfl⟩
        rw [<- hx] at c1 q1
        rw [<- hpv] at c0 q0
        simp only [Bk.cells, Nat.mul_one, Row.val] at c1 c0
        refine AWp.draw mixed [(0, false), (1, false), (2, false), (3, false), (4, false), (5, false), (6, false), (7, false), (8, false), (9, false), (10, false), (11, false), (12, false), (13, false), (14, false), (15, false)] (by kernel_rfl) ?_
        simp (maxSteps := 1000000) [go_sem, his2, his3, c1, c0, n1, n0, m1, z1]
        refine hC H2 pv x _ hS2 q0 q1 ?_
        intro H3 c hp3 hc
        have hS3 := hS2.via (Same.of_prefix (S := fun _ => False) hp3) (fun _ _ h => h.elim)
        have hA3 := hA2.pre hp3
        cases hl' : lt pv x with
        | true =>
          rw [hl'] at hc
          have hc0 := hc
          simp only [decide_eq_true_eq, decide_eq_false_iff_not] at hc0
          simp (maxSteps := 1000000) [go_sem, hc, hc0, hwr]
          exact hK r _ _ (by omega) (by simp [upF, Fr.get, Up.refl]) ⟨by omega, by omega, hS3, hA3, by rw [<- hP]; exact (scanDown_go his2 (by show (lt pv d1[r + 1]!) = true; rw [<- hx]; simp [hl'])).symm⟩
        | false =>
          rw [hl'] at hc
          have hc0 := hc
          simp only [decide_eq_true_eq, decide_eq_false_iff_not] at hc0
          rw [scanDown_stop (.inr (by show (lt pv d1[r + 1]!) = false; rw [<- hx]; simp [hl']))] at hP
          have hP' : ((r : Nat) : Int) + 1 = ((scanDown (fun x => lt pv x) d1 i2 j : Nat) : Int) := by rw [<- hP]; simp
          simp (maxSteps := 1000000) [go_sem, hc, hc0]
          exact hKE () _ _ (by simp [upF, Fr.get, Up.refl, hP']) ⟨hS3, hA3⟩
      · rw [scanDown_stop (.inl (by omega))] at hP
        have his3 : ¬ (((i2 : Nat) : Int) <= (s : Int)) := by omega
        refine AWp.draw mixed [(0, false), (1, false), (2, false), (3, false), (4, false), (5, false), (6, false), (7, false), (8, false), (9, false), (10, false), (11, false), (12, false), (13, false), (14, false), (15, false)] (by kernel_rfl) ?_
        simp (maxSteps := 1000000) [go_sem, undef, his2, his3]
        exact hKE () _ _ (by simp [upF, Fr.get, Up.refl, hP]) ⟨hS2, hA2⟩
    rintro _ H4 ⟨hS4, hA4⟩
    have hge2 := scanDown_le (fun x => lt pv x) d1 i2 j
    have hle2 := (scanDown_spec (fun x => lt pv x) d1 i2 j).2.1 (by omega)
    have hle2s := (scanDown_spec (fun x => lt pv x) d1 i2 j).2.2.2
    obtain ⟨j2, hj2'⟩ : ∃ J, scanDown (fun x => lt pv x) d1 i2 j = J := ⟨_, rfl⟩
    rw [hj2'] at hge2 hle2 hle2s ⊢
    simp (maxSteps := 1000000) [go_sem]
    rw [hi2', hj2'] at hO
    by_cases hgt : j2 < i2
    · have hgt' : (j2 : Int) < i2 := by omega
      rw [if_pos hgt] at hO
      simp (maxSteps := 1000000) [go_sem, hgt, hgt']
      rw [<- hO] at h
      exact h H4 hS4 hA4
    · have hgt' : ¬ ((j2 : Int) < i2) := by omega
      rw [if_neg hgt] at hO
      have hne : i2 ≠ j2 := by
        intro e
        have f1 := hle1s (by omega)
        have f2 := hle2s (by omega) (by omega)
        rw [<- e] at f2
        simp only [Bool.not_eq_false'] at f1
        rw [f1] at f2; cases f2
      obtain ⟨r, rfl⟩ : ∃ r, j2 = r + 1 := ⟨j2 - 1, by omega⟩
      have hi1 : i2 < d1.size := by omega
      have hi2 : r + 1 < d1.size := by omega
      have n1 : i2 < n := by omega
      have n2 : r + 1 < n := by omega
      have m2 : (r : Int) + 1 < n := by omega
      have z2 : (0 : Int) <= (r : Int) + 1 := by omega
      have hgt3 : ¬ ((r : Int) + 1 < i2) := by omega
      have hwr : IntKind.i64.wrap (r : Int) = (r : Int) := i64w (by omega) (by omega)
      have hwi : IntKind.i64.wrap ((i2 : Int) + 1) = (i2 : Int) + 1 := i64w (by omega) (by omega)
      have ca := hA4.load Bk.cells_len hi1
      have cb := hA4.load Bk.cells_len hi2
      obtain ⟨H5, H6, s1, s0, hA6, hS6, hl6⟩ := hA4.swap Bk.cells_len Bk.cells_one hi1 hi2
      obtain ⟨x, hx⟩ : ∃ x, x = d1[i2]! := ⟨_, rfl⟩
      obtain ⟨y, hy⟩ : ∃ y, y = d1[r + 1]! := ⟨_, rfl⟩
      rw [<- hx] at ca s0
      rw [<- hy] at cb s1
      simp only [Bk.cells, Nat.mul_one, Row.val] at ca cb s0 s1
      simp (maxSteps := 1000000) [go_sem, hgt, hgt', hgt3]
      refine AWp.draw mixed [(0, false), (1, false), (2, false), (3, false), (4, false), (5, false), (6, false), (7, false), (8, false), (9, false), (10, false), (11, false), (12, false), (13, false), (14, false), (15, false)] (by kernel_rfl) ?_
      simp (maxSteps := 1000000) [go_sem, ca, cb, n1, n2, m2, z2, s1, s0, hwr, hwi]
      exact hK0 (i2 + 1, r, swp d1 i2 (r + 1)) _ _ (by simp only; omega) (by simp [upF, Fr.get, Up.refl]) ⟨by simp only; omega, by simp only; omega, by simp only; omega, by rw [size_swp]; exact hsz, hQ1.swp hi1 hi2, hS4.trans hS6, hA6, hO⟩

end Go.Proofs.YtfnegaedkomcgaaGreat
end

section
namespace Go.Proofs.YtfnegaedkomcgaaGreat
open Go.Ab Go.Sort

theorem partB_ok {H : Heap} {id a b pivot n : Nat} {d : Array Bk} {lt : Bk -> Bk -> Bool} {g : FuncId} {fs cs : List Value} {Q : Bk -> Prop} (hA : Arr Bk.cells H id d) (hn : d.size = n) (hl : n <= 1048576) (hap : a <= pivot) (hpb : pivot < b) (hb : b <= n) (hQ : QA Q d)
    (hC : Cmp Tryz.prog Bk.val lt g fs cs Q id H) (Post : Value -> Heap -> Prop) (h : ∀ H', Same (fun k => k = id) H H' -> Arr Bk.cells H' id (partition lt d a b pivot).2.2 -> Post (.tuple #[.int .i64 ((partition lt d a b pivot).1 : Nat), .bool (partition lt d a b pivot).2.1]) H') :
    ACalls Tryz.prog 179 [lv 3 id 0 n, .int .i64 a, .int .i64 b, .int .i64 pivot, .func (.func g) fs.toArray cs.toArray] H Post := by
  refine acalls_vc (rs := [.tmp 10, .tmp 11]) Tryz.func179 rfl rfl Tryz.ntmps179 rfl rfl ?_
  obtain ⟨b1, hb1⟩ : ∃ b1, b1 = b - 1 := ⟨_, rfl⟩
  obtain ⟨a1, ha1⟩ : ∃ a1, a1 = a + 1 := ⟨_, rfl⟩
  have w0 : IntKind.i64.wrap ((b : Int) - 1) = (b1 : Int) := by rw [hb1, i64w (by omega) (by omega)]; omega
  have w1 : IntKind.i64.wrap ((a : Int) + 1) = (a1 : Int) := by rw [ha1, i64w (by omega) (by omega)]; omega
  have u1 : a < (d).size := by omega
  have u2 : pivot < (d).size := by omega
  have u3 : a < n := by omega
  have u4 : pivot < n := by omega
  have uca := (hA).load Bk.cells_len u1
  have ucb := (hA).load Bk.cells_len u2
  obtain ⟨H5, H6, us1, us0, hA6, hS6, ul⟩ := (hA).swap Bk.cells_len Bk.cells_one u1 u2
  obtain ⟨ux, uhx⟩ : ∃ x, x = (d)[a]! := ⟨_, rfl⟩
  obtain ⟨uy, uhy⟩ : ∃ y, y = (d)[pivot]! := ⟨_, rfl⟩
  rw [<- uhx] at uca us0
  rw [<- uhy] at ucb us1
  simp only [Bk.cells, Nat.mul_one, Row.val] at uca ucb us0 us1
  have e0 : partition lt d a b pivot = (let i := scanUp (fun x => lt x (swp d a pivot)[a]!) (swp d a pivot) b1 a1
      let j := scanDown (fun x => !lt x (swp d a pivot)[a]!) (swp d a pivot) i b1
      if i > j then (j, true, swp (swp d a pivot) j a) else
        (let r := partLoop lt a (i + 1) (j - 1) (swp (swp d a pivot) i j)
        (r.1, false, swp r.2 r.1 a))) := by rw [hb1, ha1]; rfl
  have hQ6 := hQ.swp u1 u2
  have hsz6 : (swp d a pivot).size = n := by rw [size_swp]; exact hn
  generalize swp d a pivot = d0 at *
  obtain ⟨pv, hpv⟩ : ∃ pv, pv = d0[a]! := ⟨_, rfl⟩
  simp only [<- hpv] at e0
  simp (maxSteps := 1000000) [go_sem]
  refine AWp.draw mixed [(0, false), (1, false), (2, false), (3, false), (4, false), (5, false), (6, false), (7, false), (8, false), (9, false), (10, false), (11, false), (12, false), (13, false), (14, false), (15, false)] (by kernel_rfl) ?_
  simp (maxSteps := 1000000) [go_sem, uca, ucb, u3, u4, us1, us0, w0, w1]
  refine AWp.loopCut (St := Nat) (St' := Unit) 0 (fun s => [(0, lv 3 id 0 n), (1, .int .i64 a), (4, .func (.func g) fs.toArray cs.toArray), (12, .int .i64 s), (13, .int .i64 b1)])
    (fun s H2 => a < s /\ s <= b1 + 1 /\ Same (fun k => k = id) H H2 /\ Arr Bk.cells H2 id d0 /\ scanUp (fun x => lt x pv) d0 b1 s = scanUp (fun x => lt x pv) d0 b1 a1) (fun s => b1 + 1 - s) a1
    (fun _ => [(0, lv 3 id 0 n), (1, .int .i64 a), (4, .func (.func g) fs.toArray cs.toArray), (12, .int .i64 ((scanUp (fun x => lt x pv) d0 b1 a1 : Nat) : Int)), (13, .int .i64 b1)])
    (fun _ H2 => Same (fun k => k = id) H H2 /\ Arr Bk.cells H2 id d0) ?_ ?_ ?_ ?_
  · simp [upF, Fr.get, Up.refl]
  · exact ⟨by omega, by omega, hS6, hA6, rfl⟩
  · rintro K KE s H2 ⟨has, hsj, hS2, hA2, hP⟩ hK hKE
    by_cases hsj2 : s <= b1
    · have hi1 : s < (d0).size := by omega
      have hi0 : a < (d0).size := by omega
      have n1 : s < n := by omega
      have n0 : a < n := by omega
      have hsj3 : (s : Int) <= ((b1 : Nat) : Int) := by omega
      have hw_s : IntKind.i64.wrap ((s : Int) + 1) = (s : Int) + 1 := i64w (by omega) (by omega)
      have c1 := hA2.load Bk.cells_len hi1
      have c0 := hA2.load Bk.cells_len hi0
      have q1 := hQ6 _ hi1
      have q0 := hQ6 _ hi0
      obtain ⟨x, hx⟩ : ∃ x, x = (d0)[s]! := ⟨_, rfl⟩
      rw [<- hx] at c1 q1
      rw [<- hpv] at c0 q0
      simp only [Bk.cells, Nat.mul_one, Row.val] at c1 c0
      refine AWp.draw mixed [(0, false), (1, false), (2, false), (3, false), (4, false), (5, false), (6, false), (7, false), (8, false), (9, false), (10, false), (11, false), (12, false), (13, false), (14, false), (15, false)] (by kernel_rfl) ?_
      simp (maxSteps := 1000000) [go_sem, hsj2, hsj3, c1, c0, n1, n0]
      refine hC H2 x pv _ hS2 q1 q0 ?_
      intro H3 c hp3 hc
      have hS3 := hS2.via (Same.of_prefix (S := fun _ => False) hp3) (fun _ _ h => h.elim)
      have hA3 := hA2.pre hp3
      cases hl' : lt x pv with
      | true =>
        rw [hl'] at hc
        have hc0 := hc
        simp only [decide_eq_true_eq, decide_eq_false_iff_not] at hc0
        simp (maxSteps := 1000000) [go_sem, hc, hc0, hw_s]
        exact hK (s + 1) _ _ (by omega) (by simp [upF, Fr.get, Up.refl]) ⟨by omega, by omega, hS3, hA3, by rw [<- hP]; exact (scanUp_go hsj2 (by show lt d0[s]! pv = true; rw [<- hx]; simp [hl'])).symm⟩
      | false =>
        rw [hl'] at hc
        have hc0 := hc
        simp only [decide_eq_true_eq, decide_eq_false_iff_not] at hc0
        rw [scanUp_stop (.inr (by show lt d0[s]! pv = false; rw [<- hx]; simp [hl']))] at hP
        simp (maxSteps := 1000000) [go_sem, hc, hc0]
        exact hKE () _ _ (by simp [upF, Fr.get, Up.refl, hP]) ⟨hS3, hA3⟩
    · rw [scanUp_stop (.inl (by omega))] at hP
      have hsj3 : ¬ ((s : Int) <= ((b1 : Nat) : Int)) := by omega
      refine AWp.draw mixed [(0, false), (1, false), (2, false), (3, false), (4, false), (5, false), (6, false), (7, false), (8, false), (9, false), (10, false), (11, false), (12, false), (13, false), (14, false), (15, false)] (by kernel_rfl) ?_
      simp (maxSteps := 1000000) [go_sem, undef, hsj2, hsj3]
      exact hKE () _ _ (by simp [upF, Fr.get, Up.refl, hP]) ⟨hS2, hA2⟩
  rintro _ H7 ⟨hS7, hA7⟩
  have hge1 := scanUp_ge (fun x => lt x pv) d0 b1 a1
  have hle1 := (scanUp_spec (fun x => lt x pv) d0 b1 _ a1 rfl).2.1 (by omega)
  have hle1s := (scanUp_spec (fun x => lt x pv) d0 b1 _ a1 rfl).2.2.2
  obtain ⟨i2, hi2'⟩ : ∃ I, scanUp (fun x => lt x pv) d0 b1 a1 = I := ⟨_, rfl⟩
  rw [hi2'] at hge1 hle1 hle1s ⊢
  simp (maxSteps := 1000000) [go_sem]
  refine AWp.loopCut (St := Nat) (St' := Unit) 2 (fun s => [(0, lv 3 id 0 n), (1, .int .i64 a), (4, .func (.func g) fs.toArray cs.toArray), (12, .int .i64 i2), (13, .int .i64 s)])
    (fun s H2 => s < n /\ i2 <= s + 1 /\ Same (fun k => k = id) H H2 /\ Arr Bk.cells H2 id d0 /\ scanDown (fun x => !lt x pv) d0 i2 s = scanDown (fun x => !lt x pv) d0 i2 b1) (fun s => s) b1
    (fun _ => [(0, lv 3 id 0 n), (1, .int .i64 a), (4, .func (.func g) fs.toArray cs.toArray), (12, .int .i64 i2), (13, .int .i64 ((scanDown (fun x => !lt x pv) d0 i2 b1 : Nat) : Int))])
    (fun _ H2 => Same (fun k => k = id) H H2 /\ Arr Bk.cells H2 id d0) ?_ ?_ ?_ ?_
  · simp [upF, Fr.get, Up.refl]
  · exact ⟨by omega, by omega, hS7, hA7, rfl⟩
  · rintro K KE s H2 ⟨hsn, his, hS2, hA2, hP⟩ hK hKE
    by_cases his2 : i2 <= s
    · obtain ⟨r, rfl⟩ : ∃ r, s = r + 1 := ⟨s - 1, by omega⟩
      have hi1 : r + 1 < (d0).size := by omega
      have hi0 : a < (d0).size := by omega
      have n1 : r + 1 < n := by omega
      have n0 : a < n := by omega
      have m1 : (r : Int) + 1 < n := by omega
      have z1 : (0 : Int) <= (r : Int) + 1 := by omega
      have his3 : ((i2 : Nat) : Int) <= (r : Int) + 1 := by omega
      have hwr : IntKind.i64.wrap (r : Int) = (r : Int) := i64w (by omega) (by omega)
      have c1 := hA2.load Bk.cells_len hi1
      have c0 := hA2.load Bk.cells_len hi0
      have q1 := hQ6 _ hi1
      have q0 := hQ6 _ hi0
      obtain ⟨x, hx⟩ : ∃ x, x = (d0)[r + 1]! := ⟨_, rfl⟩
      rw [<- hx] at c1 q1
      rw [<- hpv] at c0 q0
      simp only [Bk.cells, Nat.mul_one, Row.val] at c1 c0
      refine AWp.draw mixed [(0, false), (1, false), (2, false), (3, false), (4, false), (5, false), (6, false), (7, false), (8, false), (9, false), (10, false), (11, false), (12, false), (13, false), (14, false), (15, false), (16, false)] (by kernel_rfl) ?_
      simp (maxSteps := 1000000) [go_sem, his2, his3, c1, c0, n1, n0, m1, z1]
      refine hC H2 x pv _ hS2 q1 q0 ?_
      intro H3 c hp3 hc
      have hS3 := hS2.via (Same.of_prefix (S := fun _ => False) hp3) (fun _ _ h => h.elim)
      have hA3 := hA2.pre hp3
      cases hl' : lt x pv with
      | false =>
        rw [hl'] at hc
        have hc0 := hc
        simp only [decide_eq_true_eq, decide_eq_false_iff_not] at hc0
        simp (maxSteps := 1000000) [go_sem, hc, hc0, hwr]
        exact hK r _ _ (by omega) (by simp [upF, Fr.get, Up.refl]) ⟨by omega, by omega, hS3, hA3, by rw [<- hP]; exact (scanDown_go his2 (by show (!lt d0[r + 1]! pv) = true; rw [<- hx]; simp [hl'])).symm⟩
      | true =>
        rw [hl'] at hc
        have hc0 := hc
        simp only [decide_eq_true_eq, decide_eq_false_iff_not] at hc0
        rw [scanDown_stop (.inr (by show (!lt d0[r + 1]! pv) = false; rw [<- hx]; simp [hl']))] at hP
        have hP' : ((r : Nat) : Int) + 1 = ((scanDown (fun x => !lt x pv) d0 i2 b1 : Nat) : Int) := by rw [<- hP]; simp
        simp (maxSteps := 1000000) [go_sem, hc, hc0]
        exact hKE () _ _ (by simp [upF, Fr.get, Up.refl, hP']) ⟨hS3, hA3⟩
    · rw [scanDown_stop (.inl (by omega))] at hP
      have his3 : ¬ (((i2 : Nat) : Int) <= (s : Int)) := by omega
      refine AWp.draw mixed [(0, false), (1, false), (2, false), (3, false), (4, false), (5, false), (6, false), (7, false), (8, false), (9, false), (10, false), (11, false), (12, false), (13, false), (14, false), (15, false), (16, false)] (by kernel_rfl) ?_
      simp (maxSteps := 1000000) [go_sem, undef, his2, his3]
      exact hKE () _ _ (by simp [upF, Fr.get, Up.refl, hP]) ⟨hS2, hA2⟩
  rintro _ H8 ⟨hS8, hA8⟩
  have hge2 := scanDown_le (fun x => !lt x pv) d0 i2 b1
  have hle2 := (scanDown_spec (fun x => !lt x pv) d0 i2 b1).2.1 (by omega)
  have hle2s := (scanDown_spec (fun x => !lt x pv) d0 i2 b1).2.2.2
  obtain ⟨j2, hj2'⟩ : ∃ J, scanDown (fun x => !lt x pv) d0 i2 b1 = J := ⟨_, rfl⟩
  rw [hj2'] at hge2 hle2 hle2s ⊢
  simp (maxSteps := 1000000) [go_sem]
  simp only [hi2', hj2'] at e0
  by_cases hgt : j2 < i2
  · have hgt' : (j2 : Int) < i2 := by omega
    rw [if_pos hgt] at e0
    rw [e0] at h
    have v1 : j2 < (d0).size := by omega
    have v2 : a < (d0).size := by omega
    have v3 : j2 < n := by omega
    have v4 : a < n := by omega
    have vca := (hA8).load Bk.cells_len v1
    have vcb := (hA8).load Bk.cells_len v2
    obtain ⟨H9, HA, vs1, vs0, hAA, hSA, vl⟩ := (hA8).swap Bk.cells_len Bk.cells_one v1 v2
    obtain ⟨vx, vhx⟩ : ∃ x, x = (d0)[j2]! := ⟨_, rfl⟩
    obtain ⟨vy, vhy⟩ : ∃ y, y = (d0)[a]! := ⟨_, rfl⟩
    rw [<- vhx] at vca vs0
    rw [<- vhy] at vcb vs1
    simp only [Bk.cells, Nat.mul_one, Row.val] at vca vcb vs0 vs1
    simp (maxSteps := 1000000) [go_sem, hgt, hgt']
    refine AWp.draw mixed [(0, false), (1, false), (2, false), (3, false), (4, false), (5, false), (6, false), (7, false), (8, false), (9, false), (10, false), (11, false), (12, false), (13, false), (14, false), (15, false)] (by kernel_rfl) ?_
    simp (maxSteps := 1000000) [go_sem, vca, vcb, v3, v4, vs1, vs0]
    exact h HA (hS8.trans hSA) hAA
  · have hgt' : ¬ ((j2 : Int) < i2) := by omega
    rw [if_neg hgt] at e0
    have hne : i2 ≠ j2 := by
      intro e
      have f1 := hle1s (by omega)
      have f2 := hle2s (by omega) (by omega)
      rw [<- e] at f2
      rw [f1] at f2; cases f2
    have v1 : i2 < (d0).size := by omega
    have v2 : j2 < (d0).size := by omega
    have v3 : i2 < n := by omega
    have v4 : j2 < n := by omega
    have vca := (hA8).load Bk.cells_len v1
    have vcb := (hA8).load Bk.cells_len v2
    obtain ⟨H9, HA, vs1, vs0, hAA, hSA, vl⟩ := (hA8).swap Bk.cells_len Bk.cells_one v1 v2
    obtain ⟨vx, vhx⟩ : ∃ x, x = (d0)[i2]! := ⟨_, rfl⟩
    obtain ⟨vy, vhy⟩ : ∃ y, y = (d0)[j2]! := ⟨_, rfl⟩
    rw [<- vhx] at vca vs0
    rw [<- vhy] at vcb vs1
    simp only [Bk.cells, Nat.mul_one, Row.val] at vca vcb vs0 vs1
    have hQA := hQ6.swp v1 v2
    have hszA : (swp d0 i2 j2).size = n := by rw [size_swp]; exact hsz6
    have hSA := hS8.trans hSA
    obtain ⟨i3, hi3⟩ : ∃ i3, i3 = i2 + 1 := ⟨_, rfl⟩
    obtain ⟨j3, hj3⟩ : ∃ j3, j3 = j2 - 1 := ⟨_, rfl⟩
    have w4 : IntKind.i64.wrap ((j2 : Int) - 1) = (j3 : Int) := by rw [hj3, i64w (by omega) (by omega)]; omega
    have w5 : IntKind.i64.wrap ((i2 : Int) + 1) = (i3 : Int) := by rw [hi3, i64w (by omega) (by omega)]; omega
    rw [<- hi3, <- hj3] at e0
    have hj3n : j3 < n := by omega
    have hi3j : i3 <= j3 + 1 := by omega
    have hai3 : a < i3 := by omega
    generalize swp d0 i2 j2 = dA at *
    simp (maxSteps := 1000000) [go_sem, hgt, hgt']
    refine AWp.draw mixed [(0, false), (1, false), (2, false), (3, false), (4, false), (5, false), (6, false), (7, false), (8, false), (9, false), (10, false), (11, false), (12, false), (13, false), (14, false), (15, false)] (by kernel_rfl) ?_
    simp (maxSteps := 1000000) [go_sem, vca, vcb, v3, v4, vs1, vs0, w4, w5]
    clear hle1s hle2s hi2' hj2' vs1 vs0 vca vcb us1 us0 uca ucb
    refine AWp.loopVc (St := Nat × Nat × Array Bk) (fun s => [(0, lv 3 id 0 n), (1, .int .i64 a), (4, .func (.func g) fs.toArray cs.toArray), (12, .int .i64 s.1), (13, .int .i64 s.2.1)])
      (fun s H' => a < s.1 /\ s.1 <= s.2.1 + 1 /\ s.2.1 < n /\ s.2.2.size = n /\ QA Q s.2.2 /\ Same (fun k => k = id) H H' /\ Arr Bk.cells H' id s.2.2 /\ partLoop lt a s.1 s.2.1 s.2.2 = partLoop lt a i3 j3 dA) (fun s => s.2.1 + 1 - s.1) (i3, j3, dA) ?_ ?_ ?_
    · simp [upF, Fr.get, Up.refl]
    · exact ⟨hai3, hi3j, hj3n, hszA, hQA, hSA, hAA, rfl⟩
    · rintro K0 ⟨i, j, d1⟩ H1 ⟨hai, hij, hjn, hsz, hQ1, hS1, hA1, hO⟩ hK0
      simp only at hai hij hjn hsz hQ1 hS1 hA1 hO
      obtain ⟨pw, hpw⟩ : ∃ pw, pw = d1[a]! := ⟨_, rfl⟩
      rw [partLoop_eq, <- hpw] at hO
      simp (maxSteps := 1000000) [go_sem]
      refine AWp.loopCut (St := Nat) (St' := Unit) 6 (fun s => [(0, lv 3 id 0 n), (1, .int .i64 a), (4, .func (.func g) fs.toArray cs.toArray), (12, .int .i64 s), (13, .int .i64 j)])
        (fun s H2 => a < s /\ s <= j + 1 /\ Same (fun k => k = id) H H2 /\ Arr Bk.cells H2 id d1 /\ scanUp (fun x => lt x pw) d1 j s = scanUp (fun x => lt x pw) d1 j i) (fun s => j + 1 - s) i
        (fun _ => [(0, lv 3 id 0 n), (1, .int .i64 a), (4, .func (.func g) fs.toArray cs.toArray), (12, .int .i64 ((scanUp (fun x => lt x pw) d1 j i : Nat) : Int)), (13, .int .i64 j)])
        (fun _ H2 => Same (fun k => k = id) H H2 /\ Arr Bk.cells H2 id d1) ?_ ?_ ?_ ?_
      · simp [upF, Fr.get, Up.refl]
      · exact ⟨by omega, by omega, hS1, hA1, rfl⟩
      · rintro K KE s H2 ⟨has, hsj, hS2, hA2, hP⟩ hK hKE
        by_cases hsj2 : s <= j
        · have hi1 : s < (d1).size := by omega
          have hi0 : a < (d1).size := by omega
          have n1 : s < n := by omega
          have n0 : a < n := by omega
          have hsj3 : (s : Int) <= ((j : Nat) : Int) := by omega
          have hw_s : IntKind.i64.wrap ((s : Int) + 1) = (s : Int) + 1 := i64w (by omega) (by omega)
          have c1 := hA2.load Bk.cells_len hi1
          have c0 := hA2.load Bk.cells_len hi0
          have q1 := hQ1 _ hi1
          have q0 := hQ1 _ hi0
          obtain ⟨x, hx⟩ : ∃ x, x = (d1)[s]! := ⟨_, rfl⟩
          rw [<- hx] at c1 q1
          rw [<- hpw] at c0 q0
          simp only [Bk.cells, Nat.mul_one, Row.val] at c1 c0
          refine AWp.draw mixed [(0, false), (1, false), (2, false), (3, false), (4, false), (5, false), (6, false), (7, false), (8, false), (9, false), (10, false), (11, false), (12, false), (13, false), (14, false), (15, false)] (by kernel_rfl) ?_
          simp (maxSteps := 1000000) [go_sem, hsj2, hsj3, c1, c0, n1, n0]
          refine hC H2 x pw _ hS2 q1 q0 ?_
          intro H3 c hp3 hc
          have hS3 := hS2.via (Same.of_prefix (S := fun _ => False) hp3) (fun _ _ h => h.elim)
          have hA3 := hA2.pre hp3
          cases hl' : lt x pw with
          | true =>
            rw [hl'] at hc
            have hc0 := hc
            simp only [decide_eq_true_eq, decide_eq_false_iff_not] at hc0
            simp (maxSteps := 1000000) [go_sem, hc, hc0, hw_s]
            exact hK (s + 1) _ _ (by omega) (by simp [upF, Fr.get, Up.refl]) ⟨by omega, by omega, hS3, hA3, by rw [<- hP]; exact (scanUp_go hsj2 (by show lt d1[s]! pw = true; rw [<- hx]; simp [hl'])).symm⟩
          | false =>
            rw [hl'] at hc
            have hc0 := hc
            simp only [decide_eq_true_eq, decide_eq_false_iff_not] at hc0
            rw [scanUp_stop (.inr (by show lt d1[s]! pw = false; rw [<- hx]; simp [hl']))] at hP
            simp (maxSteps := 1000000) [go_sem, hc, hc0]
            exact hKE () _ _ (by simp [upF, Fr.get, Up.refl, hP]) ⟨hS3, hA3⟩
        · rw [scanUp_stop (.inl (by omega))] at hP
          have hsj3 : ¬ ((s : Int) <= ((j : Nat) : Int)) := by omega
          refine AWp.draw mixed [(0, false), (1, false), (2, false), (3, false), (4, false), (5, false), (6, false), (7, false), (8, false), (9, false), (10, false), (11, false), (12, false), (13, false), (14, false), (15, false)] (by kernel_rfl) ?_
          simp (maxSteps := 1000000) [go_sem, undef, hsj2, hsj3]
          exact hKE () _ _ (by simp [upF, Fr.get, Up.refl, hP]) ⟨hS2, hA2⟩
      rintro _ H3 ⟨hS3, hA3⟩
      have hge3 := scanUp_ge (fun x => lt x pw) d1 j i
      have hle3 := (scanUp_spec (fun x => lt x pw) d1 j _ i rfl).2.1 (by omega)
      have hle3s := (scanUp_spec (fun x => lt x pw) d1 j _ i rfl).2.2.2
      obtain ⟨i4, hi4'⟩ : ∃ I, scanUp (fun x => lt x pw) d1 j i = I := ⟨_, rfl⟩
      rw [hi4'] at hge3 hle3 hle3s ⊢
      simp (maxSteps := 1000000) [go_sem]
      refine AWp.loopCut (St := Nat) (St' := Unit) 8 (fun s => [(0, lv 3 id 0 n), (1, .int .i64 a), (4, .func (.func g) fs.toArray cs.toArray), (12, .int .i64 i4), (13, .int .i64 s)])
        (fun s H2 => s < n /\ i4 <= s + 1 /\ Same (fun k => k = id) H H2 /\ Arr Bk.cells H2 id d1 /\ scanDown (fun x => !lt x pw) d1 i4 s = scanDown (fun x => !lt x pw) d1 i4 j) (fun s => s) j
        (fun _ => [(0, lv 3 id 0 n), (1, .int .i64 a), (4, .func (.func g) fs.toArray cs.toArray), (12, .int .i64 i4), (13, .int .i64 ((scanDown (fun x => !lt x pw) d1 i4 j : Nat) : Int))])
        (fun _ H2 => Same (fun k => k = id) H H2 /\ Arr Bk.cells H2 id d1) ?_ ?_ ?_ ?_
      · simp [upF, Fr.get, Up.refl]
      · exact ⟨by omega, by omega, hS3, hA3, rfl⟩
      · rintro K KE s H2 ⟨hsn, his, hS2, hA2, hP⟩ hK hKE
        by_cases his2 : i4 <= s
        · obtain ⟨r, rfl⟩ : ∃ r, s = r + 1 := ⟨s - 1, by omega⟩
          have hi1 : r + 1 < (d1).size := by omega
          have hi0 : a < (d1).size := by omega
          have n1 : r + 1 < n := by omega
          have n0 : a < n := by omega
          have m1 : (r : Int) + 1 < n := by omega
          have z1 : (0 : Int) <= (r : Int) + 1 := by omega
          have his3 : ((i4 : Nat) : Int) <= (r : Int) + 1 := by omega
          have hwr : IntKind.i64.wrap (r : Int) = (r : Int) := i64w (by omega) (by omega)
          have c1 := hA2.load Bk.cells_len hi1
          have c0 := hA2.load Bk.cells_len hi0
          have q1 := hQ1 _ hi1
          have q0 := hQ1 _ hi0
          obtain ⟨x, hx⟩ : ∃ x, x = (d1)[r + 1]! := ⟨_, rfl⟩
          rw [<- hx] at c1 q1
          rw [<- hpw] at c0 q0
          simp only [Bk.cells, Nat.mul_one, Row.val] at c1 c0
          refine AWp.draw mixed [(0, false), (1, false), (2, false), (3, false), (4, false), (5, false), (6, false), (7, false), (8, false), (9, false), (10, false), (11, false), (12, false), (13, false), (14, false), (15, false), (16, false)] (by kernel_rfl) ?_
          simp (maxSteps := 1000000) [go_sem, his2, his3, c1, c0, n1, n0, m1, z1]
          refine hC H2 x pw _ hS2 q1 q0 ?_
          intro H3 c hp3 hc
          have hS3 := hS2.via (Same.of_prefix (S := fun _ => False) hp3) (fun _ _ h => h.elim)
          have hA3 := hA2.pre hp3
          cases hl' : lt x pw with
          | false =>
            rw [hl'] at hc
            have hc0 := hc
            simp only [decide_eq_true_eq, decide_eq_false_iff_not] at hc0
            simp (maxSteps := 1000000) [go_sem, hc, hc0, hwr]
            exact hK r _ _ (by omega) (by simp [upF, Fr.get, Up.refl]) ⟨by omega, by omega, hS3, hA3, by rw [<- hP]; exact (scanDown_go his2 (by show (!lt d1[r + 1]! pw) = true; rw [<- hx]; simp [hl'])).symm⟩
          | true =>
            rw [hl'] at hc
            have hc0 := hc
            simp only [decide_eq_true_eq, decide_eq_false_iff_not] at hc0
            rw [scanDown_stop (.inr (by show (!lt d1[r + 1]! pw) = false; rw [<- hx]; simp [hl']))] at hP
            have hP' : ((r : Nat) : Int) + 1 = ((scanDown (fun x => !lt x pw) d1 i4 j : Nat) : Int) := by rw [<- hP]; simp
            simp (maxSteps := 1000000) [go_sem, hc, hc0]
            exact hKE () _ _ (by simp [upF, Fr.get, Up.refl, hP']) ⟨hS3, hA3⟩
        · rw [scanDown_stop (.inl (by omega))] at hP
          have his3 : ¬ (((i4 : Nat) : Int) <= (s : Int)) := by omega
          refine AWp.draw mixed [(0, false), (1, false), (2, false), (3, false), (4, false), (5, false), (6, false), (7, false), (8, false), (9, false), (10, false), (11, false), (12, false), (13, false), (14, false), (15, false), (16, false)] (by kernel_rfl) ?_
          simp (maxSteps := 1000000) [go_sem, undef, his2, his3]
          exact hKE () _ _ (by simp [upF, Fr.get, Up.refl, hP]) ⟨hS2, hA2⟩
      rintro _ H4 ⟨hS4, hA4⟩
      have hge4 := scanDown_le (fun x => !lt x pw) d1 i4 j
      have hle4 := (scanDown_spec (fun x => !lt x pw) d1 i4 j).2.1 (by omega)
      have hle4s := (scanDown_spec (fun x => !lt x pw) d1 i4 j).2.2.2
      obtain ⟨j4, hj4'⟩ : ∃ J, scanDown (fun x => !lt x pw) d1 i4 j = J := ⟨_, rfl⟩
      rw [hj4'] at hge4 hle4 hle4s ⊢
      simp (maxSteps := 1000000) [go_sem]
      rw [hi4', hj4'] at hO
      by_cases hgt : j4 < i4
      · have hgt' : (j4 : Int) < i4 := by omega
        rw [if_pos hgt] at hO
        rw [<- hO] at e0
        rw [e0] at h
        have z1 : j4 < (d1).size := by omega
        have z2 : a < (d1).size := by omega
        have z3 : j4 < n := by omega
        have z4 : a < n := by omega
        have zca := (hA4).load Bk.cells_len z1
        have zcb := (hA4).load Bk.cells_len z2
        obtain ⟨HC, HD, zs1, zs0, hAD, hSD, zl⟩ := (hA4).swap Bk.cells_len Bk.cells_one z1 z2
        obtain ⟨zx, zhx⟩ : ∃ x, x = (d1)[j4]! := ⟨_, rfl⟩
        obtain ⟨zy, zhy⟩ : ∃ y, y = (d1)[a]! := ⟨_, rfl⟩
        rw [<- zhx] at zca zs0
        rw [<- zhy] at zcb zs1
        simp only [Bk.cells, Nat.mul_one, Row.val] at zca zcb zs0 zs1
        simp (maxSteps := 1000000) [go_sem, hgt, hgt']
        refine AWp.draw mixed [(0, false), (1, false), (2, false), (3, false), (4, false), (5, false), (6, false), (7, false), (8, false), (9, false), (10, false), (11, false), (12, false), (13, false), (14, false), (15, false)] (by kernel_rfl) ?_
        simp (maxSteps := 1000000) [go_sem, zca, zcb, z3, z4, zs1, zs0]
        exact h HD (hS4.trans hSD) hAD
      · have hgt' : ¬ ((j4 : Int) < i4) := by omega
        rw [if_neg hgt] at hO
        have hne : i4 ≠ j4 := by
          intro e
          have f1 := hle3s (by omega)
          have f2 := hle4s (by omega) (by omega)
          rw [<- e] at f2
          rw [f1] at f2; cases f2
        have z1 : i4 < (d1).size := by omega
        have z2 : j4 < (d1).size := by omega
        have z3 : i4 < n := by omega
        have z4 : j4 < n := by omega
        have zca := (hA4).load Bk.cells_len z1
        have zcb := (hA4).load Bk.cells_len z2
        obtain ⟨HC, HD, zs1, zs0, hAD, hSD, zl⟩ := (hA4).swap Bk.cells_len Bk.cells_one z1 z2
        obtain ⟨zx, zhx⟩ : ∃ x, x = (d1)[i4]! := ⟨_, rfl⟩
        obtain ⟨zy, zhy⟩ : ∃ y, y = (d1)[j4]! := ⟨_, rfl⟩
        rw [<- zhx] at zca zs0
        rw [<- zhy] at zcb zs1
        simp only [Bk.cells, Nat.mul_one, Row.val] at zca zcb zs0 zs1
        obtain ⟨i5, hi5⟩ : ∃ i5, i5 = i4 + 1 := ⟨_, rfl⟩
        obtain ⟨j5, hj5⟩ : ∃ j5, j5 = j4 - 1 := ⟨_, rfl⟩
        have w6 : IntKind.i64.wrap ((j4 : Int) - 1) = (j5 : Int) := by rw [hj5, i64w (by omega) (by omega)]; omega
        have w7 : IntKind.i64.wrap ((i4 : Int) + 1) = (i5 : Int) := by rw [hi5, i64w (by omega) (by omega)]; omega
        rw [<- hi5, <- hj5] at hO
        simp (maxSteps := 1000000) [go_sem, hgt, hgt']
        refine AWp.draw mixed [(0, false), (1, false), (2, false), (3, false), (4, false), (5, false), (6, false), (7, false), (8, false), (9, false), (10, false), (11, false), (12, false), (13, false), (14, false), (15, false)] (by kernel_rfl) ?_
        simp (maxSteps := 1000000) [go_sem, zca, zcb, z3, z4, zs1, zs0, w6, w7]
        exact hK0 (i5, j5, swp d1 i4 j4) _ _ (by simp only; omega) (by simp [upF, Fr.get, Up.refl]) ⟨by simp only; omega, by simp only; omega, by simp only; omega, by rw [size_swp]; exact hsz, hQ1.swp z1 z2, hS4.trans hSD, hAD, hO⟩

end Go.Proofs.YtfnegaedkomcgaaGreat
end

section
namespace Go.Proofs.YtfnegaedkomcgaaGreat
open Go.Ab Go.Sort

theorem partInsB_ok {H : Heap} {id a b n : Nat} {d : Array Bk} {lt : Bk -> Bk -> Bool} {g : FuncId} {fs cs : List Value} {Q : Bk -> Prop} (hA : Arr Bk.cells H id d) (hn : d.size = n) (hl : n <= 1048576) (hab : a < b) (hb : b <= n) (hQ : QA Q d)
    (hC : Cmp Tryz.prog Bk.val lt g fs cs Q id H) (Post : Value -> Heap -> Prop) (h : ∀ H', Same (fun k => k = id) H H' -> Arr Bk.cells H' id (partialInsertionSort lt d a b).1 -> Post (.bool (partialInsertionSort lt d a b).2) H') :
    ACalls Tryz.prog 177 [lv 3 id 0 n, .int .i64 a, .int .i64 b, .func (.func g) fs.toArray cs.toArray] H Post := by
  refine acalls_vc (rs := [.tmp 8]) Tryz.func177 rfl rfl Tryz.ntmps177 rfl rfl ?_
  obtain ⟨a1, ha1⟩ : ∃ a1, a1 = a + 1 := ⟨_, rfl⟩
  have w1 : IntKind.i64.wrap ((a : Int) + 1) = (a1 : Int) := by rw [ha1, i64w (by omega) (by omega)]; omega
  have w0 : IntKind.i64.wrap ((b : Int) - a) = (b : Int) - a := i64w (by omega) (by omega)
  have e0 : partialInsertionSort lt d a b = partialIns lt a b 5 a1 d := by rw [ha1]; rfl
  rw [e0] at h
  simp (maxSteps := 1000000) [go_sem, w1]
  refine AWp.loopVc (St := Nat × Nat × Array Bk) (fun s => [(0, lv 3 id 0 n), (1, .int .i64 a), (2, .int .i64 b), (3, .func (.func g) fs.toArray cs.toArray), (9, .int .i64 s.2.1), (10, .int .i64 s.1)])
    (fun s H' => s.1 <= 5 /\ a < s.2.1 /\ s.2.1 <= b /\ s.2.2.size = n /\ QA Q s.2.2 /\ Same (fun k => k = id) H H' /\ Arr Bk.cells H' id s.2.2 /\ partialIns lt a b (5 - s.1) s.2.1 s.2.2 = partialIns lt a b 5 a1 d) (fun s => 5 - s.1) (0, a1, d) ?_ ?_ ?_
  · simp [upF, Fr.get, Up.refl]
  · exact ⟨by simp, by simp only; omega, by simp only; omega, hn, hQ, Same.refl _ _, hA, rfl⟩
  · rintro K0 ⟨t, i, d1⟩ H1 ⟨ht, hai, hib, hsz, hQ1, hS1, hA1, hO⟩ hK0
    simp only at ht hai hib hsz hQ1 hS1 hA1 hO
    by_cases ht5 : t < 5
    · have ht5' : (t : Int) < 5 := by omega
      have hw_t : IntKind.i64.wrap ((t : Int) + 1) = (t : Int) + 1 := i64w (by omega) (by omega)
      obtain ⟨q, hq⟩ : ∃ q, 5 - t = q + 1 := ⟨4 - t, by omega⟩
      have hq2 : 5 - (t + 1) = q := by omega
      rw [hq, partialIns_succ] at hO
      obtain ⟨bd1, bd2⟩ := scanSorted_bd (lt := lt) (d := d1) (i := i) (b := b) hib
      simp (maxSteps := 1000000) [go_sem, ht5, ht5']
      refine AWp.loopCut (St := Nat) (St' := Unit) 2 (fun s => [(0, lv 3 id 0 n), (1, .int .i64 a), (2, .int .i64 b), (3, .func (.func g) fs.toArray cs.toArray), (9, .int .i64 s), (10, .int .i64 t)])
        (fun s H2 => a < s /\ s <= b /\ Same (fun k => k = id) H H2 /\ Arr Bk.cells H2 id d1 /\ scanSorted lt d1 b s = scanSorted lt d1 b i) (fun s => b - s) i
        (fun _ => [(0, lv 3 id 0 n), (1, .int .i64 a), (2, .int .i64 b), (3, .func (.func g) fs.toArray cs.toArray), (9, .int .i64 ((scanSorted lt d1 b i : Nat) : Int)), (10, .int .i64 t)])
        (fun _ H2 => Same (fun k => k = id) H H2 /\ Arr Bk.cells H2 id d1) ?_ ?_ ?_ ?_
      · simp [upF, Fr.get, Up.refl]
      · exact ⟨hai, hib, hS1, hA1, rfl⟩
      · rintro K KE s H2 ⟨has, hsb, hS2, hA2, hP⟩ hK hKE
        by_cases hsb2 : s < b
        · have hsb3 : (s : Int) < b := by omega
          obtain ⟨p, hp⟩ : ∃ p, s - 1 = p := ⟨_, rfl⟩
          have wp : IntKind.i64.wrap ((s : Int) - 1) = (p : Int) := by rw [<- hp, i64w (by omega) (by omega)]; omega
          have hw_s : IntKind.i64.wrap ((s : Int) + 1) = (s : Int) + 1 := i64w (by omega) (by omega)
          have hi1 : s < d1.size := by omega
          have hi0 : p < d1.size := by omega
          have n1 : s < n := by omega
          have n0 : p < n := by omega
          have c1 := hA2.load Bk.cells_len hi1
          have c0 := hA2.load Bk.cells_len hi0
          have q1 := hQ1 _ hi1
          have q0 := hQ1 _ hi0
          obtain ⟨x, hx⟩ : ∃ x, d1[s]! = x := ⟨_, rfl⟩
          obtain ⟨y, hy⟩ : ∃ y, d1[p]! = y := ⟨_, rfl⟩
          rw [hx] at c1 q1
          rw [hy] at c0 q0
          simp only [Bk.cells, Nat.mul_one, Row.val] at c1 c0
          refine AWp.draw mixed [(0, false), (1, false), (2, false), (3, false), (4, false), (5, false), (6, false), (7, false), (8, false), (9, false), (10, false), (11, false), (12, false), (13, false), (14, false), (15, false), (16, false), (17, false)] (by kernel_rfl) ?_
          simp (maxSteps := 1000000) [go_sem, hsb2, hsb3, c1, c0, n1, n0, wp]
          refine hC H2 x y _ hS2 q1 q0 ?_
          intro H3 c hp3 hc
          have hS3 := hS2.via (Same.of_prefix (S := fun _ => False) hp3) (fun _ _ h => h.elim)
          have hA3 := hA2.pre hp3
          cases hl' : lt x y with
          | false =>
            rw [hl'] at hc
            have hc0 := hc
            simp only [decide_eq_true_eq, decide_eq_false_iff_not] at hc0
            simp (maxSteps := 1000000) [go_sem, hc, hc0, hw_s]
            exact hK (s + 1) _ _ (by omega) (by simp [upF, Fr.get, Up.refl]) ⟨by omega, by omega, hS3, hA3, by rw [<- hP]; exact (scanSorted_go hsb2 (by rw [hp, hx, hy]; exact hl')).symm⟩
          | true =>
            rw [hl'] at hc
            have hc0 := hc
            simp only [decide_eq_true_eq, decide_eq_false_iff_not] at hc0
            rw [scanSorted_stop (.inr (by rw [hp, hx, hy]; exact hl'))] at hP
            simp (maxSteps := 1000000) [go_sem, hc, hc0]
            exact hKE () _ _ (by simp [upF, Fr.get, Up.refl, hP]) ⟨hS3, hA3⟩
        · rw [scanSorted_stop (.inl (by omega))] at hP
          have hsb3 : ¬ ((s : Int) < b) := by omega
          refine AWp.draw mixed [(0, false), (1, false), (2, false), (3, false), (4, false), (5, false), (6, false), (7, false), (8, false), (9, false), (10, false), (11, false), (12, false), (13, false), (14, false), (15, false), (16, false), (17, false)] (by kernel_rfl) ?_
          simp (maxSteps := 1000000) [go_sem, undef, hsb2, hsb3]
          exact hKE () _ _ (by simp [upF, Fr.get, Up.refl, hP]) ⟨hS2, hA2⟩
      rintro _ H2 ⟨hS2, hA2⟩
      obtain ⟨i2, hi2⟩ : ∃ I, scanSorted lt d1 b i = I := ⟨_, rfl⟩
      rw [hi2] at bd1 bd2 hO ⊢
      by_cases hib2 : i2 = b
      · subst hib2
        rw [if_pos rfl] at hO
        rw [<- hO] at h
        simp (maxSteps := 1000000) [go_sem]
        exact h H2 hS2 hA2
      · rw [if_neg hib2] at hO
        have hib3 : ((i2 : Int) == (b : Int)) = false := by rw [beq_eq_false_iff_ne]; omega
        by_cases h50 : b - a < 50
        · have h50' : (b : Int) - a < 50 := by omega
          rw [if_pos h50] at hO
          rw [<- hO] at h
          simp (maxSteps := 1000000) [go_sem, hib2, hib3, w0, h50']
          exact h H2 hS2 hA2
        · have h50' : ¬ ((b : Int) - a < 50) := by omega
          rw [if_neg h50] at hO
          obtain ⟨p, hp⟩ : ∃ p, i2 - 1 = p := ⟨_, rfl⟩
          have wp : IntKind.i64.wrap ((i2 : Int) - 1) = (p : Int) := by rw [<- hp, i64w (by omega) (by omega)]; omega
          have wia : IntKind.i64.wrap ((i2 : Int) - a) = (i2 : Int) - a := i64w (by omega) (by omega)
          have wbi : IntKind.i64.wrap ((b : Int) - i2) = (b : Int) - i2 := i64w (by omega) (by omega)
          have wi1 : IntKind.i64.wrap ((i2 : Int) + 1) = (i2 : Int) + 1 := i64w (by omega) (by omega)
          rw [hp] at hO
          have u1 : i2 < (d1).size := by omega
          have u2 : p < (d1).size := by omega
          have u3 : i2 < n := by omega
          have u4 : p < n := by omega
          have uca := (hA2).load Bk.cells_len u1
          have ucb := (hA2).load Bk.cells_len u2
          obtain ⟨H5, H6, us1, us0, hA6, hS6, ul⟩ := (hA2).swap Bk.cells_len Bk.cells_one u1 u2
          obtain ⟨ux, uhx⟩ : ∃ x, x = (d1)[i2]! := ⟨_, rfl⟩
          obtain ⟨uy, uhy⟩ : ∃ y, y = (d1)[p]! := ⟨_, rfl⟩
          rw [<- uhx] at uca us0
          rw [<- uhy] at ucb us1
          simp only [Bk.cells, Nat.mul_one, Row.val] at uca ucb us0 us1
          have hQ6 := hQ1.swp u1 u2
          have hsz6 : (swp d1 i2 p).size = n := by rw [size_swp]; exact hsz
          have hS6 := hS2.trans hS6
          simp (maxSteps := 1000000) [go_sem, hib2, hib3, w0, h50']
          refine AWp.draw mixed [(0, false), (1, false), (2, false), (3, false), (4, false), (5, false), (6, false), (7, false), (8, false), (9, false), (10, false), (11, false), (12, false), (13, false), (14, false), (15, false), (16, false), (17, false)] (by kernel_rfl) ?_
          simp (maxSteps := 1000000) [go_sem, uca, ucb, u3, u4, us1, us0, wp]
          generalize swp d1 i2 p = d2 at *
          clear uca ucb us1 us0
          by_cases hd : 2 <= i2 - a
          · have hd' : (2 : Int) <= (i2 : Int) - a := by omega
            have e1 : fixDown lt a i2 d2 = shiftDown lt p d2 := by unfold fixDown; rw [if_pos hd, hp]
            rw [e1] at hO
            simp (maxSteps := 1000000) [go_sem, wia, hd, hd', wp]
            refine AWp.loopCut (St := Nat × Array Bk) (St' := Unit) 4 (fun s => [(0, lv 3 id 0 n), (1, .int .i64 a), (2, .int .i64 b), (3, .func (.func g) fs.toArray cs.toArray), (9, .int .i64 i2), (10, .int .i64 t), (11, .int .i64 s.1)])
              (fun s H2 => s.1 <= p /\ s.2.size = n /\ QA Q s.2 /\ Same (fun k => k = id) H H2 /\ Arr Bk.cells H2 id s.2 /\ shiftDown lt s.1 s.2 = shiftDown lt p d2) (fun s => s.1) (p, d2)
              (fun _ => [(0, lv 3 id 0 n), (1, .int .i64 a), (2, .int .i64 b), (3, .func (.func g) fs.toArray cs.toArray), (9, .int .i64 i2), (10, .int .i64 t)])
              (fun _ H2 => Same (fun k => k = id) H H2 /\ Arr Bk.cells H2 id (shiftDown lt p d2)) ?_ ?_ ?_ ?_
            · simp [upF, Fr.get, Up.refl]
            · exact ⟨Nat.le_refl _, hsz6, hQ6, hS6, hA6, rfl⟩
            · rintro K KE ⟨s, d3⟩ H7 ⟨hsp, hsz3, hQ3, hS7, hA7, hP⟩ hK hKE
              simp only at hsp hsz3 hQ3 hS7 hA7 hP
              cases s with
              | zero =>
                have hP' : d3 = shiftDown lt p d2 := hP
                simp (maxSteps := 1000000) [go_sem]
                exact hKE () _ _ (by simp [upF, Fr.get, Up.refl]) ⟨hS7, hP' ▸ hA7⟩
              | succ r =>
                have hi1 : r + 1 < d3.size := by omega
                have hi0 : r < d3.size := by omega
                have n1 : r + 1 < n := by omega
                have n0 : r < n := by omega
                have m1 : (r : Int) + 1 < n := by omega
                have z1 : (0 : Int) <= (r : Int) + 1 := by omega
                have z2 : (1 : Int) <= (r : Int) + 1 := by omega
                have hwr : IntKind.i64.wrap (r : Int) = (r : Int) := i64w (by omega) (by omega)
                have c1 := hA7.load Bk.cells_len hi1
                have c0 := hA7.load Bk.cells_len hi0
                have q1 := hQ3 _ hi1
                have q0 := hQ3 _ hi0
                obtain ⟨x, hx⟩ : ∃ x, d3[r + 1]! = x := ⟨_, rfl⟩
                obtain ⟨y, hy⟩ : ∃ y, d3[r]! = y := ⟨_, rfl⟩
                rw [hx] at c1 q1
                rw [hy] at c0 q0
                simp only [Bk.cells, Nat.mul_one, Row.val] at c1 c0
                simp (maxSteps := 1000000) [go_sem, z2]
                refine AWp.draw mixed [(0, false), (1, false), (2, false), (3, false), (4, false), (5, false), (6, false), (7, false), (8, false), (9, false), (10, false), (11, false), (12, false)] (by kernel_rfl) ?_
                simp (maxSteps := 1000000) [go_sem, c1, c0, n1, n0, m1, z1, hwr]
                refine hC H7 x y _ hS7 q1 q0 ?_
                intro H8 c hp8 hc
                have hS8 := hS7.via (Same.of_prefix (S := fun _ => False) hp8) (fun _ _ h => h.elim)
                have hA8 := hA7.pre hp8
                cases hl' : lt x y with
                | false =>
                  rw [hl'] at hc
                  have hc0 := hc
                  simp only [decide_eq_true_eq, decide_eq_false_iff_not] at hc0
                  rw [shiftDown_stop (by rw [hx, hy]; exact hl')] at hP
                  simp (maxSteps := 1000000) [go_sem, hc, hc0]
                  exact hKE () _ _ (by simp [upF, Fr.get, Up.refl]) ⟨hS8, hP ▸ hA8⟩
                | true =>
                  rw [hl'] at hc
                  have hc0 := hc
                  simp only [decide_eq_true_eq, decide_eq_false_iff_not] at hc0
                  rw [shiftDown_go (by rw [hx, hy]; exact hl')] at hP
                  have v1 : (r + 1) < (d3).size := by omega
                  have v2 : r < (d3).size := by omega
                  have v3 : (r + 1) < n := by omega
                  have v4 : r < n := by omega
                  have vca := (hA8).load Bk.cells_len v1
                  have vcb := (hA8).load Bk.cells_len v2
                  obtain ⟨H9, HA, vs1, vs0, hAA, hSA, vl⟩ := (hA8).swap Bk.cells_len Bk.cells_one v1 v2
                  obtain ⟨vx, vhx⟩ : ∃ x, x = (d3)[(r + 1)]! := ⟨_, rfl⟩
                  obtain ⟨vy, vhy⟩ : ∃ y, y = (d3)[r]! := ⟨_, rfl⟩
                  rw [<- vhx] at vca vs0
                  rw [<- vhy] at vcb vs1
                  simp only [Bk.cells, Nat.mul_one, Row.val] at vca vcb vs0 vs1
                  simp (maxSteps := 1000000) [go_sem, hc, hc0]
                  refine AWp.draw mixed [(0, false), (1, false), (2, false), (3, false), (4, false), (5, false), (6, false), (7, false), (8, false), (9, false), (10, false), (11, false), (12, false), (13, false), (14, false), (15, false), (16, false), (17, false)] (by kernel_rfl) ?_
                  simp (maxSteps := 1000000) [go_sem, vca, vcb, v3, v4, m1, z1, vs1, vs0, hwr]
                  exact hK (r, swp d3 (r + 1) r) _ _ (by simp only; omega) (by simp [upF, Fr.get, Up.refl]) ⟨by simp only; omega, by rw [size_swp]; exact hsz3, hQ3.swp v1 v2, hS8.trans hSA, hAA, hP⟩
            rintro _ H7 ⟨hS7, hA7⟩
            have hsz7 : (shiftDown lt p d2).size = n := by rw [shiftDown_size]; exact hsz6
            have hQ7 := shiftDown_QA (lt := lt) (j := p) (by omega) hQ6
            simp (maxSteps := 1000000) [go_sem]
            obtain ⟨d9, hd9⟩ : ∃ d9, shiftDown lt p d2 = d9 := ⟨_, rfl⟩
            have hA9 := hA7
            have hQ9 := hQ7
            have hz9 := hsz7
            rw [hd9] at hA9 hQ9 hz9 hO
            by_cases hu : 2 <= b - i2
            · have hu' : (2 : Int) <= (b : Int) - i2 := by omega
              have e2 : fixUp lt b i2 d9 = shiftUp lt b (i2 + 1) d9 := by unfold fixUp; rw [if_pos hu]
              rw [e2] at hO
              simp (maxSteps := 1000000) [go_sem, wbi, hu, hu', wi1]
              refine AWp.loopCut (St := Nat × Array Bk) (St' := Unit) 6 (fun s => [(0, lv 3 id 0 n), (1, .int .i64 a), (2, .int .i64 b), (3, .func (.func g) fs.toArray cs.toArray), (9, .int .i64 i2), (10, .int .i64 t), (12, .int .i64 s.1)])
                (fun s H2 => i2 < s.1 /\ s.1 <= b /\ s.2.size = n /\ QA Q s.2 /\ Same (fun k => k = id) H H2 /\ Arr Bk.cells H2 id s.2 /\ shiftUp lt b s.1 s.2 = shiftUp lt b (i2 + 1) d9) (fun s => b - s.1) (i2 + 1, d9)
                (fun _ => [(0, lv 3 id 0 n), (1, .int .i64 a), (2, .int .i64 b), (3, .func (.func g) fs.toArray cs.toArray), (9, .int .i64 i2), (10, .int .i64 t)])
                (fun _ H2 => Same (fun k => k = id) H H2 /\ Arr Bk.cells H2 id (shiftUp lt b (i2 + 1) d9)) ?_ ?_ ?_ ?_
              · simp [upF, Fr.get, Up.refl]
              · exact ⟨by simp only; omega, by simp only; omega, hz9, hQ9, hS7, hA9, rfl⟩
              · rintro K KE ⟨s, d3⟩ HB ⟨hsi, hsb, hsz3, hQ3, hSB, hAB, hP⟩ hK hKE
                simp only at hsi hsb hsz3 hQ3 hSB hAB hP
                by_cases hsb2 : s < b
                · have hsb3 : (s : Int) < b := by omega
                  obtain ⟨r, hr⟩ : ∃ r, s - 1 = r := ⟨_, rfl⟩
                  have wr : IntKind.i64.wrap ((s : Int) - 1) = (r : Int) := by rw [<- hr, i64w (by omega) (by omega)]; omega
                  have hw_s : IntKind.i64.wrap ((s : Int) + 1) = (s : Int) + 1 := i64w (by omega) (by omega)
                  have hi1 : s < d3.size := by omega
                  have hi0 : r < d3.size := by omega
                  have n1 : s < n := by omega
                  have n0 : r < n := by omega
                  have c1 := hAB.load Bk.cells_len hi1
                  have c0 := hAB.load Bk.cells_len hi0
                  have q1 := hQ3 _ hi1
                  have q0 := hQ3 _ hi0
                  obtain ⟨x, hx⟩ : ∃ x, d3[s]! = x := ⟨_, rfl⟩
                  obtain ⟨y, hy⟩ : ∃ y, d3[r]! = y := ⟨_, rfl⟩
                  rw [hx] at c1 q1
                  rw [hy] at c0 q0
                  simp only [Bk.cells, Nat.mul_one, Row.val] at c1 c0
                  simp (maxSteps := 1000000) [go_sem, hsb2, hsb3]
                  refine AWp.draw mixed [(0, false), (1, false), (2, false), (3, false), (4, false), (5, false), (6, false), (7, false), (8, false), (9, false), (10, false), (11, false), (12, false)] (by kernel_rfl) ?_
                  simp (maxSteps := 1000000) [go_sem, c1, c0, n1, n0, wr]
                  refine hC HB x y _ hSB q1 q0 ?_
                  intro HC c hpC hc
                  have hSC := hSB.via (Same.of_prefix (S := fun _ => False) hpC) (fun _ _ h => h.elim)
                  have hAC := hAB.pre hpC
                  cases hl' : lt x y with
                  | false =>
                    rw [hl'] at hc
                    have hc0 := hc
                    simp only [decide_eq_true_eq, decide_eq_false_iff_not] at hc0
                    rw [shiftUp_stop hsb2 (by rw [hr, hx, hy]; exact hl')] at hP
                    simp (maxSteps := 1000000) [go_sem, hc, hc0]
                    exact hKE () _ _ (by simp [upF, Fr.get, Up.refl]) ⟨hSC, hP ▸ hAC⟩
                  | true =>
                    rw [hl'] at hc
                    have hc0 := hc
                    simp only [decide_eq_true_eq, decide_eq_false_iff_not] at hc0
                    rw [shiftUp_go hsb2 (by rw [hr, hx, hy]; exact hl'), hr] at hP
                    have v1 : s < (d3).size := by omega
                    have v2 : r < (d3).size := by omega
                    have v3 : s < n := by omega
                    have v4 : r < n := by omega
                    have vca := (hAC).load Bk.cells_len v1
                    have vcb := (hAC).load Bk.cells_len v2
                    obtain ⟨HD, HE, vs1, vs0, hAE, hSE, vl⟩ := (hAC).swap Bk.cells_len Bk.cells_one v1 v2
                    obtain ⟨vx, vhx⟩ : ∃ x, x = (d3)[s]! := ⟨_, rfl⟩
                    obtain ⟨vy, vhy⟩ : ∃ y, y = (d3)[r]! := ⟨_, rfl⟩
                    rw [<- vhx] at vca vs0
                    rw [<- vhy] at vcb vs1
                    simp only [Bk.cells, Nat.mul_one, Row.val] at vca vcb vs0 vs1
                    simp (maxSteps := 1000000) [go_sem, hc, hc0]
                    refine AWp.draw mixed [(0, false), (1, false), (2, false), (3, false), (4, false), (5, false), (6, false), (7, false), (8, false), (9, false), (10, false), (11, false), (12, false), (13, false), (14, false), (15, false), (16, false), (17, false)] (by kernel_rfl) ?_
                    simp (maxSteps := 1000000) [go_sem, vca, vcb, v3, v4, vs1, vs0, wr, hw_s]
                    exact hK (s + 1, swp d3 s r) _ _ (by simp only; omega) (by simp [upF, Fr.get, Up.refl]) ⟨by simp only; omega, by simp only; omega, by rw [size_swp]; exact hsz3, hQ3.swp v1 v2, hSC.trans hSE, hAE, hP⟩
                · rw [shiftUp_end (by omega)] at hP
                  have hsb3 : ¬ ((s : Int) < b) := by omega
                  simp (maxSteps := 1000000) [go_sem, hsb2, hsb3]
                  exact hKE () _ _ (by simp [upF, Fr.get, Up.refl]) ⟨hSB, hP ▸ hAB⟩
              rintro _ HB ⟨hSB, hAB⟩
              simp (maxSteps := 1000000) [go_sem, hw_t]
              exact hK0 (t + 1, i2, shiftUp lt b (i2 + 1) d9) _ _ (by simp only; omega) (by simp [upF, Fr.get, Up.refl]) ⟨by simp only; omega, by simp only; omega, bd2, by rw [shiftUp_size]; exact hz9, shiftUp_QA (by omega) hQ9, hSB, hAB, by simp only [hq2]; exact hO⟩
            · have hu' : ¬ ((2 : Int) <= (b : Int) - i2) := by omega
              have e2 : fixUp lt b i2 d9 = d9 := by unfold fixUp; rw [if_neg hu]
              rw [e2] at hO
              simp (maxSteps := 1000000) [go_sem, wbi, hu, hu', hw_t]
              exact hK0 (t + 1, i2, d9) _ _ (by simp only; omega) (by simp [upF, Fr.get, Up.refl]) ⟨by simp only; omega, by simp only; omega, bd2, hz9, hQ9, hS7, hA9, by simp only [hq2]; exact hO⟩
          · have hd' : ¬ ((2 : Int) <= (i2 : Int) - a) := by omega
            have e1 : fixDown lt a i2 d2 = d2 := by unfold fixDown; rw [if_neg hd]
            rw [e1] at hO
            simp (maxSteps := 1000000) [go_sem, wia, hd, hd']
            obtain ⟨d9, hd9⟩ : ∃ d9, d2 = d9 := ⟨_, rfl⟩
            have hA9 := hA6
            have hQ9 := hQ6
            have hz9 := hsz6
            rw [hd9] at hA9 hQ9 hz9 hO
            by_cases hu : 2 <= b - i2
            · have hu' : (2 : Int) <= (b : Int) - i2 := by omega
              have e2 : fixUp lt b i2 d9 = shiftUp lt b (i2 + 1) d9 := by unfold fixUp; rw [if_pos hu]
              rw [e2] at hO
              simp (maxSteps := 1000000) [go_sem, wbi, hu, hu', wi1]
              refine AWp.loopCut (St := Nat × Array Bk) (St' := Unit) 6 (fun s => [(0, lv 3 id 0 n), (1, .int .i64 a), (2, .int .i64 b), (3, .func (.func g) fs.toArray cs.toArray), (9, .int .i64 i2), (10, .int .i64 t), (12, .int .i64 s.1)])
                (fun s H2 => i2 < s.1 /\ s.1 <= b /\ s.2.size = n /\ QA Q s.2 /\ Same (fun k => k = id) H H2 /\ Arr Bk.cells H2 id s.2 /\ shiftUp lt b s.1 s.2 = shiftUp lt b (i2 + 1) d9) (fun s => b - s.1) (i2 + 1, d9)
                (fun _ => [(0, lv 3 id 0 n), (1, .int .i64 a), (2, .int .i64 b), (3, .func (.func g) fs.toArray cs.toArray), (9, .int .i64 i2), (10, .int .i64 t)])
                (fun _ H2 => Same (fun k => k = id) H H2 /\ Arr Bk.cells H2 id (shiftUp lt b (i2 + 1) d9)) ?_ ?_ ?_ ?_
              · simp [upF, Fr.get, Up.refl]
              · exact ⟨by simp only; omega, by simp only; omega, hz9, hQ9, hS6, hA9, rfl⟩
              · rintro K KE ⟨s, d3⟩ HB ⟨hsi, hsb, hsz3, hQ3, hSB, hAB, hP⟩ hK hKE
                simp only at hsi hsb hsz3 hQ3 hSB hAB hP
                by_cases hsb2 : s < b
                · have hsb3 : (s : Int) < b := by omega
                  obtain ⟨r, hr⟩ : ∃ r, s - 1 = r := ⟨_, rfl⟩
                  have wr : IntKind.i64.wrap ((s : Int) - 1) = (r : Int) := by rw [<- hr, i64w (by omega) (by omega)]; omega
                  have hw_s : IntKind.i64.wrap ((s : Int) + 1) = (s : Int) + 1 := i64w (by omega) (by omega)
                  have hi1 : s < d3.size := by omega
                  have hi0 : r < d3.size := by omega
                  have n1 : s < n := by omega
                  have n0 : r < n := by omega
                  have c1 := hAB.load Bk.cells_len hi1
                  have c0 := hAB.load Bk.cells_len hi0
                  have q1 := hQ3 _ hi1
                  have q0 := hQ3 _ hi0
                  obtain ⟨x, hx⟩ : ∃ x, d3[s]! = x := ⟨_, rfl⟩
                  obtain ⟨y, hy⟩ : ∃ y, d3[r]! = y := ⟨_, rfl⟩
                  rw [hx] at c1 q1
                  rw [hy] at c0 q0
                  simp only [Bk.cells, Nat.mul_one, Row.val] at c1 c0
                  simp (maxSteps := 1000000) [go_sem, hsb2, hsb3]
                  refine AWp.draw mixed [(0, false), (1, false), (2, false), (3, false), (4, false), (5, false), (6, false), (7, false), (8, false), (9, false), (10, false), (11, false), (12, false)] (by kernel_rfl) ?_
                  simp (maxSteps := 1000000) [go_sem, c1, c0, n1, n0, wr]
                  refine hC HB x y _ hSB q1 q0 ?_
                  intro HC c hpC hc
                  have hSC := hSB.via (Same.of_prefix (S := fun _ => False) hpC) (fun _ _ h => h.elim)
                  have hAC := hAB.pre hpC
                  cases hl' : lt x y with
                  | false =>
                    rw [hl'] at hc
                    have hc0 := hc
                    simp only [decide_eq_true_eq, decide_eq_false_iff_not] at hc0
                    rw [shiftUp_stop hsb2 (by rw [hr, hx, hy]; exact hl')] at hP
                    simp (maxSteps := 1000000) [go_sem, hc, hc0]
                    exact hKE () _ _ (by simp [upF, Fr.get, Up.refl]) ⟨hSC, hP ▸ hAC⟩
                  | true =>
                    rw [hl'] at hc
                    have hc0 := hc
                    simp only [decide_eq_true_eq, decide_eq_false_iff_not] at hc0
                    rw [shiftUp_go hsb2 (by rw [hr, hx, hy]; exact hl'), hr] at hP
                    have v1 : s < (d3).size := by omega
                    have v2 : r < (d3).size := by omega
                    have v3 : s < n := by omega
                    have v4 : r < n := by omega
                    have vca := (hAC).load Bk.cells_len v1
                    have vcb := (hAC).load Bk.cells_len v2
                    obtain ⟨HD, HE, vs1, vs0, hAE, hSE, vl⟩ := (hAC).swap Bk.cells_len Bk.cells_one v1 v2
                    obtain ⟨vx, vhx⟩ : ∃ x, x = (d3)[s]! := ⟨_, rfl⟩
                    obtain ⟨vy, vhy⟩ : ∃ y, y = (d3)[r]! := ⟨_, rfl⟩
                    rw [<- vhx] at vca vs0
                    rw [<- vhy] at vcb vs1
                    simp only [Bk.cells, Nat.mul_one, Row.val] at vca vcb vs0 vs1
                    simp (maxSteps := 1000000) [go_sem, hc, hc0]
                    refine AWp.draw mixed [(0, false), (1, false), (2, false), (3, false), (4, false), (5, false), (6, false), (7, false), (8, false), (9, false), (10, false), (11, false), (12, false), (13, false), (14, false), (15, false), (16, false), (17, false)] (by kernel_rfl) ?_
                    simp (maxSteps := 1000000) [go_sem, vca, vcb, v3, v4, vs1, vs0, wr, hw_s]
                    exact hK (s + 1, swp d3 s r) _ _ (by simp only; omega) (by simp [upF, Fr.get, Up.refl]) ⟨by simp only; omega, by simp only; omega, by rw [size_swp]; exact hsz3, hQ3.swp v1 v2, hSC.trans hSE, hAE, hP⟩
                · rw [shiftUp_end (by omega)] at hP
                  have hsb3 : ¬ ((s : Int) < b) := by omega
                  simp (maxSteps := 1000000) [go_sem, hsb2, hsb3]
                  exact hKE () _ _ (by simp [upF, Fr.get, Up.refl]) ⟨hSB, hP ▸ hAB⟩
              rintro _ HB ⟨hSB, hAB⟩
              simp (maxSteps := 1000000) [go_sem, hw_t]
              exact hK0 (t + 1, i2, shiftUp lt b (i2 + 1) d9) _ _ (by simp only; omega) (by simp [upF, Fr.get, Up.refl]) ⟨by simp only; omega, by simp only; omega, bd2, by rw [shiftUp_size]; exact hz9, shiftUp_QA (by omega) hQ9, hSB, hAB, by simp only [hq2]; exact hO⟩
            · have hu' : ¬ ((2 : Int) <= (b : Int) - i2) := by omega
              have e2 : fixUp lt b i2 d9 = d9 := by unfold fixUp; rw [if_neg hu]
              rw [e2] at hO
              simp (maxSteps := 1000000) [go_sem, wbi, hu, hu', hw_t]
              exact hK0 (t + 1, i2, d9) _ _ (by simp only; omega) (by simp [upF, Fr.get, Up.refl]) ⟨by simp only; omega, by simp only; omega, bd2, hz9, hQ9, hS6, hA9, by simp only [hq2]; exact hO⟩
    · have ht5' : ¬ ((t : Int) < 5) := by omega
      have e : 5 - t = 0 := by omega
      rw [e] at hO
      have hO' : (d1, false) = partialIns lt a b 5 a1 d := hO
      rw [<- hO'] at h
      simp (maxSteps := 1000000) [go_sem, ht5, ht5']
      exact h H1 hS1 hA1

end Go.Proofs.YtfnegaedkomcgaaGreat
end

section
namespace Go.Proofs.YtfnegaedkomcgaaGreat
open Go.Ab Go.Sort

theorem breakB_ok {H : Heap} {id a b n : Nat} {d : Array Bk} {g : FuncId} {fs cs : List Value} {Q : Bk -> Prop} (hA : Arr Bk.cells H id d) (hn : d.size = n) (hl : n <= 1048576) (hab : a <= b) (hb : b <= n) (hQ : QA Q d)
    (Post : Value -> Heap -> Prop) (h : ∀ H' d', Same (fun k => k = id) H H' -> Arr Bk.cells H' id d' -> QA Q d' -> PermIn a b d d' -> Post (.tuple #[]) H') :
    ACalls Tryz.prog 174 [lv 3 id 0 n, .int .i64 a, .int .i64 b, .func (.func g) fs.toArray cs.toArray] H Post := by
  refine acalls_vc (rs := []) Tryz.func174 rfl rfl Tryz.ntmps174 rfl rfl ?_
  obtain ⟨l, hll⟩ : ∃ l, l = b - a := ⟨_, rfl⟩
  obtain ⟨q, hq⟩ : ∃ q, q = l / 4 := ⟨_, rfl⟩
  have w0 : IntKind.i64.wrap ((b : Int) - a) = (l : Int) := by rw [hll, i64w (by omega) (by omega)]; omega
  by_cases h8 : 8 <= l
  · have h8' : (8 : Int) <= l := by omega
    obtain ⟨i0, hi0⟩ : ∃ i0, i0 = a + q * 2 - 1 := ⟨_, rfl⟩
    have w1 : IntKind.i64.wrap ((l : Int) / 4) = (q : Int) := by rw [hq, i64w (by omega) (by omega)]; omega
    have w2 : IntKind.i64.wrap ((q : Int) * 2) = (q : Int) * 2 := i64w (by omega) (by omega)
    have w3 : IntKind.i64.wrap ((a : Int) + (q : Int) * 2) = (a : Int) + (q : Int) * 2 := i64w (by omega) (by omega)
    have w4 : IntKind.i64.wrap ((a : Int) + (q : Int) * 2 - 1) = (i0 : Int) := by rw [hi0, i64w (by omega) (by omega)]; omega
    have w5 : IntKind.i64.wrap ((a : Int) + (q : Int) * 2 + 1) = (i0 : Int) + 2 := by rw [i64w (by omega) (by omega)]; omega
    have w6 : IntKind.u64.wrap (l : Int) = l := by rw [IntKind.wrap_u64]; omega
    simp (maxSteps := 1000000) [go_sem, w0, h8, h8', w6]
    have hp0 : H <+: H ++ [⟨[.int .u64 l], true, true⟩] := List.prefix_append _ _
    have hz0 : (H ++ [(⟨[.int .u64 l], true, true⟩ : Blk)])[H.length]? = some ⟨[.int .u64 l], true, true⟩ := by simp
    have hidl := hA.lt
    have hA0 := hA.pre hp0
    have hS0 : Same (fun k => k = id) H (H ++ [⟨[.int .u64 l], true, true⟩]) := Same.of_prefix hp0
    generalize H ++ [(⟨[.int .u64 l], true, true⟩ : Blk)] = H0 at hp0 hz0 hA0 hS0 ⊢
    refine nextPow_ok (by omega) (by omega) _ ?_
    intro m hm0 hm
    obtain ⟨m1, hm1⟩ : ∃ m1, m1 = m - 1 := ⟨_, rfl⟩
    have w7 : IntKind.u64.wrap ((m : Int) - 1) = (m1 : Int) := by rw [hm1, IntKind.wrap_u64]; omega
    simp (maxSteps := 1000000) [go_sem, w1, w2, w3, w4]
    refine AWp.loopVc (St := Nat × Array Bk × Int) (fun s => [(0, lv 3 id 0 n), (1, .int .i64 a), (8, .int .i64 l), (9, .pointer (some ⟨H.length, 0, none⟩)), (10, .int .u64 m), (11, .int .i64 s.1)])
      (fun s H' => i0 <= s.1 /\ s.1 <= i0 + 3 /\ s.2.1.size = n /\ QA Q s.2.1 /\ Same (fun k => k = id) H H' /\ Arr Bk.cells H' id s.2.1 /\ PermIn a b d s.2.1 /\ H'[H.length]? = some ⟨[.int .u64 s.2.2], true, true⟩) (fun s => i0 + 3 - s.1) (i0, d, (l : Int)) ?_ ?_ ?_
    · simp [upF, Fr.get, Up.refl]
    · exact ⟨Nat.le_refl _, by simp only; omega, hn, hQ, hS0, hA0, permIn_refl _ _ _, hz0⟩
    · rintro K ⟨i, d1, z⟩ H1 ⟨hi1, hi2, hsz, hQ1, hS1, hA1, hP, hz⟩ hK
      simp only at hi1 hi2 hsz hQ1 hS1 hA1 hP hz
      by_cases hi3 : i <= i0 + 2
      · have hi3' : (i : Int) <= (i0 : Int) + 2 := by omega
        have hw_i : IntKind.i64.wrap ((i : Int) + 1) = (i : Int) + 1 := i64w (by omega) (by omega)
        simp (maxSteps := 1000000) [go_sem, w1, w2, w3, w5, hi3, hi3']
        refine xorNext_ok hz _ ?_
        intro z' H2 hzl hS2 hz2
        have hA2 : Arr Bk.cells H2 id d1 := hS2.get hA1 (by omega)
        have hS2' : Same (fun k => k = id) H H2 := hS1.via hS2 (by intro j hj e; omega)
        obtain ⟨o, ho⟩ : ∃ o, o = (z' % 2 ^ 64) &&& m1 := ⟨_, rfl⟩
        have hol : o <= m1 := by rw [ho]; exact Nat.and_le_right
        have hand := and_u64r (a := z') (b := m1) (by omega)
        rw [<- ho] at hand
        have w8 : IntKind.i64.wrap (o : Int) = o := i64w (by omega) (by omega)
        have fin : ∀ (o2 : Nat), o2 < l -> ∀ (H3 : Heap), H3 = H2 -> Same (fun k => k = id) H H3 := fun _ _ H3 e => e ▸ hS2'
        by_cases hol2 : l <= o
        · have hol2' : (l : Int) <= o := by omega
          obtain ⟨o2, ho2⟩ : ∃ o2, o2 = o - l := ⟨_, rfl⟩
          have w9 : IntKind.i64.wrap ((o : Int) - l) = (o2 : Int) := by rw [ho2, i64w (by omega) (by omega)]; omega
          have hlt : o2 < l := by omega
          simp (maxSteps := 1000000) [go_sem, w7, hand, w8, hol2, hol2', w9]
          obtain ⟨ao, hao⟩ : ∃ ao, ao = a + o2 := ⟨_, rfl⟩
          have wa : IntKind.i64.wrap ((a : Int) + o2) = (ao : Int) := by rw [hao, i64w (by omega) (by omega)]; omega
          have u1 : i < (d1).size := by omega
          have u2 : ao < (d1).size := by omega
          have u3 : i < n := by omega
          have u4 : ao < n := by omega
          have uca := (hA2).load Bk.cells_len u1
          have ucb := (hA2).load Bk.cells_len u2
          obtain ⟨H5, H6, us1, us0, hA6, hS6, ul⟩ := (hA2).swap Bk.cells_len Bk.cells_one u1 u2
          obtain ⟨ux, uhx⟩ : ∃ x, x = (d1)[i]! := ⟨_, rfl⟩
          obtain ⟨uy, uhy⟩ : ∃ y, y = (d1)[ao]! := ⟨_, rfl⟩
          rw [<- uhx] at uca us0
          rw [<- uhy] at ucb us1
          simp only [Bk.cells, Nat.mul_one, Row.val] at uca ucb us0 us1
          refine AWp.draw mixed [(0, false), (1, false), (2, false), (3, false), (4, false), (5, false), (6, false), (7, false), (8, false), (9, false), (10, false), (11, false), (12, false), (13, false), (14, false), (15, false), (16, false), (17, false), (18, false), (19, false)] (by kernel_rfl) ?_
          simp (maxSteps := 1000000) [go_sem, wa, uca, ucb, u3, u4, us1, us0, hw_i]
          have hz6 := hS6.get hz2 (by omega)
          exact hK (i + 1, swp d1 i ao, (z' : Int)) _ _ (by simp only; omega) (by simp [upF, Fr.get, Up.refl]) ⟨by simp only; omega, by simp only; omega, by rw [size_swp]; exact hsz, hQ1.swp u1 u2, hS2'.trans hS6, hA6, permIn_trans _ _ _ a b hP (swp_permIn d1 a b i ao (by omega) (by omega) (by omega) (by omega) (by omega)), hz6⟩
        · have hol2' : ¬ ((l : Int) <= o) := by omega
          have hlt : o < l := by omega
          simp (maxSteps := 1000000) [go_sem, w7, hand, w8, hol2, hol2']
          obtain ⟨ao, hao⟩ : ∃ ao, ao = a + o := ⟨_, rfl⟩
          have wa : IntKind.i64.wrap ((a : Int) + o) = (ao : Int) := by rw [hao, i64w (by omega) (by omega)]; omega
          have u1 : i < (d1).size := by omega
          have u2 : ao < (d1).size := by omega
          have u3 : i < n := by omega
          have u4 : ao < n := by omega
          have uca := (hA2).load Bk.cells_len u1
          have ucb := (hA2).load Bk.cells_len u2
          obtain ⟨H5, H6, us1, us0, hA6, hS6, ul⟩ := (hA2).swap Bk.cells_len Bk.cells_one u1 u2
          obtain ⟨ux, uhx⟩ : ∃ x, x = (d1)[i]! := ⟨_, rfl⟩
          obtain ⟨uy, uhy⟩ : ∃ y, y = (d1)[ao]! := ⟨_, rfl⟩
          rw [<- uhx] at uca us0
          rw [<- uhy] at ucb us1
          simp only [Bk.cells, Nat.mul_one, Row.val] at uca ucb us0 us1
          refine AWp.draw mixed [(0, false), (1, false), (2, false), (3, false), (4, false), (5, false), (6, false), (7, false), (8, false), (9, false), (10, false), (11, false), (12, false), (13, false), (14, false), (15, false), (16, false), (17, false), (18, false), (19, false)] (by kernel_rfl) ?_
          simp (maxSteps := 1000000) [go_sem, wa, uca, ucb, u3, u4, us1, us0, hw_i]
          have hz6 := hS6.get hz2 (by omega)
          exact hK (i + 1, swp d1 i ao, (z' : Int)) _ _ (by simp only; omega) (by simp [upF, Fr.get, Up.refl]) ⟨by simp only; omega, by simp only; omega, by rw [size_swp]; exact hsz, hQ1.swp u1 u2, hS2'.trans hS6, hA6, permIn_trans _ _ _ a b hP (swp_permIn d1 a b i ao (by omega) (by omega) (by omega) (by omega) (by omega)), hz6⟩
      · have hi3' : ¬ ((i : Int) <= (i0 : Int) + 2) := by omega
        simp (maxSteps := 1000000) [go_sem, w1, w2, w3, w5, hi3, hi3']
        exact h H1 d1 hS1 hA1 hQ1 hP
  · have h8' : ¬ ((8 : Int) <= l) := by omega
    have fin := h H d (Same.refl _ _) hA hQ (permIn_refl _ _ _)
    simp (maxSteps := 1000000) [go_sem, w0, h8, h8']
    exact fin

end Go.Proofs.YtfnegaedkomcgaaGreat
end
