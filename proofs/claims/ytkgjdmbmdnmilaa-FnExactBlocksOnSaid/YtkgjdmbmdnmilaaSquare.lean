/- SquareOf, of the program and of the specification: what each computes. They hold for every number. -/
import Derived.Test.YtkgjdmbmdnmilaaLaw1
set_option linter.all false
set_option maxRecDepth 20000
namespace Go.Proofs.Ytkgjdmbmdnmilaa
open Go.Ab

theorem within_ok {H : Heap} {n lo hi : Int} (Post : Value → Heap → Prop) (h : Post (.bool (decide (lo ≤ n) && decide (n ≤ hi))) H) :
    ACalls Try.prog 89 [.int .i64 n, .int .i64 lo, .int .i64 hi] H Post := by
  refine acalls_vc (rs := [.tmp 6]) Try.func89 rfl rfl Try.ntmps89 rfl rfl ?_
  simp (maxSteps := 1000000) [go_sem]
  refine condK_intro (fun h1 => ?_) (fun h1 => ?_) <;> simp_all

theorem l01In_ok {H : Heap} {n lo hi : Int} (Post : Value → Heap → Prop) (h : Post (.bool (decide (lo ≤ n) && decide (n ≤ hi))) H) :
    ACalls Try.prog 87 [.int .i64 n, .int .i64 lo, .int .i64 hi] H Post := by
  refine acalls_vc (rs := [.tmp 6]) Try.func87 rfl rfl Try.ntmps87 rfl rfl ?_
  simp (maxSteps := 1000000) [go_sem]
  refine condK_intro (fun h1 => ?_) (fun h1 => ?_) <;> simp_all

/-- One number of the square. -/
def sqCell (n x y : Nat) : Int :=
  let s := (x + y) % n
  if s % 2 = 0 then ((s / 2 : Nat) : Int) else if n % 2 = 0 then (((s + n - 1) / 2 : Nat) : Int) else (((s + n) / 2 : Nat) : Int)
def sqRow (n x y : Nat) : List Int := (List.range y).map (sqCell n x)
def sqRows (n x : Nat) : List (List Int) := (List.range x).map fun x => sqRow n x n

theorem sqRow_length (n x y : Nat) : (sqRow n x y).length = y := by simp [sqRow]
theorem sqRows_length (n x : Nat) : (sqRows n x).length = x := by simp [sqRows]
theorem sqRow_succ (n x y : Nat) : sqRow n x (y + 1) = sqRow n x y ++ [sqCell n x y] := by simp [sqRow, List.range_succ]
theorem sqRows_succ (n x : Nat) : sqRows n (x + 1) = sqRows n x ++ [sqRow n x n] := by simp [sqRows, List.range_succ]

theorem implSquareOf_ok {H : Heap} {n : Int} (Post : Value → Heap → Prop) (hbad : ¬ (2 ≤ n ∧ n ≤ 5) → Post (.tuple #[lv 1 0 0 0, .int .i64 2]) H)
    (hgood : ∀ (H' : Heap) (v : Value) (rows : List (Nat × List Int)), 2 ≤ n → n ≤ 5 → H <+: H' → OwnRows H' v rows → (∀ r ∈ rows, H.length ≤ r.1) → rows.map (·.2) = sqRows n.toNat n.toNat → Post (.tuple #[v, .int .i64 0]) H') :
    ACalls Try.prog 26 [.int .i64 n] H Post := by
  refine ACalls.res ?_
  refine acalls_vc (rs := [.tmp 2, .tmp 3]) Try.func26 rfl rfl Try.ntmps26 rfl rfl ?_
  simp (maxSteps := 1000000) [go_sem]
  refine within_ok _ ?_
  simp (maxSteps := 1000000) [go_sem]
  refine condK_intro (fun h => ?_) (fun h => ?_)
  · refine ⟨_, Up.tuple (ys := #[lv 1 0 0 0, .int .i64 2]) ⟨Up.nil _ _ _ _, Up.refl _ _, trivial⟩, hbad (by simp at h; omega)⟩
  · have h2 : 2 ≤ n ∧ n ≤ 5 := by simpa using h
    obtain ⟨m, rfl⟩ : ∃ m : Nat, n = m := ⟨n.toNat, by omega⟩
    refine AWp.addGhost ?_
    refine AWp.loopVc (St := Nat × Nat × List (Nat × List Int)) (fun s => [(0, .int .i64 m), (12, .int .i64 m), (4, lv 1 s.2.1 0 s.1), (13, .int .i64 s.1)])
      (fun s H' => s.1 ≤ m ∧ H <+: H' ∧ OL 1 H' s.2.1 (s.2.2.map rowVal) s.1 ∧ H.length ≤ s.2.1 ∧ s.2.2.map (·.2) = sqRows m s.1 ∧ Rows1 H' s.2.2 ∧ ∀ r ∈ s.2.2, H.length ≤ r.1 ∧ r.1 ≠ s.2.1) (fun s => m - s.1) (0, H.length, []) ?_ ?_ ?_
    · simp [upF, Fr.get, Up.refl, Up.nil]
    · refine ⟨by omega, List.prefix_append _ _, OL.ghost 1 H, Nat.le_refl _, by simp [sqRows], ⟨by simp, by simp⟩, by simp⟩
    · rintro K ⟨x, oid, rows⟩ H1 ⟨hx, hpre, hol, hoid, hcont, hrows, hids⟩ hK
      simp only at hx hpre hol hoid hcont hrows hids
      by_cases hlt : x < m
      · simp (maxSteps := 1000000) [go_sem, hlt]
        refine AWp.addGhost ?_
        refine AWp.loopVc (St := Nat × Nat) (fun s => [(0, .int .i64 m), (4, lv 1 oid 0 x), (5, .int .i64 x), (12, .int .i64 m), (13, .int .i64 x), (16, .int .i64 m), (6, lv 1 s.2 0 s.1), (17, .int .i64 s.1)])
          (fun s H' => s.1 ≤ m ∧ H1 <+: H' ∧ OL 1 H' s.2 (ints (sqRow m x s.1)) s.1 ∧ H1.length ≤ s.2) (fun s => m - s.1) (0, H1.length) ?_ ?_ ?_
        · simp [upF, Fr.get, Up.refl, Up.nil]
        · exact ⟨by omega, List.prefix_append _ _, OL.ghost 1 H1, Nat.le_refl _⟩
        · rintro K2 ⟨y, rid⟩ H2 ⟨hy, hpre2, hol2, hrid⟩ hK2
          simp only at hy hpre2 hol2 hrid
          by_cases hly : y < m
          · obtain ⟨hsrc, H3, hap, hol3, hsame3, hlen3⟩ := hol2.push (xs := [.int .i64 (sqCell m x y)]) (by omega) rfl
            obtain ⟨t, ht⟩ : ∃ t, t = (x + y) % m := ⟨_, rfl⟩
            have hm0 : ¬ m = 0 := by omega
            have ht5 : t < m := by rw [ht]; exact Nat.mod_lt _ (by omega)
            have hw1 : (IntKind.i64.wrap ((x : Int) + (y : Int))).tmod (m : Int) = (t : Int) := by
              rw [i64w (by omega) (by omega), ht]
              rw [Int.tmod_eq_emod_of_nonneg (by omega), Int.natCast_emod, Int.natCast_add]
            have hw2 : IntKind.i64.wrap ((y : Int) + 1) = (y : Int) + 1 := i64w (by omega) (by omega)
            have hw3 : ((t : Int).tmod 2 == 0) = decide (t % 2 = 0) := by
              rw [Int.tmod_eq_emod_of_nonneg (by omega)]
              apply Bool.eq_iff_iff.2
              simp; omega
            have hw4 : ((m : Int).tmod 2 == 0) = decide (m % 2 = 0) := by
              rw [Int.tmod_eq_emod_of_nonneg (by omega)]
              apply Bool.eq_iff_iff.2
              simp; omega
            have hpre3 : H1 <+: H3 := (show Same (fun j => j = rid) H1 H3 from (Same.of_prefix hpre2).trans hsame3).prefix (by omega)
            have fin : ∀ fr', upF H3 [(0, .int .i64 m), (4, lv 1 oid 0 x), (5, .int .i64 x), (12, .int .i64 m), (13, .int .i64 x), (16, .int .i64 m), (6, lv 1 (H2.length + 1) 0 (y + 1)), (17, .int .i64 ((y : Int) + 1))] fr' → K2 fr' H3 := by
              intro fr' hf
              refine hK2 (y + 1, H2.length + 1) fr' H3 (by simp only; omega) (by simpa using hf) ⟨by simp only; omega, hpre3, ?_, ?_⟩
              · rw [sqRow_succ, ← ints_append]; exact hol3
              · have := hpre2.length_le; simp only; omega
            by_cases h1 : t % 2 = 0
            · have hv : IntKind.i64.wrap ((t : Int) / 2) = sqCell m x y := by
                rw [i64w (by omega) (by omega)]
                simp only [sqCell, ← ht, h1, if_true]; omega
              simp (maxSteps := 1000000) [go_sem, hly, srcCells, hm0, hw1, hw2, hw3, h1, hv, hsrc, hap, Value.oneCell']
              refine andK_intro (by omega) (fin _ ?_)
              simp [upF, Fr.get, Up.refl]
            · by_cases h2' : m % 2 = 0
              · have hv : IntKind.i64.wrap ((IntKind.i64.wrap (IntKind.i64.wrap ((t : Int) + (m : Int)) - 1)).tdiv 2) = sqCell m x y := by
                  rw [i64w (n := (t : Int) + (m : Int)) (by omega) (by omega), i64w (n := (t : Int) + (m : Int) - 1) (by omega) (by omega), Int.tdiv_eq_ediv_of_nonneg (by omega), i64w (by omega) (by omega)]
                  simp only [sqCell, ← ht, h1, h2', if_true, if_false]; omega
                simp (maxSteps := 1000000) [go_sem, hly, srcCells, hm0, hw1, hw2, hw3, hw4, h1, h2', hv, hsrc, hap, Value.oneCell']
                refine andK_intro (by omega) (fin _ ?_)
                simp [upF, Fr.get, Up.refl]
              · have hv : IntKind.i64.wrap ((IntKind.i64.wrap ((t : Int) + (m : Int))).tdiv 2) = sqCell m x y := by
                  rw [i64w (n := (t : Int) + (m : Int)) (by omega) (by omega), Int.tdiv_eq_ediv_of_nonneg (by omega), i64w (by omega) (by omega)]
                  simp only [sqCell, ← ht, h1, h2', if_false]; omega
                simp (maxSteps := 1000000) [go_sem, hly, srcCells, hm0, hw1, hw2, hw3, hw4, h1, h2', hv, hsrc, hap, Value.oneCell']
                refine andK_intro (by omega) (fin _ ?_)
                simp [upF, Fr.get, Up.refl]
          · have : y = m := by omega
            subst this
            have hol' : OL 1 H2 oid (rows.map rowVal) x := hol.keep (S := fun _ => False) (Same.of_prefix hpre2) (fun h => h)
            obtain ⟨hsrc, H4, hap, hol4, hsame4, hlen4⟩ := hol'.push (xs := [lv 1 rid 0 y]) (by omega) rfl
            have hw2 : IntKind.i64.wrap ((x : Int) + 1) = (x : Int) + 1 := i64w (by omega) (by omega)
            simp (maxSteps := 1000000) [go_sem, srcCells, hsrc, hap, Value.oneCell', hw2]
            have hoid1 := hol.lt
            have hle2 := hpre2.length_le
            have hrow : H2[rid]? = some ⟨ints (sqRow y x y), true, true⟩ := by
              rcases hol2.2 with ⟨h0, _⟩ | h0
              · omega
              · exact h0
            have hpre4 : H <+: H4 := (show Same (fun j => j = oid) H H4 from (Same.of_prefix (hpre.trans hpre2)).trans hsame4).prefix (by omega)
            refine andK_intro (by omega) (hK (x + 1, H2.length + 1, rows ++ [(rid, sqRow y x y)]) _ _ (by simp only; omega) (by simp [upF, Fr.get, Up.refl]) ⟨by simp only; omega, hpre4, ?_, ?_, ?_, ⟨?_, ?_⟩, ?_⟩)
            · simpa [rowVal, sqRow_length] using hol4
            · have := hpre.length_le; simp only; omega
            · simp [hcont, sqRows_succ]
            · intro r hr
              rcases List.mem_append.1 hr with hr | hr
              · refine (hrows.1 r hr).imp (fun h => h) fun h => ?_
                exact hsame4.get (Same.get (S := fun _ => False) (Same.of_prefix hpre2) h (fun h => h)) (hids r hr).2
              · simp at hr; subst hr
                right
                exact hsame4.get hrow (by simp only; omega)
            · intro a b r t ha hb hab hr ht
              have key : ∀ (a : Nat) (r : Nat × List Int), (rows ++ [(rid, sqRow y x y)])[a]? = some r → (a < rows.length ∧ rows[a]? = some r) ∨ (a = rows.length ∧ r = (rid, sqRow y x y)) := by
                intro a r ha
                rcases Nat.lt_or_ge a rows.length with h | h
                · rw [List.getElem?_append_left h] at ha; exact .inl ⟨h, ha⟩
                · rw [List.getElem?_append_right h] at ha
                  cases hk : a - rows.length with
                  | zero => rw [hk] at ha; simp at ha; exact .inr ⟨by omega, ha.symm⟩
                  | succ k => rw [hk] at ha; simp at ha
              have old : ∀ r ∈ rows, r.2 ≠ [] → r.1 < H1.length := fun r hr hne => (List.getElem?_eq_some_iff.1 ((hrows.1 r hr).resolve_left hne)).1
              rcases key a r ha with ⟨h1, h1'⟩ | ⟨h1, rfl⟩
              · rcases key b t hb with ⟨h2, h2'⟩ | ⟨h2, rfl⟩
                · exact hrows.2 a b r t h1' h2' hab hr ht
                · have := old r (List.mem_of_getElem? h1') hr; simp only; omega
              · rcases key b t hb with ⟨h2, h2'⟩ | ⟨h2, rfl⟩
                · have := old t (List.mem_of_getElem? h2') ht; simp only; omega
                · omega
            · intro r hr
              have := hpre.length_le
              rcases List.mem_append.1 hr with hr | hr
              · refine ⟨(hids r hr).1, ?_⟩
                have h0 := hcont ▸ List.mem_map_of_mem (f := fun r : Nat × List Int => r.2) hr
                by_cases hne : r.2 = []
                · exfalso
                  simp only [sqRows, List.mem_map, List.mem_range] at h0
                  obtain ⟨q, _, hq⟩ := h0
                  have := congrArg List.length hq
                  rw [sqRow_length, hne] at this
                  simp at this; omega
                · have := (List.getElem?_eq_some_iff.1 ((hrows.1 r hr).resolve_left hne)).1
                  simp only; omega
              · simp at hr; subst hr; simp only
                have := hol2.lt
                omega
      · have : x = m := by omega
        subst this
        simp (maxSteps := 1000000) [go_sem]
        refine ⟨_, Up.refl _ _, hgood H1 _ rows h2.1 h2.2 hpre ⟨oid, ?_, hol.at, hrows, fun r hr _ => (hids r hr).2, ?_, ?_⟩ (fun r hr => (hids r hr).1) (by simpa using hcont)⟩
        · have := congrArg List.length hcont
          rw [List.length_map, sqRows_length] at this
          rw [this]
        · have := congrArg List.length hcont
          rw [List.length_map, sqRows_length] at this
          omega
        · intro r hr
          have h0 := hcont ▸ List.mem_map_of_mem (f := fun r : Nat × List Int => r.2) hr
          simp only [sqRows, List.mem_map, List.mem_range] at h0
          obtain ⟨q, _, hq⟩ := h0
          rw [← hq, sqRow_length]; omega

theorem l02Made_ok {H : Heap} {m : Nat} (h2 : 2 ≤ m) (h5 : m ≤ 5) (Post : Value → Heap → Prop)
    (hgood : ∀ (H' : Heap) (v : Value) (rows : List (Nat × List Int)), H <+: H' → OwnRows H' v rows → (∀ r ∈ rows, H.length ≤ r.1) → rows.map (·.2) = sqRows m m → Post v H') :
    ACalls Try.prog 88 [.int .i64 m] H Post := by
  refine ACalls.res ?_
  refine acalls_vc (rs := [.tmp 2]) Try.func88 rfl rfl Try.ntmps88 rfl rfl ?_
  simp (maxSteps := 1000000) [go_sem]
  refine AWp.loopVc (St := Nat × Nat × List (Nat × List Int)) (fun s => [(0, .int .i64 m), (3, lv 1 s.2.1 0 s.1), (4, .int .i64 s.1)])
    (fun s H' => s.1 ≤ m ∧ s.2.2.length = s.1 ∧ Build H H' s.2.1 s.2.2 ∧ s.2.2.map (·.2) = sqRows m s.1) (fun s => m - s.1) (0, H.length, []) ?_ ?_ ?_
  · simp [upF, Fr.get, Up.refl, Up.ex0]
  · exact ⟨by omega, rfl, Build.of_ol (List.prefix_append _ _) ⟨rfl, .inr (by simp)⟩ (Nat.le_refl _), by simp [sqRows]⟩
  · rintro K ⟨x, oid, rows⟩ H1 ⟨hx, hlen, hb, hcont⟩ hK
    simp only at hx hlen hb hcont
    by_cases hlt : x < m
    · simp (maxSteps := 1000000) [go_sem, hlt]
      refine AWp.loopVc (St := Nat × Nat) (fun s => [(0, .int .i64 m), (3, lv 1 oid 0 x), (4, .int .i64 x), (5, lv 1 s.2 0 s.1), (6, .int .i64 s.1)])
        (fun s H' => s.1 ≤ m ∧ H1 <+: H' ∧ OL 1 H' s.2 (ints (sqRow m x s.1)) s.1 ∧ H1.length ≤ s.2) (fun s => m - s.1) (0, H1.length) ?_ ?_ ?_
      · simp [upF, Fr.get, Up.refl, Up.ex0]
      · exact ⟨by omega, List.prefix_append _ _, ⟨rfl, .inr (by simp [sqRow, ints])⟩, Nat.le_refl _⟩
      · rintro K2 ⟨y, rid⟩ H2 ⟨hy, hpre2, hol2, hrid⟩ hK2
        simp only at hy hpre2 hol2 hrid
        by_cases hly : y < m
        · obtain ⟨hsrc, H3, hap, hol3, hsame3, hlen3⟩ := hol2.push (xs := [.int .i64 (sqCell m x y)]) (by omega) rfl
          obtain ⟨t, ht⟩ : ∃ t, t = (x + y) % m := ⟨_, rfl⟩
          have hm0 : ¬ m = 0 := by omega
          have ht5 : t < m := by rw [ht]; exact Nat.mod_lt _ (by omega)
          have hw1 : (IntKind.i64.wrap ((x : Int) + (y : Int))).tmod (m : Int) = (t : Int) := by
            rw [i64w (by omega) (by omega), ht]
            rw [Int.tmod_eq_emod_of_nonneg (by omega), Int.natCast_emod, Int.natCast_add]
          have hw2 : IntKind.i64.wrap ((y : Int) + 1) = (y : Int) + 1 := i64w (by omega) (by omega)
          have hw3 : ((t : Int).tmod 2 == 0) = decide (t % 2 = 0) := by
            rw [Int.tmod_eq_emod_of_nonneg (by omega)]
            apply Bool.eq_iff_iff.2
            simp; omega
          have hw4 : ((m : Int).tmod 2 == 1) = decide (¬ m % 2 = 0) := by
            rw [Int.tmod_eq_emod_of_nonneg (by omega)]
            apply Bool.eq_iff_iff.2
            simp; omega
          have hpre3 : H1 <+: H3 := (show Same (fun j => j = rid) H1 H3 from (Same.of_prefix hpre2).trans hsame3).prefix (by omega)
          have fin : ∀ fr', upF H3 [(0, .int .i64 m), (3, lv 1 oid 0 x), (4, .int .i64 x), (5, lv 1 (H2.length + 1) 0 (y + 1)), (6, .int .i64 ((y : Int) + 1))] fr' → K2 fr' H3 := by
            intro fr' hf
            refine hK2 (y + 1, H2.length + 1) fr' H3 (by simp only; omega) (by simpa using hf) ⟨by simp only; omega, hpre3, ?_, ?_⟩
            · rw [sqRow_succ, ← ints_append]; exact hol3
            · have := hpre2.length_le; simp only; omega
          by_cases h1 : t % 2 = 0
          · have hv : IntKind.i64.wrap ((t : Int) / 2) = sqCell m x y := by
              rw [i64w (by omega) (by omega)]
              simp only [sqCell, ← ht, h1, if_true]; omega
            simp (maxSteps := 1000000) [go_sem, hly, srcCells, hm0, hw1, hw2, hw3, h1, hv, hsrc, hap, Value.oneCell']
            refine andK_intro (by omega) (fin _ ?_)
            simp [upF, Fr.get, Up.refl]
          · by_cases h2' : m % 2 = 0
            · have hv : IntKind.i64.wrap ((IntKind.i64.wrap (IntKind.i64.wrap ((t : Int) + (m : Int)) - 1)).tdiv 2) = sqCell m x y := by
                rw [i64w (n := (t : Int) + (m : Int)) (by omega) (by omega), i64w (n := (t : Int) + (m : Int) - 1) (by omega) (by omega), Int.tdiv_eq_ediv_of_nonneg (by omega), i64w (by omega) (by omega)]
                simp only [sqCell, ← ht, h1, h2', if_true, if_false]; omega
              simp (maxSteps := 1000000) [go_sem, hly, srcCells, hm0, hw1, hw2, hw3, hw4, h1, h2', hv, hsrc, hap, Value.oneCell']
              refine andK_intro (by omega) (fin _ ?_)
              simp [upF, Fr.get, Up.refl]
            · have hv : IntKind.i64.wrap ((IntKind.i64.wrap ((t : Int) + (m : Int))).tdiv 2) = sqCell m x y := by
                rw [i64w (n := (t : Int) + (m : Int)) (by omega) (by omega), Int.tdiv_eq_ediv_of_nonneg (by omega), i64w (by omega) (by omega)]
                simp only [sqCell, ← ht, h1, h2', if_false]; omega
              have h3 : m % 2 = 1 := by omega
              simp (maxSteps := 1000000) [go_sem, hly, srcCells, hm0, hw1, hw2, hw3, hw4, h1, h3, hv, hsrc, hap, Value.oneCell']
              refine andK_intro (by omega) (fin _ ?_)
              simp [upF, Fr.get, Up.refl]
        · have : y = m := by omega
          subst this
          have hol2' : OL 1 H2 rid (ints (sqRow y x y)) (sqRow y x y).length := by rw [sqRow_length]; exact hol2
          obtain ⟨hsrc, H4, hap, hb4⟩ := hb.push hpre2 hol2' hrid
          rw [sqRow_length] at hsrc hap
          rw [hlen] at hap
          have hw2 : IntKind.i64.wrap ((x : Int) + 1) = (x : Int) + 1 := i64w (by omega) (by omega)
          simp (maxSteps := 1000000) [go_sem, srcCells, hsrc, hap, Value.oneCell', hw2]
          exact andK_intro (by omega) (hK (x + 1, H2.length + 1, rows ++ [(rid, sqRow y x y)]) _ _ (by simp only; omega) (by simp [upF, Fr.get, Up.refl]) ⟨by simp only; omega, by simp [hlen], hb4, by simp [hcont, sqRows_succ]⟩)
    · have : x = m := by omega
      subst this
      simp (maxSteps := 1000000) [go_sem]
      refine ⟨_, Up.refl _ _, hgood H1 _ rows hb.pre (hlen ▸ hb.own (by omega) ?_) (fun r hr => (hb.ids r hr).1) (by simpa using hcont)⟩
      intro r hr
      have h0 := hcont ▸ List.mem_map_of_mem (f := fun r : Nat × List Int => r.2) hr
      simp only [sqRows, List.mem_map, List.mem_range] at h0
      obtain ⟨q, _, hq⟩ := h0
      rw [← hq, sqRow_length]; omega

theorem specSquareOf_ok {H : Heap} {n : Int} (Post : Value → Heap → Prop) (hbad : ¬ (2 ≤ n ∧ n ≤ 5) → Post (.tuple #[lv 1 0 0 0, .int .i64 2]) H)
    (hgood : ∀ (H' : Heap) (v : Value) (rows : List (Nat × List Int)), 2 ≤ n → n ≤ 5 → H <+: H' → OwnRows H' v rows → (∀ r ∈ rows, H.length ≤ r.1) → rows.map (·.2) = sqRows n.toNat n.toNat → Post (.tuple #[v, .int .i64 0]) H') :
    ACalls Try.prog 25 [.int .i64 n] H Post := by
  refine ACalls.res ?_
  refine acalls_vc (rs := [.tmp 2, .tmp 3]) Try.func25 rfl rfl Try.ntmps25 rfl rfl ?_
  simp (maxSteps := 1000000) [go_sem]
  refine l01In_ok _ ?_
  simp (maxSteps := 1000000) [go_sem]
  refine condK_intro (fun h => ?_) (fun h => ?_)
  · refine ⟨_, Up.tuple (ys := #[lv 1 0 0 0, .int .i64 2]) ⟨Up.nil _ _ _ _, Up.refl _ _, trivial⟩, hbad (by simp at h; omega)⟩
  · have h2 : 2 ≤ n ∧ n ≤ 5 := by simpa using h
    obtain ⟨m, rfl⟩ : ∃ m : Nat, n = m := ⟨n.toNat, by omega⟩
    refine l02Made_ok (by omega) (by omega) _ ?_
    intro H' v rows hp ho hf hc
    simp (maxSteps := 1000000) [go_sem]
    exact ⟨_, Up.refl _ _, hgood H' v rows h2.1 h2.2 hp ho hf (by simpa using hc)⟩

end Go.Proofs.Ytkgjdmbmdnmilaa
