/- The pairs that are left: both sides. -/
import Derived.Test.YtkgjdmbmdnmilaaLits
import Derived.Test.YtkgjdmbmdnmilaaFree2
set_option linter.all false
set_option maxRecDepth 20000
namespace Go.Proofs.Ytkgjdmbmdnmilaa
open Go.Ab

/-- Pairs that a test lets pass, in order. -/
def prs1 (P : Nat → Nat → Bool) (a k : Nat) : List (List Int) := ((upTo (a + 1) k).filter (P a)).map fun b : Nat => [(a : Int), (b : Int)]
def prs0 (P : Nat → Nat → Bool) (v k : Nat) : List (List Int) := (upTo 0 k).flatMap fun a => prs1 P a v
theorem prs1_start (P : Nat → Nat → Bool) (a : Nat) : prs1 P a (a + 1) = [] := by simp [prs1, upTo_self]
theorem prs0_start (P : Nat → Nat → Bool) (v : Nat) : prs0 P v 0 = [] := by simp [prs0, upTo_self]
theorem prs1_succ {P : Nat → Nat → Bool} {a k : Nat} (h : a + 1 ≤ k) : prs1 P a (k + 1) = prs1 P a k ++ (if P a k then [[(a : Int), (k : Int)]] else []) := by
  simp only [prs1, upTo_succ h, List.filter_append, List.map_append]
  congr 1
  cases hP : P a k <;> simp [hP]
theorem prs0_succ {P : Nat → Nat → Bool} {v k : Nat} : prs0 P v (k + 1) = prs0 P v k ++ prs1 P k v := by simp [prs0, upTo_succ (Nat.zero_le k)]
theorem prs1_len (P : Nat → Nat → Bool) (a k : Nat) : (prs1 P a k).length ≤ k := by
  rw [prs1, List.length_map]
  refine Nat.le_trans (List.length_filter_le _ _) ?_
  rw [upTo_length]; omega
theorem prs0_len {P : Nat → Nat → Bool} {v : Nat} (hv : v ≤ 15) (k : Nat) : (prs0 P v k).length ≤ k * 15 := by
  induction k with
  | zero => simp [prs0_start]
  | succ k ih => rw [prs0_succ, List.length_append]; have := prs1_len P k v; omega
theorem prs1_two {P : Nat → Nat → Bool} {a k : Nat} : ∀ xs ∈ prs1 P a k, xs.length = 2 := by
  intro xs h
  simp only [prs1, List.mem_map] at h
  obtain ⟨b, _, rfl⟩ := h; rfl
theorem prs0_two {P : Nat → Nat → Bool} {v k : Nat} : ∀ xs ∈ prs0 P v k, xs.length = 2 := by
  intro xs h
  simp only [prs0, List.mem_flatMap] at h
  obtain ⟨a, _, h⟩ := h
  exact prs1_two xs h
theorem flat_two : ∀ {xss : List (List Int)}, (∀ xs ∈ xss, xs.length = 2) → xss.flatten.length = xss.length * 2
  | [], _ => rfl
  | xs :: xss, h => by
    rw [List.flatten_cons, List.length_append, h xs List.mem_cons_self, flat_two fun x hx => h x (List.mem_cons_of_mem _ hx), List.length_cons]; omega

/-- A pair is left. -/
def leftP (bs : List Bk) (a b : Nat) : Bool := decide (third bs a b = -1)
noncomputable def rLeft (p : Int) (bs : List Bk) : List (List Int) × Int := if sysB p bs then (prs0 (leftP bs) p.toNat p.toNat, 0) else ([], 1)

theorem leftRows_in {H H' : Heap} {oid v : Nat} {rows : List (Nat × List Int)} {P : Nat → Nat → Bool} (hv : v ≤ 15) (hb : Build H H' oid rows) (hr : rows.map (·.2) = prs0 P v v) : RowsIn H.length H'.length H' (lv 1 oid 0 rows.length) (prs0 P v v) := by
  have h1 := prs0_len (P := P) hv v
  have h2 : (prs0 P v v).flatten.length = (prs0 P v v).length * 2 := flat_two prs0_two
  have h3 : rows.length = (prs0 P v v).length := by rw [← hr, List.length_map]
  have := hb.inn (by rw [hr]; omega) (by omega)
  rwa [hr] at this

theorem l01Left_ok {H : Heap} {u : Value} {p : Int} {bs : List Bk} (hu : BlocksAt H u bs) (hS : IsSys p bs) (Post : Value → Heap → Prop)
    (h : ∀ H' w, H <+: H' → RowsIn H.length H'.length H' w (prs0 (leftP bs) p.toNat p.toNat) → Post w H') :
    ACalls Try.prog 127 [sysV p u] H Post := by
  have hp := hS.1
  obtain ⟨v, rfl⟩ : ∃ n : Nat, p = n := ⟨p.toNat, by omega⟩
  have hv : v ≤ 15 := by omega
  refine ACalls.resH ?_
  refine acalls_vc (rs := [.tmp 2]) Try.func127 rfl rfl Try.ntmps127 rfl rfl ?_
  simp (maxSteps := 1000000) [go_sem, sysV, hu.one]
  have hp0 : H <+: H ++ [⟨[.int .i64 v, u], true, true⟩] := List.prefix_append _ _
  have hx0 := Holds.last H [.int .i64 v, u]
  have hb0 : BuildX (H ++ [⟨[.int .i64 v, u], true, true⟩]) (H ++ [⟨[.int .i64 v, u], true, true⟩, ⟨[], true, true⟩]) (H.length + 1) [] :=
    BuildX.of_ol ⟨[⟨[], true, true⟩], by simp⟩ ⟨by simp, .inr (by simp)⟩ (by simp)
  have hlen0 : (H ++ [(⟨[.int .i64 v, u], true, true⟩ : Blk)]).length = H.length + 1 := by simp
  generalize H ++ [(⟨[.int .i64 v, u], true, true⟩ : Blk)] = H0 at hp0 hx0 hb0 hlen0
  refine AWp.loopVc (St := Nat × Nat × List (Nat × List Int)) (fun s => [(1, .pointer (some ⟨H.length, 0, none⟩)), (3, lv 1 s.2.1 0 s.2.2.length), (4, .int .i64 s.1)])
    (fun s H' => s.1 ≤ v ∧ s.2.2.map (·.2) = prs0 (leftP bs) v s.1 ∧ BuildX H0 H' s.2.1 s.2.2) (fun s => v - s.1) (0, H.length + 1, []) ?_ ?_ ?_
  · simp [upF, Fr.get, Up.refl, Up.ex0]
  · exact ⟨by simp, by simp [prs0_start], hb0⟩
  · rintro K ⟨a, id, acc⟩ H' ⟨ha, hacc, hbl⟩ hK
    simp only at ha hacc hbl
    obtain ⟨d0, d1, d2⟩ := (hx0.pre hbl.pre).sys
    by_cases hlt : a < v
    · have hw_a : IntKind.i64.wrap ((a : Int) + 1) = (a : Int) + 1 := i64w (by omega) (by omega)
      simp (maxSteps := 1000000) [go_sem, hlt, hw_a, d1]
      refine AWp.loopVc (St := Nat × Nat × List (Nat × List Int)) (fun s => [(1, .pointer (some ⟨H.length, 0, none⟩)), (3, lv 1 s.2.1 0 s.2.2.length), (4, .int .i64 a), (5, .int .i64 s.1)])
        (fun s H' => a + 1 ≤ s.1 ∧ s.1 ≤ v ∧ s.2.2.map (·.2) = prs0 (leftP bs) v a ++ prs1 (leftP bs) a s.1 ∧ BuildX H0 H' s.2.1 s.2.2) (fun s => v - s.1) (a + 1, id, acc) ?_ ?_ ?_
      · simp [upF, Fr.get, Up.refl]
      · exact ⟨by simp, by simp only; omega, by simp [prs1_start, hacc], hbl⟩
      · rintro K2 ⟨b, id2, acc2⟩ H2 ⟨hab, hb, hacc2, hbl2⟩ hK2
        simp only at hab hb hacc2 hbl2
        obtain ⟨d0, d1, d2⟩ := (hx0.pre hbl2.pre).sys
        by_cases hlt2 : b < v
        · have hw_b : IntKind.i64.wrap ((b : Int) + 1) = (b : Int) + 1 := i64w (by omega) (by omega)
          have hlen : acc2.length ≤ 10000 := by
            have e := congrArg List.length hacc2
            rw [List.length_map, List.length_append] at e
            have := prs0_len (P := leftP bs) hv a; have := prs1_len (leftP bs) a b
            omega
          simp (maxSteps := 1000000) [go_sem, hlt2, d1, d0]
          refine l01Third_ok (hu.pre (hp0.trans hbl2.pre)) hS.good15 _ ?_
          intro H3 hp3
          have hbl3 := hbl2.keep hp3
          have hsn := prs1_succ (P := leftP bs) hab
          by_cases ht : third bs a b = -1
          · have hP : leftP bs a b = true := by simp [leftP, ht]
            have hneg : third bs a b < 0 := by omega
            obtain ⟨hsrc, H4, hap, hbl4⟩ := hbl3.pushRow (xs := [(a : Int), (b : Int)])
            simp only [ints, List.map_cons, List.map_nil, List.length_cons, List.length_nil] at hsrc hap hbl4
            simp (maxSteps := 1000000) [go_sem, hneg, hw_b, hsrc, hap]
            refine andK_intro (by omega) (hK2 (b + 1, H3.length + 2, acc2 ++ [(H3.length, [(a : Int), (b : Int)])]) _ _ (by simp only; omega) (by simp [upF, Fr.get, Up.refl]) ⟨by simp only; omega, by simp only; omega, ?_, hbl4⟩)
            simp only [List.map_append, hacc2, hsn, hP]
            simp
          · have hP : leftP bs a b = false := by simp [leftP, ht]
            have hneg : ¬ third bs a b < 0 := by
              obtain ⟨c, _, _, _, _, h0, _⟩ := third_some hS.good15 (by omega) ht
              omega
            simp (maxSteps := 1000000) [go_sem, hneg, hw_b]
            exact hK2 (b + 1, id2, acc2) _ _ (by simp only; omega) (by simp [upF, Fr.get, Up.refl]) ⟨by simp only; omega, by simp only; omega, by simp only [hsn, hP, hacc2]; simp, hbl3⟩
        · have : b = v := by omega
          subst this
          simp (maxSteps := 1000000) [go_sem, hw_a, d1]
          exact hK (a + 1, id2, acc2) _ _ (by simp only; omega) (by simp [upF, Fr.get, Up.refl]) ⟨by simp only; omega, by simp only [prs0_succ]; exact hacc2, hbl2⟩
    · have : a = v := by omega
      subst this
      simp (maxSteps := 1000000) [go_sem, d1]
      obtain ⟨Hf, hup, hbf⟩ := hbl.fin
      refine ⟨_, Up.refl _ _, Hf, hup, h Hf _ (hp0.trans hbf.pre) ?_⟩
      exact (leftRows_in hv hbf hacc).wider (by omega)

theorem specPairsLeft_ok {H : Heap} {u : Value} {p : Int} {bs : List Bk} (hu : BlocksAt H u bs) (hl : bs.length ≤ 1048576) (Post : Value → Heap → Prop)
    (h : ∀ H' w, H <+: H' → RowsIn H.length H'.length H' w (rLeft p bs).1 → Post (.tuple #[w, .int .i64 (rLeft p bs).2]) H') :
    ACalls Try.prog 69 [sysV p u] H Post := by
  refine ACalls.res ?_
  refine acalls_vc (rs := [.tmp 2, .tmp 3]) Try.func69 rfl rfl Try.ntmps69 rfl rfl ?_
  simp (maxSteps := 1000000) [go_sem, sysV, hu.one]
  have hx0 := Holds.last H [.int .i64 p, u]
  refine l01Is' (hu.pre (List.prefix_append _ _)) hl _ ?_
  intro H1 hp1
  obtain ⟨d0, d1, d2⟩ := (hx0.pre hp1).sys
  cases hs : sysB p bs with
  | false =>
    simp (maxSteps := 1000000) [go_sem]
    refine ⟨_, Up.tuple (ys := #[lv 1 0 0 0, .int .i64 1]) ⟨Up.nil _ _ _ _, Up.refl _ _, trivial⟩, ?_⟩
    have hr : rLeft p bs = ([], 1) := by simp [rLeft, hs]
    have := h H1 (lv 1 0 0 0) (pre_box hp1) (by rw [hr]; exact RowsIn.nil _ _ _)
    rwa [hr] at this
  | true =>
    simp (maxSteps := 1000000) [go_sem, d0]
    refine l01Left_ok (hu.pre (pre_box hp1)) (sysB_of hs) _ ?_
    intro H2 w hp2 hw
    simp (maxSteps := 1000000) [go_sem]
    have hr : rLeft p bs = (prs0 (leftP bs) p.toNat p.toNat, 0) := by simp [rLeft, hs]
    have := h H2 w ((pre_box hp1).trans hp2) (by rw [hr]; exact hw.wider (pre_box hp1).length_le)
    rw [hr] at this
    exact ⟨_, Up.refl _ _, this⟩

end Go.Proofs.Ytkgjdmbmdnmilaa
