/- Independent sets: both sides. -/
import Derived.Test.YtkgjdmbmdnmilaaBits
import Derived.Test.YtkgjdmbmdnmilaaColour
set_option linter.all false
set_option maxRecDepth 20000
set_option maxHeartbeats 4000000
namespace Go.Proofs.Ytkgjdmbmdnmilaa
open Go.Ab

theorem two_pow_or {a b : Nat} (h : a < b) : 2 ^ a ||| 2 ^ b = 2 ^ a + 2 ^ b := by
  have := Nat.two_pow_add_eq_or_of_lt (i := b) (b := 2 ^ a) (Nat.pow_lt_pow_right (by omega) h) 1
  rw [Nat.mul_one] at this
  rw [Nat.or_comm, ← this, Nat.add_comm]
theorem bm_sum {a b c : Nat} (h : a < b) (h' : b < c) : bm ⟨a, b, c⟩ = 2 ^ a + 2 ^ b + 2 ^ c := by
  have h1 : 2 ^ a + 2 ^ b < 2 ^ c := by
    have h2 : 2 ^ a < 2 ^ b := Nat.pow_lt_pow_right (by omega) h
    have h3 : 2 ^ (b + 1) ≤ 2 ^ c := Nat.pow_le_pow_right (by omega) h'
    rw [Nat.pow_succ] at h3; omega
  have h4 := Nat.two_pow_add_eq_or_of_lt (i := c) (b := 2 ^ a + 2 ^ b) h1 1
  rw [Nat.mul_one] at h4
  simp only [bm, maskL, List.foldl_cons, List.foldl_nil, Int.toNat_natCast, Nat.zero_or]
  rw [two_pow_or h, Nat.or_comm, ← h4, Nat.add_comm]
theorem bm_lt {b : Bk} {p : Int} (h : good p b = true) (hp : p ≤ 15) : bm b < 2 ^ 15 := by
  rw [good_iff] at h
  refine maskL_lt fun x hx => ?_
  simp only [List.mem_cons, List.not_mem_nil, or_false] at hx
  rcases hx with rfl | rfl | rfl <;> omega

/-- No block lies in the set. -/
def inSet (m : Nat) (b : Bk) : Bool := decide (bm b &&& m = bm b)
def indep (bs : List Bk) (m : Nat) : Bool := bs.all fun b => !inSet m b

theorem l05Bits_ok {H : Heap} {b : Bk} {p : Int} (hg : good p b = true) (hp : p ≤ 15) (Post : Value → Heap → Prop) (h : ∀ H', H <+: H' → Post (.int .i64 (bm b)) H') :
    ACalls Try.prog 203 [b.val] H Post := by
  obtain ⟨x, y, z, rfl, hxy, hyz, hz⟩ := good_nat hg hp
  refine acalls_vc (rs := [.tmp 2]) Try.func203 rfl rfl Try.ntmps203 rfl rfl ?_
  have h := h _ (List.prefix_append H [⟨[.int .i64 x, .int .i64 y, .int .i64 z], true, true⟩])
  have pw : ∀ n : Nat, n < 15 → 2 ^ n < 2 ^ 15 := fun n hn => Nat.pow_lt_pow_right (by omega) hn
  have hu : ∀ n : Nat, n < 15 → IntKind.u64.wrap (n : Int) = n := by intro n hn; rw [IntKind.wrap_u64]; omega
  have hmin : ∀ n : Nat, n < 15 → min n 64 = n := by intro n hn; omega
  have hsh : ∀ n : Nat, n < 15 → IntKind.i64.wrap ((2 : Int) ^ n) = (2 : Int) ^ n := by
    intro n hn
    have := pw n hn
    have e : ((2 : Int) ^ n) = ((2 ^ n : Nat) : Int) := by rw [Int.natCast_pow]; rfl
    rw [e]
    generalize (2 : Nat) ^ n = T at this ⊢
    exact i64w (by omega) (by omega)
  have a1 := pw x (by omega); have a2 := pw y (by omega); have a3 := pw z (by omega)
  have c1 : ((2 : Int) ^ x) = ((2 ^ x : Nat) : Int) := by rw [Int.natCast_pow]; rfl
  have c2 : ((2 : Int) ^ y) = ((2 ^ y : Nat) : Int) := by rw [Int.natCast_pow]; rfl
  have c3 : ((2 : Int) ^ z) = ((2 ^ z : Nat) : Int) := by rw [Int.natCast_pow]; rfl
  have e : ((bm ⟨x, y, z⟩ : Nat) : Int) = (2 : Int) ^ x + (2 : Int) ^ y + (2 : Int) ^ z := by rw [bm_sum hxy hyz, c1, c2, c3]; simp only [Int.natCast_add]
  generalize (2 : Nat) ^ x = X at a1 c1
  generalize (2 : Nat) ^ y = Y at a2 c2
  generalize (2 : Nat) ^ z = Z at a3 c3
  have s1 : IntKind.i64.wrap ((2 : Int) ^ x + (2 : Int) ^ y) = (2 : Int) ^ x + (2 : Int) ^ y := by rw [c1, c2]; exact i64w (by omega) (by omega)
  have s2 : IntKind.i64.wrap ((2 : Int) ^ x + (2 : Int) ^ y + (2 : Int) ^ z) = (2 : Int) ^ x + (2 : Int) ^ y + (2 : Int) ^ z := by rw [c1, c2, c3]; exact i64w (by omega) (by omega)
  rw [e] at h
  simp (maxSteps := 1000000) [go_sem, Bk.val, hu x (by omega), hu y (by omega), hu z (by omega), hmin x (by omega), hmin y (by omega), hmin z (by omega), hsh x (by omega), hsh y (by omega), hsh z (by omega), s1, s2]
  exact h

theorem l07Inside_ok {H : Heap} {u : Value} {p : Int} {m : Nat} {bs : List Bk} (hu : BlocksAt H u bs) (hg : ∀ x ∈ bs, good p x = true) (hp : p ≤ 15) (hl : bs.length ≤ 1048576) (hm : m < 2 ^ 60) (Post : Value → Heap → Prop)
    (h : ∀ H', H <+: H' → Post (.int .i64 (bs.countP (inSet m))) H') : ACalls Try.prog 180 [sysV p u, .int .i64 m] H Post := by
  obtain ⟨i, o, rfl, h1, h2⟩ := hu
  refine acalls_vc (rs := [.tmp 4]) Try.func180 rfl rfl Try.ntmps180 rfl rfl ?_
  simp (maxSteps := 1000000) [go_sem, sysV]
  have hx0 := Holds.last H [.int .i64 p, lv 3 i o bs.length]
  have hp0 : H <+: H ++ [⟨[.int .i64 p, lv 3 i o bs.length], true, true⟩] := List.prefix_append _ _
  generalize H ++ [(⟨[.int .i64 p, lv 3 i o bs.length], true, true⟩ : Blk)] = H0 at hx0 hp0 ⊢
  refine AWp.loopVc (fun s : Nat => [(1, .int .i64 m), (2, .pointer (some ⟨H.length, 0, none⟩)), (5, .int .i64 ((bs.take s).countP (inSet m))), (6, .int .i64 s)])
    (fun s H' => s ≤ bs.length ∧ H0 <+: H') (fun s => bs.length - s) 0 ?_ ?_ ?_
  · simp [upF, Fr.get, Up.refl]
  · exact ⟨by omega, List.prefix_refl _⟩
  · rintro K s H' ⟨hs, hp'⟩ hK
    obtain ⟨d0, d1, d2⟩ := (hx0.pre hp').sys
    by_cases hlt : s < bs.length
    · have hbs : bs[s]? = some bs[s] := List.getElem?_eq_getElem hlt
      have c1 := (h1.pre (hp0.trans hp')).bk hbs
      simp only [Bk.cells] at c1
      have hgb := hg _ (List.mem_of_getElem? hbs)
      have hw_s : IntKind.i64.wrap ((s : Int) + 1) = (s : Int) + 1 := i64w (by omega) (by omega)
      have hbm := bm_lt hgb hp
      have hand := and_i64w (a := bm bs[s]) (b := m) (by omega) (by omega)
      have hcnt : (bs.take s).countP (inSet m) ≤ s := Nat.le_trans List.countP_le_length (by simp; omega)
      have hsn : (bs.take (s + 1)).countP (inSet m) = (bs.take s).countP (inSet m) + (if inSet m bs[s] then 1 else 0) := by
        rw [List.take_succ_eq_append_getElem hlt, List.countP_append, List.countP_singleton]
      simp (maxSteps := 1000000) [go_sem, hlt, d2, c1]
      refine l05Bits_ok hgb hp _ ?_
      intro H2 hp2
      have hwc : IntKind.i64.wrap (((bs.take s).countP (inSet m) : Int) + 1) = ((bs.take s).countP (inSet m) : Int) + 1 := i64w (by omega) (by omega)
      by_cases hin : bm bs[s] &&& m = bm bs[s]
      · have e : (((bm bs[s] &&& m : Nat) : Int) == ((bm bs[s] : Nat) : Int)) = true := by rw [hin]; simp
        have e2 : inSet m bs[s] = true := by simp [inSet, hin]
        rw [e2] at hsn
        simp only [if_true] at hsn
        simp (maxSteps := 1000000) [go_sem, hand, e, hw_s, hwc]
        exact hK (s + 1) _ _ (by omega) (by simp [upF, Fr.get, Up.refl, hsn]) ⟨by omega, hp'.trans hp2⟩
      · have e : (((bm bs[s] &&& m : Nat) : Int) == ((bm bs[s] : Nat) : Int)) = false := by
          rw [beq_eq_false_iff_ne]; intro hh; exact hin (by omega)
        have e2 : inSet m bs[s] = false := by simp [inSet, hin]
        rw [e2] at hsn
        simp only [Bool.false_eq_true, if_false, Nat.add_zero] at hsn
        simp (maxSteps := 1000000) [go_sem, hand, e, hw_s]
        exact hK (s + 1) _ _ (by omega) (by simp [upF, Fr.get, Up.refl, hsn]) ⟨by omega, hp'.trans hp2⟩
    · have : s = bs.length := by omega
      subst this
      simp (maxSteps := 1000000) [go_sem, d2]
      exact h H' (hp0.trans hp')

theorem indep_count (bs : List Bk) (m : Nat) : (((bs.countP (inSet m) : Nat) : Int) == 0) = indep bs m := by
  apply Bool.eq_iff_iff.2
  rw [beq_iff_eq, indep, List.all_eq_true]
  rw [show ((bs.countP (inSet m) : Nat) : Int) = 0 ↔ bs.countP (inSet m) = 0 by omega, List.countP_eq_zero]
  simp

theorem l07Independent_ok {H : Heap} {u : Value} {p : Int} {m : Nat} {bs : List Bk} (hu : BlocksAt H u bs) (hg : ∀ x ∈ bs, good p x = true) (hp : p ≤ 15) (hl : bs.length ≤ 1048576) (hm : m < 2 ^ 60) (Post : Value → Heap → Prop)
    (h : ∀ H', H <+: H' → Post (.bool (indep bs m)) H') : ACalls Try.prog 122 [sysV p u, .int .i64 m] H Post := by
  refine acalls_vc (rs := [.tmp 4]) Try.func122 rfl rfl Try.ntmps122 rfl rfl ?_
  simp (maxSteps := 1000000) [go_sem, sysV, hu.one]
  have hp0 : H <+: H ++ [⟨[.int .i64 p, u], true, true⟩] := List.prefix_append _ _
  refine l07Inside_ok (hu.pre hp0) hg hp hl hm _ ?_
  intro H' hp'
  have e := indep_count bs m
  simp (maxSteps := 1000000) [go_sem, e]
  exact h H' (hp0.trans hp')

noncomputable def setCode (p : Int) (bs : List Bk) (xs : List Int) : Int := if sysB p bs then (if @decide (Rises p xs) (Classical.propDecidable _) then 0 else 2) else 1
theorem setCode_zero {p : Int} {bs : List Bk} {xs : List Int} (h : setCode p bs xs = 0) : IsSys p bs ∧ Rises p xs := by
  unfold setCode at h
  split at h
  · rename_i hs
    split at h
    · rename_i hr; exact ⟨sysB_of hs, by simpa using hr⟩
    · omega
  · omega
theorem setCode_good {p : Int} {bs : List Bk} {xs : List Int} (hs : sysB p bs = true) (hr : Rises p xs) : setCode p bs xs = 0 := by simp [setCode, hs, hr]
theorem setCode_bad {p : Int} {bs : List Bk} {xs : List Int} (hs : sysB p bs = true) (hr : ¬ Rises p xs) : setCode p bs xs = 2 := by simp [setCode, hs, hr]
theorem setCode_none {p : Int} {bs : List Bk} {xs : List Int} (hs : sysB p bs = false) : setCode p bs xs = 1 := by simp [setCode, hs]
theorem _root_.Go.Ab.Rises.mem {p : Int} {xs : List Int} (h : Rises p xs) : ∀ x ∈ xs, 0 ≤ x ∧ x < p := by
  intro x hx
  obtain ⟨k, hk⟩ := List.mem_iff_getElem?.1 hx
  exact (h k x hk).1

theorem implSetCode_ok {H : Heap} {u v : Value} {p : Int} {bs : List Bk} {xs : List Int} (hu : BlocksAt H u bs) (hv : IntsAt H v xs) (Post : Value → Heap → Prop)
    (h : ∀ H', H <+: H' → Post (.int .i64 (setCode p bs xs)) H') : ACalls Try.prog 124 [sysV p u, v] H Post := by
  refine acalls_vc (rs := [.tmp 4]) Try.func124 rfl rfl Try.ntmps124 rfl rfl ?_
  simp (maxSteps := 1000000) [go_sem, sysV, hu.one]
  have hp0 : H <+: H ++ [⟨[.int .i64 p, u], true, true⟩] := List.prefix_append _ _
  have hx0 := Holds.last H [.int .i64 p, u]
  refine implIsSys (hu.pre hp0) _ ?_
  intro H1 hp1
  obtain ⟨d0, d1, d2⟩ := (hx0.pre hp1).sys
  have fin := h H1 (hp0.trans hp1)
  cases hs : sysB p bs with
  | false =>
    simp (maxSteps := 1000000) [go_sem]
    rwa [setCode_none hs] at fin
  | true =>
    have hp := (sysB_of hs).1
    simp (maxSteps := 1000000) [go_sem, d1]
    refine rises_ok (hv.pre (hp0.trans hp1)) (by omega) (by omega) _ ?_
    intro b hb
    cases b with
    | false =>
      simp (maxSteps := 1000000) [go_sem]
      rwa [setCode_bad hs (fun hr => by have := hb.2 hr; cases this)] at fin
    | true =>
      simp (maxSteps := 1000000) [go_sem]
      rwa [setCode_good hs (hb.1 rfl)] at fin

theorem l01Set_ok {H : Heap} {u v : Value} {p : Int} {bs : List Bk} {xs : List Int} (hu : BlocksAt H u bs) (hl : bs.length ≤ 1048576) (hv : IntsAt H v xs) (Post : Value → Heap → Prop)
    (h : ∀ H', H <+: H' → Post (.int .i64 (setCode p bs xs)) H') : ACalls Try.prog 121 [sysV p u, v] H Post := by
  have hvo := hv
  obtain ⟨i, o, rfl, h1, h2⟩ := hv
  refine acalls_vc (rs := [.tmp 4]) Try.func121 rfl rfl Try.ntmps121 rfl rfl ?_
  simp (maxSteps := 1000000) [go_sem, sysV, hu.one]
  have hp0 : H <+: H ++ [⟨[.int .i64 p, u], true, true⟩] := List.prefix_append _ _
  refine l01Points_ok (hu.pre hp0) hl (hvo.pre hp0) _ ?_
  intro H1 hp1
  have fin := h H1 (hp0.trans hp1)
  cases hs : sysB p bs with
  | false =>
    have e : ptsCode p bs xs = 1 := by simp [ptsCode, hs]
    simp (maxSteps := 1000000) [go_sem, e]
    rwa [setCode_none hs] at fin
  | true =>
    cases hall : xs.all (inP p) with
    | false =>
      have e : ptsCode p bs xs = 2 := by simp [ptsCode, hs, hall]
      simp (maxSteps := 1000000) [go_sem, e]
      rwa [setCode_bad hs (fun hr => by
        rw [List.all_eq_false] at hall
        obtain ⟨x, hx, hn⟩ := hall
        have := hr.mem x hx
        exact hn (inP_iff.2 (by omega)))] at fin
    | true =>
      have e : ptsCode p bs xs = 0 := by simp [ptsCode, hs, hall]
      simp (maxSteps := 1000000) [go_sem, e]
      rw [List.all_eq_true] at hall
      refine AWp.loopVc (fun s : Nat => [(1, lv 1 i o xs.length), (6, .int .i64 s)])
        (fun s H' => 1 ≤ s ∧ H' = H1 ∧ ∀ (a : Nat) (x y : Int), a < s → 0 < a → xs[a]? = some x → xs[a - 1]? = some y → y < x) (fun s => xs.length - s) 1 ?_ ?_ ?_
      · simp [upF, Fr.get, Up.refl]
      · exact ⟨by omega, rfl, by intro a x y ha h0; omega⟩
      · rintro K s H' ⟨hs1, rfl, hf⟩ hK
        by_cases hlt : s < xs.length
        · obtain ⟨r, rfl⟩ : ∃ r, s = r + 1 := ⟨s - 1, by omega⟩
          have hr : r < xs.length := by omega
          have c1 := (h1.pre (hp0.trans hp1)).cell (k := r + 1) (v := .int .i64 xs[r + 1]) (by simp [ints_get, hlt])
          have c2 := (h1.pre (hp0.trans hp1)).cell (k := r) (v := .int .i64 xs[r]) (by simp [ints_get, hr])
          have hw3 : IntKind.i64.wrap (r : Int) = (r : Int) := i64w (by omega) (by omega)
          have hw4 : IntKind.i64.wrap ((r : Int) + 1 + 1) = (r : Int) + 1 + 1 := i64w (by omega) (by omega)
          have hlt' : ((r : Int) + 1 < (xs.length : Int)) := by omega
          simp (maxSteps := 1000000) [go_sem, hlt, hlt']
          refine AWp.draw mixed [(0, false), (1, false), (2, false), (3, false), (4, false), (5, false), (6, false), (7, false), (8, false), (9, false)] (by kernel_rfl) ?_
          simp (maxSteps := 1000000) [go_sem, hlt, hlt', hr, c1, c2, hw3, hw4]
          refine andK_intro (by omega) (condK_intro (fun hge => ?_) (fun hgt => ?_))
          · have hge : xs[r + 1] ≤ xs[r] := by simpa using hge
            rwa [setCode_bad hs (fun hrr => by
              have := (hrr (r + 1) xs[r + 1] (by simp [hlt])).2 xs[r] (by omega) (by simp [hr])
              omega)] at fin
          · have hgt : xs[r] < xs[r + 1] := by simpa using hgt
            refine hK (r + 1 + 1) _ _ (by omega) (by simp [upF, Fr.get, Up.refl]) ⟨by omega, rfl, ?_⟩
            intro a x y ha h0 hx hy
            by_cases har : a = r + 1
            · subst har
              rw [List.getElem?_eq_getElem hlt] at hx
              rw [Nat.add_sub_cancel, List.getElem?_eq_getElem hr] at hy
              cases hx; cases hy; exact hgt
            · exact hf a x y (by omega) h0 hx hy
        · have hlt' : ¬ ((s : Int) < (xs.length : Int)) := by omega
          simp (maxSteps := 1000000) [go_sem, hlt, hlt']
          rwa [setCode_good hs (fun a x hx => ⟨by
              have := inP_iff.1 (hall x (List.mem_of_getElem? hx)); omega, fun y h0 hy => hf a x y (by have := (List.getElem?_eq_some_iff.1 hx).1; omega) h0 hx hy⟩)] at fin

noncomputable def rIndep (p : Int) (bs : List Bk) (xs : List Int) : Bool × Int := if setCode p bs xs = 0 then (indep bs (maskL xs), 0) else (false, setCode p bs xs)

theorem specIsIndependent_ok {H : Heap} {u v : Value} {p : Int} {bs : List Bk} {xs : List Int} (hu : BlocksAt H u bs) (hl : bs.length ≤ 1048576) (hv : IntsAt H v xs) (hl' : xs.length ≤ 1048576) (hw : ∀ x ∈ xs, In64 x) (Post : Value → Heap → Prop)
    (h : ∀ H', H <+: H' → Post (.tuple #[.bool (rIndep p bs xs).1, .int .i64 (rIndep p bs xs).2]) H') : ACalls Try.prog 67 [sysV p u, v] H Post := by
  refine acalls_vc (rs := [.tmp 4, .tmp 5]) Try.func67 rfl rfl Try.ntmps67 rfl rfl ?_
  simp (maxSteps := 1000000) [go_sem, sysV, hu.one]
  have hp0 : H <+: H ++ [⟨[.int .i64 p, u], true, true⟩] := List.prefix_append _ _
  have hx0 := Holds.last H [.int .i64 p, u]
  refine l01Set_ok (hu.pre hp0) hl (hv.pre hp0) _ ?_
  intro H1 hp1
  obtain ⟨d0, d1, d2⟩ := (hx0.pre hp1).sys
  by_cases hc : setCode p bs xs = 0
  · obtain ⟨hS, hr⟩ := setCode_zero hc
    have hp := hS.1
    simp (maxSteps := 1000000) [go_sem, hc]
    refine AWp.draw mixed [(0, false), (1, false), (2, true), (3, false), (4, false), (5, false)] (by kernel_rfl) ?_
    simp (maxSteps := 1000000) [go_sem, d0]
    refine l07Bits_ok (hv.pre (hp0.trans hp1)) (fun x hx => by have := hr.mem x hx; omega) _ ?_
    have hm : maskL xs < 2 ^ 15 := maskL_lt (fun x hx => by have := hr.mem x hx; omega)
    simp (maxSteps := 1000000) [go_sem]
    refine l07Independent_ok (hu.pre (hp0.trans hp1)) hS.good hp.2 hl (by omega) _ ?_
    intro H2 hp2
    simp (maxSteps := 1000000) [go_sem]
    simpa [rIndep, hc] using h H2 (hp0.trans (hp1.trans hp2))
  · have he : (setCode p bs xs != 0) = true := by simpa using hc
    simp (maxSteps := 1000000) [go_sem, he]
    simpa [rIndep, hc] using h H1 (hp0.trans hp1)

end Go.Proofs.Ytkgjdmbmdnmilaa
