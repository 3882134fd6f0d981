/- Common blocks: both sides. -/
import Derived.Test.YtkgjdmbmdnmilaaLaw4
set_option linter.all false
set_option maxRecDepth 20000
namespace Go.Proofs.Ytkgjdmbmdnmilaa
open Go.Ab

theorem infoInt : (Try.prog.info? 2).map (·.size) = some 1 := by kernel_rfl
theorem intsOf3 (a b c : Int) : intsOf .i64 [.int .i64 a, .int .i64 b, .int .i64 c] = some [a, b, c] := by simp [intsOf]
attribute [go_sem] infoInt intsOf3

theorem Bk.eq3 (b d : Bk) : b = d ↔ b.a = d.a ∧ b.b = d.b ∧ b.c = d.c := by
  obtain ⟨b1, b2, b3⟩ := b; obtain ⟨d1, d2, d3⟩ := d; simp

/-- Membership, as a Boolean. -/
def memB (bs : List Bk) (b : Bk) : Bool := decide (b ∈ bs)

theorem l01Has_ok {H : Heap} {u : Value} {p : Int} {bs : List Bk} {b : Bk} (hu : BlocksAt H u bs) (Post : Value → Heap → Prop) (h : ∀ H', H <+: H' → Post (.bool (memB bs b)) H') :
    ACalls Try.prog 111 [sysV p u, b.val] H Post := by
  obtain ⟨i, o, rfl, h1, h2⟩ := hu
  refine acalls_vc (rs := [.tmp 4]) Try.func111 rfl rfl Try.ntmps111 rfl rfl ?_
  simp (maxSteps := 1000000) [go_sem, sysV, Bk.val]
  have hp0 : H <+: H ++ [⟨[.int .i64 p, lv 3 i o bs.length], true, true⟩, ⟨[.int .i64 b.a, .int .i64 b.b, .int .i64 b.c], true, true⟩] := List.prefix_append _ _
  have hx0 : Holds (H ++ [⟨[.int .i64 p, lv 3 i o bs.length], true, true⟩, ⟨[.int .i64 b.a, .int .i64 b.b, .int .i64 b.c], true, true⟩]) H.length [.int .i64 p, lv 3 i o bs.length] := ⟨true, by simp⟩
  have hx1 : Holds (H ++ [⟨[.int .i64 p, lv 3 i o bs.length], true, true⟩, ⟨[.int .i64 b.a, .int .i64 b.b, .int .i64 b.c], true, true⟩]) (H.length + 1) [.int .i64 b.a, .int .i64 b.b, .int .i64 b.c] := ⟨true, by simp⟩
  generalize H ++ [(⟨[.int .i64 p, lv 3 i o bs.length], true, true⟩ : Blk), ⟨[.int .i64 b.a, .int .i64 b.b, .int .i64 b.c], true, true⟩] = H0 at hp0 hx0 hx1 ⊢
  obtain ⟨d0, d1, d2⟩ := hx0.sys
  obtain ⟨e0, e1, e2, e3⟩ := hx1.bk
  refine AWp.loopVc (fun s : Nat => [(2, .pointer (some ⟨H.length, 0, none⟩)), (3, .pointer (some ⟨H.length + 1, 0, none⟩)), (5, .int .i64 s)])
    (fun s H' => s ≤ bs.length ∧ H' = H0 ∧ b ∉ bs.take s) (fun s => bs.length - s) 0 ?_ ?_ ?_
  · simp [upF, Fr.get, Up.refl]
  · exact ⟨by omega, rfl, by simp⟩
  · rintro K s H' ⟨hs, rfl, hf⟩ hK
    by_cases hlt : s < bs.length
    · have hbs : bs[s]? = some bs[s] := List.getElem?_eq_getElem hlt
      have c1 := (h1.pre hp0).bk hbs
      simp only [Bk.cells] at c1
      have hw_s : IntKind.i64.wrap ((s : Int) + 1) = (s : Int) + 1 := i64w (by omega) (by omega)
      simp (maxSteps := 1000000) [go_sem, hlt, d2]
      refine AWp.draw mixed [(0, false), (1, false), (2, false), (3, false), (4, false), (5, false), (6, false)] (by kernel_rfl) ?_
      by_cases he : bs[s] = b
      · have he' := (Bk.eq3 _ _).1 he
        simp (maxSteps := 1000000) [go_sem, hlt, d2, c1, e0, he'.1, he'.2.1, he'.2.2]
        have : memB bs b = true := by simp [memB, ← he]
        simpa [this] using h H' hp0
      · have he' : ¬ (bs[s].a = b.a ∧ bs[s].b = b.b ∧ bs[s].c = b.c) := fun hh => he ((Bk.eq3 _ _).2 hh)
        simp (maxSteps := 1000000) [go_sem, hlt, d2, c1, e0, hw_s]
        have he2 : decide (bs[s].a = b.a ∧ bs[s].b = b.b ∧ bs[s].c = b.c) = false := by simpa using he'
        try rw [he2]
        try simp only [condK_false]
        refine condK_intro (fun hh => absurd (by simpa using hh) he') (fun _ => ?_)
        refine hK (s + 1) _ _ (by omega) (by simp [upF, Fr.get, Up.refl]) ⟨by omega, rfl, ?_⟩
        rw [List.take_succ_eq_append_getElem hlt, List.mem_append]
        rintro (hh | hh)
        · exact hf hh
        · simp at hh; exact he hh.symm
    · have : s = bs.length := by omega
      subst this
      rw [List.take_length] at hf
      simp (maxSteps := 1000000) [go_sem, d2]
      have : memB bs b = false := by simp [memB, hf]
      simpa [this] using h H' hp0

/-- Where a thing stands first in a list, or -1. -/
def IdxIs {α : Type} (xs : List α) (x : α) (n : Int) : Prop := (n = -1 ∧ x ∉ xs) ∨ ∃ s : Nat, n = s ∧ xs[s]? = some x ∧ x ∉ xs.take s

theorem IdxIs.pos {α : Type} {xs : List α} {x : α} {n : Int} (h : IdxIs xs x n) : 0 ≤ n ↔ x ∈ xs := by
  rcases h with ⟨rfl, h⟩ | ⟨s, rfl, h, _⟩
  · constructor
    · intro hh; omega
    · intro hh; exact absurd hh h
  · exact ⟨fun _ => List.mem_of_getElem? h, fun _ => by omega⟩

theorem slicesIndexB_ok {H : Heap} {u : Value} {bs : List Bk} {b : Bk} (hu : BlocksAt H u bs) (Post : Value → Heap → Prop) (h : ∀ H' n, H <+: H' → IdxIs bs b n → Post (.int .i64 n) H') :
    ACalls Try.prog 199 [u, b.val] H Post := by
  obtain ⟨i, o, rfl, h1, h2⟩ := hu
  refine acalls_vc (rs := [.tmp 4]) Try.func199 rfl rfl Try.ntmps199 rfl rfl ?_
  simp (maxSteps := 1000000) [go_sem, Bk.val]
  have hp0 : H <+: H ++ [⟨[.int .i64 b.a, .int .i64 b.b, .int .i64 b.c], true, true⟩] := List.prefix_append _ _
  have hx0 := Holds.last H [.int .i64 b.a, .int .i64 b.b, .int .i64 b.c]
  generalize H ++ [(⟨[.int .i64 b.a, .int .i64 b.b, .int .i64 b.c], true, true⟩ : Blk)] = H0 at hp0 hx0 ⊢
  obtain ⟨e0, e1, e2, e3⟩ := hx0.bk
  refine AWp.loopVc (fun s : Nat => [(0, lv 3 i o bs.length), (3, .pointer (some ⟨H.length, 0, none⟩)), (7, .int .i64 bs.length), (8, .int .i64 s)])
    (fun s H' => s ≤ bs.length ∧ H' = H0 ∧ b ∉ bs.take s) (fun s => bs.length - s) 0 ?_ ?_ ?_
  · simp [upF, Fr.get, Up.refl]
  · exact ⟨by omega, rfl, by simp⟩
  · rintro K s H' ⟨hs, rfl, hf⟩ hK
    by_cases hlt : s < bs.length
    · have hbs : bs[s]? = some bs[s] := List.getElem?_eq_getElem hlt
      have c1 := (h1.pre hp0).bk hbs
      simp only [Bk.cells] at c1
      have hw_s : IntKind.i64.wrap ((s : Int) + 1) = (s : Int) + 1 := i64w (by omega) (by omega)
      simp (maxSteps := 1000000) [go_sem, hlt]
      refine AWp.draw mixed [(0, false), (1, false), (2, false), (3, false), (4, false), (5, false)] (by kernel_rfl) ?_
      simp (maxSteps := 1000000) [go_sem, hlt, c1, e0, hw_s]
      refine condK_intro (fun hh => ?_) (fun hh => ?_)
      · have he : b = bs[s] := (Bk.eq3 _ _).2 (by simpa using hh)
        exact h H' s hp0 (.inr ⟨s, rfl, by rw [hbs, ← he], hf⟩)
      · have he : b ≠ bs[s] := fun e => by have := (Bk.eq3 _ _).1 e; simp [this.1, this.2.1, this.2.2] at hh
        refine hK (s + 1) _ _ (by omega) (by simp [upF, Fr.get, Up.refl]) ⟨by omega, rfl, ?_⟩
        rw [List.take_succ_eq_append_getElem hlt, List.mem_append]
        rintro (hh | hh)
        · exact hf hh
        · simp at hh; exact he hh
    · have : s = bs.length := by omega
      subst this
      rw [List.take_length] at hf
      simp (maxSteps := 1000000) [go_sem]
      exact h H' (-1) hp0 (.inl ⟨rfl, hf⟩)

theorem slicesContainsB_ok {H : Heap} {u : Value} {bs : List Bk} {b : Bk} (hu : BlocksAt H u bs) (Post : Value → Heap → Prop) (h : ∀ H', H <+: H' → Post (.bool (memB bs b)) H') :
    ACalls Try.prog 174 [u, b.val] H Post := by
  refine acalls_vc (rs := [.tmp 4]) Try.func174 rfl rfl Try.ntmps174 rfl rfl ?_
  simp (maxSteps := 1000000) [go_sem, Bk.val]
  have hp0 : H <+: H ++ [⟨[.int .i64 b.a, .int .i64 b.b, .int .i64 b.c], true, true⟩] := List.prefix_append _ _
  refine slicesIndexB_ok (b := b) (hu.pre hp0) _ ?_
  intro H' n hp hn
  have e : decide (0 ≤ n) = memB bs b := by simp only [memB, hn.pos]
  simp (maxSteps := 1000000) [go_sem, e]
  exact h H' (hp0.trans hp)

noncomputable def rCommon (p : Int) (xs : List Bk) (q : Int) (ys : List Bk) : List Bk × Int :=
  if sysB p xs && sysB q ys then (if p = q then (xs.filter (memB ys), 0) else ([], 2)) else ([], 1)

theorem implCommon_ok {H : Heap} {u v : Value} {xs ys : List Bk} (hu : BlocksAt H u xs) (hv : BlocksAt H v ys) (hl : xs.length ≤ 1048576) (Post : Value → Heap → Prop)
    (h : ∀ H' w, H <+: H' → BlocksIn H.length H'.length H' w (xs.filter (memB ys)) → Post w H') :
    ACalls Try.prog 112 [u, v] H Post := by
  obtain ⟨i, o, rfl, h1, h2⟩ := hu
  refine ACalls.res ?_
  refine acalls_vc (rs := [.tmp 4]) Try.func112 rfl rfl Try.ntmps112 rfl rfl ?_
  simp (maxSteps := 1000000) [go_sem]
  refine AWp.addGhost ?_
  have hb0 := Bl.ghost 3 H
  generalize H ++ [(⟨[], false, false⟩ : Blk)] = H0 at hb0 ⊢
  refine AWp.loopVc (St := Nat × Nat) (fun s => [(1, v), (5, lv 3 s.2 0 ((xs.take s.1).filter (memB ys)).length), (8, lv 3 i o xs.length), (9, .int .i64 xs.length), (10, .int .i64 s.1)])
    (fun s H' => s.1 ≤ xs.length ∧ Bl 3 H H' s.2 (tri ((xs.take s.1).filter (memB ys))) ((xs.take s.1).filter (memB ys)).length) (fun s => xs.length - s.1) (0, H.length) ?_ ?_ ?_
  · simp [upF, Fr.get, Up.refl, Up.nil]
  · exact ⟨by simp, by simpa [tri] using hb0⟩
  · rintro K ⟨s, id⟩ H' ⟨hs, hbl⟩ hK
    simp only at hs hbl
    by_cases hlt : s < xs.length
    · have hbs : xs[s]? = some xs[s] := List.getElem?_eq_getElem hlt
      have c1 := (h1.pre hbl.1).bk hbs
      simp only [Bk.cells] at c1
      have hw_s : IntKind.i64.wrap ((s : Int) + 1) = (s : Int) + 1 := i64w (by omega) (by omega)
      have hle : ((xs.take s).filter (memB ys)).length ≤ s := Nat.le_trans (List.length_filter_le _ _) (by simp; omega)
      simp (maxSteps := 1000000) [go_sem, hlt, c1]
      have hpb : H' <+: H' ++ [⟨[.int .i64 xs[s].a, .int .i64 xs[s].b, .int .i64 xs[s].c], true, true⟩] := List.prefix_append _ _
      have hx0 := Holds.last H' [.int .i64 xs[s].a, .int .i64 xs[s].b, .int .i64 xs[s].c]
      refine slicesContainsB_ok (b := xs[s]) (hv.pre (hbl.1.trans hpb)) _ ?_
      intro H2 hp2
      obtain ⟨e0, _⟩ := (hx0.pre hp2).bk
      have hbl2 := (hbl.pre hpb).pre hp2
      cases hm : memB ys xs[s] with
      | false =>
        have hsn : (xs.take (s + 1)).filter (memB ys) = (xs.take s).filter (memB ys) := by rw [List.take_succ_eq_append_getElem hlt, List.filter_append]; simp [hm]
        simp (maxSteps := 1000000) [go_sem, hw_s]
        exact hK (s + 1, id) _ _ (by simp only; omega) (by simp [upF, Fr.get, Up.refl, hsn]) ⟨by simp only; omega, by simp only [hsn]; exact hbl2⟩
      | true =>
        have hsn : (xs.take (s + 1)).filter (memB ys) = (xs.take s).filter (memB ys) ++ [xs[s]] := by rw [List.take_succ_eq_append_getElem hlt, List.filter_append]; simp [hm]
        obtain ⟨hsrc, H3, hap, hbl3⟩ := hbl2.push (xs := xs[s].cells) (by omega) rfl
        simp only [Bk.cells] at hsrc hap hbl3
        simp (maxSteps := 1000000) [go_sem, hw_s, e0, hsrc, hap]
        refine andK_intro (by omega) (hK (s + 1, H2.length + 1) _ _ (by simp only; omega) (by simp [upF, Fr.get, Up.refl, hsn]) ⟨by simp only; omega, ?_⟩)
        simp only [hsn, List.length_append, List.length_singleton, tri_append, tri_one, Bk.cells]
        exact hbl3
    · have : s = xs.length := by omega
      subst this
      rw [List.take_length] at hbl
      simp (maxSteps := 1000000) [go_sem]
      have hle : (xs.filter (memB ys)).length ≤ xs.length := List.length_filter_le _ _
      exact ⟨_, Up.refl _ _, h H' _ hbl.1 (OwnBlocks.inn (OwnBlocks.of_ol hbl.2.1 (by omega)) hbl.2.2)⟩

theorem implCommonBlocks_ok {H : Heap} {u v : Value} {p q : Int} {xs ys : List Bk} (hu : BlocksAt H u xs) (hl : xs.length ≤ 1048576) (hv : BlocksAt H v ys) (hl' : ys.length ≤ 1048576) (Post : Value → Heap → Prop)
    (h : ∀ H' w, H <+: H' → BlocksIn H.length H'.length H' w (rCommon p xs q ys).1 → Post (.tuple #[w, .int .i64 (rCommon p xs q ys).2]) H') :
    ACalls Try.prog 56 [sysV p u, sysV q v] H Post := by
  refine ACalls.res ?_
  refine acalls_vc (rs := [.tmp 4, .tmp 5]) Try.func56 rfl rfl Try.ntmps56 rfl rfl ?_
  simp (maxSteps := 1000000) [go_sem, sysV, hu.one, hv.one]
  have hp0 : H <+: H ++ [⟨[.int .i64 p, u], true, true⟩, ⟨[.int .i64 q, v], true, true⟩] := List.prefix_append _ _
  have hx0 : Holds (H ++ [⟨[.int .i64 p, u], true, true⟩, ⟨[.int .i64 q, v], true, true⟩]) H.length [.int .i64 p, u] := ⟨true, by simp⟩
  have hx1 : Holds (H ++ [⟨[.int .i64 p, u], true, true⟩, ⟨[.int .i64 q, v], true, true⟩]) (H.length + 1) [.int .i64 q, v] := ⟨true, by simp⟩
  generalize H ++ [(⟨[.int .i64 p, u], true, true⟩ : Blk), ⟨[.int .i64 q, v], true, true⟩] = H0 at hp0 hx0 hx1 ⊢
  have bad : ∀ (H' : Heap) (c : Int), H0 <+: H' → rCommon p xs q ys = ([], c) → ∃ v', Up H' (.tuple #[.slice none 0 0, .int .i64 c]) v' ∧ Post v' H' := by
    intro H' c hp hr
    refine ⟨_, Up.tuple (ys := #[lv 3 0 0 0, .int .i64 c]) ⟨Up.nil _ _ _ _, Up.refl _ _, trivial⟩, ?_⟩
    have := h H' (lv 3 0 0 0) (hp0.trans hp) (by rw [hr]; exact BlocksIn.nil _ _ _)
    rwa [hr] at this
  refine implIsSys (hu.pre hp0) _ ?_
  intro H1 hp1
  obtain ⟨e0, e1, e2⟩ := (hx1.pre hp1).sys
  cases hs : sysB p xs with
  | false =>
    simp (maxSteps := 1000000) [go_sem]
    exact bad H1 1 hp1 (by simp [rCommon, hs])
  | true =>
    simp (maxSteps := 1000000) [go_sem, e0]
    refine implIsSys (hv.pre (hp0.trans hp1)) _ ?_
    intro H2 hp2
    obtain ⟨d0, d1, d2⟩ := (hx0.pre (hp1.trans hp2)).sys
    obtain ⟨e0, e1, e2⟩ := (hx1.pre (hp1.trans hp2)).sys
    cases hs' : sysB q ys with
    | false =>
      simp (maxSteps := 1000000) [go_sem]
      exact bad H2 1 (hp1.trans hp2) (by simp [rCommon, hs, hs'])
    | true =>
      by_cases hpq : p = q
      · have hb : (p != q) = false := by simpa using hpq
        simp (maxSteps := 1000000) [go_sem, d1, e1, hb, d2, e2]
        refine implCommon_ok (hu.pre (hp0.trans (hp1.trans hp2))) (hv.pre (hp0.trans (hp1.trans hp2))) hl _ ?_
        intro H3 w hp3 hw
        simp (maxSteps := 1000000) [go_sem]
        refine ⟨_, Up.refl _ _, ?_⟩
        have hr : rCommon p xs q ys = (xs.filter (memB ys), 0) := by unfold rCommon; rw [hs, hs']; simp [hpq]
        have := h H3 w (hp0.trans (hp1.trans (hp2.trans hp3))) (by rw [hr]; exact hw.wider (hp0.trans (hp1.trans hp2)).length_le)
        rwa [hr] at this
      · have hb : (p != q) = true := by simpa using hpq
        simp (maxSteps := 1000000) [go_sem, d1, e1, hb]
        exact bad H2 2 (hp1.trans hp2) (by simp [rCommon, hs, hs', hpq])

theorem specCommonBlocks_ok {H : Heap} {u v : Value} {p q : Int} {xs ys : List Bk} (hu : BlocksAt H u xs) (hl : xs.length ≤ 1048576) (hv : BlocksAt H v ys) (hl' : ys.length ≤ 1048576) (Post : Value → Heap → Prop)
    (h : ∀ H' w, H <+: H' → BlocksIn H.length H'.length H' w (rCommon p xs q ys).1 → Post (.tuple #[w, .int .i64 (rCommon p xs q ys).2]) H') :
    ACalls Try.prog 55 [sysV p u, sysV q v] H Post := by
  refine ACalls.res ?_
  refine acalls_vc (rs := [.tmp 4, .tmp 5]) Try.func55 rfl rfl Try.ntmps55 rfl rfl ?_
  simp (maxSteps := 1000000) [go_sem, sysV, hu.one, hv.one]
  have hp0 : H <+: H ++ [⟨[.int .i64 p, u], true, true⟩, ⟨[.int .i64 q, v], true, true⟩] := List.prefix_append _ _
  have hx0 : Holds (H ++ [⟨[.int .i64 p, u], true, true⟩, ⟨[.int .i64 q, v], true, true⟩]) H.length [.int .i64 p, u] := ⟨true, by simp⟩
  have hx1 : Holds (H ++ [⟨[.int .i64 p, u], true, true⟩, ⟨[.int .i64 q, v], true, true⟩]) (H.length + 1) [.int .i64 q, v] := ⟨true, by simp⟩
  generalize H ++ [(⟨[.int .i64 p, u], true, true⟩ : Blk), ⟨[.int .i64 q, v], true, true⟩] = H0 at hp0 hx0 hx1 ⊢
  have bad : ∀ (H' : Heap) (c : Int), H0 <+: H' → rCommon p xs q ys = ([], c) → ∃ v', Up H' (.tuple #[.slice none 0 0, .int .i64 c]) v' ∧ Post v' H' := by
    intro H' c hp hr
    refine ⟨_, Up.tuple (ys := #[lv 3 0 0 0, .int .i64 c]) ⟨Up.nil _ _ _ _, Up.refl _ _, trivial⟩, ?_⟩
    have := h H' (lv 3 0 0 0) (hp0.trans hp) (by rw [hr]; exact BlocksIn.nil _ _ _)
    rwa [hr] at this
  refine l01Is' (hu.pre hp0) hl _ ?_
  intro H1 hp1
  obtain ⟨e0, e1, e2⟩ := (hx1.pre hp1).sys
  cases hs : sysB p xs with
  | false =>
    simp (maxSteps := 1000000) [go_sem]
    exact bad H1 1 hp1 (by simp [rCommon, hs])
  | true =>
    simp (maxSteps := 1000000) [go_sem, e0]
    refine l01Is' (hv.pre (hp0.trans hp1)) hl' _ ?_
    intro H2 hp2
    have hp12 := hp1.trans hp2
    obtain ⟨d0, d1, d2⟩ := (hx0.pre hp12).sys
    obtain ⟨e0, e1, e2⟩ := (hx1.pre hp12).sys
    cases hs' : sysB q ys with
    | false =>
      simp (maxSteps := 1000000) [go_sem]
      exact bad H2 1 (hp1.trans hp2) (by simp [rCommon, hs, hs'])
    | true =>
      by_cases hpq : p = q
      · have hb : (p != q) = false := by simpa using hpq
        simp (maxSteps := 1000000) [go_sem, d1, e1, hb, d2, e2]
        have hb0 := Bl.nil 3 H2
        obtain ⟨i, o, rfl, h1, h2⟩ := hu
        refine AWp.loopVc (St := Nat × Nat) (fun s => [(2, .pointer (some ⟨H.length, 0, none⟩)), (3, .pointer (some ⟨H.length + 1, 0, none⟩)), (6, lv 3 s.2 0 ((xs.take s.1).filter (memB ys)).length), (7, .int .i64 s.1)])
          (fun s H' => s.1 ≤ xs.length ∧ Bl 3 H2 H' s.2 (tri ((xs.take s.1).filter (memB ys))) ((xs.take s.1).filter (memB ys)).length) (fun s => xs.length - s.1) (0, H2.length) ?_ ?_ ?_
        · simp [upF, Fr.get, Up.refl, Up.ex0]
        · exact ⟨by simp, by simpa [tri] using hb0⟩
        · rintro K ⟨s, id⟩ H' ⟨hs0, hbl⟩ hK
          simp only at hs0 hbl
          obtain ⟨d0, d1, d2⟩ := ((hx0.pre hp12).pre hbl.1).sys
          obtain ⟨e0, e1, e2⟩ := ((hx1.pre hp12).pre hbl.1).sys
          by_cases hlt : s < xs.length
          · have hbs : xs[s]? = some xs[s] := List.getElem?_eq_getElem hlt
            have c1 := (h1.pre (hp0.trans (hp12.trans hbl.1))).bk hbs
            simp only [Bk.cells] at c1
            have hw_s : IntKind.i64.wrap ((s : Int) + 1) = (s : Int) + 1 := i64w (by omega) (by omega)
            have hle : ((xs.take s).filter (memB ys)).length ≤ s := Nat.le_trans (List.length_filter_le _ _) (by simp; omega)
            simp (maxSteps := 1000000) [go_sem, hlt, d2]
            refine AWp.draw mixed [(0, false), (1, false), (2, false), (3, false), (4, false), (5, false), (6, false)] (by kernel_rfl) ?_
            simp (maxSteps := 1000000) [go_sem, hlt, d2, e0, c1]
            refine l01Has_ok (b := xs[s]) (hv.pre (hp0.trans (hp12.trans hbl.1))) _ ?_
            intro H3 hp3
            obtain ⟨d0, d1, d2⟩ := ((hx0.pre hp12).pre (hbl.1.trans hp3)).sys
            have c1 := (h1.pre (hp0.trans (hp12.trans (hbl.1.trans hp3)))).bk hbs
            simp only [Bk.cells] at c1
            have hbl2 := hbl.pre hp3
            cases hm : memB ys xs[s] with
            | false =>
              have hsn : (xs.take (s + 1)).filter (memB ys) = (xs.take s).filter (memB ys) := by rw [List.take_succ_eq_append_getElem hlt, List.filter_append]; simp [hm]
              simp (maxSteps := 1000000) [go_sem, hw_s]
              exact hK (s + 1, id) _ _ (by simp only; omega) (by simp [upF, Fr.get, Up.refl, hsn]) ⟨by simp only; omega, by simp only [hsn]; exact hbl2⟩
            | true =>
              have hsn : (xs.take (s + 1)).filter (memB ys) = (xs.take s).filter (memB ys) ++ [xs[s]] := by rw [List.take_succ_eq_append_getElem hlt, List.filter_append]; simp [hm]
              obtain ⟨hsrc, H4, hap, hbl3⟩ := hbl2.push (xs := xs[s].cells) (by omega) rfl
              simp only [Bk.cells] at hsrc hap hbl3
              simp (maxSteps := 1000000) [go_sem, hlt, hw_s, d2, c1, hsrc, hap]
              refine andK_intro (by omega) (hK (s + 1, H3.length + 1) _ _ (by simp only; omega) (by simp [upF, Fr.get, Up.refl, hsn]) ⟨by simp only; omega, ?_⟩)
              simp only [hsn, List.length_append, List.length_singleton, tri_append, tri_one, Bk.cells]
              exact hbl3
          · have : s = xs.length := by omega
            subst this
            rw [List.take_length] at hbl
            simp (maxSteps := 1000000) [go_sem, d2]
            have hle : (xs.filter (memB ys)).length ≤ xs.length := List.length_filter_le _ _
            refine ⟨_, Up.refl _ _, ?_⟩
            have hr : rCommon p xs q ys = (xs.filter (memB ys), 0) := by unfold rCommon; rw [hs, hs']; simp [hpq]
            have := h H' _ (hp0.trans (hp12.trans hbl.1)) (by rw [hr]; exact (OwnBlocks.inn (OwnBlocks.of_ol hbl.2.1 (by omega)) hbl.2.2).wider (hp0.trans hp12).length_le)
            rwa [hr] at this
      · have hb : (p != q) = true := by simpa using hpq
        simp (maxSteps := 1000000) [go_sem, d1, e1, hb]
        exact bad H2 2 (hp1.trans hp2) (by simp [rCommon, hs, hs', hpq])

end Go.Proofs.Ytkgjdmbmdnmilaa
