/- Colourings: the tests on both sides. -/
import Derived.Test.YtkgjdmbmdnmilaaColourDef
set_option linter.all false
set_option maxRecDepth 20000
set_option maxHeartbeats 8000000
namespace Go.Proofs.Ytkgjdmbmdnmilaa
open Go.Ab

theorem isColouring_ok {H : Heap} {u v : Value} {p : Int} {bs : List Bk} {xs : List Int} {st : Bool} (hu : BlocksAt H u bs) (hg : ∀ x ∈ bs, good p x = true) (hp : p ≤ 15) (hv : IntsAt H v xs) (Post : Value → Heap → Prop)
    (h : ∀ H', H <+: H' → Post (.bool (goodCol bs xs xs.length st)) H') : ACalls Try.prog 179 [sysV p u, v, .bool st] H Post := by
  obtain ⟨i, o, rfl, h1, h2⟩ := hu
  obtain ⟨j, q, rfl, h3, h4⟩ := hv
  refine acalls_vc (rs := [.tmp 6]) Try.func179 rfl rfl Try.ntmps179 rfl rfl ?_
  simp (maxSteps := 1000000) [go_sem, sysV]
  have hp0 : H <+: H ++ [⟨[.int .i64 p, lv 3 i o bs.length], true, true⟩] := List.prefix_append _ _
  generalize H ++ [(⟨[.int .i64 p, lv 3 i o bs.length], true, true⟩ : Blk)] = H0 at hp0 ⊢
  refine AWp.loopVc (fun s : Nat => [(1, lv 1 j q xs.length), (2, .bool st), (10, lv 3 i o bs.length), (11, .int .i64 bs.length), (12, .int .i64 s)])
    (fun s H' => s ≤ bs.length ∧ H0 <+: H' ∧ goodCol (bs.take s) xs xs.length st = true) (fun s => bs.length - s) 0 ?_ ?_ ?_
  · simp [upF, Fr.get, Up.refl]
  · exact ⟨by omega, List.prefix_refl _, by simp [goodCol]⟩
  · rintro K s H' ⟨hs, hp', hf⟩ hK
    by_cases hlt : s < bs.length
    · have hbs : bs[s]? = some bs[s] := List.getElem?_eq_getElem hlt
      have c1 := (h1.pre (hp0.trans hp')).bk hbs
      obtain ⟨a, b, c, hb, hab, hbc, hc⟩ := good_nat (hg _ (List.mem_of_getElem? hbs)) hp
      rw [hb] at c1 hbs
      simp only [Bk.cells] at c1
      have hw_s : IntKind.i64.wrap ((s : Int) + 1) = (s : Int) + 1 := i64w (by omega) (by omega)
      have hsn : goodCol (bs.take (s + 1)) xs xs.length st = (decide ((xs.length : Int) ≤ (c : Int)) || !bad3 (cAt xs a) (cAt xs b) (cAt xs c) st) := by
        unfold goodCol at hf ⊢
        rw [List.take_succ_eq_append_getElem hlt, hb, List.all_append, hf]; simp
      have hpb : H' <+: H' ++ [⟨[.int .i64 a, .int .i64 b, .int .i64 c], true, true⟩] := List.prefix_append _ _
      obtain ⟨e0, e1, e2, e3⟩ := (Holds.last H' [.int .i64 a, .int .i64 b, .int .i64 c]).bk
      simp (maxSteps := 1000000) [go_sem, hlt, c1]
      refine AWp.draw mixed [(0, false), (1, false), (2, false), (3, false), (4, false), (5, false), (6, false), (7, false), (8, false), (9, false), (10, false), (11, false), (12, false), (13, false), (14, false), (15, false), (16, false), (17, false), (18, false), (19, false), (20, false), (21, false), (22, false), (23, false), (24, false)] (by kernel_rfl) ?_
      by_cases hxc : c < xs.length
      · have hxa : a < xs.length := by omega
        have hxb : b < xs.length := by omega
        have f1 := cAt_load (h3.pre (hp0.trans (hp'.trans hpb))) hxa
        have f2 := cAt_load (h3.pre (hp0.trans (hp'.trans hpb))) hxb
        have f3 := cAt_load (h3.pre (hp0.trans (hp'.trans hpb))) hxc
        simp (maxSteps := 1000000) [go_sem, hxa, hxb, hxc, f1, f2, f3]
        refine isAllowed_ok _ ?_
        cases hb3 : bad3 (cAt xs a) (cAt xs b) (cAt xs c) st with
        | true =>
          simp (maxSteps := 1000000) [go_sem]
          have : goodCol bs xs xs.length st = false := by
            unfold goodCol
            rw [List.all_eq_false]
            exact ⟨⟨a, b, c⟩, List.mem_of_getElem? hbs, by simp [hb3]; omega⟩
          have := h _ (hp0.trans (hp'.trans hpb)) |> (this ▸ ·)
          exact this
        | false =>
          simp (maxSteps := 1000000) [go_sem, hw_s]
          exact hK (s + 1) _ _ (by omega) (by simp [upF, Fr.get, Up.refl]) ⟨by omega, hp'.trans hpb, by rw [hsn, hb3]; simp⟩
      · have hxc' : ¬ ((c : Int) < (xs.length : Int)) := by omega
        simp (maxSteps := 1000000) [go_sem, hxc, hxc', hw_s]
        exact hK (s + 1) _ _ (by omega) (by simp [upF, Fr.get, Up.refl]) ⟨by omega, hp'.trans hpb, by rw [hsn]; simp; left; omega⟩
    · have : s = bs.length := by omega
      subst this
      rw [List.take_length] at hf
      simp (maxSteps := 1000000) [go_sem]
      have := h H' (hp0.trans hp')
      rwa [hf] at this

/-- A function value that tells of numbers. -/
def TellsI (g : FuncId) (fs cs : List Value) (Q : Int → Prop) (P : Int → Bool) (H : Heap) : Prop :=
  ∀ (H' : Heap) (x : Int) (Post : Value → Heap → Prop), H <+: H' → Q x → (∀ H'', H' <+: H'' → Post (.bool (P x)) H'') → ACalls Try.prog g (fs ++ .int .i64 x :: cs) H' Post

/-- Where a list first has such a thing, or -1. -/
def IdxP {α : Type} (xs : List α) (P : α → Bool) (n : Int) : Prop := (n = -1 ∧ ∀ x ∈ xs, P x = false) ∨ ∃ (s : Nat) (x : α), n = s ∧ xs[s]? = some x ∧ P x = true ∧ ∀ y ∈ xs.take s, P y = false
theorem IdxP.pos {α : Type} {xs : List α} {P : α → Bool} {n : Int} (h : IdxP xs P n) : decide (0 ≤ n) = xs.any P := by
  rcases h with ⟨rfl, h⟩ | ⟨s, x, rfl, h, hP, _⟩
  · have : xs.any P = false := by rw [List.any_eq_false]; intro x hx; simp [h x hx]
    rw [this]; rfl
  · have : xs.any P = true := List.any_eq_true.2 ⟨x, List.mem_of_getElem? h, hP⟩
    rw [this]; simp

theorem indexFuncI_ok {H : Heap} {u : Value} {xs : List Int} {g : FuncId} {fs cs : List Value} {P : Int → Bool} (hu : IntsAt H u xs) (hf : TellsI g fs cs (· ∈ xs) P H) (Post : Value → Heap → Prop)
    (h : ∀ H' n, H <+: H' → IdxP xs P n → Post (.int .i64 n) H') : ACalls Try.prog 198 [u, .func (.func g) fs.toArray cs.toArray] H Post := by
  obtain ⟨i, o, rfl, h1, h2⟩ := hu
  refine acalls_vc (rs := [.tmp 4]) Try.func198 rfl rfl Try.ntmps198 rfl rfl ?_
  simp (maxSteps := 1000000) [go_sem]
  refine AWp.loopVc (fun s : Nat => [(0, lv 1 i o xs.length), (1, .func (.func g) fs.toArray cs.toArray), (7, .int .i64 xs.length), (8, .int .i64 s)])
    (fun s H' => s ≤ xs.length ∧ H <+: H' ∧ ∀ y ∈ xs.take s, P y = false) (fun s => xs.length - s) 0 ?_ ?_ ?_
  · simp [upF, Fr.get, Up.refl]
  · exact ⟨by omega, List.prefix_refl _, by simp⟩
  · rintro K s H' ⟨hs, hp, hall⟩ hK
    by_cases hlt : s < xs.length
    · have hx : xs[s]? = some xs[s] := List.getElem?_eq_getElem hlt
      have c1 := (h1.pre hp).cell (k := s) (v := .int .i64 xs[s]) (by simp [ints_get, hlt])
      have hw_s : IntKind.i64.wrap ((s : Int) + 1) = (s : Int) + 1 := i64w (by omega) (by omega)
      simp (maxSteps := 1000000) [go_sem, hlt, c1]
      refine hf H' xs[s] _ hp (List.getElem_mem hlt) ?_
      intro H2 hp2
      cases hP : P xs[s] with
      | true =>
        simp (maxSteps := 1000000) [go_sem]
        exact h H2 s (hp.trans hp2) (.inr ⟨s, xs[s], rfl, hx, hP, hall⟩)
      | false =>
        simp (maxSteps := 1000000) [go_sem, hw_s]
        refine hK (s + 1) _ _ (by omega) (by simp [upF, Fr.get, Up.refl]) ⟨by omega, hp.trans hp2, ?_⟩
        intro y hy
        rw [List.take_succ_eq_append_getElem hlt, List.mem_append] at hy
        rcases hy with hy | hy
        · exact hall y hy
        · simp at hy; subst hy; exact hP
    · have : s = xs.length := by omega
      subst this
      rw [List.take_length] at hall
      simp (maxSteps := 1000000) [go_sem]
      exact h H' (-1) hp (.inl ⟨rfl, hall⟩)

theorem containsFuncI_ok {H : Heap} {u : Value} {xs : List Int} {g : FuncId} {fs cs : List Value} {P : Int → Bool} (hu : IntsAt H u xs) (hf : TellsI g fs cs (· ∈ xs) P H) (Post : Value → Heap → Prop)
    (h : ∀ H', H <+: H' → Post (.bool (xs.any P)) H') : ACalls Try.prog 201 [u, .func (.func g) fs.toArray cs.toArray] H Post := by
  refine acalls_vc (rs := [.tmp 4]) Try.func201 rfl rfl Try.ntmps201 rfl rfl ?_
  simp (maxSteps := 1000000) [go_sem]
  refine indexFuncI_ok hu hf _ ?_
  intro H' n hp hn
  have e := hn.pos
  simp (maxSteps := 1000000) [go_sem, e]
  exact h H' hp

noncomputable def colCode (p : Int) (bs : List Bk) (k : Int) (xs : List Int) : Int :=
  if sysB p bs then (if (decide (1 ≤ k) && decide (k ≤ 6)) && (decide ((xs.length : Int) = p) && xs.all (inP k)) then 0 else 2) else 1
noncomputable def rColouring (p : Int) (bs : List Bk) (k : Int) (xs : List Int) (st : Bool) : Bool × Int :=
  if colCode p bs k xs = 0 then (goodCol bs xs xs.length st, 0) else (false, colCode p bs k xs)

theorem isColours_ok {H : Heap} {u v : Value} {p k : Int} {bs : List Bk} {xs : List Int} (hu : u.oneCell' = true) (hv : IntsAt H v xs) (Post : Value → Heap → Prop)
    (h : ∀ H', H <+: H' → Post (.bool ((decide (1 ≤ k) && decide (k ≤ 6)) && (decide ((xs.length : Int) = p) && xs.all (inP k)))) H') : ACalls Try.prog 178 [sysV p u, .int .i64 k, v] H Post := by
  obtain ⟨j, q, rfl, h3, h4⟩ := hv
  refine acalls_vc (rs := [.tmp 6]) Try.func178 rfl rfl Try.ntmps178 rfl rfl ?_
  simp (maxSteps := 1000000) [go_sem, sysV, hu]
  have hp0 : H <+: H ++ [⟨[.int .i64 p, u], true, true⟩, ⟨[.int .i64 k], true, true⟩] := List.prefix_append _ _
  have hx0 : Holds (H ++ [⟨[.int .i64 p, u], true, true⟩, ⟨[.int .i64 k], true, true⟩]) H.length [.int .i64 p, u] := ⟨true, by simp⟩
  have hx1 : Holds (H ++ [⟨[.int .i64 p, u], true, true⟩, ⟨[.int .i64 k], true, true⟩]) (H.length + 1) [.int .i64 k] := ⟨true, by simp⟩
  generalize H ++ [(⟨[.int .i64 p, u], true, true⟩ : Blk), ⟨[.int .i64 k], true, true⟩] = H0 at hp0 hx0 hx1 ⊢
  refine within_ok _ ?_
  cases hin : (decide (1 ≤ k) && decide (k ≤ 6)) with
  | false =>
    simp (maxSteps := 1000000) [go_sem]
    simpa [hin] using h H0 hp0
  | true =>
    obtain ⟨d0, d1, d2⟩ := hx0.sys
    by_cases hlen : (xs.length : Int) = p
    · have he : ((xs.length : Int) == p) = true := by simpa using hlen
      simp (maxSteps := 1000000) [go_sem, d1, he]
      refine containsFuncI_ok (fs := []) (cs := [.pointer (some ⟨H.length + 1, 0, none⟩)]) (P := fun x => !inP k x) ⟨j, q, rfl, h3.pre hp0, h4⟩ ?_ _ ?_
      · intro H' x Post' hp' _ hP
        simp only [List.nil_append]
        refine acalls_vc (rs := [.tmp 3]) Try.func202 rfl rfl Try.ntmps202 rfl rfl ?_
        have c1 : cellsAt H' (H.length + 1) 0 1 = some [.int .i64 k] := (hx1.pre hp').cell rfl
        have hk : 1 ≤ k ∧ k ≤ 6 := by simpa using hin
        have hw : IntKind.i64.wrap (k - 1) = k - 1 := i64w (by omega) (by omega)
        simp (maxSteps := 1000000) [go_sem, c1, hw]
        refine within_ok _ ?_
        simp (maxSteps := 1000000) [go_sem]
        simpa [inP] using hP H' (List.prefix_refl _)
      intro H' hp'
      simp (maxSteps := 1000000) [go_sem]
      have e : (!xs.any fun x => !inP k x) = xs.all (inP k) := by simp [List.any_eq_not_all_not]
      have hh := h H' (hp0.trans hp')
      rw [hin, decide_eq_true hlen, ← e] at hh
      simpa using hh
    · have he : ((xs.length : Int) == p) = false := by simpa using hlen
      simp (maxSteps := 1000000) [go_sem, d1, he]
      simpa [hin, hlen] using h H0 hp0

theorem colouringOf_ok {H : Heap} {u v : Value} {p k : Int} {bs : List Bk} {xs : List Int} {st : Bool} (hu : BlocksAt H u bs) (hv : IntsAt H v xs) (Post : Value → Heap → Prop)
    (h : ∀ H', H <+: H' → Post (.tuple #[.bool (rColouring p bs k xs st).1, .int .i64 (rColouring p bs k xs st).2]) H') : ACalls Try.prog 120 [sysV p u, .int .i64 k, v, .bool st] H Post := by
  refine acalls_vc (rs := [.tmp 8, .tmp 9]) Try.func120 rfl rfl Try.ntmps120 rfl rfl ?_
  simp (maxSteps := 1000000) [go_sem, sysV, hu.one]
  have hp0 : H <+: H ++ [⟨[.int .i64 p, u], true, true⟩] := List.prefix_append _ _
  have hx0 := Holds.last H [.int .i64 p, u]
  generalize H ++ [(⟨[.int .i64 p, u], true, true⟩ : Blk)] = H0 at hp0 hx0 ⊢
  refine implIsSys (hu.pre hp0) _ ?_
  intro H1 hp1
  obtain ⟨d0, d1, d2⟩ := (hx0.pre hp1).sys
  cases hs : sysB p bs with
  | false =>
    simp (maxSteps := 1000000) [go_sem]
    simpa [rColouring, colCode, hs] using h H1 (hp0.trans hp1)
  | true =>
    have hS := sysB_of hs
    simp (maxSteps := 1000000) [go_sem, d0]
    refine isColours_ok (bs := bs) hu.one (hv.pre (hp0.trans hp1)) _ ?_
    intro H2 hp2
    obtain ⟨d0, d1, d2⟩ := (hx0.pre (hp1.trans hp2)).sys
    cases hc : ((decide (1 ≤ k) && decide (k ≤ 6)) && (decide ((xs.length : Int) = p) && xs.all (inP k))) with
    | false =>
      simp (maxSteps := 1000000) [go_sem]
      have e : colCode p bs k xs = 2 := by unfold colCode; rw [hs, hc]; rfl
      simpa [rColouring, e] using h H2 (hp0.trans (hp1.trans hp2))
    | true =>
      simp (maxSteps := 1000000) [go_sem, d0]
      refine isColouring_ok (hu.pre (hp0.trans (hp1.trans hp2))) hS.good hS.1.2 (hv.pre (hp0.trans (hp1.trans hp2))) _ ?_
      intro H3 hp3
      simp (maxSteps := 1000000) [go_sem]
      have e : colCode p bs k xs = 0 := by unfold colCode; rw [hs, hc]; rfl
      simpa [rColouring, e] using h H3 (hp0.trans (hp1.trans (hp2.trans hp3)))

theorem l07Colours_ok {H : Heap} {u v : Value} {p k : Int} {bs : List Bk} {xs : List Int} (hu : BlocksAt H u bs) (hl : bs.length ≤ 1048576) (hv : IntsAt H v xs) (Post : Value → Heap → Prop)
    (h : ∀ H', H <+: H' → Post (.int .i64 (colCode p bs k xs)) H') : ACalls Try.prog 118 [sysV p u, .int .i64 k, v] H Post := by
  obtain ⟨j, q, rfl, h3, h4⟩ := hv
  refine acalls_vc (rs := [.tmp 6]) Try.func118 rfl rfl Try.ntmps118 rfl rfl ?_
  simp (maxSteps := 1000000) [go_sem, sysV, hu.one]
  have hp0 : H <+: H ++ [⟨[.int .i64 p, u], true, true⟩] := List.prefix_append _ _
  have hx0 := Holds.last H [.int .i64 p, u]
  generalize H ++ [(⟨[.int .i64 p, u], true, true⟩ : Blk)] = H0 at hp0 hx0 ⊢
  refine l01Is' (hu.pre hp0) hl _ ?_
  intro H1 hp1
  obtain ⟨d0, d1, d2⟩ := (hx0.pre hp1).sys
  have fin := h H1 (hp0.trans hp1)
  cases hs : sysB p bs with
  | false =>
    simp (maxSteps := 1000000) [go_sem]
    simpa [colCode, hs] using fin
  | true =>
    simp (maxSteps := 1000000) [go_sem]
    refine l01In_ok _ ?_
    cases hin : (decide (1 ≤ k) && decide (k ≤ 6)) with
    | false =>
      simp (maxSteps := 1000000) [go_sem]
      simpa [colCode, hs, hin] using fin
    | true =>
      have hk : 1 ≤ k ∧ k ≤ 6 := by simpa using hin
      by_cases hlen : (xs.length : Int) = p
      · have he : ((xs.length : Int) != p) = false := by simpa using hlen
        simp (maxSteps := 1000000) [go_sem, d1, he]
        refine AWp.loopVc (fun s : Nat => [(1, .int .i64 k), (2, lv 1 j q xs.length), (7, .int .i64 s)])
          (fun s H' => s ≤ xs.length ∧ H1 <+: H' ∧ (xs.take s).all (inP k) = true) (fun s => xs.length - s) 0 ?_ ?_ ?_
        · simp [upF, Fr.get, Up.refl]
        · exact ⟨by omega, List.prefix_refl _, by simp⟩
        · rintro K s H' ⟨hs', hp', hf⟩ hK
          by_cases hlt : s < xs.length
          · have c1 := (h3.pre (hp0.trans (hp1.trans hp'))).cell (k := s) (v := .int .i64 xs[s]) (by simp [ints_get, hlt])
            have hw_s : IntKind.i64.wrap ((s : Int) + 1) = (s : Int) + 1 := i64w (by omega) (by omega)
            have hw2 : IntKind.i64.wrap (k - 1) = k - 1 := i64w (by omega) (by omega)
            simp (maxSteps := 1000000) [go_sem, hlt, c1, hw2]
            refine l01In_ok _ ?_
            cases hi : inP k xs[s] with
            | true =>
              have hi' := hi
              unfold inP at hi'
              rw [hi']
              simp (maxSteps := 1000000) [go_sem, hw_s]
              refine hK (s + 1) _ _ (by omega) (by simp [upF, Fr.get, Up.refl]) ⟨by omega, hp', ?_⟩
              rw [List.take_succ_eq_append_getElem hlt, List.all_append, hf]; simp [hi]
            | false =>
              have hi' := hi
              unfold inP at hi'
              rw [hi']
              simp (maxSteps := 1000000) [go_sem]
              have ha : xs.all (inP k) = false := by rw [List.all_eq_false]; exact ⟨xs[s], List.getElem_mem hlt, by simp [hi]⟩
              have e : colCode p bs k xs = 2 := by unfold colCode; rw [hs, hin, ha]; simp
              have := h H' (hp0.trans (hp1.trans hp'))
              rwa [e] at this
          · have : s = xs.length := by omega
            subst this
            rw [List.take_length] at hf
            simp (maxSteps := 1000000) [go_sem]
            have e : colCode p bs k xs = 0 := by unfold colCode; rw [hs, hin, hf]; simp [hlen]
            have := h H' (hp0.trans (hp1.trans hp'))
            rwa [e] at this
      · have he : ((xs.length : Int) != p) = true := by simpa using hlen
        simp (maxSteps := 1000000) [go_sem, d1, he]
        have e : colCode p bs k xs = 2 := by unfold colCode; rw [hs, hin]; simp [hlen]
        rwa [e] at fin

end Go.Proofs.Ytkgjdmbmdnmilaa
