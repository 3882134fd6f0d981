/- Full systems: both sides. -/
import Derived.Test.YtkgjdmbmdnmilaaGrid2
import Derived.Test.YtkgjdmbmdnmilaaShapes
set_option linter.all false
set_option maxRecDepth 20000
namespace Go.Proofs.Ytkgjdmbmdnmilaa
open Go.Ab

/-- Whether these blocks are a system. -/
noncomputable def sysB (p : Int) (bs : List Bk) : Bool := @decide (IsSys p bs) (Classical.propDecidable _)
theorem sysB_iff {p : Int} {bs : List Bk} : sysB p bs = true ↔ IsSys p bs := by simp [sysB]
theorem sysB_eq {p : Int} {bs : List Bk} {b : Bool} (h : b = true ↔ IsSys p bs) : b = sysB p bs := by
  cases hs : sysB p bs with
  | true => exact h.2 (sysB_iff.1 hs)
  | false =>
    cases b with
    | false => rfl
    | true => exact absurd (sysB_iff.2 (h.1 rfl)) (by simp [hs])

theorem implIsSys {H : Heap} {u : Value} {p : Int} {bs : List Bk} (hu : BlocksAt H u bs) (Post : Value → Heap → Prop) (h : ∀ H', H <+: H' → Post (.bool (sysB p bs)) H') :
    ACalls Try.prog 33 [sysV p u] H Post := implIsSystem_ok hu Post fun H' b hp hb => sysB_eq hb ▸ h H' hp
theorem l01Is' {H : Heap} {u : Value} {p : Int} {bs : List Bk} (hu : BlocksAt H u bs) (hl : bs.length ≤ 1048576) (Post : Value → Heap → Prop) (h : ∀ H', H <+: H' → Post (.bool (sysB p bs)) H') :
    ACalls Try.prog 91 [sysV p u] H Post := l01Is_ok hu hl Post fun H' b hp hb => sysB_eq hb ▸ h H' hp
theorem specIsSys {H : Heap} {u : Value} {p : Int} {bs : List Bk} (hu : BlocksAt H u bs) (hl : bs.length ≤ 1048576) (Post : Value → Heap → Prop) (h : ∀ H', H <+: H' → Post (.bool (sysB p bs)) H') :
    ACalls Try.prog 31 [sysV p u] H Post := specIsSystem_ok hu hl Post fun H' b hp hb => sysB_eq hb ▸ h H' hp

def fullB (p : Int) (bs : List Bk) : Bool := decide (6 * (bs.length : Int) = p * (p - 1))

theorem pp_bound {p : Int} (h : 3 ≤ p ∧ p ≤ 15) : 0 ≤ p * (p - 1) ∧ p * (p - 1) ≤ 225 := by
  obtain ⟨n, rfl⟩ : ∃ n : Nat, p = n := ⟨p.toNat, by omega⟩
  have : n = 3 ∨ n = 4 ∨ n = 5 ∨ n = 6 ∨ n = 7 ∨ n = 8 ∨ n = 9 ∨ n = 10 ∨ n = 11 ∨ n = 12 ∨ n = 13 ∨ n = 14 ∨ n = 15 := by omega
  rcases this with rfl | rfl | rfl | rfl | rfl | rfl | rfl | rfl | rfl | rfl | rfl | rfl | rfl <;> decide

theorem isFull_ok {H : Heap} {u : Value} {p : Int} {bs : List Bk} (hu : BlocksAt H u bs) (hp : 3 ≤ p ∧ p ≤ 15) (hl : bs.length ≤ 1048576) (Post : Value → Heap → Prop) (h : ∀ H', H <+: H' → Post (.bool (fullB p bs)) H') :
    ACalls Try.prog 95 [sysV p u] H Post := by
  obtain ⟨i, o, rfl, h1, h2⟩ := hu
  refine acalls_vc (rs := [.tmp 2]) Try.func95 rfl rfl Try.ntmps95 rfl rfl ?_
  have hb := pp_bound hp
  have w1 : IntKind.i64.wrap (6 * (bs.length : Int)) = 6 * (bs.length : Int) := i64w (by omega) (by omega)
  have w2 : IntKind.i64.wrap (p - 1) = p - 1 := i64w (by omega) (by omega)
  have w3 : IntKind.i64.wrap (p * (p - 1)) = p * (p - 1) := i64w (by omega) (by omega)
  have h := h _ (List.prefix_append H [⟨[.int .i64 p, lv 3 i o bs.length], true, true⟩])
  simp (maxSteps := 1000000) [go_sem, sysV, Value.oneCell', w1, w2, w3]
  exact h

theorem l01Full_ok {H : Heap} {u : Value} {p : Int} {bs : List Bk} (hu : BlocksAt H u bs) (hp : 3 ≤ p ∧ p ≤ 15) (hl : bs.length ≤ 1048576) (Post : Value → Heap → Prop) (h : ∀ H', H <+: H' → Post (.bool (fullB p bs)) H') :
    ACalls Try.prog 94 [sysV p u] H Post := by
  obtain ⟨i, o, rfl, h1, h2⟩ := hu
  refine acalls_vc (rs := [.tmp 2]) Try.func94 rfl rfl Try.ntmps94 rfl rfl ?_
  have hb := pp_bound hp
  have w1 : IntKind.i64.wrap (6 * (bs.length : Int)) = 6 * (bs.length : Int) := i64w (by omega) (by omega)
  have w2 : IntKind.i64.wrap (p - 1) = p - 1 := i64w (by omega) (by omega)
  have w3 : IntKind.i64.wrap (p * (p - 1)) = p * (p - 1) := i64w (by omega) (by omega)
  have h := h _ (List.prefix_append H [⟨[.int .i64 p, lv 3 i o bs.length], true, true⟩])
  simp (maxSteps := 1000000) [go_sem, sysV, Value.oneCell', w1, w2, w3]
  exact h

/-- A system value kept in a block. -/
theorem sysBox {H H' : Heap} {p : Int} {u : Value} (hp : H ++ [⟨[.int .i64 p, u], true, true⟩] <+: H') : cellsAt H' H.length 0 2 = some [.int .i64 p, u] ∧ cellsAt H' H.length 0 1 = some [.int .i64 p] ∧ cellsAt H' H.length 1 1 = some [u] := by
  have hb : H'[H.length]? = some ⟨[.int .i64 p, u], true, true⟩ := Same.get (S := fun _ => False) (Same.of_prefix hp) (by simp) (fun h => h)
  exact ⟨by simpa using Holds.cells (n := 2) (o := 0) ⟨true, hb⟩ (by simp), Holds.cell ⟨true, hb⟩ rfl, Holds.cell ⟨true, hb⟩ rfl⟩
theorem pre_box {H H' : Heap} {b : Blk} (hp : H ++ [b] <+: H') : H <+: H' := (List.prefix_append _ _).trans hp

noncomputable def rIsFull (p : Int) (bs : List Bk) : Bool × Int := if sysB p bs then (fullB p bs, 0) else (false, 1)

theorem implIsFull_ok {H : Heap} {u : Value} {p : Int} {bs : List Bk} (hu : BlocksAt H u bs) (hl : bs.length ≤ 1048576) (Post : Value → Heap → Prop) (h : ∀ H', H <+: H' → Post (.tuple #[.bool (rIsFull p bs).1, .int .i64 (rIsFull p bs).2]) H') :
    ACalls Try.prog 36 [sysV p u] H Post := by
  refine acalls_vc (rs := [.tmp 2, .tmp 3]) Try.func36 rfl rfl Try.ntmps36 rfl rfl ?_
  simp (maxSteps := 1000000) [go_sem, sysV, hu.one]
  refine implIsSys (hu.pre (List.prefix_append _ _)) _ ?_
  intro H1 hp1
  obtain ⟨d1, d2, d3⟩ := sysBox hp1
  cases hs : sysB p bs with
  | false =>
    simp (maxSteps := 1000000) [go_sem]
    simpa [rIsFull, hs] using h H1 (pre_box hp1)
  | true =>
    simp (maxSteps := 1000000) [go_sem, d1]
    refine isFull_ok (hu.pre (pre_box hp1)) (sysB_iff.1 hs).1 hl _ ?_
    intro H2 hp2
    simp (maxSteps := 1000000) [go_sem]
    simpa [rIsFull, hs] using h H2 ((pre_box hp1).trans hp2)

theorem specIsFull_ok {H : Heap} {u : Value} {p : Int} {bs : List Bk} (hu : BlocksAt H u bs) (hl : bs.length ≤ 1048576) (Post : Value → Heap → Prop) (h : ∀ H', H <+: H' → Post (.tuple #[.bool (rIsFull p bs).1, .int .i64 (rIsFull p bs).2]) H') :
    ACalls Try.prog 35 [sysV p u] H Post := by
  refine acalls_vc (rs := [.tmp 2, .tmp 3]) Try.func35 rfl rfl Try.ntmps35 rfl rfl ?_
  simp (maxSteps := 1000000) [go_sem, sysV, hu.one]
  refine l01Is' (hu.pre (List.prefix_append _ _)) hl _ ?_
  intro H1 hp1
  obtain ⟨d1, d2, d3⟩ := sysBox hp1
  cases hs : sysB p bs with
  | false =>
    simp (maxSteps := 1000000) [go_sem]
    simpa [rIsFull, hs] using h H1 (pre_box hp1)
  | true =>
    simp (maxSteps := 1000000) [go_sem, d1]
    refine l01Full_ok (hu.pre (pre_box hp1)) (sysB_iff.1 hs).1 hl _ ?_
    intro H2 hp2
    simp (maxSteps := 1000000) [go_sem]
    simpa [rIsFull, hs] using h H2 ((pre_box hp1).trans hp2)

end Go.Proofs.Ytkgjdmbmdnmilaa
