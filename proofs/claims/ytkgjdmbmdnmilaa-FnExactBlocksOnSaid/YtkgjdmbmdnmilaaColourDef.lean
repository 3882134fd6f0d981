/- Colours of three points. -/
import Derived.Test.YtkgjdmbmdnmilaaTake
set_option linter.all false
set_option maxRecDepth 20000
set_option maxHeartbeats 8000000
namespace Go.Proofs.Ytkgjdmbmdnmilaa
open Go.Ab

/-- Three colours that may not stand together. -/
def bad3 (p q r : Int) (st : Bool) : Bool := (p == q && q == r) || (st && (!(p == q) && (!(q == r) && !(p == r))))
def cAt (xs : List Int) (i : Int) : Int := xs.getD i.toNat 0
/-- All blocks below n are as told. -/
def goodCol (bs : List Bk) (xs : List Int) (n : Int) (st : Bool) : Bool := bs.all fun b => decide (n ≤ b.c) || !bad3 (cAt xs b.a) (cAt xs b.b) (cAt xs b.c) st

theorem cAt_load {H : Heap} {i o : Nat} {xs : List Int} (h : At H i o (ints xs)) {k : Nat} (hk : k < xs.length) : cellsAt H i (o + k) 1 = some [.int .i64 (cAt xs k)] := by
  refine h.cell ?_
  rw [ints_get, cAt, Int.toNat_natCast, List.getD_eq_getElem?_getD, List.getElem?_eq_getElem hk]; rfl

theorem isAllowed_ok {H : Heap} {p q r : Int} {st : Bool} (Post : Value → Heap → Prop) (h : Post (.bool (!bad3 p q r st)) H) :
    ACalls Try.prog 200 [.int .i64 p, .int .i64 q, .int .i64 r, .bool st] H Post := by
  refine acalls_vc (rs := [.tmp 8]) Try.func200 rfl rfl Try.ntmps200 rfl rfl ?_
  unfold bad3 at h
  obtain ⟨x1, hx1⟩ : ∃ x, (p == q) = x := ⟨_, rfl⟩
  obtain ⟨x2, hx2⟩ : ∃ x, (q == r) = x := ⟨_, rfl⟩
  obtain ⟨x3, hx3⟩ : ∃ x, (p == r) = x := ⟨_, rfl⟩
  rw [hx1, hx2, hx3] at h
  cases x1 <;> cases x2 <;> cases x3 <;> cases st <;> simp (maxSteps := 1000000) [go_sem, hx1, hx2, hx3] <;> exact h


end Go.Proofs.Ytkgjdmbmdnmilaa
