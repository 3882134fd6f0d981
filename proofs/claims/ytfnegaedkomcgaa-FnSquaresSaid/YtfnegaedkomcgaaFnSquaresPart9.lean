/- Part 9 of what the proof of the law FnSquares rests on: contracts of functions of the program, for every argument that each names; no statement of the seat is proved here. -/
import Derived.Test.YtfnegaedkomcgaaFnSquaresPart8

section
/- Kinds of squares: both sides. -/
set_option linter.all false
set_option maxRecDepth 20000
set_option maxHeartbeats 8000000
namespace Go.Proofs.Ytfnegaedkomcgaa
open Go.Ab Go.Sort

def commR (n : Nat) (sq : List (List Int)) (x y : Nat) : Bool := (List.range y).all fun y => atN sq x y == atN sq y x
def commP (n : Nat) (sq : List (List Int)) (x : Nat) : Bool := (List.range x).all fun x => commR n sq x n
def idemP (sq : List (List Int)) (x : Nat) : Bool := (List.range x).all fun x : Nat => atN sq x x == (x : Int)
def halfP (n : Nat) (sq : List (List Int)) (x : Nat) : Bool := (((n % 2 : Nat) : Int) == 0) && (List.range x).all fun x : Nat => atN sq x x == ((x % (n / 2) : Nat) : Int)
theorem commR_succ (n : Nat) (sq : List (List Int)) (x y : Nat) : commR n sq x (y + 1) = (commR n sq x y && (atN sq x y == atN sq y x)) := by simp [commR, List.range_succ]
theorem commP_succ (n : Nat) (sq : List (List Int)) (x : Nat) : commP n sq (x + 1) = (commP n sq x && commR n sq x n) := by simp [commP, List.range_succ]
theorem idemP_succ (sq : List (List Int)) (x : Nat) : idemP sq (x + 1) = (idemP sq x && (atN sq x x == (x : Int))) := by simp [idemP, List.range_succ]
theorem halfP_succ (n : Nat) (sq : List (List Int)) (x : Nat) : halfP n sq (x + 1) = (halfP n sq x && (atN sq x x == ((x % (n / 2) : Nat) : Int))) := by simp [halfP, List.range_succ, Bool.and_assoc]

theorem implKinds_ok {H : Heap} {i o : Nat} {sq : List (List Int)} (hu : IntssAt H (lv 1 i o sq.length) sq) (hS : IsSq sq) (Post : Value → Heap → Prop)
    (h : Post (.tuple #[.bool (commP sq.length sq sq.length), .bool (idemP sq sq.length), .bool (halfP sq.length sq sq.length)]) H) :
    ACalls Try.prog 21 [lv 1 i o sq.length] H Post := by
  have hrow := @sq_row H i o sq hu
  obtain ⟨hin, hr, hc⟩ := hS
  have hlen : ∀ x, x < sq.length → (rowN sq x).length = sq.length := fun x hx => by have := (hr x hx).1; omega
  obtain ⟨n, hn⟩ : ∃ n, sq.length = n := ⟨_, rfl⟩
  rw [hn] at hin hrow h hlen ⊢
  obtain ⟨m, hm⟩ : ∃ m, n / 2 = m := ⟨_, rfl⟩
  refine acalls_vc (rs := [.tmp 2, .tmp 3, .tmp 4]) Try.func21 rfl rfl Try.ntmps21 rfl rfl ?_
  have w2 : IntKind.i64.wrap ((n : Int) / 2) = (m : Int) := by rw [i64w (by omega) (by omega)]; omega
  have hmx : ¬ ((m : Int) < 1) := by omega
  have hmx2 : ¬ (m < 1) := by omega
  have hm0 : ¬ (m = 0) := by omega
  have e2 : (n : Int).tmod 2 = ((n % 2 : Nat) : Int) := by rw [Int.tmod_eq_emod_of_nonneg (by omega)]; omega
  simp (maxSteps := 1000000) [go_sem, w2, hmx, hmx2, e2]
  refine AWp.loopVc (St := Nat) (fun x => [(0, lv 1 i o n), (5, .int .i64 n), (6, .int .i64 m), (7, .bool (commP n sq x)), (8, .bool (idemP sq x)), (9, .bool (halfP n sq x)), (20, .int .i64 n), (21, .int .i64 x)])
    (fun x H' => x ≤ n ∧ H' = H) (fun x => n - x) 0 ?_ ?_ ?_
  · simp [upF, Fr.get, Up.refl, commP, idemP, halfP, e2]
  · exact ⟨by omega, rfl⟩
  · rintro K x H' ⟨hx, rfl⟩ hK
    by_cases hxn : x < n
    · obtain ⟨ix, ox, cx, hatx⟩ := hrow hxn (List.prefix_refl H')
      rw [hlen x hxn] at cx
      have lxx := sq_at hatx (y := x) (by rw [hlen x hxn]; exact hxn)
      have hw_x : IntKind.i64.wrap ((x : Int) + 1) = (x : Int) + 1 := i64w (by omega) (by omega)
      obtain ⟨C, hC⟩ : ∃ C, commP n sq x = C := ⟨_, rfl⟩
      obtain ⟨I, hI⟩ : ∃ I, idemP sq x = I := ⟨_, rfl⟩
      obtain ⟨F, hF⟩ : ∃ F, halfP n sq x = F := ⟨_, rfl⟩
      rw [hC, hI, hF]
      have xm : (x : Int).tmod (m : Int) = ((x % m : Nat) : Int) := by rw [Int.tmod_eq_emod_of_nonneg (by omega)]; rfl
      simp (maxSteps := 1000000) [go_sem, hxn]
      refine AWp.loopVc (St := Nat) (fun y => [(0, lv 1 i o n), (5, .int .i64 n), (6, .int .i64 m), (7, .bool (C && commR n sq x y)), (8, .bool (I)), (9, .bool (F)), (10, .int .i64 x), (20, .int .i64 n), (21, .int .i64 x), (24, .int .i64 n), (25, .int .i64 y)])
        (fun y H2 => y ≤ n ∧ H2 = H') (fun y => n - y) 0 ?_ ?_ ?_
      · simp [upF, Fr.get, Up.refl, commR]
      · exact ⟨by omega, rfl⟩
      · rintro K2 y H2 ⟨hy, rfl⟩ hK2
        by_cases hyn : y < n
        · obtain ⟨iy, oy, cy, haty⟩ := hrow hyn (List.prefix_refl H2)
          rw [hlen y hyn] at cy
          have lxy := sq_at hatx (y := y) (by rw [hlen x hxn]; exact hyn)
          have lyx := sq_at haty (y := x) (by rw [hlen y hyn]; exact hxn)
          have hw_y : IntKind.i64.wrap ((y : Int) + 1) = (y : Int) + 1 := i64w (by omega) (by omega)
          have hR := commR_succ n sq x y
          obtain ⟨R, hRe⟩ : ∃ R, (C && commR n sq x y) = R := ⟨_, rfl⟩
          have hR2 : (C && commR n sq x (y + 1)) = (R && (atN sq x y == atN sq y x)) := by rw [hR, ← Bool.and_assoc, hRe]
          rw [hRe]
          cases R with
          | true =>
            simp (maxSteps := 1000000) [go_sem, hyn, hxn]
            refine AWp.draw mixed [(0, false), (1, false), (2, false), (3, false), (4, false), (5, false), (6, false), (7, false), (8, false), (9, false), (10, false), (11, false), (12, false), (13, false), (14, false), (15, false), (16, false), (17, false), (18, false)] (by kernel_rfl) ?_
            simp (maxSteps := 1000000) [go_sem, hxn, hyn, cx, cy, lxy, lyx, hw_y]
            exact hK2 (y + 1) _ _ (by omega) (by simp only [hR2]; simp [upF, Fr.get, Up.refl]) ⟨by omega, rfl⟩
          | false =>
            simp (maxSteps := 1000000) [go_sem, hyn, hxn]
            refine AWp.draw mixed [(0, false), (1, false), (2, false), (3, false), (4, false), (5, false), (6, false), (7, false), (8, false), (9, false), (10, false), (11, false), (12, false), (13, false), (14, false), (15, false), (16, false), (17, false), (18, false)] (by kernel_rfl) ?_
            simp (maxSteps := 1000000) [go_sem, undef, hxn, hyn, hw_y]
            exact hK2 (y + 1) _ _ (by omega) (by simp only [hR2]; simp [upF, Fr.get, Up.refl]) ⟨by omega, rfl⟩
        · have : y = n := by omega
          subst this
          have hcs : commP y sq (x + 1) = (C && commR y sq x y) := by rw [commP_succ, hC]
          have his : idemP sq (x + 1) = (I && (atN sq x x == (x : Int))) := by rw [idemP_succ, hI]
          have hhs : halfP y sq (x + 1) = (F && (atN sq x x == ((x % m : Nat) : Int))) := by rw [halfP_succ, hF, hm]
          have fin := hK (x + 1)
          simp only [hcs, his, hhs] at fin
          generalize (C && commR y sq x y) = D at *
          cases I <;> cases F
          all_goals
            simp (maxSteps := 1000000) [go_sem, undef, hxn, cx, lxx]
            refine AWp.draw mixed [(0, false), (1, false), (2, false), (3, false), (4, false), (5, false), (6, false), (7, false), (8, false), (9, false), (10, false), (11, false), (12, false), (13, false), (14, false)] (by kernel_rfl) ?_
            simp (maxSteps := 1000000) [go_sem, undef, hxn, cx, lxx, w2, hm0, xm, hw_x]
            first
              | exact fin _ _ (by omega) (by simp [upF, Fr.get, Up.refl]) ⟨by omega, rfl⟩
              | exact andK_intro (by omega) (fin _ _ (by omega) (by simp [upF, Fr.get, Up.refl]) ⟨by omega, rfl⟩)
    · have : x = n := by omega
      subst this
      simp (maxSteps := 1000000) [go_sem]
      exact h

theorem specKinds_ok {H : Heap} {i o : Nat} {sq : List (List Int)} (hu : IntssAt H (lv 1 i o sq.length) sq) (hS : IsSq sq) (Post : Value → Heap → Prop)
    (h : Post (.tuple #[.bool (commP sq.length sq sq.length), .bool (idemP sq sq.length), .bool (halfP sq.length sq sq.length)]) H) :
    ACalls Try.prog 24 [lv 1 i o sq.length] H Post := by
  have hrow := @sq_row H i o sq hu
  obtain ⟨hin, hr, hc⟩ := hS
  have hlen : ∀ x, x < sq.length → (rowN sq x).length = sq.length := fun x hx => by have := (hr x hx).1; omega
  obtain ⟨n, hn⟩ : ∃ n, sq.length = n := ⟨_, rfl⟩
  rw [hn] at hin hrow h hlen ⊢
  obtain ⟨m, hm⟩ : ∃ m, n / 2 = m := ⟨_, rfl⟩
  refine acalls_vc (rs := [.tmp 2, .tmp 3, .tmp 4]) Try.func24 rfl rfl Try.ntmps24 rfl rfl ?_
  have w2 : IntKind.i64.wrap ((n : Int) / 2) = (m : Int) := by rw [i64w (by omega) (by omega)]; omega
  have hmx : ¬ ((m : Int) < 1) := by omega
  have hmx2 : ¬ (m < 1) := by omega
  have hm0 : ¬ (m = 0) := by omega
  have e2 : (n : Int).tmod 2 = ((n % 2 : Nat) : Int) := by rw [Int.tmod_eq_emod_of_nonneg (by omega)]; omega
  simp (maxSteps := 1000000) [go_sem, w2, hmx, hmx2, e2]
  refine AWp.loopVc (St := Nat) (fun x => [(0, lv 1 i o n), (5, .int .i64 n), (6, .bool (commP n sq x)), (7, .bool (idemP sq x)), (8, .bool (halfP n sq x)), (9, .int .i64 x)])
    (fun x H' => x ≤ n ∧ H' = H) (fun x => n - x) 0 ?_ ?_ ?_
  · simp [upF, Fr.get, Up.refl, commP, idemP, halfP, e2]
  · exact ⟨by omega, rfl⟩
  · rintro K x H' ⟨hx, rfl⟩ hK
    by_cases hxn : x < n
    · obtain ⟨ix, ox, cx, hatx⟩ := hrow hxn (List.prefix_refl H')
      rw [hlen x hxn] at cx
      have lxx := sq_at hatx (y := x) (by rw [hlen x hxn]; exact hxn)
      have hw_x : IntKind.i64.wrap ((x : Int) + 1) = (x : Int) + 1 := i64w (by omega) (by omega)
      obtain ⟨C, hC⟩ : ∃ C, commP n sq x = C := ⟨_, rfl⟩
      obtain ⟨I, hI⟩ : ∃ I, idemP sq x = I := ⟨_, rfl⟩
      obtain ⟨F, hF⟩ : ∃ F, halfP n sq x = F := ⟨_, rfl⟩
      rw [hC, hI, hF]
      have xm : (x : Int).tmod (m : Int) = ((x % m : Nat) : Int) := by rw [Int.tmod_eq_emod_of_nonneg (by omega)]; rfl
      simp (maxSteps := 1000000) [go_sem, hxn]
      refine AWp.loopVc (St := Nat) (fun y => [(0, lv 1 i o n), (5, .int .i64 n), (6, .bool (C && commR n sq x y)), (7, .bool (I)), (8, .bool (F)), (9, .int .i64 x), (10, .int .i64 y)])
        (fun y H2 => y ≤ n ∧ H2 = H') (fun y => n - y) 0 ?_ ?_ ?_
      · simp [upF, Fr.get, Up.refl, commR]
      · exact ⟨by omega, rfl⟩
      · rintro K2 y H2 ⟨hy, rfl⟩ hK2
        by_cases hyn : y < n
        · obtain ⟨iy, oy, cy, haty⟩ := hrow hyn (List.prefix_refl H2)
          rw [hlen y hyn] at cy
          have lxy := sq_at hatx (y := y) (by rw [hlen x hxn]; exact hyn)
          have lyx := sq_at haty (y := x) (by rw [hlen y hyn]; exact hxn)
          have hw_y : IntKind.i64.wrap ((y : Int) + 1) = (y : Int) + 1 := i64w (by omega) (by omega)
          have hR := commR_succ n sq x y
          obtain ⟨R, hRe⟩ : ∃ R, (C && commR n sq x y) = R := ⟨_, rfl⟩
          have hR2 : (C && commR n sq x (y + 1)) = (R && (atN sq x y == atN sq y x)) := by rw [hR, ← Bool.and_assoc, hRe]
          rw [hRe]
          cases R with
          | true =>
            simp (maxSteps := 1000000) [go_sem, hyn, hxn]
            refine AWp.draw mixed [(0, false), (1, false), (2, false), (3, false), (4, false), (5, false), (6, false), (7, false), (8, false), (9, false), (10, false), (11, false), (12, false), (13, false), (14, false), (15, false), (16, false), (17, false), (18, false)] (by kernel_rfl) ?_
            simp (maxSteps := 1000000) [go_sem, hxn, hyn, cx, cy, lxy, lyx, hw_y]
            exact hK2 (y + 1) _ _ (by omega) (by simp only [hR2]; simp [upF, Fr.get, Up.refl]) ⟨by omega, rfl⟩
          | false =>
            simp (maxSteps := 1000000) [go_sem, hyn, hxn]
            refine AWp.draw mixed [(0, false), (1, false), (2, false), (3, false), (4, false), (5, false), (6, false), (7, false), (8, false), (9, false), (10, false), (11, false), (12, false), (13, false), (14, false), (15, false), (16, false), (17, false), (18, false)] (by kernel_rfl) ?_
            simp (maxSteps := 1000000) [go_sem, undef, hxn, hyn, hw_y]
            exact hK2 (y + 1) _ _ (by omega) (by simp only [hR2]; simp [upF, Fr.get, Up.refl]) ⟨by omega, rfl⟩
        · have : y = n := by omega
          subst this
          have hcs : commP y sq (x + 1) = (C && commR y sq x y) := by rw [commP_succ, hC]
          have his : idemP sq (x + 1) = (I && (atN sq x x == (x : Int))) := by rw [idemP_succ, hI]
          have hhs : halfP y sq (x + 1) = (F && (atN sq x x == ((x % m : Nat) : Int))) := by rw [halfP_succ, hF, hm]
          have fin := hK (x + 1)
          simp only [hcs, his, hhs] at fin
          generalize (C && commR y sq x y) = D at *
          cases I <;> cases F
          all_goals
            simp (maxSteps := 1000000) [go_sem, undef, hxn, cx, lxx]
            refine AWp.draw mixed [(0, false), (1, false), (2, false), (3, false), (4, false), (5, false), (6, false), (7, false), (8, false), (9, false), (10, false), (11, false), (12, false), (13, false), (14, false), (15, false)] (by kernel_rfl) ?_
            simp (maxSteps := 1000000) [go_sem, undef, hxn, cx, lxx, w2, hm0, xm, hw_x]
            first
              | exact fin _ _ (by omega) (by simp [upF, Fr.get, Up.refl]) ⟨by omega, rfl⟩
              | exact andK_intro (by omega) (fin _ _ (by omega) (by simp [upF, Fr.get, Up.refl]) ⟨by omega, rfl⟩)
    · have : x = n := by omega
      subst this
      simp (maxSteps := 1000000) [go_sem]
      exact h

end Go.Proofs.Ytfnegaedkomcgaa
end

section
/- SquareKinds: both sides. -/
set_option linter.all false
set_option maxRecDepth 20000
set_option maxHeartbeats 8000000
namespace Go.Proofs.Ytfnegaedkomcgaa
open Go.Ab Go.Sort

def bitB (b : Bool) : Int := if b then 1 else 0
theorem implOne_ok {H : Heap} {b : Bool} (Post : Value → Heap → Prop) (h : Post (.int .i64 (bitB b)) H) : ACalls Try.prog 33 [.bool b] H Post := by
  refine acalls_vc (rs := [.tmp 2]) Try.func33 rfl rfl Try.ntmps33 rfl rfl ?_
  cases b <;> (simp (maxSteps := 1000000) [go_sem]; exact h)
theorem specOne_ok {H : Heap} {b : Bool} (Post : Value → Heap → Prop) (h : Post (.int .i64 (bitB b)) H) : ACalls Try.prog 34 [.bool b] H Post := by
  refine acalls_vc (rs := [.tmp 2]) Try.func34 rfl rfl Try.ntmps34 rfl rfl ?_
  cases b <;> (simp (maxSteps := 1000000) [go_sem]; exact h)
noncomputable def rKinds (sq : List (List Int)) : List Int × Int := if sqB sq then ([bitB (commP sq.length sq sq.length), bitB (idemP sq sq.length), bitB (halfP sq.length sq sq.length)], 0) else ([], 2)
theorem implSquareKinds_ok {H : Heap} {u : Value} {sq : List (List Int)} (hu : IntssAt H u sq) (hl : sq.length + sq.flatten.length ≤ 1048576) (h64 : ∀ xs ∈ sq, ∀ x ∈ xs, In64 x) (Post : Value → Heap → Prop)
    (h : ∀ H' w, H <+: H' → IntsIn H.length H'.length H' w (rKinds sq).1 → Post (.tuple #[w, .int .i64 (rKinds sq).2]) H') :
    ACalls Try.prog 11 [u] H Post := by
  obtain ⟨i, o, rfl⟩ : ∃ i o, u = lv 1 i o sq.length := by obtain ⟨i, o, _, e, _⟩ := hu; exact ⟨i, o, e⟩
  refine ACalls.res ?_
  refine acalls_vc (rs := [.tmp 2, .tmp 3]) Try.func11 rfl rfl Try.ntmps11 rfl rfl ?_
  simp (maxSteps := 1000000) [go_sem]
  refine implIsSquare_ok hu hl h64 _ ?_
  intro H1 hp1
  cases hs : sqB sq with
  | false =>
    have hr : rKinds sq = ([], 2) := by rw [rKinds, hs]; rfl
    have fin := h H1 (lv 1 0 0 0) hp1 (by rw [hr]; exact IntsIn.nil _ _ _)
    rw [hr] at fin
    simp (maxSteps := 1000000) [go_sem]
    exact ⟨_, Up.tuple (ys := #[lv 1 0 0 0, .int .i64 2]) ⟨Up.nil _ _ _ _, Up.refl _ _, trivial⟩, fin⟩
  | true =>
    have hr : rKinds sq = ([bitB (commP sq.length sq sq.length), bitB (idemP sq sq.length), bitB (halfP sq.length sq sq.length)], 0) := by rw [rKinds, hs]; rfl
    rw [hr] at h
    simp (maxSteps := 1000000) [go_sem]
    refine implKinds_ok (hu.pre hp1) (sqB_iff.1 hs) _ ?_
    generalize commP sq.length sq sq.length = a at *
    generalize idemP sq sq.length = b at *
    generalize halfP sq.length sq sq.length = c at *
    simp (maxSteps := 1000000) [go_sem]
    refine implOne_ok _ ?_
    simp (maxSteps := 1000000) [go_sem]
    refine implOne_ok _ ?_
    simp (maxSteps := 1000000) [go_sem]
    refine implOne_ok _ ?_
    have hp2 : H1 <+: H1 ++ [⟨[.int .i64 (bitB a), .int .i64 (bitB b), .int .i64 (bitB c)], true, true⟩] := List.prefix_append _ _
    have hb : (H1 ++ [(⟨[.int .i64 (bitB a), .int .i64 (bitB b), .int .i64 (bitB c)], true, true⟩ : Blk)])[H1.length]? = some ⟨ints [bitB a, bitB b, bitB c], true, true⟩ := by simp [ints]
    have hlen : (H1 ++ [(⟨[.int .i64 (bitB a), .int .i64 (bitB b), .int .i64 (bitB c)], true, true⟩ : Blk)]).length = H1.length + 1 := by simp
    have fin := h (H1 ++ [⟨[.int .i64 (bitB a), .int .i64 (bitB b), .int .i64 (bitB c)], true, true⟩]) (lv 1 H1.length 0 3) (hp1.trans hp2) ⟨H1.length, ⟨rfl, .inr hb, by simp⟩, fun _ => ⟨hp1.length_le, by rw [hlen]; omega⟩⟩
    have hup : Up (H1 ++ [⟨[.int .i64 (bitB a), .int .i64 (bitB b), .int .i64 (bitB c)], true, true⟩]) (.slice (some ⟨H1.length, 0, none⟩) 3 3) (lv 1 H1.length 0 3) := Up.ex (by omega) (.inr (by rw [cellsAt_of hb rfl (by simp [ints])]; rfl))
    generalize bitB a = A at *
    generalize bitB b = B at *
    generalize bitB c = C at *
    simp (maxSteps := 1000000) [go_sem]
    exact ⟨_, Up.tuple (ys := #[lv 1 H1.length 0 3, .int .i64 0]) ⟨hup, Up.refl _ _, trivial⟩, fin⟩

theorem specSquareKinds_ok {H : Heap} {u : Value} {sq : List (List Int)} (hu : IntssAt H u sq) (hl : sq.length + sq.flatten.length ≤ 1048576) (h64 : ∀ xs ∈ sq, ∀ x ∈ xs, In64 x) (Post : Value → Heap → Prop)
    (h : ∀ H' w, H <+: H' → IntsIn H.length H'.length H' w (rKinds sq).1 → Post (.tuple #[w, .int .i64 (rKinds sq).2]) H') :
    ACalls Try.prog 12 [u] H Post := by
  obtain ⟨i, o, rfl⟩ : ∃ i o, u = lv 1 i o sq.length := by obtain ⟨i, o, _, e, _⟩ := hu; exact ⟨i, o, e⟩
  refine ACalls.res ?_
  refine acalls_vc (rs := [.tmp 2, .tmp 3]) Try.func12 rfl rfl Try.ntmps12 rfl rfl ?_
  simp (maxSteps := 1000000) [go_sem]
  refine l02Square_ok hu hl _ ?_
  intro H1 hp1
  cases hs : sqB sq with
  | false =>
    have hr : rKinds sq = ([], 2) := by rw [rKinds, hs]; rfl
    have fin := h H1 (lv 1 0 0 0) hp1 (by rw [hr]; exact IntsIn.nil _ _ _)
    rw [hr] at fin
    simp (maxSteps := 1000000) [go_sem]
    exact ⟨_, Up.tuple (ys := #[lv 1 0 0 0, .int .i64 2]) ⟨Up.nil _ _ _ _, Up.refl _ _, trivial⟩, fin⟩
  | true =>
    have hr : rKinds sq = ([bitB (commP sq.length sq sq.length), bitB (idemP sq sq.length), bitB (halfP sq.length sq sq.length)], 0) := by rw [rKinds, hs]; rfl
    rw [hr] at h
    simp (maxSteps := 1000000) [go_sem]
    refine specKinds_ok (hu.pre hp1) (sqB_iff.1 hs) _ ?_
    generalize commP sq.length sq sq.length = a at *
    generalize idemP sq sq.length = b at *
    generalize halfP sq.length sq sq.length = c at *
    simp (maxSteps := 1000000) [go_sem]
    refine specOne_ok _ ?_
    simp (maxSteps := 1000000) [go_sem]
    refine specOne_ok _ ?_
    simp (maxSteps := 1000000) [go_sem]
    refine specOne_ok _ ?_
    have hp2 : H1 <+: H1 ++ [⟨[.int .i64 (bitB a), .int .i64 (bitB b), .int .i64 (bitB c)], true, true⟩] := List.prefix_append _ _
    have hb : (H1 ++ [(⟨[.int .i64 (bitB a), .int .i64 (bitB b), .int .i64 (bitB c)], true, true⟩ : Blk)])[H1.length]? = some ⟨ints [bitB a, bitB b, bitB c], true, true⟩ := by simp [ints]
    have hlen : (H1 ++ [(⟨[.int .i64 (bitB a), .int .i64 (bitB b), .int .i64 (bitB c)], true, true⟩ : Blk)]).length = H1.length + 1 := by simp
    have fin := h (H1 ++ [⟨[.int .i64 (bitB a), .int .i64 (bitB b), .int .i64 (bitB c)], true, true⟩]) (lv 1 H1.length 0 3) (hp1.trans hp2) ⟨H1.length, ⟨rfl, .inr hb, by simp⟩, fun _ => ⟨hp1.length_le, by rw [hlen]; omega⟩⟩
    have hup : Up (H1 ++ [⟨[.int .i64 (bitB a), .int .i64 (bitB b), .int .i64 (bitB c)], true, true⟩]) (.slice (some ⟨H1.length, 0, none⟩) 3 3) (lv 1 H1.length 0 3) := Up.ex (by omega) (.inr (by rw [cellsAt_of hb rfl (by simp [ints])]; rfl))
    generalize bitB a = A at *
    generalize bitB b = B at *
    generalize bitB c = C at *
    simp (maxSteps := 1000000) [go_sem]
    exact ⟨_, Up.tuple (ys := #[lv 1 H1.length 0 3, .int .i64 0]) ⟨hup, Up.refl _ _, trivial⟩, fin⟩

end Go.Proofs.Ytfnegaedkomcgaa
end

section
/- Threefold systems in plain terms: the blocks in two orders. Plain Lean. -/
set_option linter.all false
set_option maxRecDepth 20000
namespace Go.Proofs.Ytfnegaedkomcgaa
open Go.Ab Go.Sort

def plcN (n i x : Nat) : Nat := n * (i % 3) + x
theorem plcN_le {n i x b : Nat} (hn : n ≤ 5) (hx : x ≤ b) : plcN n i x ≤ 10 + b := by
  have h1 : n * (i % 3) ≤ 5 * 2 := Nat.mul_le_mul hn (by omega)
  unfold plcN; omega
def levN (n : Nat) (idem : Bool) : Nat := if idem then n else n / 2
def ptsN (n : Nat) (idem : Bool) : Nat := if idem then 3 * n else 3 * n + 1
def eB (n lev x i : Nat) : Bk := blk ((3 * n : Nat) : Int) (plcN n i (lev + x) : Nat) (plcN n (i + 1) x : Nat)
def wB (n x : Nat) : Bk := blk (plcN n 0 x : Nat) (plcN n 1 x : Nat) (plcN n 2 x : Nat)
def pB (n : Nat) (sq : List (List Int)) (i x y : Nat) : Bk := blk (plcN n i x : Nat) (plcN n i y : Nat) ((plcN n (i + 1) 0 : Nat) + atN sq x y)
def pRow (n : Nat) (sq : List (List Int)) (i x : Nat) : List Bk := (upTo (x + 1) n).map (pB n sq i x)
def pAll (n : Nat) (sq : List (List Int)) (i : Nat) : List Bk := (List.range n).flatMap (pRow n sq i)
def eRow (n lev x : Nat) : List Bk := (List.range 3).map (eB n lev x)
def implT (n : Nat) (sq : List (List Int)) (idem : Bool) : List Bk :=
  (if idem then [] else (List.range (levN n idem)).flatMap (eRow n (levN n idem))) ++ (List.range (levN n idem)).map (wB n) ++ (List.range 3).flatMap (pAll n sq)
def xRow (n : Nat) (idem : Bool) (i x : Nat) : List Bk := if !idem && decide (x < n / 2) then [eB n (n / 2) x i] else []
def sRow (n : Nat) (sq : List (List Int)) (idem : Bool) (i x : Nat) : List Bk := pRow n sq i x ++ xRow n idem i x
def specT (n : Nat) (sq : List (List Int)) (idem : Bool) : List Bk :=
  (List.range (levN n idem)).map (wB n) ++ (List.range 3).flatMap fun i => (List.range n).flatMap (sRow n sq idem i)

theorem flat_twoP {α β : Type} (f g : α → List β) : ∀ l : List α, (l.flatMap fun x => f x ++ g x).Perm (l.flatMap f ++ l.flatMap g)
  | [] => List.Perm.refl _
  | x :: l => by
    simp only [List.flatMap_cons]
    have ih := flat_twoP f g l
    refine ((ih.append_left (f x ++ g x))).trans ?_
    rw [List.append_assoc, List.append_assoc]
    refine List.Perm.append_left (f x) ?_
    rw [← List.append_assoc, ← List.append_assoc]
    exact List.perm_append_comm.append_right _
theorem flat_perm {α β : Type} {f g : α → List β} (h : ∀ x, (f x).Perm (g x)) : ∀ l : List α, (l.flatMap f).Perm (l.flatMap g)
  | [] => List.Perm.refl _
  | x :: l => by
    simp only [List.flatMap_cons]
    exact (h x).append (flat_perm h l)
theorem flat_nil {α β : Type} : ∀ l : List α, (l.flatMap fun _ => ([] : List β)) = []
  | [] => rfl
  | _ :: l => by rw [List.flatMap_cons, flat_nil l]; rfl
/-- Two ranges may change their places. -/
theorem flat_swap {α β γ : Type} (f : α → β → List γ) : ∀ (l : List α) (m : List β), (l.flatMap fun x => m.flatMap (f x)).Perm (m.flatMap fun y => l.flatMap fun x => f x y)
  | [], m => by simp [flat_nil]
  | x :: l, m => by
    simp only [List.flatMap_cons]
    exact ((flat_swap f l m).append_left _).trans (flat_twoP (f x) (fun y => l.flatMap fun x => f x y) m).symm
theorem map_flat {α β : Type} (f : α → β) (l : List α) : l.map f = l.flatMap fun x => [f x] := by
  induction l with
  | nil => rfl
  | cons x l ih => rw [List.map_cons, List.flatMap_cons, ih]; rfl
theorem flat_cut_range {β : Type} (f : Nat → β) {k : Nat} : ∀ {n : Nat}, k ≤ n → ((List.range n).flatMap fun x => if x < k then [f x] else []) = (List.range k).map f
  | 0, h => by obtain rfl : k = 0 := by omega
               rfl
  | n + 1, h => by
    rw [List.range_succ, List.flatMap_append]
    by_cases e : k = n + 1
    · subst e
      rw [List.range_succ, List.map_append]
      congr 1
      · have : ((List.range n).flatMap fun x => if x < n + 1 then [f x] else []) = (List.range n).flatMap fun x => [f x] := by
          rw [List.flatMap_def, List.flatMap_def]
          congr 1
          apply List.map_congr_left
          intro x hx
          rw [if_pos (by have := List.mem_range.1 hx; omega)]
        rw [this, ← map_flat]
      · simp
    · rw [flat_cut_range f (n := n) (by omega)]
      simp; omega

theorem implT_perm (n : Nat) (sq : List (List Int)) (idem : Bool) : (implT n sq idem).Perm (specT n sq idem) := by
  have h1 : (specT n sq idem).Perm ((List.range (levN n idem)).map (wB n) ++ ((List.range 3).flatMap (pAll n sq) ++ (List.range 3).flatMap fun i => (List.range n).flatMap (xRow n idem i))) := by
    unfold specT
    refine List.Perm.append_left _ ?_
    refine List.Perm.trans ?_ (flat_twoP _ _ _)
    exact flat_perm (fun i => flat_twoP _ _ _) _
  refine List.Perm.trans ?_ h1.symm
  unfold implT
  cases idem with
  | true =>
    have : ((List.range 3).flatMap fun i => (List.range n).flatMap (xRow n true i)) = [] := by
      have : ∀ i, (List.range n).flatMap (xRow n true i) = [] := fun i => by
        have : xRow n true i = fun _ => [] := by funext x; simp [xRow]
        rw [this, flat_nil]
      simp only [this, flat_nil]
    rw [this]
    simp
  | false =>
    have hx : ∀ i, (List.range n).flatMap (xRow n false i) = (List.range (n / 2)).map fun x => eB n (n / 2) x i := fun i => by
      have : xRow n false i = fun x => if x < n / 2 then [eB n (n / 2) x i] else [] := by funext x; simp [xRow]
      rw [this, flat_cut_range _ (by omega)]
    have he : ((List.range (levN n false)).flatMap (eRow n (levN n false))).Perm ((List.range 3).flatMap fun i => (List.range n).flatMap (xRow n false i)) := by
      simp only [hx]
      simp only [map_flat]
      refine (?_ : List.Perm _ _).trans (flat_swap (fun x i => [eB n (n / 2) x i]) (List.range (n / 2)) (List.range 3))
      have : eRow n (levN n false) = fun x => (List.range 3).flatMap fun i => [eB n (n / 2) x i] := by
        funext x
        rw [eRow, map_flat]; rfl
      rw [this]
      exact List.Perm.refl _
    simp only [Bool.false_eq_true, if_false]
    refine ((he.append_right _).append_right _).trans ?_
    refine (List.perm_append_comm.append_right _).trans ?_
    rw [List.append_assoc]
    exact List.Perm.append_left _ List.perm_append_comm
theorem implT_sort (n : Nat) (sq : List (List Int)) (idem : Bool) : sortB (implT n sq idem) = sortB (specT n sq idem) :=
  sort_uniq ((sortB_perm _ _ rfl).trans (implT_perm n sq idem)) (sortB_sorted _ _ rfl)
noncomputable def rThree (sq : List (List Int)) : (Int × List Bk) × Int :=
  if sqB sq then (if commP sq.length sq sq.length && (idemP sq sq.length || halfP sq.length sq sq.length)
    then (((ptsN sq.length (idemP sq sq.length) : Nat), sortB (specT sq.length sq (idemP sq sq.length))), 0) else ((0, []), 5)) else ((0, []), 2)

end Go.Proofs.Ytfnegaedkomcgaa
end

section
/- Threefold systems are full systems: by a search through all squares that are commutative, and idempotent or half idempotent. Plain Lean. -/
set_option linter.all false
set_option maxRecDepth 20000
namespace Go.Proofs.Ytfnegaedkomcgaa
open Go.Ab Go.Sort

def words (n : Nat) : Nat → List (List Int)
  | 0 => [[]]
  | k + 1 => (words n k).flatMap fun w => (List.range n).map fun (x : Nat) => (x : Int) :: w
theorem mem_words {n : Nat} : ∀ {k : Nat} {xs : List Int}, xs.length = k → (∀ x ∈ xs, 0 ≤ x ∧ x < n) → xs ∈ words n k
  | 0, xs, hl, _ => by
    have := List.eq_nil_of_length_eq_zero hl
    subst this; simp [words]
  | k + 1, [], hl, _ => by simp at hl
  | k + 1, x :: xs, hl, h => by
    have h0 := h x (by simp)
    simp only [words, List.mem_flatMap, List.mem_map, List.mem_range]
    exact ⟨xs, mem_words (by simpa using hl) (fun y hy => h y (by simp [hy])), x.toNat, by omega, by rw [Int.toNat_of_nonneg h0.1]⟩
def nodupI : List Int → Bool
  | [] => true
  | x :: xs => xs.all (fun y => decide (x ≠ y)) && nodupI xs
theorem nodupI_of : ∀ {xs : List Int}, xs.Nodup → nodupI xs = true
  | [], _ => rfl
  | x :: xs, h => by
    rw [List.nodup_cons] at h
    simp only [nodupI, Bool.and_eq_true, List.all_eq_true, decide_eq_true_eq]
    exact ⟨fun y hy e => h.1 (e ▸ hy), nodupI_of h.2⟩
def permsN (n : Nat) : List (List Int) := (words n n).filter nodupI
theorem mem_permsN {n : Nat} {xs : List Int} (h : OrdL n xs) : xs ∈ permsN n := by
  obtain ⟨h1, h2, h3⟩ := h
  exact List.mem_filter.2 ⟨mem_words (by omega) h3, nodupI_of h2⟩

/-- All squares whose rows are of a list and pass a test. -/
def goSq (ps : List (List Int)) (ok : List (List Int) → List Int → Bool) (fin : List (List Int) → Bool) : Nat → List (List Int) → Bool
  | 0, rows => fin rows
  | k + 1, rows => ps.all fun r => if ok rows r then goSq ps ok fin k (rows ++ [r]) else true
theorem goSq_all {ps : List (List Int)} {ok : List (List Int) → List Int → Bool} {fin : List (List Int) → Bool} : ∀ (k : Nat) (rows more : List (List Int)), goSq ps ok fin k rows = true → more.length = k → (∀ r ∈ more, r ∈ ps) →
    (∀ (j : Nat) (r : List Int), more[j]? = some r → ok (rows ++ more.take j) r = true) → fin (rows ++ more) = true
  | 0, rows, more, h, hl, _, _ => by
    have := List.eq_nil_of_length_eq_zero hl
    subst this; simpa [goSq] using h
  | k + 1, rows, [], h, hl, _, _ => by simp at hl
  | k + 1, rows, r :: more, h, hl, hm, ho => by
    simp only [goSq, List.all_eq_true] at h
    have h1 := h r (hm r (by simp))
    have h2 := ho 0 r rfl
    simp only [List.take_zero, List.append_nil] at h2
    rw [if_pos h2] at h1
    have := goSq_all k (rows ++ [r]) more h1 (by simpa using hl) (fun s hs => hm s (by simp [hs])) (fun j s hs => by
      have := ho (j + 1) s (by simpa using hs)
      simpa using this)
    simpa using this

def okRow (n : Nat) (idem : Bool) (rows : List (List Int)) (r : List Int) : Bool :=
  (List.range rows.length).all (fun y => nthN r y == atN rows y rows.length) && (nthN r rows.length == ((if idem then rows.length else rows.length % (n / 2) : Nat) : Int))
def finSq (n : Nat) (idem : Bool) (sq : List (List Int)) : Bool := stsOk (ptsN n idem : Nat) (specT n sq idem)

theorem search2 : goSq (permsN 2) (okRow 2 true) (finSq 2 true) 2 [] = true := by decide +kernel
theorem search3 : goSq (permsN 3) (okRow 3 true) (finSq 3 true) 3 [] = true := by decide +kernel
theorem search4 : goSq (permsN 4) (okRow 4 true) (finSq 4 true) 4 [] = true := by decide +kernel
theorem search5 : goSq (permsN 5) (okRow 5 true) (finSq 5 true) 5 [] = true := by decide +kernel
theorem searchH2 : goSq (permsN 2) (okRow 2 false) (finSq 2 false) 2 [] = true := by decide +kernel
theorem searchH4 : goSq (permsN 4) (okRow 4 false) (finSq 4 false) 4 [] = true := by decide +kernel

theorem commP_iff {n : Nat} {sq : List (List Int)} : commP n sq n = true ↔ ∀ x, x < n → ∀ y, y < n → atN sq x y = atN sq y x := by
  simp only [commP, commR, List.all_eq_true, List.mem_range, beq_iff_eq]
theorem idemP_iff {n : Nat} {sq : List (List Int)} : idemP sq n = true ↔ ∀ x, x < n → atN sq x x = (x : Int) := by
  simp only [idemP, List.all_eq_true, List.mem_range, beq_iff_eq]
theorem halfP_iff {n : Nat} {sq : List (List Int)} : halfP n sq n = true ↔ n % 2 = 0 ∧ ∀ x, x < n → atN sq x x = ((x % (n / 2) : Nat) : Int) := by
  simp only [halfP, Bool.and_eq_true, List.all_eq_true, List.mem_range, beq_iff_eq]
  constructor
  · rintro ⟨h1, h2⟩; exact ⟨by omega, h2⟩
  · rintro ⟨h1, h2⟩; exact ⟨by omega, h2⟩

theorem atN_take {sq : List (List Int)} {j y k : Nat} (h : y < j) (hj : j ≤ sq.length) : atN (sq.take j) y k = atN sq y k := by
  have : rowN (sq.take j) y = rowN sq y := by
    have h1 := rowN_in (sq := sq.take j) (x := y) (by rw [List.length_take]; omega)
    rw [List.getElem?_take, if_pos h, rowN_in (by omega)] at h1
    exact (Option.some.inj h1).symm
  rw [atN, atN, this]

theorem sq_go {sq : List (List Int)} (hS : IsSq sq) {idem : Bool} (hc : commP sq.length sq sq.length = true) (hd : if idem then idemP sq sq.length = true else halfP sq.length sq sq.length = true)
    (hgo : goSq (permsN sq.length) (okRow sq.length idem) (finSq sq.length idem) sq.length [] = true) : finSq sq.length idem sq = true := by
  have := goSq_all sq.length [] sq hgo rfl (fun r hr => mem_permsN ((rows_all (P := fun r => OrdL sq.length r)).2 hS.2.1 r hr)) (fun j r hr => by
    have hj := (List.getElem?_eq_some_iff.1 hr).1
    have hlen : ([] ++ sq.take j).length = j := by simp; omega
    rw [rowN_in hj] at hr
    cases hr
    rw [commP_iff] at hc
    simp only [okRow, hlen, Bool.and_eq_true, List.all_eq_true, List.mem_range, beq_iff_eq]
    refine ⟨fun y hy => ?_, ?_⟩
    · rw [List.nil_append, atN_take hy (by omega)]
      exact hc j hj y (by omega)
    · cases idem with
      | true =>
        simp only [if_true] at hd ⊢
        exact idemP_iff.1 hd j hj
      | false =>
        simp only [Bool.false_eq_true, if_false] at hd ⊢
        exact (halfP_iff.1 hd).2 j hj)
  simpa using this

theorem three_fin {sq : List (List Int)} (hS : IsSq sq) {idem : Bool} (hc : commP sq.length sq sq.length = true) (hd : if idem then idemP sq sq.length = true else halfP sq.length sq sq.length = true) : finSq sq.length idem sq = true := by
  refine sq_go hS hc hd ?_
  have hn := hS.1
  cases idem with
  | true =>
    have : sq.length = 2 ∨ sq.length = 3 ∨ sq.length = 4 ∨ sq.length = 5 := by omega
    rcases this with e | e | e | e <;> rw [e]
    · exact search2
    · exact search3
    · exact search4
    · exact search5
  | false =>
    have h2 := (halfP_iff.1 hd).1
    have : sq.length = 2 ∨ sq.length = 4 := by omega
    rcases this with e | e <;> rw [e]
    · exact searchH2
    · exact searchH4

theorem idem_half {sq : List (List Int)} (hS : IsSq sq) (hi : idemP sq sq.length = true) : halfP sq.length sq sq.length = false := by
  cases e : halfP sq.length sq sq.length with
  | false => rfl
  | true =>
    have h1 := idemP_iff.1 hi
    obtain ⟨h2, h3⟩ := halfP_iff.1 e
    have hn := hS.1
    have a := h1 (sq.length / 2) (by omega)
    have b := h3 (sq.length / 2) (by omega)
    rw [a, Nat.mod_self] at b
    omega

/-- What is made of a square: a full system with these points. -/
theorem rThree_full {sq : List (List Int)} (h : (rThree sq).2 = 0) :
    sqB sq = true ∧ commP sq.length sq sq.length = true ∧ (idemP sq sq.length = true ∨ halfP sq.length sq sq.length = true) ∧ IsSys (rThree sq).1.1 (rThree sq).1.2 ∧ fullB (rThree sq).1.1 (rThree sq).1.2 = true ∧
      (rThree sq).1.1 = 3 * (sq.length : Int) + (if halfP sq.length sq sq.length then 1 else 0) := by
  unfold rThree at h ⊢
  cases hs : sqB sq with
  | false => rw [hs] at h; simp at h
  | true =>
    have hS := sqB_iff.1 hs
    rw [hs] at h
    cases hc : commP sq.length sq sq.length with
    | false => rw [hc] at h; simp at h
    | true =>
      cases hi : idemP sq sq.length with
      | true =>
        have hf := stsOk_sys (three_fin hS (idem := true) hc (by simpa using hi))
        have := idem_half hS hi
        simp only [this, if_true, Bool.true_or, Bool.and_self]
        refine ⟨trivial, trivial, .inl trivial, hf.1, hf.2, ?_⟩
        simp [ptsN]
      | false =>
        rw [hc, hi] at h
        cases hh : halfP sq.length sq sq.length with
        | false => rw [hh] at h; simp at h
        | true =>
          have hf := stsOk_sys (three_fin hS (idem := false) hc (by simpa using hh))
          simp only [if_true, Bool.or_true, Bool.and_self]
          refine ⟨trivial, trivial, .inr trivial, hf.1, hf.2, ?_⟩
          simp [ptsN]
theorem rThree_bad {sq : List (List Int)} (h : (rThree sq).2 ≠ 0) : (rThree sq).1 = (0, []) ∧ (sqB sq = true → (commP sq.length sq sq.length && (idemP sq sq.length || halfP sq.length sq sq.length)) = false) := by
  unfold rThree at h ⊢
  cases hs : sqB sq with
  | false => simp
  | true =>
    rw [hs] at h
    cases hc : (commP sq.length sq sq.length && (idemP sq sq.length || halfP sq.length sq sq.length)) with
    | false => simp
    | true => rw [hc] at h; simp at h

end Go.Proofs.Ytfnegaedkomcgaa
end

section
/- Sorting by a function: insertion sort. -/
set_option linter.all false
set_option maxRecDepth 20000
set_option maxHeartbeats 4000000
namespace Go.Proofs.Ytfnegaedkomcgaa
open Go.Ab Go.Sort

theorem insB_ok {H : Heap} {id a b n : Nat} {d : Array Bk} {lt : Bk → Bk → Bool} {g : FuncId} {fs cs : List Value} {Q : Bk → Prop} (hA : Arr Bk.cells H id d) (hn : d.size = n) (hl : n ≤ 1048576) (hab : a ≤ b) (hb : b ≤ n) (hQ : QA Q d)
    (hC : Cmp Try.prog Bk.val lt g fs cs Q id H) (Post : Value → Heap → Prop) (h : ∀ H', Same (fun k => k = id) H H' → Arr Bk.cells H' id (insertionSort lt d a b) → Post (.tuple #[]) H') :
    ACalls Try.prog 88 [lv 3 id 0 n, .int .i64 a, .int .i64 b, .func (.func g) fs.toArray cs.toArray] H Post := by
  refine acalls_vc (rs := []) Try.func88 rfl rfl Try.ntmps88 rfl rfl ?_
  have w0 : IntKind.i64.wrap ((a : Int) + 1) = (a : Int) + 1 := i64w (by omega) (by omega)
  simp (maxSteps := 1000000) [go_sem, w0]
  refine AWp.loopVc (St := Nat × Array Bk) (fun s => [(0, lv 3 id 0 n), (1, .int .i64 a), (2, .int .i64 b), (3, .func (.func g) fs.toArray cs.toArray), (8, .int .i64 s.1)])
    (fun s H' => a + 1 ≤ s.1 ∧ s.1 ≤ n + 1 ∧ s.2.size = n ∧ QA Q s.2 ∧ Same (fun k => k = id) H H' ∧ Arr Bk.cells H' id s.2 ∧ insOuter lt a b s.1 s.2 = insertionSort lt d a b) (fun s => n + 1 - s.1) (a + 1, d) ?_ ?_ ?_
  · simp [upF, Fr.get, Up.refl]
  · exact ⟨Nat.le_refl _, by simp only; omega, hn, hQ, Same.refl _ _, hA, rfl⟩
  · rintro K ⟨i, d1⟩ H' ⟨hai, hin, hsz, hQ1, hS, hA1, hO⟩ hK
    simp only at hai hin hsz hQ1 hS hA1 hO
    rw [insOuter] at hO
    by_cases hlt : i < b
    · rw [if_pos hlt] at hO
      have hw_i : IntKind.i64.wrap ((i : Int) + 1) = (i : Int) + 1 := i64w (by omega) (by omega)
      simp (maxSteps := 1000000) [go_sem, hlt]
      refine AWp.loopVc (St := Nat × Array Bk) (fun s => [(0, lv 3 id 0 n), (1, .int .i64 a), (2, .int .i64 b), (3, .func (.func g) fs.toArray cs.toArray), (8, .int .i64 i), (9, .int .i64 s.1)])
        (fun s H2 => a ≤ s.1 ∧ s.1 ≤ i ∧ s.2.size = n ∧ QA Q s.2 ∧ Same (fun k => k = id) H H2 ∧ Arr Bk.cells H2 id s.2 ∧ insInner lt a s.1 s.2 = insInner lt a i d1) (fun s => s.1) (i, d1) ?_ ?_ ?_
      · simp [upF, Fr.get, Up.refl]
      · exact ⟨by simp only; omega, Nat.le_refl _, hsz, hQ1, hS, hA1, rfl⟩
      · rintro K2 ⟨j, d2⟩ H2 ⟨haj, hji, hsz2, hQ2, hS2, hA2, hI⟩ hK2
        simp only at haj hji hsz2 hQ2 hS2 hA2 hI
        by_cases hja : a < j
        · obtain ⟨r, rfl⟩ : ∃ r, j = r + 1 := ⟨j - 1, by omega⟩
          have hr1 : r + 1 < d2.size := by omega
          have hr0 : r < d2.size := by omega
          have c1 := hA2.load Bk.cells_len hr1
          have c0 := hA2.load Bk.cells_len hr0
          have q1 := hQ2 _ hr1
          have q0 := hQ2 _ hr0
          rw [insInner] at hI
          obtain ⟨x, hx⟩ : ∃ x, x = d2[r + 1]! := ⟨_, rfl⟩
          obtain ⟨y, hy⟩ : ∃ y, y = d2[r]! := ⟨_, rfl⟩
          rw [← hx] at c1 q1 hI
          rw [← hy] at c0 q0 hI
          have e1 : decide (r + 1 > a) = true := decide_eq_true hja
          rw [e1, Bool.true_and] at hI
          simp only [Bk.cells, Nat.mul_one, Row.val] at c1 c0
          have n1 : r + 1 < n := by omega
          have n0 : r < n := by omega
          have m1 : (r : Int) + 1 < n := by omega
          have m0 : (r : Int) < n := by omega
          have z1 : (0 : Int) ≤ (r : Int) + 1 := by omega
          have hwr : IntKind.i64.wrap (r : Int) = (r : Int) := i64w (by omega) (by omega)
          have ja : (a : Int) < (r : Int) + 1 := by omega
          refine AWp.draw mixed [(0, false), (1, false), (2, false), (3, false), (4, false), (5, false), (6, false), (7, false), (8, false), (9, false), (10, false), (11, false), (12, false), (13, false), (14, false), (15, false), (16, false)] (by kernel_rfl) ?_
          simp (maxSteps := 1000000) [go_sem, hja, ja, c1, c0, n1, n0, m1, m0, z1, hwr]
          refine hC H2 x y _ hS2 q1 q0 ?_
          intro H3 c hp3 hc
          have hS3 := hS2.via (Same.of_prefix (S := fun _ => False) hp3) (fun _ _ h => h.elim)
          have hA3 := hA2.pre hp3
          cases hxy : lt x y with
          | false =>
            rw [hxy] at hc hI
            have hc0 : ¬ c < 0 := by simpa using hc
            simp (maxSteps := 1000000) [go_sem, hc, hc0, hw_i]
            exact hK (i + 1, d2) _ _ (by simp only; omega) (by simp [upF, Fr.get, Up.refl]) ⟨by simp only; omega, by simp only; omega, hsz2, hQ2, hS3, hA3, by simp only; rw [← hO, ← hI]; simp⟩
          | true =>
            rw [hxy] at hc hI
            have hc0 : c < 0 := by simpa using hc
            have c1 := hA3.load Bk.cells_len hr1
            have c0 := hA3.load Bk.cells_len hr0
            obtain ⟨H4, H5, s1, s0, hA5, hS5, hl5⟩ := hA3.swap Bk.cells_len Bk.cells_one hr1 hr0
            rw [← hx] at c1 s0
            rw [← hy] at c0 s1
            simp only [Bk.cells, Nat.mul_one, Row.val] at c1 c0 s1 s0
            simp (maxSteps := 1000000) [go_sem, hc, hc0]
            refine AWp.draw mixed [(0, false), (1, false), (2, false), (3, false), (4, false), (5, false), (6, false), (7, false), (8, false), (9, false), (10, false), (11, false), (12, false), (13, false), (14, false), (15, false), (16, false), (17, false)] (by kernel_rfl) ?_
            simp (maxSteps := 1000000) [go_sem, c1, c0, n1, n0, m1, m0, z1, hwr, s1, s0]
            exact hK2 (r, swp d2 (r + 1) r) _ _ (by simp only; omega) (by simp [upF, Fr.get, Up.refl]) ⟨by simp only; omega, by simp only; omega, by rw [size_swp]; exact hsz2, hQ2.swp hr1 hr0, hS3.trans hS5, hA5, by simp only; rw [← hI]; simp⟩
        · have hja' : j = a := by omega
          subst hja'
          have e : insInner lt j j d2 = d2 := by
            cases j with
            | zero => rfl
            | succ r => rw [insInner]; simp
          refine AWp.draw mixed [(0, false), (1, false), (2, false), (3, false), (4, false), (5, false), (6, false), (7, false), (8, false), (9, false), (10, false), (11, false), (12, false), (13, false), (14, false), (15, false), (16, false)] (by kernel_rfl) ?_
          simp (maxSteps := 1000000) [go_sem, undef, hw_i]
          exact hK (i + 1, d2) _ _ (by simp only; omega) (by simp [upF, Fr.get, Up.refl]) ⟨by simp only; omega, by simp only; omega, hsz2, hQ2, hS2, hA2, by simp only; rw [← hO, ← hI, e]⟩
    · rw [if_neg hlt] at hO
      simp (maxSteps := 1000000) [go_sem, hlt]
      exact h H' hS (hO ▸ hA1)

end Go.Proofs.Ytfnegaedkomcgaa
end

section
/- Sorting by a function: the heap. -/
set_option linter.all false
set_option maxRecDepth 20000
set_option maxHeartbeats 4000000
namespace Go.Proofs.Ytfnegaedkomcgaa
open Go.Ab Go.Sort

theorem siftB_ok {H : Heap} {id lo hi first n : Nat} {d : Array Bk} {lt : Bk → Bk → Bool} {g : FuncId} {fs cs : List Value} {Q : Bk → Prop} (hA : Arr Bk.cells H id d) (hn : d.size = n) (hl : n ≤ 1048576) (hlo : lo ≤ n) (hhi : first + hi ≤ n) (hQ : QA Q d)
    (hC : Cmp Try.prog Bk.val lt g fs cs Q id H) (Post : Value → Heap → Prop) (h : ∀ H', Same (fun k => k = id) H H' → Arr Bk.cells H' id (siftDown lt hi first lo d) → Post (.tuple #[]) H') :
    ACalls Try.prog 97 [lv 3 id 0 n, .int .i64 lo, .int .i64 hi, .int .i64 first, .func (.func g) fs.toArray cs.toArray] H Post := by
  refine acalls_vc (rs := []) Try.func97 rfl rfl Try.ntmps97 rfl rfl ?_
  simp (maxSteps := 1000000) [go_sem]
  refine AWp.loopVc (St := Nat × Array Bk) (fun s => [(0, lv 3 id 0 n), (2, .int .i64 hi), (3, .int .i64 first), (4, .func (.func g) fs.toArray cs.toArray), (10, .int .i64 s.1)])
    (fun s H' => s.1 ≤ n ∧ s.2.size = n ∧ QA Q s.2 ∧ Same (fun k => k = id) H H' ∧ Arr Bk.cells H' id s.2 ∧ siftDown lt hi first s.1 s.2 = siftDown lt hi first lo d) (fun s => n - s.1) (lo, d) ?_ ?_ ?_
  · simp [upF, Fr.get, Up.refl]
  · exact ⟨hlo, hn, hQ, Same.refl _ _, hA, rfl⟩
  · rintro K ⟨root, d1⟩ H1 ⟨hr, hsz, hQ1, hS1, hA1, hO⟩ hK
    simp only at hr hsz hQ1 hS1 hA1 hO
    obtain ⟨ch, hch⟩ : ∃ ch, ch = 2 * root + 1 := ⟨_, rfl⟩
    obtain ⟨c2, hc2⟩ : ∃ c2, c2 = ch + 1 := ⟨_, rfl⟩
    obtain ⟨fr, hfr⟩ : ∃ fr, fr = first + root := ⟨_, rfl⟩
    obtain ⟨fc, hfc⟩ : ∃ fc, fc = first + ch := ⟨_, rfl⟩
    obtain ⟨fc2, hfc2⟩ : ∃ fc2, fc2 = first + c2 := ⟨_, rfl⟩
    have w1 : IntKind.i64.wrap (2 * (root : Int)) = 2 * (root : Int) := i64w (by omega) (by omega)
    have w2 : IntKind.i64.wrap (2 * (root : Int) + 1) = (ch : Int) := by rw [hch]; rw [i64w (by omega) (by omega)]; omega
    have w3 : IntKind.i64.wrap ((ch : Int) + 1) = (c2 : Int) := by rw [hc2]; rw [i64w (by omega) (by omega)]; omega
    by_cases hh : hi ≤ ch
    · rw [sift_end hch hh] at hO
      have hh' : (hi : Int) ≤ ch := by omega
      simp (maxSteps := 1000000) [go_sem, w1, w2, hh, hh']
      exact h H1 hS1 (hO ▸ hA1)
    · rw [sift_step hch hc2 hfr hfc hfc2 hh] at hO
      have hh' : ¬ ((hi : Int) ≤ ch) := by omega
      have hh2 : ch < hi := by omega
      have w4 : IntKind.i64.wrap ((first : Int) + root) = (fr : Int) := by rw [hfr]; rw [i64w (by omega) (by omega)]; omega
      have w5 : IntKind.i64.wrap ((first : Int) + ch) = (fc : Int) := by rw [hfc]; rw [i64w (by omega) (by omega)]; omega
      have w6 : IntKind.i64.wrap ((first : Int) + c2) = (fc2 : Int) := by rw [hfc2]; rw [i64w (by omega) (by omega)]; omega
      have w7 : IntKind.i64.wrap ((fc : Int) + 1) = (fc2 : Int) := by rw [hfc2, hfc, hc2]; rw [i64w (by omega) (by omega)]; omega
      have hfr1 : fr < d1.size := by omega
      have hfc1 : fc < d1.size := by omega
      have n1 : fr < n := by omega
      have n2 : fc < n := by omega
      obtain ⟨x, hx⟩ : ∃ x, x = d1[fr]! := ⟨_, rfl⟩
      obtain ⟨y, hy⟩ : ∃ y, y = d1[fc]! := ⟨_, rfl⟩
      obtain ⟨z, hz⟩ : ∃ z, z = d1[fc2]! := ⟨_, rfl⟩
      rw [← hx, ← hy, ← hz] at hO
      have qx := hQ1 _ hfr1
      have qy := hQ1 _ hfc1
      rw [← hx] at qx
      rw [← hy] at qy
      have cy := hA1.load Bk.cells_len hfc1
      rw [← hy] at cy
      simp only [Bk.cells, Nat.mul_one, Row.val] at cy
      by_cases h2 : c2 < hi
      · have h2' : (c2 : Int) < hi := by omega
        have hfc21 : fc2 < d1.size := by omega
        have n3 : fc2 < n := by omega
        have qz := hQ1 _ hfc21
        rw [← hz] at qz
        have cz := hA1.load Bk.cells_len hfc21
        rw [← hz] at cz
        simp only [Bk.cells, Nat.mul_one, Row.val] at cz
        have e2 : decide (c2 < hi) = true := decide_eq_true h2
        rw [e2, Bool.true_and] at hO
        simp (maxSteps := 1000000) [go_sem, w1, w2, w3, hh, hh', hh2]
        refine AWp.draw mixed [(0, false), (1, false), (2, false), (3, false), (4, false), (5, false), (6, false), (7, false), (8, false), (9, false), (10, false), (11, false), (12, false), (13, false), (14, false), (15, false), (16, false), (17, false), (18, false), (19, false), (20, false), (21, false)] (by kernel_rfl) ?_
        simp (maxSteps := 1000000) [go_sem, w3, w5, w7, h2, h2', cy, cz, n2, n3]
        refine hC H1 y z _ hS1 qy qz ?_
        intro H3 c hp3 hc
        have hS3 := hS1.via (Same.of_prefix (S := fun _ => False) hp3) (fun _ _ h => h.elim)
        have hA3 := hA1.pre hp3
        have cx := hA3.load Bk.cells_len hfr1
        rw [← hx] at cx
        simp only [Bk.cells, Nat.mul_one, Row.val] at cx
        cases hyz : lt y z with
        | true =>
          rw [hyz] at hc hO
          have hc0 : c < 0 := by simpa using hc
          have cz := hA3.load Bk.cells_len hfc21
          rw [← hz] at cz
          simp only [Bk.cells, Nat.mul_one, Row.val] at cz
          simp (maxSteps := 1000000) [go_sem, hc, hc0, w3]
          refine AWp.draw mixed [(0, false), (1, false), (2, false), (3, false), (4, false), (5, false), (6, false), (7, false), (8, false), (9, false), (10, false), (11, false), (12, false), (13, false), (14, false), (15, false)] (by kernel_rfl) ?_
          simp (maxSteps := 1000000) [go_sem, w4, w6, cx, cz, n1, n3]
          refine hC H3 x z _ hS3 qx qz ?_
          intro H4 e hp4 he
          have hS4 := hS3.via (Same.of_prefix (S := fun _ => False) hp4) (fun _ _ h => h.elim)
          have hA4 := hA3.pre hp4
          cases hxz : lt x z with
          | false =>
            rw [hxz] at he hO
            have he0 : ¬ e < 0 := by simpa using he
            simp (maxSteps := 1000000) [go_sem, he, he0]
            exact h H4 hS4 (by simpa [← hO] using hA4)
          | true =>
            rw [hxz] at he hO
            have he0 : e < 0 := by simpa using he
            have ca := hA4.load Bk.cells_len hfr1
            have cb := hA4.load Bk.cells_len hfc21
            obtain ⟨H5, H6, s1, s0, hA6, hS6, hl6⟩ := hA4.swap Bk.cells_len Bk.cells_one hfr1 hfc21
            rw [← hx] at ca s0
            rw [← hz] at cb s1
            simp only [Bk.cells, Nat.mul_one, Row.val] at ca cb s0 s1
            simp (maxSteps := 1000000) [go_sem, he, he0]
            refine AWp.draw mixed [(0, false), (1, false), (2, false), (3, false), (4, false), (5, false), (6, false), (7, false), (8, false), (9, false), (10, false), (11, false), (12, false), (13, false), (14, false), (15, false), (16, false), (17, false), (18, false), (19, false), (20, false), (21, false), (22, false), (23, false)] (by kernel_rfl) ?_
            simp (maxSteps := 1000000) [go_sem, w4, w6, ca, cb, n1, n3, s1, s0]
            exact hK (c2, swp d1 fr fc2) _ _ (by simp only; omega) (by simp [upF, Fr.get, Up.refl]) ⟨by simp only; omega, by rw [size_swp]; exact hsz, hQ1.swp hfr1 hfc21, hS4.trans hS6, hA6, by simp only; rw [← hO]; simp⟩
        | false =>
          rw [hyz] at hc hO
          have hc0 : ¬ c < 0 := by simpa using hc
          have cy := hA3.load Bk.cells_len hfc1
          rw [← hy] at cy
          simp only [Bk.cells, Nat.mul_one, Row.val] at cy
          simp (maxSteps := 1000000) [go_sem, hc, hc0]
          refine AWp.draw mixed [(0, false), (1, false), (2, false), (3, false), (4, false), (5, false), (6, false), (7, false), (8, false), (9, false), (10, false), (11, false), (12, false), (13, false), (14, false), (15, false)] (by kernel_rfl) ?_
          simp (maxSteps := 1000000) [go_sem, w4, w5, cx, cy, n1, n2]
          refine hC H3 x y _ hS3 qx qy ?_
          intro H4 e hp4 he
          have hS4 := hS3.via (Same.of_prefix (S := fun _ => False) hp4) (fun _ _ h => h.elim)
          have hA4 := hA3.pre hp4
          cases hxz : lt x y with
          | false =>
            rw [hxz] at he hO
            have he0 : ¬ e < 0 := by simpa using he
            simp (maxSteps := 1000000) [go_sem, he, he0]
            exact h H4 hS4 (by simpa [← hO] using hA4)
          | true =>
            rw [hxz] at he hO
            have he0 : e < 0 := by simpa using he
            have ca := hA4.load Bk.cells_len hfr1
            have cb := hA4.load Bk.cells_len hfc1
            obtain ⟨H5, H6, s1, s0, hA6, hS6, hl6⟩ := hA4.swap Bk.cells_len Bk.cells_one hfr1 hfc1
            rw [← hx] at ca s0
            rw [← hy] at cb s1
            simp only [Bk.cells, Nat.mul_one, Row.val] at ca cb s0 s1
            simp (maxSteps := 1000000) [go_sem, he, he0]
            refine AWp.draw mixed [(0, false), (1, false), (2, false), (3, false), (4, false), (5, false), (6, false), (7, false), (8, false), (9, false), (10, false), (11, false), (12, false), (13, false), (14, false), (15, false), (16, false), (17, false), (18, false), (19, false), (20, false), (21, false), (22, false), (23, false)] (by kernel_rfl) ?_
            simp (maxSteps := 1000000) [go_sem, w4, w5, ca, cb, n1, n2, s1, s0]
            exact hK (ch, swp d1 fr fc) _ _ (by simp only; omega) (by simp [upF, Fr.get, Up.refl]) ⟨by simp only; omega, by rw [size_swp]; exact hsz, hQ1.swp hfr1 hfc1, hS4.trans hS6, hA6, by simp only; rw [← hO]; simp⟩
      · have h2' : ¬ ((c2 : Int) < hi) := by omega
        have e2 : decide (c2 < hi) = false := decide_eq_false h2
        rw [e2, Bool.false_and] at hO
        have hA3 := hA1
        have hS3 := hS1
        have cx := hA3.load Bk.cells_len hfr1
        rw [← hx] at cx
        simp only [Bk.cells, Nat.mul_one, Row.val] at cx
        simp (maxSteps := 1000000) [go_sem, w1, w2, w3, hh, hh', hh2]
        refine AWp.draw mixed [(0, false), (1, false), (2, false), (3, false), (4, false), (5, false), (6, false), (7, false), (8, false), (9, false), (10, false), (11, false), (12, false), (13, false), (14, false), (15, false), (16, false), (17, false), (18, false), (19, false), (20, false), (21, false)] (by kernel_rfl) ?_
        simp (maxSteps := 1000000) [go_sem, undef, w3, h2, h2']
        obtain ⟨H3, eH3⟩ : ∃ H3, H3 = H1 := ⟨_, rfl⟩
        rw [← eH3] at hA3 hS3 cx cy ⊢
        refine AWp.draw mixed [(0, false), (1, false), (2, false), (3, false), (4, false), (5, false), (6, false), (7, false), (8, false), (9, false), (10, false), (11, false), (12, false), (13, false), (14, false), (15, false)] (by kernel_rfl) ?_
        simp (maxSteps := 1000000) [go_sem, w4, w5, cx, cy, n1, n2]
        refine hC H3 x y _ hS3 qx qy ?_
        intro H4 e hp4 he
        have hS4 := hS3.via (Same.of_prefix (S := fun _ => False) hp4) (fun _ _ h => h.elim)
        have hA4 := hA3.pre hp4
        cases hxz : lt x y with
        | false =>
          rw [hxz] at he hO
          have he0 : ¬ e < 0 := by simpa using he
          simp (maxSteps := 1000000) [go_sem, he, he0]
          exact h H4 hS4 (by simpa [← hO] using hA4)
        | true =>
          rw [hxz] at he hO
          have he0 : e < 0 := by simpa using he
          have ca := hA4.load Bk.cells_len hfr1
          have cb := hA4.load Bk.cells_len hfc1
          obtain ⟨H5, H6, s1, s0, hA6, hS6, hl6⟩ := hA4.swap Bk.cells_len Bk.cells_one hfr1 hfc1
          rw [← hx] at ca s0
          rw [← hy] at cb s1
          simp only [Bk.cells, Nat.mul_one, Row.val] at ca cb s0 s1
          simp (maxSteps := 1000000) [go_sem, he, he0]
          refine AWp.draw mixed [(0, false), (1, false), (2, false), (3, false), (4, false), (5, false), (6, false), (7, false), (8, false), (9, false), (10, false), (11, false), (12, false), (13, false), (14, false), (15, false), (16, false), (17, false), (18, false), (19, false), (20, false), (21, false), (22, false), (23, false)] (by kernel_rfl) ?_
          simp (maxSteps := 1000000) [go_sem, w4, w5, ca, cb, n1, n2, s1, s0]
          exact hK (ch, swp d1 fr fc) _ _ (by simp only; omega) (by simp [upF, Fr.get, Up.refl]) ⟨by simp only; omega, by rw [size_swp]; exact hsz, hQ1.swp hfr1 hfc1, hS4.trans hS6, hA6, by simp only; rw [← hO]; simp⟩

theorem heapB_ok {H : Heap} {id a b n : Nat} {d : Array Bk} {lt : Bk → Bk → Bool} {g : FuncId} {fs cs : List Value} {Q : Bk → Prop} (hA : Arr Bk.cells H id d) (hn : d.size = n) (hl : n ≤ 1048576) (hab : a < b) (hb : b ≤ n) (hQ : QA Q d)
    (hC : Cmp Try.prog Bk.val lt g fs cs Q id H) (Post : Value → Heap → Prop) (h : ∀ H', Same (fun k => k = id) H H' → Arr Bk.cells H' id (heapSort lt d a b) → Post (.tuple #[]) H') :
    ACalls Try.prog 89 [lv 3 id 0 n, .int .i64 a, .int .i64 b, .func (.func g) fs.toArray cs.toArray] H Post := by
  refine acalls_vc (rs := []) Try.func89 rfl rfl Try.ntmps89 rfl rfl ?_
  obtain ⟨hi, hhi⟩ : ∃ hi, hi = b - a := ⟨_, rfl⟩
  obtain ⟨h1, hh1⟩ : ∃ h1, h1 = hi - 1 := ⟨_, rfl⟩
  obtain ⟨k0, hk0⟩ : ∃ k0, k0 = h1 / 2 := ⟨_, rfl⟩
  have w0 : IntKind.i64.wrap ((b : Int) - a) = (hi : Int) := by rw [hhi, i64w (by omega) (by omega)]; omega
  have w1 : IntKind.i64.wrap ((hi : Int) - 1) = (h1 : Int) := by rw [hh1, i64w (by omega) (by omega)]; omega
  have w2 : IntKind.i64.wrap ((h1 : Int) / 2) = (k0 : Int) := by rw [hk0, i64w (by omega) (by omega)]; omega
  have e0 : heapSort lt d a b = heapPop lt a hi (heapBuild lt hi a (k0 + 1) d) := by rw [hk0, hh1, hhi]; rfl
  rw [e0] at h
  simp (maxSteps := 1000000) [go_sem, w0, w1, w2]
  refine AWp.loopVc (St := Nat × Array Bk) (fun s => [(0, lv 3 id 0 n), (3, .func (.func g) fs.toArray cs.toArray), (8, .int .i64 a), (9, .int .i64 0), (10, .int .i64 hi), (11, .int .i64 ((s.1 : Int) - 1))])
    (fun s H' => s.1 ≤ k0 + 1 ∧ s.2.size = n ∧ QA Q s.2 ∧ Same (fun k => k = id) H H' ∧ Arr Bk.cells H' id s.2 ∧ heapBuild lt hi a s.1 s.2 = heapBuild lt hi a (k0 + 1) d) (fun s => s.1) (k0 + 1, d) ?_ ?_ ?_
  · have e : ((k0 + 1 : Nat) : Int) - 1 = k0 := by omega
    simp [upF, Fr.get, Up.refl, e]
  · exact ⟨Nat.le_refl _, hn, hQ, Same.refl _ _, hA, rfl⟩
  · rintro K ⟨k, d1⟩ H1 ⟨hk, hsz, hQ1, hS1, hA1, hO⟩ hK
    simp only at hk hsz hQ1 hS1 hA1 hO
    cases k with
    | succ r =>
      have hwr : IntKind.i64.wrap ((r : Int) - 1) = (r : Int) - 1 := i64w (by omega) (by omega)
      simp (maxSteps := 1000000) [go_sem]
      refine siftB_ok hA1 hsz hl (by omega) (by omega) hQ1 (hC.keep hS1) _ ?_
      intro H2 hS2 hA2
      have hsz2 : (siftDown lt hi a r d1).size = n := by rw [sift_size]; exact hsz
      simp (maxSteps := 1000000) [go_sem, hwr]
      exact hK (r, siftDown lt hi a r d1) _ _ (by simp only; omega) (by simp [upF, Fr.get, Up.refl]) ⟨by simp only; omega, hsz2, sift_QA (by omega) hQ1, hS1.trans hS2, hA2, hO⟩
    | zero =>
      simp (maxSteps := 1000000) [go_sem, w1]
      have hO' : d1 = heapBuild lt hi a (k0 + 1) d := hO
      rw [← hO'] at h
      refine AWp.loopVc (St := Nat × Array Bk) (fun s => [(0, lv 3 id 0 n), (3, .func (.func g) fs.toArray cs.toArray), (8, .int .i64 a), (9, .int .i64 0), (12, .int .i64 ((s.1 : Int) - 1))])
        (fun s H' => s.1 ≤ hi ∧ s.2.size = n ∧ QA Q s.2 ∧ Same (fun k => k = id) H H' ∧ Arr Bk.cells H' id s.2 ∧ heapPop lt a s.1 s.2 = heapPop lt a hi d1) (fun s => s.1) (hi, d1) ?_ ?_ ?_
      · have e : (hi : Int) - 1 = h1 := by omega
        simp [upF, Fr.get, Up.refl, e]
      · exact ⟨Nat.le_refl _, hsz, hQ1, hS1, hA1, rfl⟩
      · rintro K2 ⟨k, d2⟩ H2 ⟨hk2, hsz2, hQ2, hS2, hA2, hP⟩ hK2
        simp only at hk2 hsz2 hQ2 hS2 hA2 hP
        cases k with
        | succ r =>
          have hwr : IntKind.i64.wrap ((r : Int) - 1) = (r : Int) - 1 := i64w (by omega) (by omega)
          obtain ⟨ar, har⟩ : ∃ ar, ar = a + r := ⟨_, rfl⟩
          have w4 : IntKind.i64.wrap ((a : Int) + r) = (ar : Int) := by rw [har]; rw [i64w (by omega) (by omega)]; omega
          have hi1 : a < d2.size := by omega
          have hi2 : ar < d2.size := by omega
          have n1 : a < n := by omega
          have n2 : ar < n := by omega
          have ca := hA2.load Bk.cells_len hi1
          have cb := hA2.load Bk.cells_len hi2
          obtain ⟨H5, H6, s1, s0, hA6, hS6, hl6⟩ := hA2.swap Bk.cells_len Bk.cells_one hi1 hi2
          obtain ⟨x, hx⟩ : ∃ x, x = d2[a]! := ⟨_, rfl⟩
          obtain ⟨y, hy⟩ : ∃ y, y = d2[ar]! := ⟨_, rfl⟩
          rw [← hx] at ca s0
          rw [← hy] at cb s1
          simp only [Bk.cells, Nat.mul_one, Row.val] at ca cb s0 s1
          rw [heapPop, ← har] at hP
          have hsz3 : (swp d2 a ar).size = n := by rw [size_swp]; exact hsz2
          have hQ3 := hQ2.swp hi1 hi2
          simp (maxSteps := 1000000) [go_sem]
          refine AWp.draw mixed [(0, false), (1, false), (2, false), (3, false), (4, false), (5, false), (6, false), (7, false), (8, false), (9, false), (10, false), (11, false), (12, false), (13, false), (14, false), (15, false), (16, false), (17, false), (18, false), (19, false)] (by kernel_rfl) ?_
          simp (maxSteps := 1000000) [go_sem, w4, ca, cb, n1, n2, s1, s0]
          refine siftB_ok (lo := 0) hA6 hsz3 hl (by omega) (by omega) hQ3 (hC.keep (hS2.trans hS6)) _ ?_
          intro H7 hS7 hA7
          have hsz4 : (siftDown lt r a 0 (swp d2 a ar)).size = n := by rw [sift_size]; exact hsz3
          simp (maxSteps := 1000000) [go_sem, hwr]
          exact hK2 (r, siftDown lt r a 0 (swp d2 a ar)) _ _ (by simp only; omega) (by simp [upF, Fr.get, Up.refl]) ⟨by simp only; omega, hsz4, sift_QA (by omega) hQ3, (hS2.trans hS6).trans hS7, hA7, hP⟩
        | zero =>
          simp (maxSteps := 1000000) [go_sem]
          refine h H2 hS2 ?_
          rw [← hP]; exact hA2

end Go.Proofs.Ytfnegaedkomcgaa
end

section
/- Sorting by a function: turning around, the choice of a pivot. -/
set_option linter.all false
set_option maxRecDepth 20000
set_option maxHeartbeats 4000000
namespace Go.Proofs.Ytfnegaedkomcgaa
open Go.Ab Go.Sort

theorem reverseB_ok {H : Heap} {id a b n : Nat} {d : Array Bk} {g : FuncId} {fs cs : List Value} (hA : Arr Bk.cells H id d) (hn : d.size = n) (hl : n ≤ 1048576) (hab : a < b) (hb : b ≤ n)
    (Post : Value → Heap → Prop) (h : ∀ H', Same (fun k => k = id) H H' → Arr Bk.cells H' id (reverseRange d a b) → Post (.tuple #[]) H') :
    ACalls Try.prog 92 [lv 3 id 0 n, .int .i64 a, .int .i64 b, .func (.func g) fs.toArray cs.toArray] H Post := by
  refine acalls_vc (rs := []) Try.func92 rfl rfl Try.ntmps92 rfl rfl ?_
  obtain ⟨b1, hb1⟩ : ∃ b1, b1 = b - 1 := ⟨_, rfl⟩
  have w0 : IntKind.i64.wrap ((b : Int) - 1) = (b1 : Int) := by rw [hb1, i64w (by omega) (by omega)]; omega
  have e0 : reverseRange d a b = reverseLoop a b1 d := by rw [hb1]; rfl
  rw [e0] at h
  simp (maxSteps := 1000000) [go_sem, w0]
  refine AWp.loopVc (St := Nat × Nat × Array Bk) (fun s => [(0, lv 3 id 0 n), (8, .int .i64 s.1), (9, .int .i64 s.2.1)])
    (fun s H' => s.2.1 < n ∧ s.1 ≤ n ∧ s.2.2.size = n ∧ Same (fun k => k = id) H H' ∧ Arr Bk.cells H' id s.2.2 ∧ reverseLoop s.1 s.2.1 s.2.2 = reverseLoop a b1 d) (fun s => s.2.1 - s.1) (a, b1, d) ?_ ?_ ?_
  · simp [upF, Fr.get, Up.refl]
  · exact ⟨by simp only; omega, by simp only; omega, hn, Same.refl _ _, hA, rfl⟩
  · rintro K ⟨i, j, d1⟩ H1 ⟨hj, hi, hsz, hS1, hA1, hO⟩ hK
    simp only at hj hi hsz hS1 hA1 hO
    by_cases hij : i < j
    · obtain ⟨r, rfl⟩ : ∃ r, j = r + 1 := ⟨j - 1, by omega⟩
      rw [reverse_go hij] at hO
      have hi1 : i < d1.size := by omega
      have hi2 : r + 1 < d1.size := by omega
      have n1 : i < n := by omega
      have n2 : r + 1 < n := by omega
      have m2 : (r : Int) + 1 < n := by omega
      have z2 : (0 : Int) ≤ (r : Int) + 1 := by omega
      have hij' : (i : Int) < (r : Int) + 1 := by omega
      have hwr : IntKind.i64.wrap (r : Int) = (r : Int) := i64w (by omega) (by omega)
      have hw_i : IntKind.i64.wrap ((i : Int) + 1) = (i : Int) + 1 := i64w (by omega) (by omega)
      have ca := hA1.load Bk.cells_len hi1
      have cb := hA1.load Bk.cells_len hi2
      obtain ⟨H5, H6, s1, s0, hA6, hS6, hl6⟩ := hA1.swap Bk.cells_len Bk.cells_one hi1 hi2
      obtain ⟨x, hx⟩ : ∃ x, x = d1[i]! := ⟨_, rfl⟩
      obtain ⟨y, hy⟩ : ∃ y, y = d1[r + 1]! := ⟨_, rfl⟩
      rw [← hx] at ca s0
      rw [← hy] at cb s1
      simp only [Bk.cells, Nat.mul_one, Row.val] at ca cb s0 s1
      simp (maxSteps := 1000000) [go_sem, hij, hij']
      refine AWp.draw mixed [(0, false), (1, false), (2, false), (3, false), (4, false), (5, false), (6, false), (7, false), (8, false), (9, false), (10, false), (11, false), (12, false), (13, false), (14, false), (15, false)] (by kernel_rfl) ?_
      simp (maxSteps := 1000000) [go_sem, ca, cb, n1, n2, m2, z2, s1, s0, hw_i, hwr]
      exact hK (i + 1, r, swp d1 i (r + 1)) _ _ (by simp only; omega) (by simp [upF, Fr.get, Up.refl]) ⟨by simp only; omega, by simp only; omega, by rw [size_swp]; exact hsz, hS1.trans hS6, hA6, hO⟩
    · rw [reverse_stop hij] at hO
      have hij' : ¬ ((i : Int) < j) := by omega
      simp (maxSteps := 1000000) [go_sem, hij, hij']
      exact h H1 hS1 (hO ▸ hA1)

theorem order2B_ok {HB H : Heap} {id sw a b n : Nat} {z : Int} {d : Array Bk} {lt : Bk → Bk → Bool} {g : FuncId} {fs cs : List Value} {Q : Bk → Prop} (hA : Arr Bk.cells H id d) (hn : d.size = n) (hl : n ≤ 1048576) (ha : a < n) (hb : b < n) (hQ : QA Q d)
    (hC : Cmp Try.prog Bk.val lt g fs cs Q id HB) (hB : Same (fun k => k = id) HB H) (hz : H[sw]? = some ⟨[.int .i64 z], true, true⟩) (hsw : HB.length ≤ sw) (hid : id ≠ sw) (Post : Value → Heap → Prop)
    (h : ∀ H' (x y : Nat) (z' : Int), Same (fun k => k = sw) H H' → H'[sw]? = some ⟨[.int .i64 z'], true, true⟩ → (x = a ∧ y = b ∨ x = b ∧ y = a) → Post (.tuple #[.int .i64 x, .int .i64 y]) H') :
    ACalls Try.prog 100 [lv 3 id 0 n, .int .i64 a, .int .i64 b, .pointer (some ⟨sw, 0, none⟩), .func (.func g) fs.toArray cs.toArray] H Post := by
  refine acalls_vc (rs := [.tmp 10, .tmp 11]) Try.func100 rfl rfl Try.ntmps100 rfl rfl ?_
  have hi1 : a < d.size := by omega
  have hi2 : b < d.size := by omega
  have ca := hA.load Bk.cells_len hi1
  have cb := hA.load Bk.cells_len hi2
  have qa := hQ _ hi1
  have qb := hQ _ hi2
  obtain ⟨x, hx⟩ : ∃ x, x = d[a]! := ⟨_, rfl⟩
  obtain ⟨y, hy⟩ : ∃ y, y = d[b]! := ⟨_, rfl⟩
  rw [← hx] at ca qa
  rw [← hy] at cb qb
  simp only [Bk.cells, Nat.mul_one, Row.val] at ca cb
  simp (maxSteps := 1000000) [go_sem]
  refine AWp.draw mixed [(0, false), (1, false), (2, false), (3, false), (4, false), (5, false), (6, false), (7, false), (8, false), (9, false), (10, false)] (by kernel_rfl) ?_
  simp (maxSteps := 1000000) [go_sem, ca, cb, ha, hb]
  refine hC H y x _ hB qb qa ?_
  intro H3 c hp3 hc
  have hz3 : H3[sw]? = some ⟨[.int .i64 z], true, true⟩ := Same.get (S := fun _ => False) (Same.of_prefix hp3) hz (fun h => h)
  cases hyx : lt y x with
  | true =>
    rw [hyx] at hc
    have hc0 : c < 0 := by simpa using hc
    have lz : cellsAt H3 sw 0 1 = some [.int .i64 z] := by rw [cellsAt_of hz3 rfl (by simp)]; rfl
    obtain ⟨z1, hz1⟩ : ∃ z1, IntKind.i64.wrap (z + 1) = z1 := ⟨_, rfl⟩
    have sz : storeAt H3 sw 0 [.int .i64 z1] = some (H3.set sw ⟨[.int .i64 z1], true, true⟩) := by
      rw [storeAt_of hz3 rfl rfl (by simp) (by simp [Value.oneCell'])]; rfl
    have hlt := (List.getElem?_eq_some_iff.1 hz3).1
    have fin := h (H3.set sw ⟨[.int .i64 z1], true, true⟩) b a _ ((Same.of_prefix hp3).trans same_set) (List.getElem?_set_self hlt) (.inr ⟨rfl, rfl⟩)
    generalize H3.set sw ⟨[.int .i64 z1], true, true⟩ = H4 at sz fin
    simp (maxSteps := 1000000) [go_sem, hc, hc0, lz, hz1, sz]
    exact fin
  | false =>
    rw [hyx] at hc
    have hc0 : ¬ c < 0 := by simpa using hc
    have fin := h H3 a b z (Same.of_prefix hp3) hz3 (.inl ⟨rfl, rfl⟩)
    simp (maxSteps := 1000000) [go_sem, hc, hc0]
    exact fin

theorem medianB_ok {HB H : Heap} {id sw a b c n : Nat} {z : Int} {d : Array Bk} {lt : Bk → Bk → Bool} {g : FuncId} {fs cs : List Value} {Q : Bk → Prop} (hA : Arr Bk.cells H id d) (hn : d.size = n) (hl : n ≤ 1048576) (ha : a < n) (hb : b < n) (hc : c < n) (hQ : QA Q d)
    (hC : Cmp Try.prog Bk.val lt g fs cs Q id HB) (hB : Same (fun k => k = id) HB H) (hz : H[sw]? = some ⟨[.int .i64 z], true, true⟩) (hsw : HB.length ≤ sw) (hid : id ≠ sw) (Post : Value → Heap → Prop)
    (h : ∀ H' (x : Nat) (z' : Int), Same (fun k => k = sw) H H' → H'[sw]? = some ⟨[.int .i64 z'], true, true⟩ → (x = a ∨ x = b ∨ x = c) → Post (.int .i64 x) H') :
    ACalls Try.prog 99 [lv 3 id 0 n, .int .i64 a, .int .i64 b, .int .i64 c, .pointer (some ⟨sw, 0, none⟩), .func (.func g) fs.toArray cs.toArray] H Post := by
  have stepB : ∀ {H1 : Heap}, Same (fun k => k = sw) H H1 → Same (fun k => k = id) HB H1 := fun h1 => hB.via h1 (by intro j hj e; omega)
  have stepA : ∀ {H1 : Heap}, Same (fun k => k = sw) H H1 → Arr Bk.cells H1 id d := fun h1 => h1.get hA hid
  refine acalls_vc (rs := [.tmp 12]) Try.func99 rfl rfl Try.ntmps99 rfl rfl ?_
  simp (maxSteps := 1000000) [go_sem]
  refine order2B_ok hA hn hl ha hb hQ hC hB hz hsw hid _ ?_
  intro H1 a1 b1 z1 hs1 hz1 h1
  simp (maxSteps := 1000000) [go_sem]
  refine order2B_ok (stepA hs1) hn hl (by omega) hc hQ hC (stepB hs1) hz1 hsw hid _ ?_
  intro H2 b2 c2 z2 hs2 hz2 h2
  have hs2 := hs1.trans hs2
  simp (maxSteps := 1000000) [go_sem]
  refine order2B_ok (stepA hs2) hn hl (by omega) (by omega) hQ hC (stepB hs2) hz2 hsw hid _ ?_
  intro H3 a3 b3 z3 hs3 hz3 h3
  simp (maxSteps := 1000000) [go_sem]
  exact h H3 b3 z3 (hs2.trans hs3) hz3 (by omega)

theorem medianAdjB_ok {HB H : Heap} {id sw a n : Nat} {z : Int} {d : Array Bk} {lt : Bk → Bk → Bool} {g : FuncId} {fs cs : List Value} {Q : Bk → Prop} (hA : Arr Bk.cells H id d) (hn : d.size = n) (hl : n ≤ 1048576) (ha0 : 0 < a) (ha : a + 1 < n) (hQ : QA Q d)
    (hC : Cmp Try.prog Bk.val lt g fs cs Q id HB) (hB : Same (fun k => k = id) HB H) (hz : H[sw]? = some ⟨[.int .i64 z], true, true⟩) (hsw : HB.length ≤ sw) (hid : id ≠ sw) (Post : Value → Heap → Prop)
    (h : ∀ H' (x : Nat) (z' : Int), Same (fun k => k = sw) H H' → H'[sw]? = some ⟨[.int .i64 z'], true, true⟩ → (a ≤ x + 1 ∧ x ≤ a + 1) → Post (.int .i64 x) H') :
    ACalls Try.prog 98 [lv 3 id 0 n, .int .i64 a, .pointer (some ⟨sw, 0, none⟩), .func (.func g) fs.toArray cs.toArray] H Post := by
  obtain ⟨p, hp⟩ : ∃ p, p = a - 1 := ⟨_, rfl⟩
  obtain ⟨q, hq⟩ : ∃ q, q = a + 1 := ⟨_, rfl⟩
  have w0 : IntKind.i64.wrap ((a : Int) - 1) = (p : Int) := by rw [hp, i64w (by omega) (by omega)]; omega
  have w1 : IntKind.i64.wrap ((a : Int) + 1) = (q : Int) := by rw [hq, i64w (by omega) (by omega)]; omega
  refine acalls_vc (rs := [.tmp 8]) Try.func98 rfl rfl Try.ntmps98 rfl rfl ?_
  simp (maxSteps := 1000000) [go_sem, w0, w1]
  refine medianB_ok hA hn hl (by omega) (by omega) (by omega) hQ hC hB hz hsw hid _ ?_
  intro H1 x z1 hs1 hz1 h1
  simp (maxSteps := 1000000) [go_sem]
  exact h H1 x z1 hs1 hz1 (by omega)

theorem pivotB_ok {H : Heap} {id a b n : Nat} {d : Array Bk} {lt : Bk → Bk → Bool} {g : FuncId} {fs cs : List Value} {Q : Bk → Prop} (hA : Arr Bk.cells H id d) (hn : d.size = n) (hl : n ≤ 1048576) (hab : a < b) (hb : b ≤ n) (hQ : QA Q d)
    (hC : Cmp Try.prog Bk.val lt g fs cs Q id H) (Post : Value → Heap → Prop)
    (h : ∀ H' (x : Nat) (t : Int), H <+: H' → (a ≤ x ∧ x < b) → Post (.tuple #[.int .i64 x, .int .i64 t]) H') :
    ACalls Try.prog 91 [lv 3 id 0 n, .int .i64 a, .int .i64 b, .func (.func g) fs.toArray cs.toArray] H Post := by
  obtain ⟨l, hll⟩ : ∃ l, l = b - a := ⟨_, rfl⟩
  obtain ⟨q, hq⟩ : ∃ q, q = l / 4 := ⟨_, rfl⟩
  obtain ⟨i, hi⟩ : ∃ i, i = a + q := ⟨_, rfl⟩
  obtain ⟨j, hj⟩ : ∃ j, j = a + q * 2 := ⟨_, rfl⟩
  obtain ⟨k, hk⟩ : ∃ k, k = a + q * 3 := ⟨_, rfl⟩
  have w0 : IntKind.i64.wrap ((b : Int) - a) = (l : Int) := by rw [hll, i64w (by omega) (by omega)]; omega
  have w1 : IntKind.i64.wrap ((l : Int) / 4) = (q : Int) := by rw [hq, i64w (by omega) (by omega)]; omega
  have w1' : IntKind.i64.wrap (q : Int) = (q : Int) := i64w (by omega) (by omega)
  have w2 : IntKind.i64.wrap ((q : Int) * 2) = (q : Int) * 2 := i64w (by omega) (by omega)
  have w3 : IntKind.i64.wrap ((q : Int) * 3) = (q : Int) * 3 := i64w (by omega) (by omega)
  have w4 : IntKind.i64.wrap ((a : Int) + q) = (i : Int) := by rw [hi, i64w (by omega) (by omega)]; omega
  have w5 : IntKind.i64.wrap ((a : Int) + (q : Int) * 2) = (j : Int) := by rw [hj, i64w (by omega) (by omega)]; omega
  have w6 : IntKind.i64.wrap ((a : Int) + (q : Int) * 3) = (k : Int) := by rw [hk, i64w (by omega) (by omega)]; omega
  have hidl := hA.lt
  have hp0 : H <+: H ++ [⟨[.int .i64 0], true, true⟩] := List.prefix_append _ _
  have hz0 : (H ++ [(⟨[.int .i64 0], true, true⟩ : Blk)])[H.length]? = some ⟨[.int .i64 0], true, true⟩ := by simp
  have fin0 : ∀ (H' : Heap) (x : Nat) (t : Int), Same (fun k => k = H.length) (H ++ [⟨[.int .i64 0], true, true⟩]) H' → (a ≤ x ∧ x < b) → Post (.tuple #[.int .i64 x, .int .i64 t]) H' := by
    intro H' x t hs hx
    refine h H' x t ?_ hx
    exact ((Same.of_prefix (S := fun k => k = H.length) hp0).trans hs).prefix (by intro j hj e; omega)
  have lz : ∀ {H' : Heap} {z : Int}, H'[H.length]? = some ⟨[.int .i64 z], true, true⟩ → cellsAt H' H.length 0 1 = some [.int .i64 z] := by
    intro H' z hz; rw [cellsAt_of hz rfl (by simp)]; rfl
  refine acalls_vc (rs := [.tmp 8, .tmp 9]) Try.func91 rfl rfl Try.ntmps91 rfl rfl ?_
  by_cases h8 : 8 ≤ l
  · have h8' : (8 : Int) ≤ l := by omega
    by_cases h50 : 50 ≤ l
    · have h50' : (50 : Int) ≤ l := by omega
      simp (maxSteps := 1000000) [go_sem, w0, w1, w1', w2, w3, w4, w5, w6, h8, h8', h50, h50']
      have hA0 := hA.pre hp0
      have hB0 : Same (fun k => k = id) H (H ++ [⟨[.int .i64 0], true, true⟩]) := Same.of_prefix hp0
      generalize H ++ [(⟨[.int .i64 0], true, true⟩ : Blk)] = H0 at hp0 hz0 fin0 hA0 hB0 ⊢
      have stepB : ∀ {H1 : Heap}, Same (fun k => k = H.length) H0 H1 → Same (fun k => k = id) H H1 := fun h1 => hB0.via h1 (by intro j hj e; omega)
      have stepA : ∀ {H1 : Heap}, Same (fun k => k = H.length) H0 H1 → Arr Bk.cells H1 id d := fun h1 => h1.get hA0 (by omega)
      refine medianAdjB_ok hA0 hn hl (by omega) (by omega) hQ hC hB0 hz0 (Nat.le_refl _) (by omega) _ ?_
      intro H1 i1 z1 hs1 hz1 h1
      simp (maxSteps := 1000000) [go_sem]
      refine medianAdjB_ok (stepA hs1) hn hl (by omega) (by omega) hQ hC (stepB hs1) hz1 (Nat.le_refl _) (by omega) _ ?_
      intro H2 j1 z2 hs2 hz2 h2
      have hs2 := hs1.trans hs2
      simp (maxSteps := 1000000) [go_sem]
      refine medianAdjB_ok (stepA hs2) hn hl (by omega) (by omega) hQ hC (stepB hs2) hz2 (Nat.le_refl _) (by omega) _ ?_
      intro H3 k1 z3 hs3 hz3 h3
      have hs3 := hs2.trans hs3
      simp (maxSteps := 1000000) [go_sem]
      refine medianB_ok (stepA hs3) hn hl (by omega) (by omega) (by omega) hQ hC (stepB hs3) hz3 (Nat.le_refl _) (by omega) _ ?_
      intro H4 x z4 hs4 hz4 h4
      have hs4 := hs3.trans hs4
      have c4 := lz hz4
      have hx : a ≤ x ∧ x < b := by omega
      by_cases e0 : z4 = 0
      · have fin := fin0 H4 x 1 hs4 hx
        subst e0
        simp (maxSteps := 1000000) [go_sem, c4]
        exact fin
      · have e0' : (z4 == 0) = false := by simpa using e0
        by_cases e1 : z4 = 12
        · have fin := fin0 H4 x 2 hs4 hx
          subst e1
          simp (maxSteps := 1000000) [go_sem, c4]
          exact fin
        · have fin := fin0 H4 x 0 hs4 hx
          have e1' : (z4 == 12) = false := by simpa using e1
          simp (maxSteps := 1000000) [go_sem, c4, e0, e0', e1, e1']
          exact fin
    · have h50' : ¬ ((50 : Int) ≤ l) := by omega
      simp (maxSteps := 1000000) [go_sem, w0, w1, w1', w2, w3, w4, w5, w6, h8, h8', h50, h50']
      have hA0 := hA.pre hp0
      have hB0 : Same (fun k => k = id) H (H ++ [⟨[.int .i64 0], true, true⟩]) := Same.of_prefix hp0
      generalize H ++ [(⟨[.int .i64 0], true, true⟩ : Blk)] = H0 at hp0 hz0 fin0 hA0 hB0 ⊢
      refine medianB_ok hA0 hn hl (by omega) (by omega) (by omega) hQ hC hB0 hz0 (Nat.le_refl _) (by omega) _ ?_
      intro H4 x z4 hs4 hz4 h4
      have c4 := lz hz4
      have hx : a ≤ x ∧ x < b := by omega
      by_cases e0 : z4 = 0
      · have fin := fin0 H4 x 1 hs4 hx
        subst e0
        simp (maxSteps := 1000000) [go_sem, c4]
        exact fin
      · have e0' : (z4 == 0) = false := by simpa using e0
        by_cases e1 : z4 = 12
        · have fin := fin0 H4 x 2 hs4 hx
          subst e1
          simp (maxSteps := 1000000) [go_sem, c4]
          exact fin
        · have fin := fin0 H4 x 0 hs4 hx
          have e1' : (z4 == 12) = false := by simpa using e1
          simp (maxSteps := 1000000) [go_sem, c4, e0, e0', e1, e1']
          exact fin
  · have h8' : ¬ ((8 : Int) ≤ l) := by omega
    have fin := fin0 _ j 1 (Same.refl _ _) (by omega)
    simp (maxSteps := 1000000) [go_sem, w0, w1, w1', w2, w3, w4, w5, w6, h8, h8']
    exact fin

end Go.Proofs.Ytfnegaedkomcgaa
end

section
/- Sorting by a function: the partitions. -/
set_option linter.all false
set_option maxRecDepth 20000
set_option maxHeartbeats 8000000
namespace Go.Proofs.Ytfnegaedkomcgaa
open Go.Ab Go.Sort

theorem partEqB_ok {H : Heap} {id a b pivot n : Nat} {d : Array Bk} {lt : Bk → Bk → Bool} {g : FuncId} {fs cs : List Value} {Q : Bk → Prop} (hA : Arr Bk.cells H id d) (hn : d.size = n) (hl : n ≤ 1048576) (hap : a ≤ pivot) (hpb : pivot < b) (hb : b ≤ n) (hQ : QA Q d)
    (hC : Cmp Try.prog Bk.val lt g fs cs Q id H) (Post : Value → Heap → Prop) (h : ∀ H', Same (fun k => k = id) H H' → Arr Bk.cells H' id (partitionEqual lt d a b pivot).2 → Post (.int .i64 ((partitionEqual lt d a b pivot).1 : Nat)) H') :
    ACalls Try.prog 94 [lv 3 id 0 n, .int .i64 a, .int .i64 b, .int .i64 pivot, .func (.func g) fs.toArray cs.toArray] H Post := by
  refine acalls_vc (rs := [.tmp 10]) Try.func94 rfl rfl Try.ntmps94 rfl rfl ?_
  obtain ⟨b1, hb1⟩ : ∃ b1, b1 = b - 1 := ⟨_, rfl⟩
  obtain ⟨a1, ha1⟩ : ∃ a1, a1 = a + 1 := ⟨_, rfl⟩
  have w0 : IntKind.i64.wrap ((b : Int) - 1) = (b1 : Int) := by rw [hb1, i64w (by omega) (by omega)]; omega
  have w1 : IntKind.i64.wrap ((a : Int) + 1) = (a1 : Int) := by rw [ha1, i64w (by omega) (by omega)]; omega
  have hi1 : a < d.size := by omega
  have hi2 : pivot < d.size := by omega
  have n1 : a < n := by omega
  have n2 : pivot < n := by omega
  have ca := hA.load Bk.cells_len hi1
  have cb := hA.load Bk.cells_len hi2
  obtain ⟨H5, H6, s1, s0, hA6, hS6, hl6⟩ := hA.swap Bk.cells_len Bk.cells_one hi1 hi2
  obtain ⟨x, hx⟩ : ∃ x, x = d[a]! := ⟨_, rfl⟩
  obtain ⟨y, hy⟩ : ∃ y, y = d[pivot]! := ⟨_, rfl⟩
  rw [← hx] at ca s0
  rw [← hy] at cb s1
  simp only [Bk.cells, Nat.mul_one, Row.val] at ca cb s0 s1
  have e0 : partitionEqual lt d a b pivot = partEqLoop lt a a1 b1 (swp d a pivot) := by rw [hb1, ha1]; rfl
  rw [e0] at h
  have hQ6 := hQ.swp hi1 hi2
  have hsz6 : (swp d a pivot).size = n := by rw [size_swp]; exact hn
  generalize swp d a pivot = d0 at *
  simp (maxSteps := 1000000) [go_sem]
  refine AWp.draw mixed [(0, false), (1, false), (2, false), (3, false), (4, false), (5, false), (6, false), (7, false), (8, false), (9, false), (10, false), (11, false), (12, false), (13, false), (14, false), (15, false)] (by kernel_rfl) ?_
  simp (maxSteps := 1000000) [go_sem, ca, cb, n1, n2, s1, s0, w0, w1]
  refine AWp.loopVc (St := Nat × Nat × Array Bk) (fun s => [(0, lv 3 id 0 n), (1, .int .i64 a), (4, .func (.func g) fs.toArray cs.toArray), (11, .int .i64 s.1), (12, .int .i64 s.2.1)])
    (fun s H' => a < s.1 ∧ s.1 ≤ s.2.1 + 1 ∧ s.2.1 < n ∧ s.2.2.size = n ∧ QA Q s.2.2 ∧ Same (fun k => k = id) H H' ∧ Arr Bk.cells H' id s.2.2 ∧ partEqLoop lt a s.1 s.2.1 s.2.2 = partEqLoop lt a a1 b1 d0) (fun s => s.2.1 + 1 - s.1) (a1, b1, d0) ?_ ?_ ?_
  · simp [upF, Fr.get, Up.refl]
  · exact ⟨by simp only; omega, by simp only; omega, by simp only; omega, hsz6, hQ6, hS6, hA6, rfl⟩
  · rintro K0 ⟨i, j, d1⟩ H1 ⟨hai, hij, hjn, hsz, hQ1, hS1, hA1, hO⟩ hK0
    simp only at hai hij hjn hsz hQ1 hS1 hA1 hO
    obtain ⟨pv, hpv⟩ : ∃ pv, pv = d1[a]! := ⟨_, rfl⟩
    rw [partEqLoop_eq, ← hpv] at hO
    simp (maxSteps := 1000000) [go_sem]
    refine AWp.loopCut (St := Nat) (St' := Unit) 2 (fun s => [(0, lv 3 id 0 n), (1, .int .i64 a), (4, .func (.func g) fs.toArray cs.toArray), (11, .int .i64 s), (12, .int .i64 j)])
      (fun s H2 => a < s ∧ s ≤ j + 1 ∧ Same (fun k => k = id) H H2 ∧ Arr Bk.cells H2 id d1 ∧ scanUp (fun x => !lt pv x) d1 j s = scanUp (fun x => !lt pv x) d1 j i) (fun s => j + 1 - s) i
      (fun _ => [(0, lv 3 id 0 n), (1, .int .i64 a), (4, .func (.func g) fs.toArray cs.toArray), (11, .int .i64 ((scanUp (fun x => !lt pv x) d1 j i : Nat) : Int)), (12, .int .i64 j)])
      (fun _ H2 => Same (fun k => k = id) H H2 ∧ Arr Bk.cells H2 id d1) ?_ ?_ ?_ ?_
    · simp [upF, Fr.get, Up.refl]
    · exact ⟨by omega, by omega, hS1, hA1, rfl⟩
    · rintro K KE s H2 ⟨has, hsj, hS2, hA2, hP⟩ hK hKE
      by_cases hsj2 : s ≤ j
      · have hi1 : s < (d1).size := by omega
        have hi0 : a < (d1).size := by omega
        have n1 : s < n := by omega
        have n0 : a < n := by omega
        have hsj3 : (s : Int) ≤ ((j : Nat) : Int) := by omega
        have hw_s : IntKind.i64.wrap ((s : Int) + 1) = (s : Int) + 1 := i64w (by omega) (by omega)
        have c1 := hA2.load Bk.cells_len hi1
        have c0 := hA2.load Bk.cells_len hi0
        have q1 := hQ1 _ hi1
        have q0 := hQ1 _ hi0
        obtain ⟨x, hx⟩ : ∃ x, x = (d1)[s]! := ⟨_, rfl⟩
        rw [← hx] at c1 q1
        rw [← hpv] at c0 q0
        simp only [Bk.cells, Nat.mul_one, Row.val] at c1 c0
        refine AWp.draw mixed [(0, false), (1, false), (2, false), (3, false), (4, false), (5, false), (6, false), (7, false), (8, false), (9, false), (10, false), (11, false), (12, false), (13, false), (14, false), (15, false), (16, false)] (by kernel_rfl) ?_
        simp (maxSteps := 1000000) [go_sem, hsj2, hsj3, c1, c0, n1, n0]
        refine hC H2 pv x _ hS2 q0 q1 ?_
        intro H3 c hp3 hc
        have hS3 := hS2.via (Same.of_prefix (S := fun _ => False) hp3) (fun _ _ h => h.elim)
        have hA3 := hA2.pre hp3
        cases hl' : lt pv x with
        | false =>
          rw [hl'] at hc
          have hc0 := hc
          simp only [decide_eq_true_eq, decide_eq_false_iff_not] at hc0
          simp (maxSteps := 1000000) [go_sem, hc, hc0, hw_s]
          exact hK (s + 1) _ _ (by omega) (by simp [upF, Fr.get, Up.refl]) ⟨by omega, by omega, hS3, hA3, by rw [← hP]; exact (scanUp_go hsj2 (by show (!lt pv d1[s]!) = true; rw [← hx]; simp [hl'])).symm⟩
        | true =>
          rw [hl'] at hc
          have hc0 := hc
          simp only [decide_eq_true_eq, decide_eq_false_iff_not] at hc0
          rw [scanUp_stop (.inr (by show (!lt pv d1[s]!) = false; rw [← hx]; simp [hl']))] at hP
          simp (maxSteps := 1000000) [go_sem, hc, hc0]
          exact hKE () _ _ (by simp [upF, Fr.get, Up.refl, hP]) ⟨hS3, hA3⟩
      · rw [scanUp_stop (.inl (by omega))] at hP
        have hsj3 : ¬ ((s : Int) ≤ ((j : Nat) : Int)) := by omega
        refine AWp.draw mixed [(0, false), (1, false), (2, false), (3, false), (4, false), (5, false), (6, false), (7, false), (8, false), (9, false), (10, false), (11, false), (12, false), (13, false), (14, false), (15, false), (16, false)] (by kernel_rfl) ?_
        simp (maxSteps := 1000000) [go_sem, undef, hsj2, hsj3]
        exact hKE () _ _ (by simp [upF, Fr.get, Up.refl, hP]) ⟨hS2, hA2⟩
    rintro _ H3 ⟨hS3, hA3⟩
    have hge1 := scanUp_ge (fun x => !lt pv x) d1 j i
    have hle1 := (scanUp_spec (fun x => !lt pv x) d1 j _ i rfl).2.1 (by omega)
    have hle1s := (scanUp_spec (fun x => !lt pv x) d1 j _ i rfl).2.2.2
    obtain ⟨i2, hi2'⟩ : ∃ I, scanUp (fun x => !lt pv x) d1 j i = I := ⟨_, rfl⟩
    rw [hi2'] at hge1 hle1 hle1s ⊢
    simp (maxSteps := 1000000) [go_sem]
    refine AWp.loopCut (St := Nat) (St' := Unit) 4 (fun s => [(0, lv 3 id 0 n), (1, .int .i64 a), (4, .func (.func g) fs.toArray cs.toArray), (11, .int .i64 i2), (12, .int .i64 s)])
      (fun s H2 => s < n ∧ i2 ≤ s + 1 ∧ Same (fun k => k = id) H H2 ∧ Arr Bk.cells H2 id d1 ∧ scanDown (fun x => lt pv x) d1 i2 s = scanDown (fun x => lt pv x) d1 i2 j) (fun s => s) j
      (fun _ => [(0, lv 3 id 0 n), (1, .int .i64 a), (4, .func (.func g) fs.toArray cs.toArray), (11, .int .i64 i2), (12, .int .i64 ((scanDown (fun x => lt pv x) d1 i2 j : Nat) : Int))])
      (fun _ H2 => Same (fun k => k = id) H H2 ∧ Arr Bk.cells H2 id d1) ?_ ?_ ?_ ?_
    · simp [upF, Fr.get, Up.refl]
    · exact ⟨by omega, by omega, hS3, hA3, rfl⟩
    · rintro K KE s H2 ⟨hsn, his, hS2, hA2, hP⟩ hK hKE
      by_cases his2 : i2 ≤ s
      · obtain ⟨r, rfl⟩ : ∃ r, s = r + 1 := ⟨s - 1, by omega⟩
        have hi1 : r + 1 < (d1).size := by omega
        have hi0 : a < (d1).size := by omega
        have n1 : r + 1 < n := by omega
        have n0 : a < n := by omega
        have m1 : (r : Int) + 1 < n := by omega
        have z1 : (0 : Int) ≤ (r : Int) + 1 := by omega
        have his3 : ((i2 : Nat) : Int) ≤ (r : Int) + 1 := by omega
        have hwr : IntKind.i64.wrap (r : Int) = (r : Int) := i64w (by omega) (by omega)
        have c1 := hA2.load Bk.cells_len hi1
        have c0 := hA2.load Bk.cells_len hi0
        have q1 := hQ1 _ hi1
        have q0 := hQ1 _ hi0
        obtain ⟨x, hx⟩ : ∃ x, x = (d1)[r + 1]! := ⟨_, rfl⟩
        rw [← hx] at c1 q1
        rw [← hpv] at c0 q0
        simp only [Bk.cells, Nat.mul_one, Row.val] at c1 c0
        refine AWp.draw mixed [(0, false), (1, false), (2, false), (3, false), (4, false), (5, false), (6, false), (7, false), (8, false), (9, false), (10, false), (11, false), (12, false), (13, false), (14, false), (15, false)] (by kernel_rfl) ?_
        simp (maxSteps := 1000000) [go_sem, his2, his3, c1, c0, n1, n0, m1, z1]
        refine hC H2 pv x _ hS2 q0 q1 ?_
        intro H3 c hp3 hc
        have hS3 := hS2.via (Same.of_prefix (S := fun _ => False) hp3) (fun _ _ h => h.elim)
        have hA3 := hA2.pre hp3
        cases hl' : lt pv x with
        | true =>
          rw [hl'] at hc
          have hc0 := hc
          simp only [decide_eq_true_eq, decide_eq_false_iff_not] at hc0
          simp (maxSteps := 1000000) [go_sem, hc, hc0, hwr]
          exact hK r _ _ (by omega) (by simp [upF, Fr.get, Up.refl]) ⟨by omega, by omega, hS3, hA3, by rw [← hP]; exact (scanDown_go his2 (by show (lt pv d1[r + 1]!) = true; rw [← hx]; simp [hl'])).symm⟩
        | false =>
          rw [hl'] at hc
          have hc0 := hc
          simp only [decide_eq_true_eq, decide_eq_false_iff_not] at hc0
          rw [scanDown_stop (.inr (by show (lt pv d1[r + 1]!) = false; rw [← hx]; simp [hl']))] at hP
          have hP' : ((r : Nat) : Int) + 1 = ((scanDown (fun x => lt pv x) d1 i2 j : Nat) : Int) := by rw [← hP]; simp
          simp (maxSteps := 1000000) [go_sem, hc, hc0]
          exact hKE () _ _ (by simp [upF, Fr.get, Up.refl, hP']) ⟨hS3, hA3⟩
      · rw [scanDown_stop (.inl (by omega))] at hP
        have his3 : ¬ (((i2 : Nat) : Int) ≤ (s : Int)) := by omega
        refine AWp.draw mixed [(0, false), (1, false), (2, false), (3, false), (4, false), (5, false), (6, false), (7, false), (8, false), (9, false), (10, false), (11, false), (12, false), (13, false), (14, false), (15, false)] (by kernel_rfl) ?_
        simp (maxSteps := 1000000) [go_sem, undef, his2, his3]
        exact hKE () _ _ (by simp [upF, Fr.get, Up.refl, hP]) ⟨hS2, hA2⟩
    rintro _ H4 ⟨hS4, hA4⟩
    have hge2 := scanDown_le (fun x => lt pv x) d1 i2 j
    have hle2 := (scanDown_spec (fun x => lt pv x) d1 i2 j).2.1 (by omega)
    have hle2s := (scanDown_spec (fun x => lt pv x) d1 i2 j).2.2.2
    obtain ⟨j2, hj2'⟩ : ∃ J, scanDown (fun x => lt pv x) d1 i2 j = J := ⟨_, rfl⟩
    rw [hj2'] at hge2 hle2 hle2s ⊢
    simp (maxSteps := 1000000) [go_sem]
    rw [hi2', hj2'] at hO
    by_cases hgt : j2 < i2
    · have hgt' : (j2 : Int) < i2 := by omega
      rw [if_pos hgt] at hO
      simp (maxSteps := 1000000) [go_sem, hgt, hgt']
      rw [← hO] at h
      exact h H4 hS4 hA4
    · have hgt' : ¬ ((j2 : Int) < i2) := by omega
      rw [if_neg hgt] at hO
      have hne : i2 ≠ j2 := by
        intro e
        have f1 := hle1s (by omega)
        have f2 := hle2s (by omega) (by omega)
        rw [← e] at f2
        simp only [Bool.not_eq_false'] at f1
        rw [f1] at f2; cases f2
      obtain ⟨r, rfl⟩ : ∃ r, j2 = r + 1 := ⟨j2 - 1, by omega⟩
      have hi1 : i2 < d1.size := by omega
      have hi2 : r + 1 < d1.size := by omega
      have n1 : i2 < n := by omega
      have n2 : r + 1 < n := by omega
      have m2 : (r : Int) + 1 < n := by omega
      have z2 : (0 : Int) ≤ (r : Int) + 1 := by omega
      have hgt3 : ¬ ((r : Int) + 1 < i2) := by omega
      have hwr : IntKind.i64.wrap (r : Int) = (r : Int) := i64w (by omega) (by omega)
      have hwi : IntKind.i64.wrap ((i2 : Int) + 1) = (i2 : Int) + 1 := i64w (by omega) (by omega)
      have ca := hA4.load Bk.cells_len hi1
      have cb := hA4.load Bk.cells_len hi2
      obtain ⟨H5, H6, s1, s0, hA6, hS6, hl6⟩ := hA4.swap Bk.cells_len Bk.cells_one hi1 hi2
      obtain ⟨x, hx⟩ : ∃ x, x = d1[i2]! := ⟨_, rfl⟩
      obtain ⟨y, hy⟩ : ∃ y, y = d1[r + 1]! := ⟨_, rfl⟩
      rw [← hx] at ca s0
      rw [← hy] at cb s1
      simp only [Bk.cells, Nat.mul_one, Row.val] at ca cb s0 s1
      simp (maxSteps := 1000000) [go_sem, hgt, hgt', hgt3]
      refine AWp.draw mixed [(0, false), (1, false), (2, false), (3, false), (4, false), (5, false), (6, false), (7, false), (8, false), (9, false), (10, false), (11, false), (12, false), (13, false), (14, false), (15, false)] (by kernel_rfl) ?_
      simp (maxSteps := 1000000) [go_sem, ca, cb, n1, n2, m2, z2, s1, s0, hwr, hwi]
      exact hK0 (i2 + 1, r, swp d1 i2 (r + 1)) _ _ (by simp only; omega) (by simp [upF, Fr.get, Up.refl]) ⟨by simp only; omega, by simp only; omega, by simp only; omega, by rw [size_swp]; exact hsz, hQ1.swp hi1 hi2, hS4.trans hS6, hA6, hO⟩

end Go.Proofs.Ytfnegaedkomcgaa
end
