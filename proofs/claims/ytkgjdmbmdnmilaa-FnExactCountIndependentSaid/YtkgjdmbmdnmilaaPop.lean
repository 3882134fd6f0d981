/- Counting sets by their size: plain Lean. -/
import Derived.Test.YtkgjdmbmdnmilaaIndepI
set_option linter.all false
set_option maxRecDepth 20000
set_option maxHeartbeats 4000000
namespace Go.Proofs.Ytkgjdmbmdnmilaa
open Go.Ab

/-- The number of bits among the first w. -/
def pc : Nat → Nat → Nat
  | 0, _ => 0
  | w + 1, m => m % 2 + pc w (m / 2)
theorem pc_le : ∀ (w m : Nat), pc w m ≤ w
  | 0, _ => Nat.le_refl _
  | w + 1, m => by have := pc_le w (m / 2); simp only [pc]; omega
theorem pc_even (w t : Nat) : pc (w + 1) (2 * t) = pc w t := by simp [pc]
theorem pc_odd (w t : Nat) : pc (w + 1) (2 * t + 1) = pc w t + 1 := by
  simp only [pc]
  rw [show (2 * t + 1) % 2 = 1 by omega, show (2 * t + 1) / 2 = t by omega]; omega

def nPop (w k : Nat) (Q : Nat → Bool) : Nat := (List.range (2 ^ w)).countP fun t => decide (pc w t = k) && Q t

theorem countP_range_two (f : Nat → Bool) (n : Nat) : (List.range (2 * n)).countP f = (List.range n).countP (fun t => f (2 * t)) + (List.range n).countP (fun t => f (2 * t + 1)) := by
  induction n with
  | zero => rfl
  | succ n ih =>
    rw [show 2 * (n + 1) = 2 * n + 1 + 1 by omega, List.range_succ, List.range_succ, List.countP_append, List.countP_append, ih, List.range_succ, List.countP_append, List.countP_append]
    simp only [List.countP_singleton]
    omega
theorem nPop_succ (w k : Nat) (Q : Nat → Bool) : nPop (w + 1) (k + 1) Q = nPop w (k + 1) (fun t => Q (2 * t)) + nPop w k (fun t => Q (2 * t + 1)) := by
  unfold nPop
  rw [Nat.pow_succ, Nat.mul_comm, countP_range_two]
  congr 1
  · apply List.countP_congr; intro t _; rw [pc_even]
  · apply List.countP_congr; intro t _; rw [pc_odd]; simp
theorem nPop_none (w : Nat) (Q : Nat → Bool) : nPop w 0 Q = if Q 0 then 1 else 0 := by
  induction w generalizing Q with
  | zero => simp [nPop, pc]
  | succ w ih =>
    have : nPop (w + 1) 0 Q = nPop w 0 (fun t => Q (2 * t)) := by
      unfold nPop
      rw [Nat.pow_succ, Nat.mul_comm, countP_range_two]
      have h0 : (List.range (2 ^ w)).countP (fun t => decide (pc (w + 1) (2 * t + 1) = 0) && Q (2 * t + 1)) = 0 := by
        rw [List.countP_eq_zero]; intro t _; rw [pc_odd]; simp
      rw [h0, Nat.add_zero]
      apply List.countP_congr; intro t _; rw [pc_even]
    rw [this, ih]
theorem nPop_big {w k : Nat} (h : w < k) (Q : Nat → Bool) : nPop w k Q = 0 := by
  unfold nPop
  rw [List.countP_eq_zero]
  intro t _
  have := pc_le w t
  have : ¬ pc w t = k := by omega
  simp [this]
theorem nPop_le (w k : Nat) (Q : Nat → Bool) : nPop w k Q ≤ 2 ^ w := by
  unfold nPop
  have := List.countP_le_length (p := fun t => decide (pc w t = k) && Q t) (l := List.range (2 ^ w))
  rwa [List.length_range] at this
theorem nPop_false {w k : Nat} {Q : Nat → Bool} (h : ∀ t, Q t = false) : nPop w k Q = 0 := by
  unfold nPop; rw [List.countP_eq_zero]; intro t _; rw [h]; simp
theorem nPop_congr {w k : Nat} {Q Q' : Nat → Bool} (h : ∀ t, Q t = Q' t) : nPop w k Q = nPop w k Q' := by rw [show Q = Q' from funext h]

theorem inSet_or {a c : Nat} {b : Bk} (h : inSet a b = true) : inSet (a ||| c) b = true := by
  simp only [inSet, decide_eq_true_eq] at h ⊢
  apply Nat.eq_of_testBit_eq
  intro i
  have := congrArg (fun m : Nat => m.testBit i) h
  simp only [Nat.testBit_and, Nat.testBit_or] at this ⊢
  revert this
  cases (bm b).testBit i <;> cases a.testBit i <;> cases c.testBit i <;> simp
theorem indep_or {bs : List Bk} {a c : Nat} (h : indep bs a = false) : indep bs (a ||| c) = false := by
  unfold indep at h ⊢
  rw [List.all_eq_false] at h ⊢
  obtain ⟨b, hb, hn⟩ := h
  refine ⟨b, hb, ?_⟩
  simp only [Bool.not_eq_true, Bool.not_eq_false'] at hn ⊢
  exact inSet_or hn
/-- The sets over a set, by what stands from f on. -/
def qf (bs : List Bk) (set f t : Nat) : Bool := indep bs (set ||| t * 2 ^ f)
theorem qf_zero {bs : List Bk} {set f : Nat} : qf bs set f 0 = indep bs set := by simp [qf]
theorem qf_even (bs : List Bk) (set f t : Nat) : qf bs set f (2 * t) = qf bs set (f + 1) t := by
  unfold qf; rw [Nat.pow_succ, show 2 * t * 2 ^ f = t * (2 ^ f * 2) by rw [Nat.mul_comm 2 t, Nat.mul_assoc, Nat.mul_comm 2]]
theorem qf_odd (bs : List Bk) (set f t : Nat) : qf bs set f (2 * t + 1) = qf bs (set ||| 2 ^ f) (f + 1) t := by
  unfold qf
  have h1 : 2 ^ f < 2 ^ (f + 1) := Nat.pow_lt_pow_right (by omega) (by omega)
  have h2 := Nat.two_pow_add_eq_or_of_lt h1 t
  have h3 : (2 * t + 1) * 2 ^ f = 2 ^ (f + 1) * t + 2 ^ f := by
    rw [Nat.add_mul, Nat.one_mul, Nat.pow_succ, Nat.mul_comm 2 t, Nat.mul_assoc, Nat.mul_comm (2 ^ f) 2, Nat.mul_comm (2 * 2 ^ f) t]
  rw [h3, h2, Nat.or_comm (2 ^ (f + 1) * t), ← Nat.or_assoc, Nat.mul_comm]
theorem nPop_step {bs : List Bk} {set f w k : Nat} : nPop (w + 1) (k + 1) (qf bs set f) = nPop w (k + 1) (qf bs set (f + 1)) + (if indep bs (set ||| 2 ^ f) then nPop w k (qf bs (set ||| 2 ^ f) (f + 1)) else 0) := by
  rw [nPop_succ, nPop_congr (qf_even bs set f), nPop_congr (qf_odd bs set f)]
  congr 1
  cases h : indep bs (set ||| 2 ^ f) with
  | true => rfl
  | false =>
    simp only [Bool.false_eq_true, if_false]
    exact nPop_false fun t => indep_or h

theorem l07Count_ok {v : Nat} {bs : List Bk} (hS : IsSys v bs) (hl : bs.length ≤ 1048576) : ∀ (k set f : Nat) {H : Heap} {u : Value} (_ : BlocksAt H u bs), set < 2 ^ f → f ≤ v → k ≤ 15 → indep bs set = true → ∀ (Post : Value → Heap → Prop),
    (∀ H', H <+: H' → Post (.int .i64 (nPop (v - f) k (qf bs set f))) H') → ACalls Try.prog 129 [sysV v u, .int .i64 set, .int .i64 k, .int .i64 f] H Post := by
  have hp := hS.1
  have hv : v ≤ 15 := by omega
  intro k
  induction k with
  | zero =>
    intro set f H u hu hset hf hk hi Post h
    refine acalls_vc (rs := [.tmp 8]) Try.func129 rfl rfl Try.ntmps129 rfl rfl ?_
    simp (maxSteps := 1000000) [go_sem, sysV, hu.one]
    have := h _ (List.prefix_append H [⟨[.int .i64 v, u], true, true⟩])
    rw [nPop_none, qf_zero, hi] at this
    simpa using this
  | succ k ih =>
    intro set f H u hu hset hf hk hi Post h
    refine acalls_vc (rs := [.tmp 8]) Try.func129 rfl rfl Try.ntmps129 rfl rfl ?_
    have hk1 : (((k : Int) + 1) == 0) = false := by rw [beq_eq_false_iff_ne]; omega
    simp (maxSteps := 1000000) [go_sem, sysV, hu.one, hk1]
    have hp0 : H <+: H ++ [⟨[.int .i64 v, u], true, true⟩] := List.prefix_append _ _
    have hx0 := Holds.last H [.int .i64 v, u]
    generalize H ++ [(⟨[.int .i64 v, u], true, true⟩ : Blk)] = H0 at hp0 hx0 ⊢
    refine AWp.loopVc (St := Nat × Nat) (fun s => [(1, .int .i64 set), (2, .int .i64 (k + 1)), (4, .pointer (some ⟨H.length, 0, none⟩)), (9, .int .i64 s.2), (10, .int .i64 s.1)])
      (fun s H' => f ≤ s.1 ∧ s.1 ≤ v ∧ H0 <+: H' ∧ s.2 + nPop (v - s.1) (k + 1) (qf bs set s.1) = nPop (v - f) (k + 1) (qf bs set f)) (fun s => v - s.1) (f, 0) ?_ ?_ ?_
    · simp [upF, Fr.get, Up.refl]
    · exact ⟨by simp, hf, List.prefix_refl _, by simp⟩
    · rintro K ⟨p, cnt⟩ H' ⟨hfp, hpv, hp', hcnt⟩ hK
      simp only at hfp hpv hp' hcnt
      obtain ⟨d0, d1, d2⟩ := (hx0.pre hp').sys
      have hb1 : nPop (v - f) (k + 1) (qf bs set f) ≤ 2 ^ 15 := Nat.le_trans (nPop_le _ _ _) (Nat.pow_le_pow_right (by omega) (by omega))
      have hwt : IntKind.i64.wrap ((p : Int) + ((k : Int) + 1)) = (p : Int) + ((k : Int) + 1) := i64w (by omega) (by omega)
      by_cases hlt : p + (k + 1) ≤ v
      · have hlt' : (p : Int) + ((k : Int) + 1) ≤ (v : Int) := by omega
        obtain ⟨w, hw⟩ : ∃ w, v - p = w + 1 := ⟨v - p - 1, by omega⟩
        have hw' : v - (p + 1) = w := by omega
        rw [hw, nPop_step] at hcnt
        have hset2 : set < 2 ^ 15 := Nat.lt_of_lt_of_le hset (Nat.pow_le_pow_right (by omega) (by omega))
        have hp2 : 2 ^ p < 2 ^ 15 := Nat.pow_lt_pow_right (by omega) (by omega)
        have hor15 : set ||| 2 ^ p < 2 ^ 15 := or_lt hset2 hp2
        have horp : set ||| 2 ^ p < 2 ^ (p + 1) := or_lt (Nat.lt_of_lt_of_le hset (Nat.pow_le_pow_right (by omega) (by omega))) (Nat.pow_lt_pow_right (by omega) (by omega))
        have hcast : ((2 : Int) ^ p) = ((2 ^ p : Nat) : Int) := by rw [Int.natCast_pow]; rfl
        have huw : IntKind.u64.wrap (p : Int) = p := by rw [IntKind.wrap_u64]; omega
        have hmin : min p 64 = p := by omega
        have ih' := fun {H : Heap} {u : Value} (hu : BlocksAt H u bs) => ih (set ||| 2 ^ p) (p + 1) hu horp (by omega) (by omega)
        rw [hw'] at ih'
        clear ih
        obtain ⟨T, hT⟩ : ∃ T, T = 2 ^ p := ⟨_, rfl⟩
        rw [← hT] at hcast hp2 hor15 hcnt ih'
        have hsh : IntKind.i64.wrap ((2 : Int) ^ p) = T := by rw [hcast]; exact i64w (by omega) (by omega)
        have hor := or_i64w (a := set) (b := T) (by omega) (by omega)
        have hwk : IntKind.i64.wrap ((k : Int) + 1 - 1) = (k : Int) := by rw [show (k : Int) + 1 - 1 = k by omega]; exact i64w (by omega) (by omega)
        have hwk2 : IntKind.i64.wrap (k : Int) = (k : Int) := i64w (by omega) (by omega)
        have hw_p : IntKind.i64.wrap ((p : Int) + 1) = (p : Int) + 1 := i64w (by omega) (by omega)
        simp (maxSteps := 1000000) [go_sem, hwt, hlt', d1, d0, huw, hmin, hsh, hor]
        refine l07Independent_ok (hu.pre (hp0.trans hp')) hS.good hp.2 hl (by omega) _ ?_
        intro H2 hp2'
        obtain ⟨d0, d1, d2⟩ := (hx0.pre (hp'.trans hp2')).sys
        cases hin : indep bs (set ||| T) with
        | false =>
          simp (maxSteps := 1000000) [go_sem, hw_p]
          rw [hin] at hcnt
          exact hK (p + 1, cnt) _ _ (by simp only; omega) (by simp [upF, Fr.get, Up.refl]) ⟨by simp only; omega, by simp only; omega, hp'.trans hp2', by simp only [hw']; simpa using hcnt⟩
        | true =>
          rw [hin] at hcnt
          simp only [if_true] at hcnt
          simp (maxSteps := 1000000) [go_sem, d0, hwk, hwk2, hw_p]
          refine ih' (hu.pre (hp0.trans (hp'.trans hp2'))) hin _ ?_
          intro H3 hp3
          have hsum : IntKind.i64.wrap ((cnt : Int) + (nPop w k (qf bs (set ||| T) (p + 1)) : Int)) = (cnt : Int) + (nPop w k (qf bs (set ||| T) (p + 1)) : Int) := i64w (by omega) (by omega)
          simp (maxSteps := 1000000) [go_sem, hsum, hw_p]
          refine hK (p + 1, cnt + nPop w k (qf bs (set ||| T) (p + 1))) _ _ (by simp only; omega) (by simp [upF, Fr.get, Up.refl]) ⟨by simp only; omega, by simp only; omega, hp'.trans (hp2'.trans hp3), by simp only [hw']; omega⟩
      · have hlt' : ¬ ((p : Int) + ((k : Int) + 1) ≤ (v : Int)) := by omega
        simp (maxSteps := 1000000) [go_sem, hwt, hlt', d1]
        rw [nPop_big (w := v - p) (by omega)] at hcnt
        have := h H' (hp0.trans hp')
        rwa [← hcnt, Nat.add_zero] at this

end Go.Proofs.Ytkgjdmbmdnmilaa
