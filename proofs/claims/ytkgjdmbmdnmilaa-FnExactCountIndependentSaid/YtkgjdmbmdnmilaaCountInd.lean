/- CountIndependent: both sides. -/
import Derived.Test.YtkgjdmbmdnmilaaOnes
set_option linter.all false
set_option maxRecDepth 20000
set_option maxHeartbeats 4000000
namespace Go.Proofs.Ytkgjdmbmdnmilaa
open Go.Ab

theorem pc_zero : ∀ w : Nat, pc w 0 = 0
  | 0 => rfl
  | w + 1 => by simp only [pc]; rw [show 0 / 2 = 0 from rfl, pc_zero w]
theorem pc_ext : ∀ (v w s : Nat), v ≤ w → s < 2 ^ v → pc w s = pc v s
  | 0, w, s, _, hs => by
    have : s = 0 := by simpa using hs
    rw [this, pc_zero]; rfl
  | v + 1, 0, s, h, _ => by omega
  | v + 1, w + 1, s, h, hs => by
    simp only [pc]
    rw [pc_ext v w (s / 2) (by omega) (by rw [Nat.pow_succ] at hs; omega)]
theorem indep_zero {p : Int} {bs : List Bk} (hg : ∀ x ∈ bs, good p x = true) (hp : p ≤ 15) : indep bs 0 = true := by
  unfold indep
  rw [List.all_eq_true]
  intro b hb
  obtain ⟨x, y, z, rfl, h1, h2, h3⟩ := good_nat (hg b hb) hp
  have := bm_sum h1 h2
  have h4 := Nat.two_pow_pos x
  simp only [inSet, Nat.and_zero, Bool.not_eq_true', decide_eq_false_iff_not]
  rw [this]
  generalize 2 ^ x = X at *; generalize 2 ^ y = Y at *; generalize 2 ^ z = Z at *
  omega

noncomputable def rCountI (p : Int) (bs : List Bk) (k : Int) : Int × Int :=
  if sysB p bs then (if decide (0 ≤ k) && decide (k ≤ 15) then (nPop p.toNat k.toNat (indep bs), 0) else (0, 2)) else (0, 1)

theorem specCountIndependent_ok {H : Heap} {u : Value} {p k : Int} {bs : List Bk} (hu : BlocksAt H u bs) (hl : bs.length ≤ 1048576) (hk : In64 k) (Post : Value → Heap → Prop)
    (h : ∀ H', H <+: H' → Post (.tuple #[.int .i64 (rCountI p bs k).1, .int .i64 (rCountI p bs k).2]) H') : ACalls Try.prog 71 [sysV p u, .int .i64 k] H Post := by
  refine acalls_vc (rs := [.tmp 4, .tmp 5]) Try.func71 rfl rfl Try.ntmps71 rfl rfl ?_
  simp (maxSteps := 1000000) [go_sem, sysV, hu.one]
  have hp0 : H <+: H ++ [⟨[.int .i64 p, u], true, true⟩] := List.prefix_append _ _
  have hx0 := Holds.last H [.int .i64 p, u]
  generalize H ++ [(⟨[.int .i64 p, u], true, true⟩ : Blk)] = H0 at hp0 hx0 ⊢
  refine l01Is' (hu.pre hp0) hl _ ?_
  intro H1 hp1
  obtain ⟨d0, d1, d2⟩ := (hx0.pre hp1).sys
  have fin := h H1 (hp0.trans hp1)
  cases hs : sysB p bs with
  | false =>
    simp (maxSteps := 1000000) [go_sem]
    simpa [rCountI, hs] using fin
  | true =>
    simp (maxSteps := 1000000) [go_sem]
    refine l01In_ok _ ?_
    cases hin : (decide (0 ≤ k) && decide (k ≤ 15)) with
    | false =>
      simp (maxSteps := 1000000) [go_sem]
      simpa [rCountI, hs, hin] using fin
    | true =>
      have hS := sysB_of hs
      have hp := hS.1
      have hkk : 0 ≤ k ∧ k ≤ 15 := by simpa using hin
      obtain ⟨v, rfl⟩ : ∃ n : Nat, p = n := ⟨p.toNat, by omega⟩
      obtain ⟨m, rfl⟩ : ∃ n : Nat, k = n := ⟨k.toNat, by omega⟩
      simp (maxSteps := 1000000) [go_sem, d0]
      refine l07Count_ok hS hl m 0 0 (hu.pre (hp0.trans hp1)) (by omega) (by omega) (by omega) (indep_zero hS.good hp.2) _ ?_
      intro H2 hp2
      simp (maxSteps := 1000000) [go_sem]
      have e : nPop (v - 0) m (qf bs 0 0) = nPop v m (indep bs) := nPop_congr fun t => by simp [qf]
      have := h H2 (hp0.trans (hp1.trans hp2))
      simp only [rCountI, hs, hin, if_true, Int.toNat_natCast] at this
      rw [← e] at this
      exact this

theorem all_ok {H : Heap} {u : Value} {v : Nat} (hu : u.oneCell' = true) (hv : v ≤ 15) (Post : Value → Heap → Prop) (h : ∀ H', H <+: H' → Post (.int .u64 (((2 ^ v : Nat) : Int) - 1)) H') : ACalls Try.prog 130 [sysV v u] H Post := by
  refine acalls_vc (rs := [.tmp 2]) Try.func130 rfl rfl Try.ntmps130 rfl rfl ?_
  have h2 : 2 ^ v ≤ 2 ^ 15 := Nat.pow_le_pow_right (by omega) hv
  have h3 := Nat.two_pow_pos v
  have hcast : ((2 : Int) ^ v) = ((2 ^ v : Nat) : Int) := by rw [Int.natCast_pow]; rfl
  have hmin : min v 64 = v := by omega
  have fin := h _ (List.prefix_append H [⟨[.int .i64 v, u], true, true⟩])
  generalize (2 : Nat) ^ v = T at *
  have hsh : IntKind.u64.wrap ((2 : Int) ^ v) = T := by rw [hcast]; exact u64n (by omega) (by omega)
  have hsb : IntKind.u64.wrap ((T : Int) - 1) = (T : Int) - 1 := u64n (by omega) (by omega)
  simp (maxSteps := 1000000) [go_sem, sysV, hu, hmin, hsh, hsb]
  exact fin

theorem size_ok {H : Heap} {x : Nat} (hx : x < 2 ^ 15) (Post : Value → Heap → Prop) (h : Post (.int .i64 (pc 15 x)) H) : ACalls Try.prog 132 [.int .u64 x] H Post := by
  refine acalls_vc (rs := [.tmp 2]) Try.func132 rfl rfl Try.ntmps132 rfl rfl ?_
  simp (maxSteps := 1000000) [go_sem]
  refine acalls_vc (rs := [.tmp 2]) Try.func184 rfl rfl Try.ntmps184 rfl rfl ?_
  simp (maxSteps := 1000000) [go_sem]
  refine onesCount64_ok hx _ ?_
  simp (maxSteps := 1000000) [go_sem]
  exact h

theorem one_ok {H : Heap} {b : Bool} (Post : Value → Heap → Prop) (h : Post (.int .i64 (if b then 1 else 0)) H) : ACalls Try.prog 131 [.bool b] H Post := by
  refine acalls_vc (rs := [.tmp 2]) Try.func131 rfl rfl Try.ntmps131 rfl rfl ?_
  cases b <;> simp (maxSteps := 1000000) [go_sem] <;> exact h

theorem implCountIndependent_ok {H : Heap} {u : Value} {p k : Int} {bs : List Bk} (hu : BlocksAt H u bs) (hl : bs.length ≤ 1048576) (hk : In64 k) (Post : Value → Heap → Prop)
    (h : ∀ H', H <+: H' → Post (.tuple #[.int .i64 (rCountI p bs k).1, .int .i64 (rCountI p bs k).2]) H') : ACalls Try.prog 72 [sysV p u, .int .i64 k] H Post := by
  refine acalls_vc (rs := [.tmp 4, .tmp 5]) Try.func72 rfl rfl Try.ntmps72 rfl rfl ?_
  simp (maxSteps := 1000000) [go_sem, sysV, hu.one]
  have hp0 : H <+: H ++ [⟨[.int .i64 p, u], true, true⟩] := List.prefix_append _ _
  have hx0 := Holds.last H [.int .i64 p, u]
  generalize H ++ [(⟨[.int .i64 p, u], true, true⟩ : Blk)] = H0 at hp0 hx0 ⊢
  refine implIsSys (hu.pre hp0) _ ?_
  intro H1 hp1
  obtain ⟨d0, d1, d2⟩ := (hx0.pre hp1).sys
  have fin := h H1 (hp0.trans hp1)
  cases hs : sysB p bs with
  | false =>
    simp (maxSteps := 1000000) [go_sem]
    simpa [rCountI, hs] using fin
  | true =>
    simp (maxSteps := 1000000) [go_sem]
    refine within_ok _ ?_
    cases hin : (decide (0 ≤ k) && decide (k ≤ 15)) with
    | false =>
      simp (maxSteps := 1000000) [go_sem]
      simpa [rCountI, hs, hin] using fin
    | true =>
      have hS := sysB_of hs
      have hp := hS.1
      have hkk : 0 ≤ k ∧ k ≤ 15 := by simpa using hin
      obtain ⟨v, rfl⟩ : ∃ n : Nat, p = n := ⟨p.toNat, by omega⟩
      obtain ⟨m, rfl⟩ : ∃ n : Nat, k = n := ⟨k.toNat, by omega⟩
      have hv : v ≤ 15 := by omega
      have hM15 : 2 ^ v ≤ 2 ^ 15 := Nat.pow_le_pow_right (by omega) hv
      have hM0 := Nat.two_pow_pos v
      have hpc : ∀ s, s < 2 ^ v → pc 15 s = pc v s := fun s hs => pc_ext v 15 s hv hs
      have hall : ∀ {H : Heap} {u : Value} (hu : u.oneCell' = true) (Post : Value → Heap → Prop) (h : ∀ H', H <+: H' → Post (.int .u64 (((2 ^ v : Nat) : Int) - 1)) H'), ACalls Try.prog 130 [sysV v u] H Post := fun hu => all_ok hu hv
      have hfin : (∀ H', H <+: H' → Post (.tuple #[.int .i64 ((List.range (2 ^ v)).countP fun t => decide (pc v t = m) && indep bs t), .int .i64 0]) H') := by
        intro H' hp'
        have := h H' hp'
        simpa only [rCountI, hs, hin, if_true, Int.toNat_natCast, nPop] using this
      clear fin h
      generalize (2 : Nat) ^ v = M at hM15 hM0 hpc hall hfin
      simp (maxSteps := 1000000) [go_sem]
      refine AWp.loopVc (fun s : Nat => [(1, .int .i64 m), (2, .pointer (some ⟨H.length, 0, none⟩)), (6, .int .i64 ((List.range s).countP fun t => decide (pc v t = m) && indep bs t)), (7, .int .u64 s)])
        (fun s H' => s ≤ M ∧ H1 <+: H') (fun s => M - s) 0 ?_ ?_ ?_
      · simp [upF, Fr.get, Up.refl]
      · exact ⟨by omega, List.prefix_refl _⟩
      · rintro K s H' ⟨hsM, hp'⟩ hK
        obtain ⟨d0, d1, d2⟩ := (hx0.pre (hp1.trans hp')).sys
        simp (maxSteps := 1000000) [go_sem, d0]
        refine hall hu.one _ ?_
        intro H2 hp2
        obtain ⟨d0, d1, d2⟩ := (hx0.pre (hp1.trans (hp'.trans hp2))).sys
        have hcl : (List.range s).countP (fun t => decide (pc v t = m) && indep bs t) ≤ s := by
          have := List.countP_le_length (p := fun t => decide (pc v t = m) && indep bs t) (l := List.range s)
          rwa [List.length_range] at this
        have hsn : (List.range (s + 1)).countP (fun t => decide (pc v t = m) && indep bs t) = (List.range s).countP (fun t => decide (pc v t = m) && indep bs t) + (if decide (pc v s = m) && indep bs s then 1 else 0) := by
          rw [List.range_succ, List.countP_append, List.countP_singleton]
        obtain ⟨c, hc⟩ : ∃ c, c = (List.range s).countP (fun t => decide (pc v t = m) && indep bs t) := ⟨_, rfl⟩
        rw [← hc] at hcl hsn
        simp only [← hc]
        by_cases hlt : s < M
        · have hlt' : (s : Int) < (M : Int) := by omega
          have hle : (s : Int) ≤ (M : Int) - 1 := by omega
          have hw_s : IntKind.u64.wrap ((s : Int) + 1) = (s : Int) + 1 := u64n (by omega) (by omega)
          simp (maxSteps := 1000000) [go_sem, hlt, hlt', hle]
          refine size_ok (by omega) _ ?_
          rw [hpc s hlt]
          by_cases hk2 : pc v s = m
          · have e : (((pc v s : Nat) : Int) == (m : Int)) = true := by simp [hk2]
            simp (maxSteps := 1000000) [go_sem, e, d0]
            refine isIndependentI_ok (hu.pre (hp0.trans (hp1.trans (hp'.trans hp2)))) hS.good hp.2 (by omega) _ ?_
            intro H3 hp3
            simp (maxSteps := 1000000) [go_sem]
            refine one_ok _ ?_
            have hw1 : IntKind.i64.wrap ((c : Int) + 1) = (c : Int) + 1 := i64w (by omega) (by omega)
            have hw0 : IntKind.i64.wrap (c : Int) = (c : Int) := i64w (by omega) (by omega)
            rw [decide_eq_true hk2, Bool.true_and] at hsn
            cases hi : indep bs s with
            | true =>
              rw [hi] at hsn; simp only [if_true] at hsn
              simp (maxSteps := 1000000) [go_sem, hw1, hw_s]
              exact hK (s + 1) _ _ (by omega) (by simp [upF, Fr.get, Up.refl, hsn]) ⟨by omega, hp'.trans (hp2.trans hp3)⟩
            | false =>
              rw [hi] at hsn; simp only [Bool.false_eq_true, if_false, Nat.add_zero] at hsn
              simp (maxSteps := 1000000) [go_sem, hw0, hw_s]
              exact hK (s + 1) _ _ (by omega) (by simp [upF, Fr.get, Up.refl, hsn]) ⟨by omega, hp'.trans (hp2.trans hp3)⟩
          · have e : (((pc v s : Nat) : Int) == (m : Int)) = false := by rw [beq_eq_false_iff_ne]; omega
            rw [decide_eq_false hk2, Bool.false_and] at hsn
            simp only [Bool.false_eq_true, if_false, Nat.add_zero] at hsn
            have hw0 : IntKind.i64.wrap (c : Int) = (c : Int) := i64w (by omega) (by omega)
            simp (maxSteps := 1000000) [go_sem, e]
            refine one_ok _ ?_
            simp (maxSteps := 1000000) [go_sem, hw0, hw_s]
            exact hK (s + 1) _ _ (by omega) (by simp [upF, Fr.get, Up.refl, hsn]) ⟨by omega, hp'.trans hp2⟩
        · have : s = M := by omega
          subst this
          have hle : ¬ ((s : Int) ≤ (s : Int) - 1) := by omega
          simp (maxSteps := 1000000) [go_sem, hle]
          rw [hc]
          exact hfin H2 (hp0.trans (hp1.trans (hp'.trans hp2)))

end Go.Proofs.Ytkgjdmbmdnmilaa
