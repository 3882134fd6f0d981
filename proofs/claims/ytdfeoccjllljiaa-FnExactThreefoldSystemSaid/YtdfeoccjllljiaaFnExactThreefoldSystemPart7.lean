/- Part 7 of what the proof of the law FnExactThreefoldSystem rests on: contracts of functions of the program, for every argument that each names; no statement of the seat is proved here. -/
import Derived.Test.YtdfeoccjllljiaaFnExactThreefoldSystemPart6

section
/- Squares: the specification's side. -/
set_option linter.all false
set_option maxRecDepth 20000
set_option maxHeartbeats 8000000
namespace Go.Proofs.Ytdfeoccjllljiaa
open Go.Ab Go.Sort

theorem sq_row {H : Heap} {i o : Nat} {sq : List (List Int)} (hu : IntssAt H (lv 1 i o sq.length) sq) {x : Nat} (hx : x < sq.length) : ∀ {H' : Heap}, H <+: H' → ∃ i' o', cellsAt H' i (o + x) 1 = some [lv 1 i' o' (rowN sq x).length] ∧ At H' i' o' (ints (rowN sq x)) := by
  intro H' hp
  obtain ⟨i2, o2, e2, hrow⟩ := row_at hu hx
  obtain ⟨rfl, rfl⟩ := lv_inj e2
  obtain ⟨i', o', c1, hr⟩ := hrow hp
  have hx2 := rowN_in hx
  rw [List.getElem?_eq_getElem hx] at hx2
  rw [Option.some.inj hx2] at c1 hr
  obtain ⟨_, _, e3, hat, _⟩ := hr
  obtain ⟨rfl, rfl⟩ := lv_inj e3
  exact ⟨i', o', c1, hat⟩
theorem sq_at {H : Heap} {i o : Nat} {sq : List (List Int)} {x y : Nat} (hat : At H i o (ints (rowN sq x))) (hy : y < (rowN sq x).length) : cellsAt H i (o + y) 1 = some [.int .i64 (atN sq x y)] :=
  hat.cell (by simp [ints, nthN_in hy, atN])
theorem pow_i64 {n : Nat} (h : n < 60) : IntKind.i64.wrap ((2 : Int) ^ n) = ((2 ^ n : Nat) : Int) := by
  have hm2 : 2 ^ n < 2 ^ 62 := Nat.pow_lt_pow_right (by omega) (by omega)
  have e : ((2 : Int) ^ n) = ((2 ^ n : Nat) : Int) := by rw [Int.natCast_pow]; rfl
  rw [e]
  obtain ⟨T, hT⟩ : ∃ T, 2 ^ n = T := ⟨_, rfl⟩
  rw [hT] at hm2 ⊢
  exact i64w (by omega) (by omega)

theorem l02Square_ok {H : Heap} {u : Value} {sq : List (List Int)} (hu : IntssAt H u sq) (hl : sq.length + sq.flatten.length ≤ 1048576) (Post : Value → Heap → Prop) (h : ∀ H', H <+: H' → Post (.bool (sqB sq)) H') :
    ACalls Try.prog 92 [u] H Post := by
  obtain ⟨i, o, rfl⟩ : ∃ i o, u = lv 1 i o sq.length := by obtain ⟨i, o, _, e, _⟩ := hu; exact ⟨i, o, e⟩
  have hrl : ∀ r ∈ sq, r.length ≤ 1048576 := by
    intro r hr
    obtain ⟨s, hs⟩ := List.mem_iff_getElem?.1 hr
    have := off_le' hs; omega
  have hrow := @sq_row H i o sq hu
  refine acalls_vc (rs := [.tmp 2]) Try.func92 rfl rfl Try.ntmps92 rfl rfl ?_
  simp (maxSteps := 1000000) [go_sem]
  refine l01In_ok _ ?_
  by_cases hin : 2 ≤ sq.length ∧ sq.length ≤ 5
  · have e1 : (decide ((2 : Int) ≤ sq.length) && decide ((sq.length : Int) ≤ 5)) = true := by simp; omega
    rw [e1]
    simp (maxSteps := 1000000) [go_sem]
    obtain ⟨n, hn⟩ : ∃ n, sq.length = n := ⟨_, rfl⟩
    rw [hn] at hin hrow ⊢
    refine AWp.loopVc (St := Nat) (fun s => [(0, lv 1 i o n), (3, .int .i64 n), (4, .int .i64 s)])
      (fun s H' => s ≤ n ∧ H' = H ∧ ∀ x, x < s → (rowN sq x).length = n) (fun s => n - s) 0 ?_ ?_ ?_
    · simp [upF, Fr.get, Up.refl]
    · exact ⟨by omega, rfl, fun x hx => by omega⟩
    · rintro K s H' ⟨hs, rfl, hlen⟩ hK
      by_cases hlt : s < n
      · obtain ⟨i', o', c1, hat⟩ := hrow hlt (List.prefix_refl H')
        have hw_s : IntKind.i64.wrap ((s : Int) + 1) = (s : Int) + 1 := i64w (by omega) (by omega)
        by_cases hls : (rowN sq s).length = n
        · have hb : (((rowN sq s).length : Int) != (n : Int)) = false := by rw [bne_eq_false_iff_eq]; omega
          simp (maxSteps := 1000000) [go_sem, hlt, c1, hb, hw_s]
          refine hK (s + 1) _ _ (by omega) (by simp [upF, Fr.get, Up.refl]) ⟨by omega, rfl, fun x hx => ?_⟩
          by_cases hxs : x = s
          · subst hxs; exact hls
          · exact hlen x (by omega)
        · have hb : (((rowN sq s).length : Int) != (n : Int)) = true := by rw [bne_iff_ne]; omega
          have fin := h H' (List.prefix_refl _)
          rw [sqB_no (fun hh => hls (by have := (hh.2.1 s (by omega)).1; omega))] at fin
          simp (maxSteps := 1000000) [go_sem, hlt, c1, hb]
          exact fin
      · have : s = n := by omega
        subst this
        simp (maxSteps := 1000000) [go_sem]
        have wn : IntKind.i64.wrap ((s : Int) - 1) = (s : Int) - 1 := i64w (by omega) (by omega)
        have hcl : ∀ k, (colN sq k).length = s := fun k => by rw [colN_length, hn]
        refine AWp.loopVc (St := Nat) (fun x => [(0, lv 1 i o s), (3, .int .i64 s), (5, .int .i64 x)])
          (fun x H2 => x ≤ s ∧ H2 = H' ∧ ∀ j, j < x → OrdL s (rowN sq j) ∧ OrdL s (colN sq j)) (fun x => s - x) 0 ?_ ?_ ?_
        · simp [upF, Fr.get, Up.refl]
        · exact ⟨by omega, rfl, fun x hx => by omega⟩
        · rintro K2 x H2 ⟨hx, rfl, hor⟩ hK2
          by_cases hxs : x < s
          · obtain ⟨ix, ox, cx, hatx⟩ := hrow hxs (List.prefix_refl H2)
            rw [hlen x hxs] at cx
            have hw_x : IntKind.i64.wrap ((x : Int) + 1) = (x : Int) + 1 := i64w (by omega) (by omega)
            simp (maxSteps := 1000000) [go_sem, hxs]
            refine AWp.loopVc (St := Nat) (fun y => [(0, lv 1 i o s), (3, .int .i64 s), (5, .int .i64 x), (6, .int .i64 (maskL ((rowN sq x).take y))), (7, .int .i64 (maskL ((colN sq x).take y))), (8, .int .i64 y)])
              (fun y H3 => y ≤ s ∧ H3 = H2 ∧ (∀ j, j < y → 0 ≤ nthN (rowN sq x) j ∧ nthN (rowN sq x) j < s) ∧ ∀ j, j < y → 0 ≤ nthN (colN sq x) j ∧ nthN (colN sq x) j < s) (fun y => s - y) 0 ?_ ?_ ?_
            · simp [upF, Fr.get, Up.refl, maskL]
            · exact ⟨by omega, rfl, fun j hj => by omega, fun j hj => by omega⟩
            · rintro K3 y H3 ⟨hy, rfl, hr1, hc1⟩ hK3
              by_cases hys : y < s
              · obtain ⟨iy, oy, cy, haty⟩ := hrow hys (List.prefix_refl H3)
                rw [hlen y hys] at cy
                have lxy := sq_at hatx (y := y) (by rw [hlen x hxs]; exact hys)
                have lyx := sq_at haty (y := x) (by rw [hlen y hys]; exact hxs)
                have exy : nthN (rowN sq x) y = atN sq x y := rfl
                have eyx : nthN (colN sq x) y = atN sq y x := by
                  have e := nthN_in (xs := colN sq x) (k := y) (by rw [hcl]; exact hys)
                  rw [colN_get (by omega)] at e
                  exact (Option.some.inj e).symm
                have mr := mask_step (xs := rowN sq x) (y := y) (by rw [hlen x hxs]; exact hys)
                have mc := mask_step (xs := colN sq x) (y := y) (by rw [hcl]; exact hys)
                rw [exy] at mr
                rw [eyx] at mc
                have hw_y : IntKind.i64.wrap ((y : Int) + 1) = (y : Int) + 1 := i64w (by omega) (by omega)
                simp (maxSteps := 1000000) [go_sem, hys, hxs, cx, lxy, wn]
                refine l01In_ok _ ?_
                by_cases hi1 : 0 ≤ atN sq x y ∧ atN sq x y ≤ (s : Int) - 1
                · have f1 : (decide (0 ≤ atN sq x y) && decide (atN sq x y ≤ (s : Int) - 1)) = true := by simp [hi1]
                  rw [f1]
                  simp (maxSteps := 1000000) [go_sem, hys, hxs, cy, lyx, wn]
                  refine l01In_ok _ ?_
                  by_cases hi2 : 0 ≤ atN sq y x ∧ atN sq y x ≤ (s : Int) - 1
                  · have f2 : (decide (0 ≤ atN sq y x) && decide (atN sq y x ≤ (s : Int) - 1)) = true := by simp [hi2]
                    rw [f2]
                    obtain ⟨a, ha⟩ : ∃ a : Nat, atN sq x y = a := ⟨(atN sq x y).toNat, by omega⟩
                    obtain ⟨b, hb⟩ : ∃ b : Nat, atN sq y x = b := ⟨(atN sq y x).toNat, by omega⟩
                    rw [ha] at lxy mr hi1
                    rw [hb] at lyx mc hi2
                    rw [Int.toNat_natCast] at mr mc
                    have hm1 : maskL ((rowN sq x).take y) < 2 ^ 62 := Nat.lt_of_lt_of_le (maskL_lt (take_in hr1)) (Nat.pow_le_pow_right (by omega) (by omega))
                    have hm2 : maskL ((colN sq x).take y) < 2 ^ 62 := Nat.lt_of_lt_of_le (maskL_lt (take_in hc1)) (Nat.pow_le_pow_right (by omega) (by omega))
                    have hpa : 2 ^ a < 2 ^ 62 := Nat.pow_lt_pow_right (by omega) (by omega)
                    have hpb : 2 ^ b < 2 ^ 62 := Nat.pow_lt_pow_right (by omega) (by omega)
                    have ua : IntKind.u64.wrap (a : Int) = a := by rw [IntKind.wrap_u64]; omega
                    have ub : IntKind.u64.wrap (b : Int) = b := by rw [IntKind.wrap_u64]; omega
                    have na : min a 64 = a := by omega
                    have nb : min b 64 = b := by omega
                    have sa := pow_i64 (n := a) (by omega)
                    have sb := pow_i64 (n := b) (by omega)
                    have oa := or_i64w hm1 hpa
                    have ob := or_i64w hm2 hpb
                    rw [← mr] at oa
                    rw [← mc] at ob
                    generalize hA : 2 ^ a = A at *
                    generalize hB : 2 ^ b = B at *
                    have hA2 : ((2 : Int) ^ a) = (A : Int) := by rw [← hA, Int.natCast_pow]; rfl
                    have hB2 : ((2 : Int) ^ b) = (B : Int) := by rw [← hB, Int.natCast_pow]; rfl
                    simp (maxSteps := 1000000) [go_sem, hys, hxs, cx, cy, lxy, lyx, ua, ub, na, nb, sa, sb, oa, ob, hw_y]
                    refine hK3 (y + 1) _ _ (by omega) (by simp [upF, Fr.get, Up.refl]) ⟨by omega, rfl, fun j hj => ?_, fun j hj => ?_⟩
                    · by_cases hjy : j = y
                      · subst hjy; rw [exy]; omega
                      · exact hr1 j (by omega)
                    · by_cases hjy : j = y
                      · subst hjy; rw [eyx]; omega
                      · exact hc1 j (by omega)
                  · have f2 : (decide (0 ≤ atN sq y x) && decide (atN sq y x ≤ (s : Int) - 1)) = false := by
                      rw [Bool.and_eq_false_iff, decide_eq_false_iff_not, decide_eq_false_iff_not]; omega
                    rw [f2]
                    have fin := h H3 (List.prefix_refl _)
                    rw [sqB_no (fun hh => by have := hh.2.2 x (by omega); rw [hn] at this; have := ordL_in this hys; rw [eyx] at this; omega)] at fin
                    simp (maxSteps := 1000000) [go_sem]
                    exact fin
                · have f1 : (decide (0 ≤ atN sq x y) && decide (atN sq x y ≤ (s : Int) - 1)) = false := by
                    rw [Bool.and_eq_false_iff, decide_eq_false_iff_not, decide_eq_false_iff_not]; omega
                  rw [f1]
                  have fin := h H3 (List.prefix_refl _)
                  rw [sqB_no (fun hh => by have := hh.2.1 x (by omega); rw [hn] at this; have := ordL_in this hys; rw [exy] at this; omega)] at fin
                  simp (maxSteps := 1000000) [go_sem, undef]
                  exact fin
              · have : y = s := by omega
                subst this
                have er : (rowN sq x).take y = rowN sq x := List.take_of_length_le (by rw [hlen x hxs]; exact Nat.le_refl _)
                have ec : (colN sq x).take y = colN sq x := List.take_of_length_le (by rw [hcl]; exact Nat.le_refl _)
                rw [er, ec]
                have hr2 : ∀ z ∈ rowN sq x, 0 ≤ z ∧ z < y := by rw [← er]; exact take_in hr1
                have hc2 : ∀ z ∈ colN sq x, 0 ≤ z ∧ z < y := by rw [← ec]; exact take_in hc1
                have kr := ordL_mask (hlen x hxs) hr2
                have kc := ordL_mask (hcl x) hc2
                have hpy : 2 ^ y < 2 ^ 62 := Nat.pow_lt_pow_right (by omega) (by omega)
                have hpy0 : 0 < 2 ^ y := Nat.pow_pos (by omega)
                have uy : IntKind.u64.wrap (y : Int) = y := by rw [IntKind.wrap_u64]; omega
                have ny : min y 64 = y := by omega
                have sy := pow_i64 (n := y) (by omega)
                generalize maskL (rowN sq x) = R at *
                generalize maskL (colN sq x) = C at *
                generalize hY : 2 ^ y = Y at *
                have hY2 : ((2 : Int) ^ y) = (Y : Int) := by rw [← hY, Int.natCast_pow]; rfl
                have wY : IntKind.i64.wrap ((Y : Int) - 1) = (Y : Int) - 1 := i64w (by omega) (by omega)
                by_cases hR : R = Y - 1
                · have hRb : ((R : Int) != (Y : Int) - 1) = false := by rw [bne_eq_false_iff_eq]; omega
                  by_cases hC : C = Y - 1
                  · have hCb : ((C : Int) != (Y : Int) - 1) = false := by rw [bne_eq_false_iff_eq]; omega
                    simp (maxSteps := 1000000) [go_sem, uy, ny, sy, wY, hRb, hCb, hw_x]
                    refine hK2 (x + 1) _ _ (by omega) (by simp [upF, Fr.get, Up.refl]) ⟨by omega, rfl, fun j hj => ?_⟩
                    by_cases hjx : j = x
                    · subst hjx; exact ⟨kr.2 hR, kc.2 hC⟩
                    · exact hor j (by omega)
                  · have hCb : ((C : Int) != (Y : Int) - 1) = true := by rw [bne_iff_ne]; omega
                    have fin := h H3 (List.prefix_refl _)
                    rw [sqB_no (fun hh => by have := hh.2.2 x (by omega); rw [hn] at this; exact hC (kc.1 this))] at fin
                    simp (maxSteps := 1000000) [go_sem, uy, ny, sy, wY, hRb, hCb]
                    exact fin
                · have hRb : ((R : Int) != (Y : Int) - 1) = true := by rw [bne_iff_ne]; omega
                  have fin := h H3 (List.prefix_refl _)
                  rw [sqB_no (fun hh => by have := hh.2.1 x (by omega); rw [hn] at this; exact hR (kr.1 this))] at fin
                  simp (maxSteps := 1000000) [go_sem, undef, uy, ny, sy, wY, hRb]
                  exact fin
          · have : x = s := by omega
            subst this
            have fin := h H2 (List.prefix_refl _)
            rw [sqB_yes ⟨by omega, fun j hj => by rw [hn]; exact (hor j (by omega)).1, fun j hj => by rw [hn]; exact (hor j (by omega)).2⟩] at fin
            simp (maxSteps := 1000000) [go_sem]
            exact fin
  · have e1 : (decide ((2 : Int) ≤ sq.length) && decide ((sq.length : Int) ≤ 5)) = false := by
      rw [Bool.and_eq_false_iff, decide_eq_false_iff_not, decide_eq_false_iff_not]; omega
    rw [e1]
    have fin := h H (List.prefix_refl _)
    rw [sqB_no (fun hh => hin hh.1)] at fin
    simp (maxSteps := 1000000) [go_sem]
    exact fin

end Go.Proofs.Ytdfeoccjllljiaa
end

section
/- Arguments that are lists of blocks or lists of lists of numbers: their shapes, the guards on their size, their copies. -/
set_option linter.all false
set_option maxRecDepth 20000
set_option maxHeartbeats 4000000
namespace Go.Proofs.Ytdfeoccjllljiaa
open Go.Ab

theorem szIntss0_ok {H : Heap} {u : Value} {xss : List (List Int)} {k : Int} (hu : IntssAt0 H u xss) (hk0 : 0 ≤ k) (hk : k ≤ 1048576) (Post : Value → Heap → Prop)
    (h : Post (.int .i64 (if k < (xss.length + xss.flatten.length : Nat) then -1 else k - (xss.length + xss.flatten.length : Nat))) H) :
    ACalls Try.prog 35 [u, .int .i64 k] H Post := by
  obtain ⟨i, o, vs, rfl, hvl, h1, h2, h3⟩ := hu
  refine acalls_vc (rs := [.tmp 4]) Try.func35 rfl rfl Try.ntmps35 rfl rfl ?_
  have hw : IntKind.i64.wrap (k - xss.length) = k - xss.length := i64w (by omega) (by omega)
  by_cases hlt : k < xss.length
  · rw [if_pos (by omega)] at h
    have hlt' : decide (k - (xss.length : Int) < 0) = true := decide_eq_true (by omega)
    simp (maxSteps := 1000000) [go_sem, hw, hlt', hlt]
    exact h
  have hlt' : decide (k - (xss.length : Int) < 0) = false := decide_eq_false (by omega)
  simp (maxSteps := 1000000) [go_sem, hw, hlt', hlt]
  refine AWp.loopVc (St := Nat) (fun s => [(0, lv 1 i o xss.length), (1, .int .i64 (k - xss.length - (off xss s : Nat))), (5, .int .i64 s)])
    (fun s H' => s ≤ xss.length ∧ H' = H ∧ (off xss s : Int) ≤ k - xss.length) (fun s => xss.length - s) 0 ?_ ?_ ?_
  · simp [upF, Fr.get, Up.refl, off_zero]
  · exact ⟨by omega, rfl, by rw [off_zero]; omega⟩
  · rintro K s H' ⟨hs, rfl, ho⟩ hK
    by_cases hls : s < xss.length
    · have hx := List.getElem?_eq_getElem hls
      have hv := List.getElem?_eq_getElem (show s < vs.length by omega)
      have hz := h2 s _ _ hv hx
      obtain ⟨xs, hxs⟩ : ∃ xs, xss[s] = xs := ⟨_, rfl⟩
      rw [hxs] at hx hz
      have hos := off_succ hx
      have hol := off_le' hx
      have c1 := h1.cell hv
      obtain ⟨v, hvv⟩ : ∃ v, vs[s]'(by omega) = v := ⟨_, rfl⟩
      rw [hvv] at c1 hz
      have hzo := hz
      obtain ⟨j, q, rfl, _, _⟩ := hzo
      have hw_s : IntKind.i64.wrap ((s : Int) + 1) = (s : Int) + 1 := i64w (by omega) (by omega)
      simp (maxSteps := 1000000) [go_sem, hls, c1]
      refine szInt64S0_ok hz (by omega) (by omega) _ ?_
      by_cases hb : k - (xss.length : Int) - (off xss s : Nat) < xs.length
      · rw [if_pos hb]
        rw [if_pos (by omega)] at h
        simp (maxSteps := 1000000) [go_sem]
        exact h
      · rw [if_neg hb]
        have hb' : decide (k - (xss.length : Int) - (off xss s : Nat) - (xs.length : Int) < 0) = false := decide_eq_false (by omega)
        simp (maxSteps := 1000000) [go_sem, hb', hw_s, hb]
        refine hK (s + 1) _ _ (by omega) ?_ ⟨by omega, rfl, by omega⟩
        have e : k - (xss.length : Int) - (off xss (s + 1) : Nat) = k - (xss.length : Int) - (off xss s : Nat) - (xs.length : Int) := by omega
        simp [upF, Fr.get, Up.refl, e]
    · have : s = xss.length := by omega
      subst this
      rw [off_all] at ho ⊢
      rw [if_neg (by omega)] at h
      obtain ⟨T, hT⟩ : ∃ T, xss.flatten.length = T := ⟨_, rfl⟩
      rw [hT] at h ⊢
      simp (maxSteps := 1000000) [go_sem]
      have e : k - ((xss.length + T : Nat) : Int) = k - (xss.length : Int) - (T : Nat) := by omega
      rw [e] at h
      exact h

theorem intss_at0 {H : Heap} {v : Value} {xss : List (List Int)} (h : IntssAt0 H v xss) (hl : xss.length + xss.flatten.length ≤ 1048576) : IntssAt H v xss :=
  h.at (by omega) fun xs hx => by
    obtain ⟨s, hs⟩ := List.mem_iff_getElem?.1 hx
    have := off_le' hs; omega

theorem toIntss_ok {H : Heap} {u : Value} {xss : List (List Int)} (hu : IntssAt H u xss) (hl : xss.length + xss.flatten.length ≤ 1048576) (Post : Value → Heap → Prop) (h : ∀ H' v, H <+: H' → RowsIn H.length H'.length H' v xss → Post v H') :
    ACalls Try.prog 37 [u] H Post := by
  obtain ⟨i, o, vs, rfl, hvl, h1, h2, h3⟩ := hu
  refine ACalls.res ?_
  refine acalls_vc (rs := [.tmp 2]) Try.func37 rfl rfl Try.ntmps37 rfl rfl ?_
  have hm : ∀ n, (madeCells #[Value.slice none 0 0] n).toList = List.replicate n (.slice none 0 0) := by
    intro n
    rw [made_same (v := .slice none 0 0) (by simp) (by intro i hi; simp at hi; subst hi; rfl)]
  simp (maxSteps := 1000000) [go_sem, hm]
  refine andK_intro (by omega) ?_
  have hlast : (H ++ [(⟨List.replicate xss.length (.slice none 0 0), true, true⟩ : Blk)])[H.length]? = some ⟨List.replicate xss.length (.slice none 0 0), true, true⟩ := by simp
  have hpl : H <+: H ++ [⟨List.replicate xss.length (.slice none 0 0), true, true⟩] := List.prefix_append _ _
  have hlen0 : (H ++ [(⟨List.replicate xss.length (.slice none 0 0), true, true⟩ : Blk)]).length = H.length + 1 := by simp
  generalize H ++ [(⟨List.replicate xss.length (.slice none 0 0), true, true⟩ : Blk)] = H0 at hlast hpl hlen0 ⊢
  refine AWp.loopVc (St := Nat × List (Nat × List Int)) (fun s => [(0, lv 1 i o xss.length), (3, .slice (some ⟨H.length, 0, none⟩) xss.length xss.length), (4, .int .i64 s.1)])
    (fun s H' => s.1 ≤ xss.length ∧ H <+: H' ∧ s.2.map (·.2) = xss.take s.1 ∧ H'[H.length]? = some ⟨s.2.map rowVal ++ List.replicate (xss.length - s.1) (.slice none 0 0), true, true⟩ ∧ Rows1 H' s.2 ∧ ∀ r ∈ s.2, r.2 ≠ [] → H.length < r.1 ∧ r.1 < H'.length)
    (fun s => xss.length - s.1) (0, []) ?_ ?_ ?_
  · simp [upF, Fr.get, Up.refl]
  · exact ⟨by simp, hpl, by simp, by simpa using hlast, ⟨by simp, by simp⟩, by simp⟩
  · rintro K ⟨s, rows⟩ H' ⟨hs, hp, hrm, hc, hr1, hri⟩ hK
    simp only at hs hp hrm hc hr1 hri
    have hrl : rows.length = s := by
      have := congrArg List.length hrm
      simp only [List.length_map, List.length_take] at this; omega
    by_cases hls : s < xss.length
    · have hx := List.getElem?_eq_getElem hls
      have hv := List.getElem?_eq_getElem (show s < vs.length by omega)
      have hz := h2 s _ _ hv hx
      obtain ⟨xs, hxs⟩ : ∃ xs, xss[s] = xs := ⟨_, rfl⟩
      rw [hxs] at hx hz
      have hol := off_le' hx
      have c1 := (h1.pre hp).cell hv
      obtain ⟨v, hvv⟩ : ∃ v, vs[s]'(by omega) = v := ⟨_, rfl⟩
      rw [hvv] at c1 hz
      have hzo := hz
      obtain ⟨j, q, rfl, _, _⟩ := hzo
      have hw_s : IntKind.i64.wrap ((s : Int) + 1) = (s : Int) + 1 := i64w (by omega) (by omega)
      simp (maxSteps := 1000000) [go_sem, hls, c1]
      refine toInt64S_ok (hz.pre hp) _ (by omega) ?_
      rintro H2 w rid hp2 hrid ⟨rfl, hown, hlx⟩
      have hlt := (List.getElem?_eq_some_iff.1 hc).1
      have hc2 := Same.get (S := fun _ => False) (Same.of_prefix hp2) hc (fun h => h)
      have hcl : s < (rows.map rowVal ++ List.replicate (xss.length - s) (Value.slice none 0 0)).length := by simp; omega
      have hset : (rows.map rowVal ++ List.replicate (xss.length - s) (Value.slice none 0 0)).set s (lv 1 rid 0 xs.length) = (rows ++ [(rid, xs)]).map rowVal ++ List.replicate (xss.length - (s + 1)) (.slice none 0 0) := by
        obtain ⟨m, hm⟩ : ∃ m, xss.length - s = m + 1 := ⟨xss.length - s - 1, by omega⟩
        have hm2 : xss.length - (s + 1) = m := by omega
        rw [hm, hm2, List.set_append, if_neg (by simp; omega), List.length_map, hrl, Nat.sub_self, List.replicate_succ, List.set_cons_zero, List.map_append, List.append_assoc]
        rfl
      have s2 : storeAt H2 H.length s [lv 1 rid 0 xs.length] = some (H2.set H.length ⟨(rows ++ [(rid, xs)]).map rowVal ++ List.replicate (xss.length - (s + 1)) (.slice none 0 0), true, true⟩) := by
        rw [storeAt_of hc2 rfl rfl (by simp only [List.length_singleton]; omega) (by simp [Value.oneCell']), over_one hcl, hset]
      have hS : Same (fun j => j = H.length) H2 (H2.set H.length ⟨(rows ++ [(rid, xs)]).map rowVal ++ List.replicate (xss.length - (s + 1)) (.slice none 0 0), true, true⟩) := Same.set
      have fin := fun fr' hf => hK (s + 1, rows ++ [(rid, xs)]) fr' (H2.set H.length ⟨(rows ++ [(rid, xs)]).map rowVal ++ List.replicate (xss.length - (s + 1)) (.slice none 0 0), true, true⟩) (by simp only; omega) hf ⟨by simp only; omega, ((Same.of_prefix (hp.trans hp2)).trans hS).prefix (by omega), by
          simp only [List.map_append, List.map_cons, List.map_nil, hrm]
          rw [List.take_succ_eq_append_getElem hls, hxs], by rw [List.getElem?_set_self (List.getElem?_eq_some_iff.1 hc2).1], ?_, ?_⟩
      · generalize H2.set H.length ⟨(rows ++ [(rid, xs)]).map rowVal ++ List.replicate (xss.length - (s + 1)) (.slice none 0 0), true, true⟩ = H3 at s2 fin
        simp (maxSteps := 1000000) [go_sem, hls, s2, hw_s]
        exact fin _ (by simp [upF, Fr.get, Up.refl])
      · have hle2 := hp2.length_le
        constructor
        · intro r hm
          rcases List.mem_append.1 hm with hm | hm
          · by_cases hne : r.2 = []
            · exact .inl hne
            · refine (hr1.1 r hm).imp (fun h => h) fun hb => ?_
              have := hri r hm hne
              exact hS.get (Same.get (S := fun _ => False) (Same.of_prefix hp2) hb (fun h => h)) (by omega)
          · simp at hm; subst hm
            refine hown.imp (fun h => h) fun hb => ?_
            exact hS.get hb (by simp only; omega)
        · intro a b r t ha hb hab hrn htn
          have key : ∀ (a : Nat) (r : Nat × List Int), (rows ++ [(rid, xs)])[a]? = some r → (a < rows.length ∧ rows[a]? = some r) ∨ (a = rows.length ∧ r = (rid, xs)) := by
            intro a r ha
            rcases Nat.lt_or_ge a rows.length with h | h
            · rw [List.getElem?_append_left h] at ha; exact .inl ⟨h, ha⟩
            · rw [List.getElem?_append_right h] at ha
              cases hk : a - rows.length with
              | zero => rw [hk] at ha; simp at ha; exact .inr ⟨by omega, ha.symm⟩
              | succ k => rw [hk] at ha; simp at ha
          rcases key a r ha with ⟨g1, g1'⟩ | ⟨g1, rfl⟩
          · rcases key b t hb with ⟨g2, g2'⟩ | ⟨g2, rfl⟩
            · exact hr1.2 a b r t g1' g2' hab hrn htn
            · have := (hri r (List.mem_of_getElem? g1') hrn).2; simp only; omega
          · rcases key b t hb with ⟨g2, g2'⟩ | ⟨g2, rfl⟩
            · have := (hri t (List.mem_of_getElem? g2') htn).2; simp only; omega
            · omega
      · intro r hm hne
        have hle2 := hp2.length_le
        rw [List.length_set]
        rcases List.mem_append.1 hm with hm | hm
        · have := hri r hm hne; omega
        · simp at hm; subst hm
          have hb := hown.resolve_left hne
          exact ⟨by simp only; omega, (List.getElem?_eq_some_iff.1 hb).1⟩
    · have : s = xss.length := by omega
      subst this
      rw [List.take_length] at hrm
      have hlt := (List.getElem?_eq_some_iff.1 hc).1
      simp only [Nat.sub_self, List.replicate_zero, List.append_nil] at hc
      have hrows : RowsIn H.length H'.length H' (lv 1 H.length 0 xss.length) xss := by
        refine ⟨H.length, rows, by rw [hrl], (Holds.at ⟨true, hc⟩), hr1, fun r hm hne => ⟨by have := hri r hm hne; omega, by have := hri r hm hne; exact ⟨by omega, this.2⟩⟩, hrm, fun _ => ⟨Nat.le_refl _, hlt⟩, by omega, by omega⟩
      simp (maxSteps := 1000000) [go_sem]
      refine ⟨lv 1 H.length 0 xss.length, Up.ex (by omega) ?_, h H' _ hp hrows⟩
      right
      have := Holds.cells (H := H') (i := H.length) (o := 0) (n := xss.length) ⟨true, hc⟩ (by simp [hrl])
      rw [Nat.mul_one, this]; rfl

end Go.Proofs.Ytdfeoccjllljiaa
end

section
/- Kinds of squares: both sides. -/
set_option linter.all false
set_option maxRecDepth 20000
set_option maxHeartbeats 8000000
namespace Go.Proofs.Ytdfeoccjllljiaa
open Go.Ab Go.Sort

def commR (n : Nat) (sq : List (List Int)) (x y : Nat) : Bool := (List.range y).all fun y => atN sq x y == atN sq y x
def commP (n : Nat) (sq : List (List Int)) (x : Nat) : Bool := (List.range x).all fun x => commR n sq x n
def idemP (sq : List (List Int)) (x : Nat) : Bool := (List.range x).all fun x : Nat => atN sq x x == (x : Int)
def halfP (n : Nat) (sq : List (List Int)) (x : Nat) : Bool := (((n % 2 : Nat) : Int) == 0) && (List.range x).all fun x : Nat => atN sq x x == ((x % (n / 2) : Nat) : Int)
theorem commR_succ (n : Nat) (sq : List (List Int)) (x y : Nat) : commR n sq x (y + 1) = (commR n sq x y && (atN sq x y == atN sq y x)) := by simp [commR, List.range_succ]
theorem commP_succ (n : Nat) (sq : List (List Int)) (x : Nat) : commP n sq (x + 1) = (commP n sq x && commR n sq x n) := by simp [commP, List.range_succ]
theorem idemP_succ (sq : List (List Int)) (x : Nat) : idemP sq (x + 1) = (idemP sq x && (atN sq x x == (x : Int))) := by simp [idemP, List.range_succ]
theorem halfP_succ (n : Nat) (sq : List (List Int)) (x : Nat) : halfP n sq (x + 1) = (halfP n sq x && (atN sq x x == ((x % (n / 2) : Nat) : Int))) := by simp [halfP, List.range_succ, Bool.and_assoc]

theorem implKinds_ok {H : Heap} {i o : Nat} {sq : List (List Int)} (hu : IntssAt H (lv 1 i o sq.length) sq) (hS : IsSq sq) (Post : Value → Heap → Prop)
    (h : Post (.tuple #[.bool (commP sq.length sq sq.length), .bool (idemP sq sq.length), .bool (halfP sq.length sq sq.length)]) H) :
    ACalls Try.prog 100 [lv 1 i o sq.length] H Post := by
  have hrow := @sq_row H i o sq hu
  obtain ⟨hin, hr, hc⟩ := hS
  have hlen : ∀ x, x < sq.length → (rowN sq x).length = sq.length := fun x hx => by have := (hr x hx).1; omega
  obtain ⟨n, hn⟩ : ∃ n, sq.length = n := ⟨_, rfl⟩
  rw [hn] at hin hrow h hlen ⊢
  obtain ⟨m, hm⟩ : ∃ m, n / 2 = m := ⟨_, rfl⟩
  refine acalls_vc (rs := [.tmp 2, .tmp 3, .tmp 4]) Try.func100 rfl rfl Try.ntmps100 rfl rfl ?_
  have w2 : IntKind.i64.wrap ((n : Int) / 2) = (m : Int) := by rw [i64w (by omega) (by omega)]; omega
  have hmx : ¬ ((m : Int) < 1) := by omega
  have hmx2 : ¬ (m < 1) := by omega
  have hm0 : ¬ (m = 0) := by omega
  have e2 : (n : Int).tmod 2 = ((n % 2 : Nat) : Int) := by rw [Int.tmod_eq_emod_of_nonneg (by omega)]; omega
  simp (maxSteps := 1000000) [go_sem, w2, hmx, hmx2, e2]
  refine AWp.loopVc (St := Nat) (fun x => [(0, lv 1 i o n), (5, .int .i64 n), (6, .int .i64 m), (7, .bool (commP n sq x)), (8, .bool (idemP sq x)), (9, .bool (halfP n sq x)), (20, .int .i64 n), (21, .int .i64 x)])
    (fun x H' => x ≤ n ∧ H' = H) (fun x => n - x) 0 ?_ ?_ ?_
  · simp [upF, Fr.get, Up.refl, commP, idemP, halfP, e2]
  · exact ⟨by omega, rfl⟩
  · rintro K x H' ⟨hx, rfl⟩ hK
    by_cases hxn : x < n
    · obtain ⟨ix, ox, cx, hatx⟩ := hrow hxn (List.prefix_refl H')
      rw [hlen x hxn] at cx
      have lxx := sq_at hatx (y := x) (by rw [hlen x hxn]; exact hxn)
      have hw_x : IntKind.i64.wrap ((x : Int) + 1) = (x : Int) + 1 := i64w (by omega) (by omega)
      obtain ⟨C, hC⟩ : ∃ C, commP n sq x = C := ⟨_, rfl⟩
      obtain ⟨I, hI⟩ : ∃ I, idemP sq x = I := ⟨_, rfl⟩
      obtain ⟨F, hF⟩ : ∃ F, halfP n sq x = F := ⟨_, rfl⟩
      rw [hC, hI, hF]
      have xm : (x : Int).tmod (m : Int) = ((x % m : Nat) : Int) := by rw [Int.tmod_eq_emod_of_nonneg (by omega)]; rfl
      simp (maxSteps := 1000000) [go_sem, hxn]
      refine AWp.loopVc (St := Nat) (fun y => [(0, lv 1 i o n), (5, .int .i64 n), (6, .int .i64 m), (7, .bool (C && commR n sq x y)), (8, .bool (I)), (9, .bool (F)), (10, .int .i64 x), (20, .int .i64 n), (21, .int .i64 x), (24, .int .i64 n), (25, .int .i64 y)])
        (fun y H2 => y ≤ n ∧ H2 = H') (fun y => n - y) 0 ?_ ?_ ?_
      · simp [upF, Fr.get, Up.refl, commR]
      · exact ⟨by omega, rfl⟩
      · rintro K2 y H2 ⟨hy, rfl⟩ hK2
        by_cases hyn : y < n
        · obtain ⟨iy, oy, cy, haty⟩ := hrow hyn (List.prefix_refl H2)
          rw [hlen y hyn] at cy
          have lxy := sq_at hatx (y := y) (by rw [hlen x hxn]; exact hyn)
          have lyx := sq_at haty (y := x) (by rw [hlen y hyn]; exact hxn)
          have hw_y : IntKind.i64.wrap ((y : Int) + 1) = (y : Int) + 1 := i64w (by omega) (by omega)
          have hR := commR_succ n sq x y
          obtain ⟨R, hRe⟩ : ∃ R, (C && commR n sq x y) = R := ⟨_, rfl⟩
          have hR2 : (C && commR n sq x (y + 1)) = (R && (atN sq x y == atN sq y x)) := by rw [hR, ← Bool.and_assoc, hRe]
          rw [hRe]
          cases R with
          | true =>
            simp (maxSteps := 1000000) [go_sem, hyn, hxn]
            refine AWp.draw mixed [(0, false), (1, false), (2, false), (3, false), (4, false), (5, false), (6, false), (7, false), (8, false), (9, false), (10, false), (11, false), (12, false), (13, false), (14, false), (15, false), (16, false), (17, false), (18, false)] (by kernel_rfl) ?_
            simp (maxSteps := 1000000) [go_sem, hxn, hyn, cx, cy, lxy, lyx, hw_y]
            exact hK2 (y + 1) _ _ (by omega) (by simp only [hR2]; simp [upF, Fr.get, Up.refl]) ⟨by omega, rfl⟩
          | false =>
            simp (maxSteps := 1000000) [go_sem, hyn, hxn]
            refine AWp.draw mixed [(0, false), (1, false), (2, false), (3, false), (4, false), (5, false), (6, false), (7, false), (8, false), (9, false), (10, false), (11, false), (12, false), (13, false), (14, false), (15, false), (16, false), (17, false), (18, false)] (by kernel_rfl) ?_
            simp (maxSteps := 1000000) [go_sem, undef, hxn, hyn, hw_y]
            exact hK2 (y + 1) _ _ (by omega) (by simp only [hR2]; simp [upF, Fr.get, Up.refl]) ⟨by omega, rfl⟩
        · have : y = n := by omega
          subst this
          have hcs : commP y sq (x + 1) = (C && commR y sq x y) := by rw [commP_succ, hC]
          have his : idemP sq (x + 1) = (I && (atN sq x x == (x : Int))) := by rw [idemP_succ, hI]
          have hhs : halfP y sq (x + 1) = (F && (atN sq x x == ((x % m : Nat) : Int))) := by rw [halfP_succ, hF, hm]
          have fin := hK (x + 1)
          simp only [hcs, his, hhs] at fin
          generalize (C && commR y sq x y) = D at *
          cases I <;> cases F
          all_goals
            simp (maxSteps := 1000000) [go_sem, undef, hxn, cx, lxx]
            refine AWp.draw mixed [(0, false), (1, false), (2, false), (3, false), (4, false), (5, false), (6, false), (7, false), (8, false), (9, false), (10, false), (11, false), (12, false), (13, false), (14, false)] (by kernel_rfl) ?_
            simp (maxSteps := 1000000) [go_sem, undef, hxn, cx, lxx, w2, hm0, xm, hw_x]
            first
              | exact fin _ _ (by omega) (by simp [upF, Fr.get, Up.refl]) ⟨by omega, rfl⟩
              | exact andK_intro (by omega) (fin _ _ (by omega) (by simp [upF, Fr.get, Up.refl]) ⟨by omega, rfl⟩)
    · have : x = n := by omega
      subst this
      simp (maxSteps := 1000000) [go_sem]
      exact h

theorem specKinds_ok {H : Heap} {i o : Nat} {sq : List (List Int)} (hu : IntssAt H (lv 1 i o sq.length) sq) (hS : IsSq sq) (Post : Value → Heap → Prop)
    (h : Post (.tuple #[.bool (commP sq.length sq sq.length), .bool (idemP sq sq.length), .bool (halfP sq.length sq sq.length)]) H) :
    ACalls Try.prog 98 [lv 1 i o sq.length] H Post := by
  have hrow := @sq_row H i o sq hu
  obtain ⟨hin, hr, hc⟩ := hS
  have hlen : ∀ x, x < sq.length → (rowN sq x).length = sq.length := fun x hx => by have := (hr x hx).1; omega
  obtain ⟨n, hn⟩ : ∃ n, sq.length = n := ⟨_, rfl⟩
  rw [hn] at hin hrow h hlen ⊢
  obtain ⟨m, hm⟩ : ∃ m, n / 2 = m := ⟨_, rfl⟩
  refine acalls_vc (rs := [.tmp 2, .tmp 3, .tmp 4]) Try.func98 rfl rfl Try.ntmps98 rfl rfl ?_
  have w2 : IntKind.i64.wrap ((n : Int) / 2) = (m : Int) := by rw [i64w (by omega) (by omega)]; omega
  have hmx : ¬ ((m : Int) < 1) := by omega
  have hmx2 : ¬ (m < 1) := by omega
  have hm0 : ¬ (m = 0) := by omega
  have e2 : (n : Int).tmod 2 = ((n % 2 : Nat) : Int) := by rw [Int.tmod_eq_emod_of_nonneg (by omega)]; omega
  simp (maxSteps := 1000000) [go_sem, w2, hmx, hmx2, e2]
  refine AWp.loopVc (St := Nat) (fun x => [(0, lv 1 i o n), (5, .int .i64 n), (6, .bool (commP n sq x)), (7, .bool (idemP sq x)), (8, .bool (halfP n sq x)), (9, .int .i64 x)])
    (fun x H' => x ≤ n ∧ H' = H) (fun x => n - x) 0 ?_ ?_ ?_
  · simp [upF, Fr.get, Up.refl, commP, idemP, halfP, e2]
  · exact ⟨by omega, rfl⟩
  · rintro K x H' ⟨hx, rfl⟩ hK
    by_cases hxn : x < n
    · obtain ⟨ix, ox, cx, hatx⟩ := hrow hxn (List.prefix_refl H')
      rw [hlen x hxn] at cx
      have lxx := sq_at hatx (y := x) (by rw [hlen x hxn]; exact hxn)
      have hw_x : IntKind.i64.wrap ((x : Int) + 1) = (x : Int) + 1 := i64w (by omega) (by omega)
      obtain ⟨C, hC⟩ : ∃ C, commP n sq x = C := ⟨_, rfl⟩
      obtain ⟨I, hI⟩ : ∃ I, idemP sq x = I := ⟨_, rfl⟩
      obtain ⟨F, hF⟩ : ∃ F, halfP n sq x = F := ⟨_, rfl⟩
      rw [hC, hI, hF]
      have xm : (x : Int).tmod (m : Int) = ((x % m : Nat) : Int) := by rw [Int.tmod_eq_emod_of_nonneg (by omega)]; rfl
      simp (maxSteps := 1000000) [go_sem, hxn]
      refine AWp.loopVc (St := Nat) (fun y => [(0, lv 1 i o n), (5, .int .i64 n), (6, .bool (C && commR n sq x y)), (7, .bool (I)), (8, .bool (F)), (9, .int .i64 x), (10, .int .i64 y)])
        (fun y H2 => y ≤ n ∧ H2 = H') (fun y => n - y) 0 ?_ ?_ ?_
      · simp [upF, Fr.get, Up.refl, commR]
      · exact ⟨by omega, rfl⟩
      · rintro K2 y H2 ⟨hy, rfl⟩ hK2
        by_cases hyn : y < n
        · obtain ⟨iy, oy, cy, haty⟩ := hrow hyn (List.prefix_refl H2)
          rw [hlen y hyn] at cy
          have lxy := sq_at hatx (y := y) (by rw [hlen x hxn]; exact hyn)
          have lyx := sq_at haty (y := x) (by rw [hlen y hyn]; exact hxn)
          have hw_y : IntKind.i64.wrap ((y : Int) + 1) = (y : Int) + 1 := i64w (by omega) (by omega)
          have hR := commR_succ n sq x y
          obtain ⟨R, hRe⟩ : ∃ R, (C && commR n sq x y) = R := ⟨_, rfl⟩
          have hR2 : (C && commR n sq x (y + 1)) = (R && (atN sq x y == atN sq y x)) := by rw [hR, ← Bool.and_assoc, hRe]
          rw [hRe]
          cases R with
          | true =>
            simp (maxSteps := 1000000) [go_sem, hyn, hxn]
            refine AWp.draw mixed [(0, false), (1, false), (2, false), (3, false), (4, false), (5, false), (6, false), (7, false), (8, false), (9, false), (10, false), (11, false), (12, false), (13, false), (14, false), (15, false), (16, false), (17, false), (18, false)] (by kernel_rfl) ?_
            simp (maxSteps := 1000000) [go_sem, hxn, hyn, cx, cy, lxy, lyx, hw_y]
            exact hK2 (y + 1) _ _ (by omega) (by simp only [hR2]; simp [upF, Fr.get, Up.refl]) ⟨by omega, rfl⟩
          | false =>
            simp (maxSteps := 1000000) [go_sem, hyn, hxn]
            refine AWp.draw mixed [(0, false), (1, false), (2, false), (3, false), (4, false), (5, false), (6, false), (7, false), (8, false), (9, false), (10, false), (11, false), (12, false), (13, false), (14, false), (15, false), (16, false), (17, false), (18, false)] (by kernel_rfl) ?_
            simp (maxSteps := 1000000) [go_sem, undef, hxn, hyn, hw_y]
            exact hK2 (y + 1) _ _ (by omega) (by simp only [hR2]; simp [upF, Fr.get, Up.refl]) ⟨by omega, rfl⟩
        · have : y = n := by omega
          subst this
          have hcs : commP y sq (x + 1) = (C && commR y sq x y) := by rw [commP_succ, hC]
          have his : idemP sq (x + 1) = (I && (atN sq x x == (x : Int))) := by rw [idemP_succ, hI]
          have hhs : halfP y sq (x + 1) = (F && (atN sq x x == ((x % m : Nat) : Int))) := by rw [halfP_succ, hF, hm]
          have fin := hK (x + 1)
          simp only [hcs, his, hhs] at fin
          generalize (C && commR y sq x y) = D at *
          cases I <;> cases F
          all_goals
            simp (maxSteps := 1000000) [go_sem, undef, hxn, cx, lxx]
            refine AWp.draw mixed [(0, false), (1, false), (2, false), (3, false), (4, false), (5, false), (6, false), (7, false), (8, false), (9, false), (10, false), (11, false), (12, false), (13, false), (14, false), (15, false)] (by kernel_rfl) ?_
            simp (maxSteps := 1000000) [go_sem, undef, hxn, cx, lxx, w2, hm0, xm, hw_x]
            first
              | exact fin _ _ (by omega) (by simp [upF, Fr.get, Up.refl]) ⟨by omega, rfl⟩
              | exact andK_intro (by omega) (fin _ _ (by omega) (by simp [upF, Fr.get, Up.refl]) ⟨by omega, rfl⟩)
    · have : x = n := by omega
      subst this
      simp (maxSteps := 1000000) [go_sem]
      exact h

end Go.Proofs.Ytdfeoccjllljiaa
end

section
/- Threefold systems in plain terms: the blocks in two orders. Plain Lean. -/
set_option linter.all false
set_option maxRecDepth 20000
namespace Go.Proofs.Ytdfeoccjllljiaa
open Go.Ab Go.Sort

def plcN (n i x : Nat) : Nat := n * (i % 3) + x
theorem plcN_le {n i x b : Nat} (hn : n ≤ 5) (hx : x ≤ b) : plcN n i x ≤ 10 + b := by
  have h1 : n * (i % 3) ≤ 5 * 2 := Nat.mul_le_mul hn (by omega)
  unfold plcN; omega
def levN (n : Nat) (idem : Bool) : Nat := if idem then n else n / 2
def ptsN (n : Nat) (idem : Bool) : Nat := if idem then 3 * n else 3 * n + 1
def eB (n lev x i : Nat) : Bk := blk ((3 * n : Nat) : Int) (plcN n i (lev + x) : Nat) (plcN n (i + 1) x : Nat)
def wB (n x : Nat) : Bk := blk (plcN n 0 x : Nat) (plcN n 1 x : Nat) (plcN n 2 x : Nat)
def pB (n : Nat) (sq : List (List Int)) (i x y : Nat) : Bk := blk (plcN n i x : Nat) (plcN n i y : Nat) ((plcN n (i + 1) 0 : Nat) + atN sq x y)
def pRow (n : Nat) (sq : List (List Int)) (i x : Nat) : List Bk := (upTo (x + 1) n).map (pB n sq i x)
def pAll (n : Nat) (sq : List (List Int)) (i : Nat) : List Bk := (List.range n).flatMap (pRow n sq i)
def eRow (n lev x : Nat) : List Bk := (List.range 3).map (eB n lev x)
def implT (n : Nat) (sq : List (List Int)) (idem : Bool) : List Bk :=
  (if idem then [] else (List.range (levN n idem)).flatMap (eRow n (levN n idem))) ++ (List.range (levN n idem)).map (wB n) ++ (List.range 3).flatMap (pAll n sq)
def xRow (n : Nat) (idem : Bool) (i x : Nat) : List Bk := if !idem && decide (x < n / 2) then [eB n (n / 2) x i] else []
def sRow (n : Nat) (sq : List (List Int)) (idem : Bool) (i x : Nat) : List Bk := pRow n sq i x ++ xRow n idem i x
def specT (n : Nat) (sq : List (List Int)) (idem : Bool) : List Bk :=
  (List.range (levN n idem)).map (wB n) ++ (List.range 3).flatMap fun i => (List.range n).flatMap (sRow n sq idem i)

theorem flat_twoP {α β : Type} (f g : α → List β) : ∀ l : List α, (l.flatMap fun x => f x ++ g x).Perm (l.flatMap f ++ l.flatMap g)
  | [] => List.Perm.refl _
  | x :: l => by
    simp only [List.flatMap_cons]
    have ih := flat_twoP f g l
    refine ((ih.append_left (f x ++ g x))).trans ?_
    rw [List.append_assoc, List.append_assoc]
    refine List.Perm.append_left (f x) ?_
    rw [← List.append_assoc, ← List.append_assoc]
    exact List.perm_append_comm.append_right _
theorem flat_perm {α β : Type} {f g : α → List β} (h : ∀ x, (f x).Perm (g x)) : ∀ l : List α, (l.flatMap f).Perm (l.flatMap g)
  | [] => List.Perm.refl _
  | x :: l => by
    simp only [List.flatMap_cons]
    exact (h x).append (flat_perm h l)
theorem flat_nil {α β : Type} : ∀ l : List α, (l.flatMap fun _ => ([] : List β)) = []
  | [] => rfl
  | _ :: l => by rw [List.flatMap_cons, flat_nil l]; rfl
/-- Two ranges may change their places. -/
theorem flat_swap {α β γ : Type} (f : α → β → List γ) : ∀ (l : List α) (m : List β), (l.flatMap fun x => m.flatMap (f x)).Perm (m.flatMap fun y => l.flatMap fun x => f x y)
  | [], m => by simp [flat_nil]
  | x :: l, m => by
    simp only [List.flatMap_cons]
    exact ((flat_swap f l m).append_left _).trans (flat_twoP (f x) (fun y => l.flatMap fun x => f x y) m).symm
theorem map_flat {α β : Type} (f : α → β) (l : List α) : l.map f = l.flatMap fun x => [f x] := by
  induction l with
  | nil => rfl
  | cons x l ih => rw [List.map_cons, List.flatMap_cons, ih]; rfl
theorem flat_cut_range {β : Type} (f : Nat → β) {k : Nat} : ∀ {n : Nat}, k ≤ n → ((List.range n).flatMap fun x => if x < k then [f x] else []) = (List.range k).map f
  | 0, h => by obtain rfl : k = 0 := by omega
               rfl
  | n + 1, h => by
    rw [List.range_succ, List.flatMap_append]
    by_cases e : k = n + 1
    · subst e
      rw [List.range_succ, List.map_append]
      congr 1
      · have : ((List.range n).flatMap fun x => if x < n + 1 then [f x] else []) = (List.range n).flatMap fun x => [f x] := by
          rw [List.flatMap_def, List.flatMap_def]
          congr 1
          apply List.map_congr_left
          intro x hx
          rw [if_pos (by have := List.mem_range.1 hx; omega)]
        rw [this, ← map_flat]
      · simp
    · rw [flat_cut_range f (n := n) (by omega)]
      simp; omega

theorem implT_perm (n : Nat) (sq : List (List Int)) (idem : Bool) : (implT n sq idem).Perm (specT n sq idem) := by
  have h1 : (specT n sq idem).Perm ((List.range (levN n idem)).map (wB n) ++ ((List.range 3).flatMap (pAll n sq) ++ (List.range 3).flatMap fun i => (List.range n).flatMap (xRow n idem i))) := by
    unfold specT
    refine List.Perm.append_left _ ?_
    refine List.Perm.trans ?_ (flat_twoP _ _ _)
    exact flat_perm (fun i => flat_twoP _ _ _) _
  refine List.Perm.trans ?_ h1.symm
  unfold implT
  cases idem with
  | true =>
    have : ((List.range 3).flatMap fun i => (List.range n).flatMap (xRow n true i)) = [] := by
      have : ∀ i, (List.range n).flatMap (xRow n true i) = [] := fun i => by
        have : xRow n true i = fun _ => [] := by funext x; simp [xRow]
        rw [this, flat_nil]
      simp only [this, flat_nil]
    rw [this]
    simp
  | false =>
    have hx : ∀ i, (List.range n).flatMap (xRow n false i) = (List.range (n / 2)).map fun x => eB n (n / 2) x i := fun i => by
      have : xRow n false i = fun x => if x < n / 2 then [eB n (n / 2) x i] else [] := by funext x; simp [xRow]
      rw [this, flat_cut_range _ (by omega)]
    have he : ((List.range (levN n false)).flatMap (eRow n (levN n false))).Perm ((List.range 3).flatMap fun i => (List.range n).flatMap (xRow n false i)) := by
      simp only [hx]
      simp only [map_flat]
      refine (?_ : List.Perm _ _).trans (flat_swap (fun x i => [eB n (n / 2) x i]) (List.range (n / 2)) (List.range 3))
      have : eRow n (levN n false) = fun x => (List.range 3).flatMap fun i => [eB n (n / 2) x i] := by
        funext x
        rw [eRow, map_flat]; rfl
      rw [this]
      exact List.Perm.refl _
    simp only [Bool.false_eq_true, if_false]
    refine ((he.append_right _).append_right _).trans ?_
    refine (List.perm_append_comm.append_right _).trans ?_
    rw [List.append_assoc]
    exact List.Perm.append_left _ List.perm_append_comm
theorem implT_sort (n : Nat) (sq : List (List Int)) (idem : Bool) : sortB (implT n sq idem) = sortB (specT n sq idem) :=
  sort_uniq ((sortB_perm _ _ rfl).trans (implT_perm n sq idem)) (sortB_sorted _ _ rfl)
noncomputable def rThree (sq : List (List Int)) : (Int × List Bk) × Int :=
  if sqB sq then (if commP sq.length sq sq.length && (idemP sq sq.length || halfP sq.length sq sq.length)
    then (((ptsN sq.length (idemP sq sq.length) : Nat), sortB (specT sq.length sq (idemP sq sq.length))), 0) else ((0, []), 5)) else ((0, []), 2)

end Go.Proofs.Ytdfeoccjllljiaa
end

section
/- Sorting by a function: insertion sort. -/
set_option linter.all false
set_option maxRecDepth 20000
set_option maxHeartbeats 4000000
namespace Go.Proofs.Ytdfeoccjllljiaa
open Go.Ab Go.Sort

theorem insB_ok {H : Heap} {id a b n : Nat} {d : Array Bk} {lt : Bk → Bk → Bool} {g : FuncId} {fs cs : List Value} {Q : Bk → Prop} (hA : Arr Bk.cells H id d) (hn : d.size = n) (hl : n ≤ 1048576) (hab : a ≤ b) (hb : b ≤ n) (hQ : QA Q d)
    (hC : Cmp Try.prog Bk.val lt g fs cs Q id H) (Post : Value → Heap → Prop) (h : ∀ H', Same (fun k => k = id) H H' → Arr Bk.cells H' id (insertionSort lt d a b) → Post (.tuple #[]) H') :
    ACalls Try.prog 208 [lv 3 id 0 n, .int .i64 a, .int .i64 b, .func (.func g) fs.toArray cs.toArray] H Post := by
  refine acalls_vc (rs := []) Try.func208 rfl rfl Try.ntmps208 rfl rfl ?_
  have w0 : IntKind.i64.wrap ((a : Int) + 1) = (a : Int) + 1 := i64w (by omega) (by omega)
  simp (maxSteps := 1000000) [go_sem, w0]
  refine AWp.loopVc (St := Nat × Array Bk) (fun s => [(0, lv 3 id 0 n), (1, .int .i64 a), (2, .int .i64 b), (3, .func (.func g) fs.toArray cs.toArray), (8, .int .i64 s.1)])
    (fun s H' => a + 1 ≤ s.1 ∧ s.1 ≤ n + 1 ∧ s.2.size = n ∧ QA Q s.2 ∧ Same (fun k => k = id) H H' ∧ Arr Bk.cells H' id s.2 ∧ insOuter lt a b s.1 s.2 = insertionSort lt d a b) (fun s => n + 1 - s.1) (a + 1, d) ?_ ?_ ?_
  · simp [upF, Fr.get, Up.refl]
  · exact ⟨Nat.le_refl _, by simp only; omega, hn, hQ, Same.refl _ _, hA, rfl⟩
  · rintro K ⟨i, d1⟩ H' ⟨hai, hin, hsz, hQ1, hS, hA1, hO⟩ hK
    simp only at hai hin hsz hQ1 hS hA1 hO
    rw [insOuter] at hO
    by_cases hlt : i < b
    · rw [if_pos hlt] at hO
      have hw_i : IntKind.i64.wrap ((i : Int) + 1) = (i : Int) + 1 := i64w (by omega) (by omega)
      simp (maxSteps := 1000000) [go_sem, hlt]
      refine AWp.loopVc (St := Nat × Array Bk) (fun s => [(0, lv 3 id 0 n), (1, .int .i64 a), (2, .int .i64 b), (3, .func (.func g) fs.toArray cs.toArray), (8, .int .i64 i), (9, .int .i64 s.1)])
        (fun s H2 => a ≤ s.1 ∧ s.1 ≤ i ∧ s.2.size = n ∧ QA Q s.2 ∧ Same (fun k => k = id) H H2 ∧ Arr Bk.cells H2 id s.2 ∧ insInner lt a s.1 s.2 = insInner lt a i d1) (fun s => s.1) (i, d1) ?_ ?_ ?_
      · simp [upF, Fr.get, Up.refl]
      · exact ⟨by simp only; omega, Nat.le_refl _, hsz, hQ1, hS, hA1, rfl⟩
      · rintro K2 ⟨j, d2⟩ H2 ⟨haj, hji, hsz2, hQ2, hS2, hA2, hI⟩ hK2
        simp only at haj hji hsz2 hQ2 hS2 hA2 hI
        by_cases hja : a < j
        · obtain ⟨r, rfl⟩ : ∃ r, j = r + 1 := ⟨j - 1, by omega⟩
          have hr1 : r + 1 < d2.size := by omega
          have hr0 : r < d2.size := by omega
          have c1 := hA2.load Bk.cells_len hr1
          have c0 := hA2.load Bk.cells_len hr0
          have q1 := hQ2 _ hr1
          have q0 := hQ2 _ hr0
          rw [insInner] at hI
          obtain ⟨x, hx⟩ : ∃ x, x = d2[r + 1]! := ⟨_, rfl⟩
          obtain ⟨y, hy⟩ : ∃ y, y = d2[r]! := ⟨_, rfl⟩
          rw [← hx] at c1 q1 hI
          rw [← hy] at c0 q0 hI
          have e1 : decide (r + 1 > a) = true := decide_eq_true hja
          rw [e1, Bool.true_and] at hI
          simp only [Bk.cells, Nat.mul_one, Row.val] at c1 c0
          have n1 : r + 1 < n := by omega
          have n0 : r < n := by omega
          have m1 : (r : Int) + 1 < n := by omega
          have m0 : (r : Int) < n := by omega
          have z1 : (0 : Int) ≤ (r : Int) + 1 := by omega
          have hwr : IntKind.i64.wrap (r : Int) = (r : Int) := i64w (by omega) (by omega)
          have ja : (a : Int) < (r : Int) + 1 := by omega
          refine AWp.draw mixed [(0, false), (1, false), (2, false), (3, false), (4, false), (5, false), (6, false), (7, false), (8, false), (9, false), (10, false), (11, false), (12, false), (13, false), (14, false), (15, false), (16, false)] (by kernel_rfl) ?_
          simp (maxSteps := 1000000) [go_sem, hja, ja, c1, c0, n1, n0, m1, m0, z1, hwr]
          refine hC H2 x y _ hS2 q1 q0 ?_
          intro H3 c hp3 hc
          have hS3 := hS2.via (Same.of_prefix (S := fun _ => False) hp3) (fun _ _ h => h.elim)
          have hA3 := hA2.pre hp3
          cases hxy : lt x y with
          | false =>
            rw [hxy] at hc hI
            have hc0 : ¬ c < 0 := by simpa using hc
            simp (maxSteps := 1000000) [go_sem, hc, hc0, hw_i]
            exact hK (i + 1, d2) _ _ (by simp only; omega) (by simp [upF, Fr.get, Up.refl]) ⟨by simp only; omega, by simp only; omega, hsz2, hQ2, hS3, hA3, by simp only; rw [← hO, ← hI]; simp⟩
          | true =>
            rw [hxy] at hc hI
            have hc0 : c < 0 := by simpa using hc
            have c1 := hA3.load Bk.cells_len hr1
            have c0 := hA3.load Bk.cells_len hr0
            obtain ⟨H4, H5, s1, s0, hA5, hS5, hl5⟩ := hA3.swap Bk.cells_len Bk.cells_one hr1 hr0
            rw [← hx] at c1 s0
            rw [← hy] at c0 s1
            simp only [Bk.cells, Nat.mul_one, Row.val] at c1 c0 s1 s0
            simp (maxSteps := 1000000) [go_sem, hc, hc0]
            refine AWp.draw mixed [(0, false), (1, false), (2, false), (3, false), (4, false), (5, false), (6, false), (7, false), (8, false), (9, false), (10, false), (11, false), (12, false), (13, false), (14, false), (15, false), (16, false), (17, false)] (by kernel_rfl) ?_
            simp (maxSteps := 1000000) [go_sem, c1, c0, n1, n0, m1, m0, z1, hwr, s1, s0]
            exact hK2 (r, swp d2 (r + 1) r) _ _ (by simp only; omega) (by simp [upF, Fr.get, Up.refl]) ⟨by simp only; omega, by simp only; omega, by rw [size_swp]; exact hsz2, hQ2.swp hr1 hr0, hS3.trans hS5, hA5, by simp only; rw [← hI]; simp⟩
        · have hja' : j = a := by omega
          subst hja'
          have e : insInner lt j j d2 = d2 := by
            cases j with
            | zero => rfl
            | succ r => rw [insInner]; simp
          refine AWp.draw mixed [(0, false), (1, false), (2, false), (3, false), (4, false), (5, false), (6, false), (7, false), (8, false), (9, false), (10, false), (11, false), (12, false), (13, false), (14, false), (15, false), (16, false)] (by kernel_rfl) ?_
          simp (maxSteps := 1000000) [go_sem, undef, hw_i]
          exact hK (i + 1, d2) _ _ (by simp only; omega) (by simp [upF, Fr.get, Up.refl]) ⟨by simp only; omega, by simp only; omega, hsz2, hQ2, hS2, hA2, by simp only; rw [← hO, ← hI, e]⟩
    · rw [if_neg hlt] at hO
      simp (maxSteps := 1000000) [go_sem, hlt]
      exact h H' hS (hO ▸ hA1)

end Go.Proofs.Ytdfeoccjllljiaa
end

section
/- Sorting by a function: the heap. -/
set_option linter.all false
set_option maxRecDepth 20000
set_option maxHeartbeats 4000000
namespace Go.Proofs.Ytdfeoccjllljiaa
open Go.Ab Go.Sort

theorem siftB_ok {H : Heap} {id lo hi first n : Nat} {d : Array Bk} {lt : Bk → Bk → Bool} {g : FuncId} {fs cs : List Value} {Q : Bk → Prop} (hA : Arr Bk.cells H id d) (hn : d.size = n) (hl : n ≤ 1048576) (hlo : lo ≤ n) (hhi : first + hi ≤ n) (hQ : QA Q d)
    (hC : Cmp Try.prog Bk.val lt g fs cs Q id H) (Post : Value → Heap → Prop) (h : ∀ H', Same (fun k => k = id) H H' → Arr Bk.cells H' id (siftDown lt hi first lo d) → Post (.tuple #[]) H') :
    ACalls Try.prog 225 [lv 3 id 0 n, .int .i64 lo, .int .i64 hi, .int .i64 first, .func (.func g) fs.toArray cs.toArray] H Post := by
  refine acalls_vc (rs := []) Try.func225 rfl rfl Try.ntmps225 rfl rfl ?_
  simp (maxSteps := 1000000) [go_sem]
  refine AWp.loopVc (St := Nat × Array Bk) (fun s => [(0, lv 3 id 0 n), (2, .int .i64 hi), (3, .int .i64 first), (4, .func (.func g) fs.toArray cs.toArray), (10, .int .i64 s.1)])
    (fun s H' => s.1 ≤ n ∧ s.2.size = n ∧ QA Q s.2 ∧ Same (fun k => k = id) H H' ∧ Arr Bk.cells H' id s.2 ∧ siftDown lt hi first s.1 s.2 = siftDown lt hi first lo d) (fun s => n - s.1) (lo, d) ?_ ?_ ?_
  · simp [upF, Fr.get, Up.refl]
  · exact ⟨hlo, hn, hQ, Same.refl _ _, hA, rfl⟩
  · rintro K ⟨root, d1⟩ H1 ⟨hr, hsz, hQ1, hS1, hA1, hO⟩ hK
    simp only at hr hsz hQ1 hS1 hA1 hO
    obtain ⟨ch, hch⟩ : ∃ ch, ch = 2 * root + 1 := ⟨_, rfl⟩
    obtain ⟨c2, hc2⟩ : ∃ c2, c2 = ch + 1 := ⟨_, rfl⟩
    obtain ⟨fr, hfr⟩ : ∃ fr, fr = first + root := ⟨_, rfl⟩
    obtain ⟨fc, hfc⟩ : ∃ fc, fc = first + ch := ⟨_, rfl⟩
    obtain ⟨fc2, hfc2⟩ : ∃ fc2, fc2 = first + c2 := ⟨_, rfl⟩
    have w1 : IntKind.i64.wrap (2 * (root : Int)) = 2 * (root : Int) := i64w (by omega) (by omega)
    have w2 : IntKind.i64.wrap (2 * (root : Int) + 1) = (ch : Int) := by rw [hch]; rw [i64w (by omega) (by omega)]; omega
    have w3 : IntKind.i64.wrap ((ch : Int) + 1) = (c2 : Int) := by rw [hc2]; rw [i64w (by omega) (by omega)]; omega
    by_cases hh : hi ≤ ch
    · rw [sift_end hch hh] at hO
      have hh' : (hi : Int) ≤ ch := by omega
      simp (maxSteps := 1000000) [go_sem, w1, w2, hh, hh']
      exact h H1 hS1 (hO ▸ hA1)
    · rw [sift_step hch hc2 hfr hfc hfc2 hh] at hO
      have hh' : ¬ ((hi : Int) ≤ ch) := by omega
      have hh2 : ch < hi := by omega
      have w4 : IntKind.i64.wrap ((first : Int) + root) = (fr : Int) := by rw [hfr]; rw [i64w (by omega) (by omega)]; omega
      have w5 : IntKind.i64.wrap ((first : Int) + ch) = (fc : Int) := by rw [hfc]; rw [i64w (by omega) (by omega)]; omega
      have w6 : IntKind.i64.wrap ((first : Int) + c2) = (fc2 : Int) := by rw [hfc2]; rw [i64w (by omega) (by omega)]; omega
      have w7 : IntKind.i64.wrap ((fc : Int) + 1) = (fc2 : Int) := by rw [hfc2, hfc, hc2]; rw [i64w (by omega) (by omega)]; omega
      have hfr1 : fr < d1.size := by omega
      have hfc1 : fc < d1.size := by omega
      have n1 : fr < n := by omega
      have n2 : fc < n := by omega
      obtain ⟨x, hx⟩ : ∃ x, x = d1[fr]! := ⟨_, rfl⟩
      obtain ⟨y, hy⟩ : ∃ y, y = d1[fc]! := ⟨_, rfl⟩
      obtain ⟨z, hz⟩ : ∃ z, z = d1[fc2]! := ⟨_, rfl⟩
      rw [← hx, ← hy, ← hz] at hO
      have qx := hQ1 _ hfr1
      have qy := hQ1 _ hfc1
      rw [← hx] at qx
      rw [← hy] at qy
      have cy := hA1.load Bk.cells_len hfc1
      rw [← hy] at cy
      simp only [Bk.cells, Nat.mul_one, Row.val] at cy
      by_cases h2 : c2 < hi
      · have h2' : (c2 : Int) < hi := by omega
        have hfc21 : fc2 < d1.size := by omega
        have n3 : fc2 < n := by omega
        have qz := hQ1 _ hfc21
        rw [← hz] at qz
        have cz := hA1.load Bk.cells_len hfc21
        rw [← hz] at cz
        simp only [Bk.cells, Nat.mul_one, Row.val] at cz
        have e2 : decide (c2 < hi) = true := decide_eq_true h2
        rw [e2, Bool.true_and] at hO
        simp (maxSteps := 1000000) [go_sem, w1, w2, w3, hh, hh', hh2]
        refine AWp.draw mixed [(0, false), (1, false), (2, false), (3, false), (4, false), (5, false), (6, false), (7, false), (8, false), (9, false), (10, false), (11, false), (12, false), (13, false), (14, false), (15, false), (16, false), (17, false), (18, false), (19, false), (20, false), (21, false)] (by kernel_rfl) ?_
        simp (maxSteps := 1000000) [go_sem, w3, w5, w7, h2, h2', cy, cz, n2, n3]
        refine hC H1 y z _ hS1 qy qz ?_
        intro H3 c hp3 hc
        have hS3 := hS1.via (Same.of_prefix (S := fun _ => False) hp3) (fun _ _ h => h.elim)
        have hA3 := hA1.pre hp3
        have cx := hA3.load Bk.cells_len hfr1
        rw [← hx] at cx
        simp only [Bk.cells, Nat.mul_one, Row.val] at cx
        cases hyz : lt y z with
        | true =>
          rw [hyz] at hc hO
          have hc0 : c < 0 := by simpa using hc
          have cz := hA3.load Bk.cells_len hfc21
          rw [← hz] at cz
          simp only [Bk.cells, Nat.mul_one, Row.val] at cz
          simp (maxSteps := 1000000) [go_sem, hc, hc0, w3]
          refine AWp.draw mixed [(0, false), (1, false), (2, false), (3, false), (4, false), (5, false), (6, false), (7, false), (8, false), (9, false), (10, false), (11, false), (12, false), (13, false), (14, false), (15, false)] (by kernel_rfl) ?_
          simp (maxSteps := 1000000) [go_sem, w4, w6, cx, cz, n1, n3]
          refine hC H3 x z _ hS3 qx qz ?_
          intro H4 e hp4 he
          have hS4 := hS3.via (Same.of_prefix (S := fun _ => False) hp4) (fun _ _ h => h.elim)
          have hA4 := hA3.pre hp4
          cases hxz : lt x z with
          | false =>
            rw [hxz] at he hO
            have he0 : ¬ e < 0 := by simpa using he
            simp (maxSteps := 1000000) [go_sem, he, he0]
            exact h H4 hS4 (by simpa [← hO] using hA4)
          | true =>
            rw [hxz] at he hO
            have he0 : e < 0 := by simpa using he
            have ca := hA4.load Bk.cells_len hfr1
            have cb := hA4.load Bk.cells_len hfc21
            obtain ⟨H5, H6, s1, s0, hA6, hS6, hl6⟩ := hA4.swap Bk.cells_len Bk.cells_one hfr1 hfc21
            rw [← hx] at ca s0
            rw [← hz] at cb s1
            simp only [Bk.cells, Nat.mul_one, Row.val] at ca cb s0 s1
            simp (maxSteps := 1000000) [go_sem, he, he0]
            refine AWp.draw mixed [(0, false), (1, false), (2, false), (3, false), (4, false), (5, false), (6, false), (7, false), (8, false), (9, false), (10, false), (11, false), (12, false), (13, false), (14, false), (15, false), (16, false), (17, false), (18, false), (19, false), (20, false), (21, false), (22, false), (23, false)] (by kernel_rfl) ?_
            simp (maxSteps := 1000000) [go_sem, w4, w6, ca, cb, n1, n3, s1, s0]
            exact hK (c2, swp d1 fr fc2) _ _ (by simp only; omega) (by simp [upF, Fr.get, Up.refl]) ⟨by simp only; omega, by rw [size_swp]; exact hsz, hQ1.swp hfr1 hfc21, hS4.trans hS6, hA6, by simp only; rw [← hO]; simp⟩
        | false =>
          rw [hyz] at hc hO
          have hc0 : ¬ c < 0 := by simpa using hc
          have cy := hA3.load Bk.cells_len hfc1
          rw [← hy] at cy
          simp only [Bk.cells, Nat.mul_one, Row.val] at cy
          simp (maxSteps := 1000000) [go_sem, hc, hc0]
          refine AWp.draw mixed [(0, false), (1, false), (2, false), (3, false), (4, false), (5, false), (6, false), (7, false), (8, false), (9, false), (10, false), (11, false), (12, false), (13, false), (14, false), (15, false)] (by kernel_rfl) ?_
          simp (maxSteps := 1000000) [go_sem, w4, w5, cx, cy, n1, n2]
          refine hC H3 x y _ hS3 qx qy ?_
          intro H4 e hp4 he
          have hS4 := hS3.via (Same.of_prefix (S := fun _ => False) hp4) (fun _ _ h => h.elim)
          have hA4 := hA3.pre hp4
          cases hxz : lt x y with
          | false =>
            rw [hxz] at he hO
            have he0 : ¬ e < 0 := by simpa using he
            simp (maxSteps := 1000000) [go_sem, he, he0]
            exact h H4 hS4 (by simpa [← hO] using hA4)
          | true =>
            rw [hxz] at he hO
            have he0 : e < 0 := by simpa using he
            have ca := hA4.load Bk.cells_len hfr1
            have cb := hA4.load Bk.cells_len hfc1
            obtain ⟨H5, H6, s1, s0, hA6, hS6, hl6⟩ := hA4.swap Bk.cells_len Bk.cells_one hfr1 hfc1
            rw [← hx] at ca s0
            rw [← hy] at cb s1
            simp only [Bk.cells, Nat.mul_one, Row.val] at ca cb s0 s1
            simp (maxSteps := 1000000) [go_sem, he, he0]
            refine AWp.draw mixed [(0, false), (1, false), (2, false), (3, false), (4, false), (5, false), (6, false), (7, false), (8, false), (9, false), (10, false), (11, false), (12, false), (13, false), (14, false), (15, false), (16, false), (17, false), (18, false), (19, false), (20, false), (21, false), (22, false), (23, false)] (by kernel_rfl) ?_
            simp (maxSteps := 1000000) [go_sem, w4, w5, ca, cb, n1, n2, s1, s0]
            exact hK (ch, swp d1 fr fc) _ _ (by simp only; omega) (by simp [upF, Fr.get, Up.refl]) ⟨by simp only; omega, by rw [size_swp]; exact hsz, hQ1.swp hfr1 hfc1, hS4.trans hS6, hA6, by simp only; rw [← hO]; simp⟩
      · have h2' : ¬ ((c2 : Int) < hi) := by omega
        have e2 : decide (c2 < hi) = false := decide_eq_false h2
        rw [e2, Bool.false_and] at hO
        have hA3 := hA1
        have hS3 := hS1
        have cx := hA3.load Bk.cells_len hfr1
        rw [← hx] at cx
        simp only [Bk.cells, Nat.mul_one, Row.val] at cx
        simp (maxSteps := 1000000) [go_sem, w1, w2, w3, hh, hh', hh2]
        refine AWp.draw mixed [(0, false), (1, false), (2, false), (3, false), (4, false), (5, false), (6, false), (7, false), (8, false), (9, false), (10, false), (11, false), (12, false), (13, false), (14, false), (15, false), (16, false), (17, false), (18, false), (19, false), (20, false), (21, false)] (by kernel_rfl) ?_
        simp (maxSteps := 1000000) [go_sem, undef, w3, h2, h2']
        obtain ⟨H3, eH3⟩ : ∃ H3, H3 = H1 := ⟨_, rfl⟩
        rw [← eH3] at hA3 hS3 cx cy ⊢
        refine AWp.draw mixed [(0, false), (1, false), (2, false), (3, false), (4, false), (5, false), (6, false), (7, false), (8, false), (9, false), (10, false), (11, false), (12, false), (13, false), (14, false), (15, false)] (by kernel_rfl) ?_
        simp (maxSteps := 1000000) [go_sem, w4, w5, cx, cy, n1, n2]
        refine hC H3 x y _ hS3 qx qy ?_
        intro H4 e hp4 he
        have hS4 := hS3.via (Same.of_prefix (S := fun _ => False) hp4) (fun _ _ h => h.elim)
        have hA4 := hA3.pre hp4
        cases hxz : lt x y with
        | false =>
          rw [hxz] at he hO
          have he0 : ¬ e < 0 := by simpa using he
          simp (maxSteps := 1000000) [go_sem, he, he0]
          exact h H4 hS4 (by simpa [← hO] using hA4)
        | true =>
          rw [hxz] at he hO
          have he0 : e < 0 := by simpa using he
          have ca := hA4.load Bk.cells_len hfr1
          have cb := hA4.load Bk.cells_len hfc1
          obtain ⟨H5, H6, s1, s0, hA6, hS6, hl6⟩ := hA4.swap Bk.cells_len Bk.cells_one hfr1 hfc1
          rw [← hx] at ca s0
          rw [← hy] at cb s1
          simp only [Bk.cells, Nat.mul_one, Row.val] at ca cb s0 s1
          simp (maxSteps := 1000000) [go_sem, he, he0]
          refine AWp.draw mixed [(0, false), (1, false), (2, false), (3, false), (4, false), (5, false), (6, false), (7, false), (8, false), (9, false), (10, false), (11, false), (12, false), (13, false), (14, false), (15, false), (16, false), (17, false), (18, false), (19, false), (20, false), (21, false), (22, false), (23, false)] (by kernel_rfl) ?_
          simp (maxSteps := 1000000) [go_sem, w4, w5, ca, cb, n1, n2, s1, s0]
          exact hK (ch, swp d1 fr fc) _ _ (by simp only; omega) (by simp [upF, Fr.get, Up.refl]) ⟨by simp only; omega, by rw [size_swp]; exact hsz, hQ1.swp hfr1 hfc1, hS4.trans hS6, hA6, by simp only; rw [← hO]; simp⟩

theorem heapB_ok {H : Heap} {id a b n : Nat} {d : Array Bk} {lt : Bk → Bk → Bool} {g : FuncId} {fs cs : List Value} {Q : Bk → Prop} (hA : Arr Bk.cells H id d) (hn : d.size = n) (hl : n ≤ 1048576) (hab : a < b) (hb : b ≤ n) (hQ : QA Q d)
    (hC : Cmp Try.prog Bk.val lt g fs cs Q id H) (Post : Value → Heap → Prop) (h : ∀ H', Same (fun k => k = id) H H' → Arr Bk.cells H' id (heapSort lt d a b) → Post (.tuple #[]) H') :
    ACalls Try.prog 209 [lv 3 id 0 n, .int .i64 a, .int .i64 b, .func (.func g) fs.toArray cs.toArray] H Post := by
  refine acalls_vc (rs := []) Try.func209 rfl rfl Try.ntmps209 rfl rfl ?_
  obtain ⟨hi, hhi⟩ : ∃ hi, hi = b - a := ⟨_, rfl⟩
  obtain ⟨h1, hh1⟩ : ∃ h1, h1 = hi - 1 := ⟨_, rfl⟩
  obtain ⟨k0, hk0⟩ : ∃ k0, k0 = h1 / 2 := ⟨_, rfl⟩
  have w0 : IntKind.i64.wrap ((b : Int) - a) = (hi : Int) := by rw [hhi, i64w (by omega) (by omega)]; omega
  have w1 : IntKind.i64.wrap ((hi : Int) - 1) = (h1 : Int) := by rw [hh1, i64w (by omega) (by omega)]; omega
  have w2 : IntKind.i64.wrap ((h1 : Int) / 2) = (k0 : Int) := by rw [hk0, i64w (by omega) (by omega)]; omega
  have e0 : heapSort lt d a b = heapPop lt a hi (heapBuild lt hi a (k0 + 1) d) := by rw [hk0, hh1, hhi]; rfl
  rw [e0] at h
  simp (maxSteps := 1000000) [go_sem, w0, w1, w2]
  refine AWp.loopVc (St := Nat × Array Bk) (fun s => [(0, lv 3 id 0 n), (3, .func (.func g) fs.toArray cs.toArray), (8, .int .i64 a), (9, .int .i64 0), (10, .int .i64 hi), (11, .int .i64 ((s.1 : Int) - 1))])
    (fun s H' => s.1 ≤ k0 + 1 ∧ s.2.size = n ∧ QA Q s.2 ∧ Same (fun k => k = id) H H' ∧ Arr Bk.cells H' id s.2 ∧ heapBuild lt hi a s.1 s.2 = heapBuild lt hi a (k0 + 1) d) (fun s => s.1) (k0 + 1, d) ?_ ?_ ?_
  · have e : ((k0 + 1 : Nat) : Int) - 1 = k0 := by omega
    simp [upF, Fr.get, Up.refl, e]
  · exact ⟨Nat.le_refl _, hn, hQ, Same.refl _ _, hA, rfl⟩
  · rintro K ⟨k, d1⟩ H1 ⟨hk, hsz, hQ1, hS1, hA1, hO⟩ hK
    simp only at hk hsz hQ1 hS1 hA1 hO
    cases k with
    | succ r =>
      have hwr : IntKind.i64.wrap ((r : Int) - 1) = (r : Int) - 1 := i64w (by omega) (by omega)
      simp (maxSteps := 1000000) [go_sem]
      refine siftB_ok hA1 hsz hl (by omega) (by omega) hQ1 (hC.keep hS1) _ ?_
      intro H2 hS2 hA2
      have hsz2 : (siftDown lt hi a r d1).size = n := by rw [sift_size]; exact hsz
      simp (maxSteps := 1000000) [go_sem, hwr]
      exact hK (r, siftDown lt hi a r d1) _ _ (by simp only; omega) (by simp [upF, Fr.get, Up.refl]) ⟨by simp only; omega, hsz2, sift_QA (by omega) hQ1, hS1.trans hS2, hA2, hO⟩
    | zero =>
      simp (maxSteps := 1000000) [go_sem, w1]
      have hO' : d1 = heapBuild lt hi a (k0 + 1) d := hO
      rw [← hO'] at h
      refine AWp.loopVc (St := Nat × Array Bk) (fun s => [(0, lv 3 id 0 n), (3, .func (.func g) fs.toArray cs.toArray), (8, .int .i64 a), (9, .int .i64 0), (12, .int .i64 ((s.1 : Int) - 1))])
        (fun s H' => s.1 ≤ hi ∧ s.2.size = n ∧ QA Q s.2 ∧ Same (fun k => k = id) H H' ∧ Arr Bk.cells H' id s.2 ∧ heapPop lt a s.1 s.2 = heapPop lt a hi d1) (fun s => s.1) (hi, d1) ?_ ?_ ?_
      · have e : (hi : Int) - 1 = h1 := by omega
        simp [upF, Fr.get, Up.refl, e]
      · exact ⟨Nat.le_refl _, hsz, hQ1, hS1, hA1, rfl⟩
      · rintro K2 ⟨k, d2⟩ H2 ⟨hk2, hsz2, hQ2, hS2, hA2, hP⟩ hK2
        simp only at hk2 hsz2 hQ2 hS2 hA2 hP
        cases k with
        | succ r =>
          have hwr : IntKind.i64.wrap ((r : Int) - 1) = (r : Int) - 1 := i64w (by omega) (by omega)
          obtain ⟨ar, har⟩ : ∃ ar, ar = a + r := ⟨_, rfl⟩
          have w4 : IntKind.i64.wrap ((a : Int) + r) = (ar : Int) := by rw [har]; rw [i64w (by omega) (by omega)]; omega
          have hi1 : a < d2.size := by omega
          have hi2 : ar < d2.size := by omega
          have n1 : a < n := by omega
          have n2 : ar < n := by omega
          have ca := hA2.load Bk.cells_len hi1
          have cb := hA2.load Bk.cells_len hi2
          obtain ⟨H5, H6, s1, s0, hA6, hS6, hl6⟩ := hA2.swap Bk.cells_len Bk.cells_one hi1 hi2
          obtain ⟨x, hx⟩ : ∃ x, x = d2[a]! := ⟨_, rfl⟩
          obtain ⟨y, hy⟩ : ∃ y, y = d2[ar]! := ⟨_, rfl⟩
          rw [← hx] at ca s0
          rw [← hy] at cb s1
          simp only [Bk.cells, Nat.mul_one, Row.val] at ca cb s0 s1
          rw [heapPop, ← har] at hP
          have hsz3 : (swp d2 a ar).size = n := by rw [size_swp]; exact hsz2
          have hQ3 := hQ2.swp hi1 hi2
          simp (maxSteps := 1000000) [go_sem]
          refine AWp.draw mixed [(0, false), (1, false), (2, false), (3, false), (4, false), (5, false), (6, false), (7, false), (8, false), (9, false), (10, false), (11, false), (12, false), (13, false), (14, false), (15, false), (16, false), (17, false), (18, false), (19, false)] (by kernel_rfl) ?_
          simp (maxSteps := 1000000) [go_sem, w4, ca, cb, n1, n2, s1, s0]
          refine siftB_ok (lo := 0) hA6 hsz3 hl (by omega) (by omega) hQ3 (hC.keep (hS2.trans hS6)) _ ?_
          intro H7 hS7 hA7
          have hsz4 : (siftDown lt r a 0 (swp d2 a ar)).size = n := by rw [sift_size]; exact hsz3
          simp (maxSteps := 1000000) [go_sem, hwr]
          exact hK2 (r, siftDown lt r a 0 (swp d2 a ar)) _ _ (by simp only; omega) (by simp [upF, Fr.get, Up.refl]) ⟨by simp only; omega, hsz4, sift_QA (by omega) hQ3, (hS2.trans hS6).trans hS7, hA7, hP⟩
        | zero =>
          simp (maxSteps := 1000000) [go_sem]
          refine h H2 hS2 ?_
          rw [← hP]; exact hA2

end Go.Proofs.Ytdfeoccjllljiaa
end

section
/- Sorting by a function: turning around, the choice of a pivot. -/
set_option linter.all false
set_option maxRecDepth 20000
set_option maxHeartbeats 4000000
namespace Go.Proofs.Ytdfeoccjllljiaa
open Go.Ab Go.Sort

theorem reverseB_ok {H : Heap} {id a b n : Nat} {d : Array Bk} {g : FuncId} {fs cs : List Value} (hA : Arr Bk.cells H id d) (hn : d.size = n) (hl : n ≤ 1048576) (hab : a < b) (hb : b ≤ n)
    (Post : Value → Heap → Prop) (h : ∀ H', Same (fun k => k = id) H H' → Arr Bk.cells H' id (reverseRange d a b) → Post (.tuple #[]) H') :
    ACalls Try.prog 212 [lv 3 id 0 n, .int .i64 a, .int .i64 b, .func (.func g) fs.toArray cs.toArray] H Post := by
  refine acalls_vc (rs := []) Try.func212 rfl rfl Try.ntmps212 rfl rfl ?_
  obtain ⟨b1, hb1⟩ : ∃ b1, b1 = b - 1 := ⟨_, rfl⟩
  have w0 : IntKind.i64.wrap ((b : Int) - 1) = (b1 : Int) := by rw [hb1, i64w (by omega) (by omega)]; omega
  have e0 : reverseRange d a b = reverseLoop a b1 d := by rw [hb1]; rfl
  rw [e0] at h
  simp (maxSteps := 1000000) [go_sem, w0]
  refine AWp.loopVc (St := Nat × Nat × Array Bk) (fun s => [(0, lv 3 id 0 n), (8, .int .i64 s.1), (9, .int .i64 s.2.1)])
    (fun s H' => s.2.1 < n ∧ s.1 ≤ n ∧ s.2.2.size = n ∧ Same (fun k => k = id) H H' ∧ Arr Bk.cells H' id s.2.2 ∧ reverseLoop s.1 s.2.1 s.2.2 = reverseLoop a b1 d) (fun s => s.2.1 - s.1) (a, b1, d) ?_ ?_ ?_
  · simp [upF, Fr.get, Up.refl]
  · exact ⟨by simp only; omega, by simp only; omega, hn, Same.refl _ _, hA, rfl⟩
  · rintro K ⟨i, j, d1⟩ H1 ⟨hj, hi, hsz, hS1, hA1, hO⟩ hK
    simp only at hj hi hsz hS1 hA1 hO
    by_cases hij : i < j
    · obtain ⟨r, rfl⟩ : ∃ r, j = r + 1 := ⟨j - 1, by omega⟩
      rw [reverse_go hij] at hO
      have hi1 : i < d1.size := by omega
      have hi2 : r + 1 < d1.size := by omega
      have n1 : i < n := by omega
      have n2 : r + 1 < n := by omega
      have m2 : (r : Int) + 1 < n := by omega
      have z2 : (0 : Int) ≤ (r : Int) + 1 := by omega
      have hij' : (i : Int) < (r : Int) + 1 := by omega
      have hwr : IntKind.i64.wrap (r : Int) = (r : Int) := i64w (by omega) (by omega)
      have hw_i : IntKind.i64.wrap ((i : Int) + 1) = (i : Int) + 1 := i64w (by omega) (by omega)
      have ca := hA1.load Bk.cells_len hi1
      have cb := hA1.load Bk.cells_len hi2
      obtain ⟨H5, H6, s1, s0, hA6, hS6, hl6⟩ := hA1.swap Bk.cells_len Bk.cells_one hi1 hi2
      obtain ⟨x, hx⟩ : ∃ x, x = d1[i]! := ⟨_, rfl⟩
      obtain ⟨y, hy⟩ : ∃ y, y = d1[r + 1]! := ⟨_, rfl⟩
      rw [← hx] at ca s0
      rw [← hy] at cb s1
      simp only [Bk.cells, Nat.mul_one, Row.val] at ca cb s0 s1
      simp (maxSteps := 1000000) [go_sem, hij, hij']
      refine AWp.draw mixed [(0, false), (1, false), (2, false), (3, false), (4, false), (5, false), (6, false), (7, false), (8, false), (9, false), (10, false), (11, false), (12, false), (13, false), (14, false), (15, false)] (by kernel_rfl) ?_
      simp (maxSteps := 1000000) [go_sem, ca, cb, n1, n2, m2, z2, s1, s0, hw_i, hwr]
      exact hK (i + 1, r, swp d1 i (r + 1)) _ _ (by simp only; omega) (by simp [upF, Fr.get, Up.refl]) ⟨by simp only; omega, by simp only; omega, by rw [size_swp]; exact hsz, hS1.trans hS6, hA6, hO⟩
    · rw [reverse_stop hij] at hO
      have hij' : ¬ ((i : Int) < j) := by omega
      simp (maxSteps := 1000000) [go_sem, hij, hij']
      exact h H1 hS1 (hO ▸ hA1)

theorem order2B_ok {HB H : Heap} {id sw a b n : Nat} {z : Int} {d : Array Bk} {lt : Bk → Bk → Bool} {g : FuncId} {fs cs : List Value} {Q : Bk → Prop} (hA : Arr Bk.cells H id d) (hn : d.size = n) (hl : n ≤ 1048576) (ha : a < n) (hb : b < n) (hQ : QA Q d)
    (hC : Cmp Try.prog Bk.val lt g fs cs Q id HB) (hB : Same (fun k => k = id) HB H) (hz : H[sw]? = some ⟨[.int .i64 z], true, true⟩) (hsw : HB.length ≤ sw) (hid : id ≠ sw) (Post : Value → Heap → Prop)
    (h : ∀ H' (x y : Nat) (z' : Int), Same (fun k => k = sw) H H' → H'[sw]? = some ⟨[.int .i64 z'], true, true⟩ → (x = a ∧ y = b ∨ x = b ∧ y = a) → Post (.tuple #[.int .i64 x, .int .i64 y]) H') :
    ACalls Try.prog 231 [lv 3 id 0 n, .int .i64 a, .int .i64 b, .pointer (some ⟨sw, 0, none⟩), .func (.func g) fs.toArray cs.toArray] H Post := by
  refine acalls_vc (rs := [.tmp 10, .tmp 11]) Try.func231 rfl rfl Try.ntmps231 rfl rfl ?_
  have hi1 : a < d.size := by omega
  have hi2 : b < d.size := by omega
  have ca := hA.load Bk.cells_len hi1
  have cb := hA.load Bk.cells_len hi2
  have qa := hQ _ hi1
  have qb := hQ _ hi2
  obtain ⟨x, hx⟩ : ∃ x, x = d[a]! := ⟨_, rfl⟩
  obtain ⟨y, hy⟩ : ∃ y, y = d[b]! := ⟨_, rfl⟩
  rw [← hx] at ca qa
  rw [← hy] at cb qb
  simp only [Bk.cells, Nat.mul_one, Row.val] at ca cb
  simp (maxSteps := 1000000) [go_sem]
  refine AWp.draw mixed [(0, false), (1, false), (2, false), (3, false), (4, false), (5, false), (6, false), (7, false), (8, false), (9, false), (10, false)] (by kernel_rfl) ?_
  simp (maxSteps := 1000000) [go_sem, ca, cb, ha, hb]
  refine hC H y x _ hB qb qa ?_
  intro H3 c hp3 hc
  have hz3 : H3[sw]? = some ⟨[.int .i64 z], true, true⟩ := Same.get (S := fun _ => False) (Same.of_prefix hp3) hz (fun h => h)
  cases hyx : lt y x with
  | true =>
    rw [hyx] at hc
    have hc0 : c < 0 := by simpa using hc
    have lz : cellsAt H3 sw 0 1 = some [.int .i64 z] := by rw [cellsAt_of hz3 rfl (by simp)]; rfl
    obtain ⟨z1, hz1⟩ : ∃ z1, IntKind.i64.wrap (z + 1) = z1 := ⟨_, rfl⟩
    have sz : storeAt H3 sw 0 [.int .i64 z1] = some (H3.set sw ⟨[.int .i64 z1], true, true⟩) := by
      rw [storeAt_of hz3 rfl rfl (by simp) (by simp [Value.oneCell'])]; rfl
    have hlt := (List.getElem?_eq_some_iff.1 hz3).1
    have fin := h (H3.set sw ⟨[.int .i64 z1], true, true⟩) b a _ ((Same.of_prefix hp3).trans same_set) (List.getElem?_set_self hlt) (.inr ⟨rfl, rfl⟩)
    generalize H3.set sw ⟨[.int .i64 z1], true, true⟩ = H4 at sz fin
    simp (maxSteps := 1000000) [go_sem, hc, hc0, lz, hz1, sz]
    exact fin
  | false =>
    rw [hyx] at hc
    have hc0 : ¬ c < 0 := by simpa using hc
    have fin := h H3 a b z (Same.of_prefix hp3) hz3 (.inl ⟨rfl, rfl⟩)
    simp (maxSteps := 1000000) [go_sem, hc, hc0]
    exact fin

theorem medianB_ok {HB H : Heap} {id sw a b c n : Nat} {z : Int} {d : Array Bk} {lt : Bk → Bk → Bool} {g : FuncId} {fs cs : List Value} {Q : Bk → Prop} (hA : Arr Bk.cells H id d) (hn : d.size = n) (hl : n ≤ 1048576) (ha : a < n) (hb : b < n) (hc : c < n) (hQ : QA Q d)
    (hC : Cmp Try.prog Bk.val lt g fs cs Q id HB) (hB : Same (fun k => k = id) HB H) (hz : H[sw]? = some ⟨[.int .i64 z], true, true⟩) (hsw : HB.length ≤ sw) (hid : id ≠ sw) (Post : Value → Heap → Prop)
    (h : ∀ H' (x : Nat) (z' : Int), Same (fun k => k = sw) H H' → H'[sw]? = some ⟨[.int .i64 z'], true, true⟩ → (x = a ∨ x = b ∨ x = c) → Post (.int .i64 x) H') :
    ACalls Try.prog 227 [lv 3 id 0 n, .int .i64 a, .int .i64 b, .int .i64 c, .pointer (some ⟨sw, 0, none⟩), .func (.func g) fs.toArray cs.toArray] H Post := by
  have stepB : ∀ {H1 : Heap}, Same (fun k => k = sw) H H1 → Same (fun k => k = id) HB H1 := fun h1 => hB.via h1 (by intro j hj e; omega)
  have stepA : ∀ {H1 : Heap}, Same (fun k => k = sw) H H1 → Arr Bk.cells H1 id d := fun h1 => h1.get hA hid
  refine acalls_vc (rs := [.tmp 12]) Try.func227 rfl rfl Try.ntmps227 rfl rfl ?_
  simp (maxSteps := 1000000) [go_sem]
  refine order2B_ok hA hn hl ha hb hQ hC hB hz hsw hid _ ?_
  intro H1 a1 b1 z1 hs1 hz1 h1
  simp (maxSteps := 1000000) [go_sem]
  refine order2B_ok (stepA hs1) hn hl (by omega) hc hQ hC (stepB hs1) hz1 hsw hid _ ?_
  intro H2 b2 c2 z2 hs2 hz2 h2
  have hs2 := hs1.trans hs2
  simp (maxSteps := 1000000) [go_sem]
  refine order2B_ok (stepA hs2) hn hl (by omega) (by omega) hQ hC (stepB hs2) hz2 hsw hid _ ?_
  intro H3 a3 b3 z3 hs3 hz3 h3
  simp (maxSteps := 1000000) [go_sem]
  exact h H3 b3 z3 (hs2.trans hs3) hz3 (by omega)

theorem medianAdjB_ok {HB H : Heap} {id sw a n : Nat} {z : Int} {d : Array Bk} {lt : Bk → Bk → Bool} {g : FuncId} {fs cs : List Value} {Q : Bk → Prop} (hA : Arr Bk.cells H id d) (hn : d.size = n) (hl : n ≤ 1048576) (ha0 : 0 < a) (ha : a + 1 < n) (hQ : QA Q d)
    (hC : Cmp Try.prog Bk.val lt g fs cs Q id HB) (hB : Same (fun k => k = id) HB H) (hz : H[sw]? = some ⟨[.int .i64 z], true, true⟩) (hsw : HB.length ≤ sw) (hid : id ≠ sw) (Post : Value → Heap → Prop)
    (h : ∀ H' (x : Nat) (z' : Int), Same (fun k => k = sw) H H' → H'[sw]? = some ⟨[.int .i64 z'], true, true⟩ → (a ≤ x + 1 ∧ x ≤ a + 1) → Post (.int .i64 x) H') :
    ACalls Try.prog 226 [lv 3 id 0 n, .int .i64 a, .pointer (some ⟨sw, 0, none⟩), .func (.func g) fs.toArray cs.toArray] H Post := by
  obtain ⟨p, hp⟩ : ∃ p, p = a - 1 := ⟨_, rfl⟩
  obtain ⟨q, hq⟩ : ∃ q, q = a + 1 := ⟨_, rfl⟩
  have w0 : IntKind.i64.wrap ((a : Int) - 1) = (p : Int) := by rw [hp, i64w (by omega) (by omega)]; omega
  have w1 : IntKind.i64.wrap ((a : Int) + 1) = (q : Int) := by rw [hq, i64w (by omega) (by omega)]; omega
  refine acalls_vc (rs := [.tmp 8]) Try.func226 rfl rfl Try.ntmps226 rfl rfl ?_
  simp (maxSteps := 1000000) [go_sem, w0, w1]
  refine medianB_ok hA hn hl (by omega) (by omega) (by omega) hQ hC hB hz hsw hid _ ?_
  intro H1 x z1 hs1 hz1 h1
  simp (maxSteps := 1000000) [go_sem]
  exact h H1 x z1 hs1 hz1 (by omega)

theorem pivotB_ok {H : Heap} {id a b n : Nat} {d : Array Bk} {lt : Bk → Bk → Bool} {g : FuncId} {fs cs : List Value} {Q : Bk → Prop} (hA : Arr Bk.cells H id d) (hn : d.size = n) (hl : n ≤ 1048576) (hab : a < b) (hb : b ≤ n) (hQ : QA Q d)
    (hC : Cmp Try.prog Bk.val lt g fs cs Q id H) (Post : Value → Heap → Prop)
    (h : ∀ H' (x : Nat) (t : Int), H <+: H' → (a ≤ x ∧ x < b) → Post (.tuple #[.int .i64 x, .int .i64 t]) H') :
    ACalls Try.prog 211 [lv 3 id 0 n, .int .i64 a, .int .i64 b, .func (.func g) fs.toArray cs.toArray] H Post := by
  obtain ⟨l, hll⟩ : ∃ l, l = b - a := ⟨_, rfl⟩
  obtain ⟨q, hq⟩ : ∃ q, q = l / 4 := ⟨_, rfl⟩
  obtain ⟨i, hi⟩ : ∃ i, i = a + q := ⟨_, rfl⟩
  obtain ⟨j, hj⟩ : ∃ j, j = a + q * 2 := ⟨_, rfl⟩
  obtain ⟨k, hk⟩ : ∃ k, k = a + q * 3 := ⟨_, rfl⟩
  have w0 : IntKind.i64.wrap ((b : Int) - a) = (l : Int) := by rw [hll, i64w (by omega) (by omega)]; omega
  have w1 : IntKind.i64.wrap ((l : Int) / 4) = (q : Int) := by rw [hq, i64w (by omega) (by omega)]; omega
  have w1' : IntKind.i64.wrap (q : Int) = (q : Int) := i64w (by omega) (by omega)
  have w2 : IntKind.i64.wrap ((q : Int) * 2) = (q : Int) * 2 := i64w (by omega) (by omega)
  have w3 : IntKind.i64.wrap ((q : Int) * 3) = (q : Int) * 3 := i64w (by omega) (by omega)
  have w4 : IntKind.i64.wrap ((a : Int) + q) = (i : Int) := by rw [hi, i64w (by omega) (by omega)]; omega
  have w5 : IntKind.i64.wrap ((a : Int) + (q : Int) * 2) = (j : Int) := by rw [hj, i64w (by omega) (by omega)]; omega
  have w6 : IntKind.i64.wrap ((a : Int) + (q : Int) * 3) = (k : Int) := by rw [hk, i64w (by omega) (by omega)]; omega
  have hidl := hA.lt
  have hp0 : H <+: H ++ [⟨[.int .i64 0], true, true⟩] := List.prefix_append _ _
  have hz0 : (H ++ [(⟨[.int .i64 0], true, true⟩ : Blk)])[H.length]? = some ⟨[.int .i64 0], true, true⟩ := by simp
  have fin0 : ∀ (H' : Heap) (x : Nat) (t : Int), Same (fun k => k = H.length) (H ++ [⟨[.int .i64 0], true, true⟩]) H' → (a ≤ x ∧ x < b) → Post (.tuple #[.int .i64 x, .int .i64 t]) H' := by
    intro H' x t hs hx
    refine h H' x t ?_ hx
    exact ((Same.of_prefix (S := fun k => k = H.length) hp0).trans hs).prefix (by intro j hj e; omega)
  have lz : ∀ {H' : Heap} {z : Int}, H'[H.length]? = some ⟨[.int .i64 z], true, true⟩ → cellsAt H' H.length 0 1 = some [.int .i64 z] := by
    intro H' z hz; rw [cellsAt_of hz rfl (by simp)]; rfl
  refine acalls_vc (rs := [.tmp 8, .tmp 9]) Try.func211 rfl rfl Try.ntmps211 rfl rfl ?_
  by_cases h8 : 8 ≤ l
  · have h8' : (8 : Int) ≤ l := by omega
    by_cases h50 : 50 ≤ l
    · have h50' : (50 : Int) ≤ l := by omega
      simp (maxSteps := 1000000) [go_sem, w0, w1, w1', w2, w3, w4, w5, w6, h8, h8', h50, h50']
      have hA0 := hA.pre hp0
      have hB0 : Same (fun k => k = id) H (H ++ [⟨[.int .i64 0], true, true⟩]) := Same.of_prefix hp0
      generalize H ++ [(⟨[.int .i64 0], true, true⟩ : Blk)] = H0 at hp0 hz0 fin0 hA0 hB0 ⊢
      have stepB : ∀ {H1 : Heap}, Same (fun k => k = H.length) H0 H1 → Same (fun k => k = id) H H1 := fun h1 => hB0.via h1 (by intro j hj e; omega)
      have stepA : ∀ {H1 : Heap}, Same (fun k => k = H.length) H0 H1 → Arr Bk.cells H1 id d := fun h1 => h1.get hA0 (by omega)
      refine medianAdjB_ok hA0 hn hl (by omega) (by omega) hQ hC hB0 hz0 (Nat.le_refl _) (by omega) _ ?_
      intro H1 i1 z1 hs1 hz1 h1
      simp (maxSteps := 1000000) [go_sem]
      refine medianAdjB_ok (stepA hs1) hn hl (by omega) (by omega) hQ hC (stepB hs1) hz1 (Nat.le_refl _) (by omega) _ ?_
      intro H2 j1 z2 hs2 hz2 h2
      have hs2 := hs1.trans hs2
      simp (maxSteps := 1000000) [go_sem]
      refine medianAdjB_ok (stepA hs2) hn hl (by omega) (by omega) hQ hC (stepB hs2) hz2 (Nat.le_refl _) (by omega) _ ?_
      intro H3 k1 z3 hs3 hz3 h3
      have hs3 := hs2.trans hs3
      simp (maxSteps := 1000000) [go_sem]
      refine medianB_ok (stepA hs3) hn hl (by omega) (by omega) (by omega) hQ hC (stepB hs3) hz3 (Nat.le_refl _) (by omega) _ ?_
      intro H4 x z4 hs4 hz4 h4
      have hs4 := hs3.trans hs4
      have c4 := lz hz4
      have hx : a ≤ x ∧ x < b := by omega
      by_cases e0 : z4 = 0
      · have fin := fin0 H4 x 1 hs4 hx
        subst e0
        simp (maxSteps := 1000000) [go_sem, c4]
        exact fin
      · have e0' : (z4 == 0) = false := by simpa using e0
        by_cases e1 : z4 = 12
        · have fin := fin0 H4 x 2 hs4 hx
          subst e1
          simp (maxSteps := 1000000) [go_sem, c4]
          exact fin
        · have fin := fin0 H4 x 0 hs4 hx
          have e1' : (z4 == 12) = false := by simpa using e1
          simp (maxSteps := 1000000) [go_sem, c4, e0, e0', e1, e1']
          exact fin
    · have h50' : ¬ ((50 : Int) ≤ l) := by omega
      simp (maxSteps := 1000000) [go_sem, w0, w1, w1', w2, w3, w4, w5, w6, h8, h8', h50, h50']
      have hA0 := hA.pre hp0
      have hB0 : Same (fun k => k = id) H (H ++ [⟨[.int .i64 0], true, true⟩]) := Same.of_prefix hp0
      generalize H ++ [(⟨[.int .i64 0], true, true⟩ : Blk)] = H0 at hp0 hz0 fin0 hA0 hB0 ⊢
      refine medianB_ok hA0 hn hl (by omega) (by omega) (by omega) hQ hC hB0 hz0 (Nat.le_refl _) (by omega) _ ?_
      intro H4 x z4 hs4 hz4 h4
      have c4 := lz hz4
      have hx : a ≤ x ∧ x < b := by omega
      by_cases e0 : z4 = 0
      · have fin := fin0 H4 x 1 hs4 hx
        subst e0
        simp (maxSteps := 1000000) [go_sem, c4]
        exact fin
      · have e0' : (z4 == 0) = false := by simpa using e0
        by_cases e1 : z4 = 12
        · have fin := fin0 H4 x 2 hs4 hx
          subst e1
          simp (maxSteps := 1000000) [go_sem, c4]
          exact fin
        · have fin := fin0 H4 x 0 hs4 hx
          have e1' : (z4 == 12) = false := by simpa using e1
          simp (maxSteps := 1000000) [go_sem, c4, e0, e0', e1, e1']
          exact fin
  · have h8' : ¬ ((8 : Int) ≤ l) := by omega
    have fin := fin0 _ j 1 (Same.refl _ _) (by omega)
    simp (maxSteps := 1000000) [go_sem, w0, w1, w1', w2, w3, w4, w5, w6, h8, h8']
    exact fin

end Go.Proofs.Ytdfeoccjllljiaa
end

section
/- Sorting by a function: the partitions. -/
set_option linter.all false
set_option maxRecDepth 20000
set_option maxHeartbeats 8000000
namespace Go.Proofs.Ytdfeoccjllljiaa
open Go.Ab Go.Sort

theorem partEqB_ok {H : Heap} {id a b pivot n : Nat} {d : Array Bk} {lt : Bk → Bk → Bool} {g : FuncId} {fs cs : List Value} {Q : Bk → Prop} (hA : Arr Bk.cells H id d) (hn : d.size = n) (hl : n ≤ 1048576) (hap : a ≤ pivot) (hpb : pivot < b) (hb : b ≤ n) (hQ : QA Q d)
    (hC : Cmp Try.prog Bk.val lt g fs cs Q id H) (Post : Value → Heap → Prop) (h : ∀ H', Same (fun k => k = id) H H' → Arr Bk.cells H' id (partitionEqual lt d a b pivot).2 → Post (.int .i64 ((partitionEqual lt d a b pivot).1 : Nat)) H') :
    ACalls Try.prog 214 [lv 3 id 0 n, .int .i64 a, .int .i64 b, .int .i64 pivot, .func (.func g) fs.toArray cs.toArray] H Post := by
  refine acalls_vc (rs := [.tmp 10]) Try.func214 rfl rfl Try.ntmps214 rfl rfl ?_
  obtain ⟨b1, hb1⟩ : ∃ b1, b1 = b - 1 := ⟨_, rfl⟩
  obtain ⟨a1, ha1⟩ : ∃ a1, a1 = a + 1 := ⟨_, rfl⟩
  have w0 : IntKind.i64.wrap ((b : Int) - 1) = (b1 : Int) := by rw [hb1, i64w (by omega) (by omega)]; omega
  have w1 : IntKind.i64.wrap ((a : Int) + 1) = (a1 : Int) := by rw [ha1, i64w (by omega) (by omega)]; omega
  have hi1 : a < d.size := by omega
  have hi2 : pivot < d.size := by omega
  have n1 : a < n := by omega
  have n2 : pivot < n := by omega
  have ca := hA.load Bk.cells_len hi1
  have cb := hA.load Bk.cells_len hi2
  obtain ⟨H5, H6, s1, s0, hA6, hS6, hl6⟩ := hA.swap Bk.cells_len Bk.cells_one hi1 hi2
  obtain ⟨x, hx⟩ : ∃ x, x = d[a]! := ⟨_, rfl⟩
  obtain ⟨y, hy⟩ : ∃ y, y = d[pivot]! := ⟨_, rfl⟩
  rw [← hx] at ca s0
  rw [← hy] at cb s1
  simp only [Bk.cells, Nat.mul_one, Row.val] at ca cb s0 s1
  have e0 : partitionEqual lt d a b pivot = partEqLoop lt a a1 b1 (swp d a pivot) := by rw [hb1, ha1]; rfl
  rw [e0] at h
  have hQ6 := hQ.swp hi1 hi2
  have hsz6 : (swp d a pivot).size = n := by rw [size_swp]; exact hn
  generalize swp d a pivot = d0 at *
  simp (maxSteps := 1000000) [go_sem]
  refine AWp.draw mixed [(0, false), (1, false), (2, false), (3, false), (4, false), (5, false), (6, false), (7, false), (8, false), (9, false), (10, false), (11, false), (12, false), (13, false), (14, false), (15, false)] (by kernel_rfl) ?_
  simp (maxSteps := 1000000) [go_sem, ca, cb, n1, n2, s1, s0, w0, w1]
  refine AWp.loopVc (St := Nat × Nat × Array Bk) (fun s => [(0, lv 3 id 0 n), (1, .int .i64 a), (4, .func (.func g) fs.toArray cs.toArray), (11, .int .i64 s.1), (12, .int .i64 s.2.1)])
    (fun s H' => a < s.1 ∧ s.1 ≤ s.2.1 + 1 ∧ s.2.1 < n ∧ s.2.2.size = n ∧ QA Q s.2.2 ∧ Same (fun k => k = id) H H' ∧ Arr Bk.cells H' id s.2.2 ∧ partEqLoop lt a s.1 s.2.1 s.2.2 = partEqLoop lt a a1 b1 d0) (fun s => s.2.1 + 1 - s.1) (a1, b1, d0) ?_ ?_ ?_
  · simp [upF, Fr.get, Up.refl]
  · exact ⟨by simp only; omega, by simp only; omega, by simp only; omega, hsz6, hQ6, hS6, hA6, rfl⟩
  · rintro K0 ⟨i, j, d1⟩ H1 ⟨hai, hij, hjn, hsz, hQ1, hS1, hA1, hO⟩ hK0
    simp only at hai hij hjn hsz hQ1 hS1 hA1 hO
    obtain ⟨pv, hpv⟩ : ∃ pv, pv = d1[a]! := ⟨_, rfl⟩
    rw [partEqLoop_eq, ← hpv] at hO
    simp (maxSteps := 1000000) [go_sem]
    refine AWp.loopCut (St := Nat) (St' := Unit) 2 (fun s => [(0, lv 3 id 0 n), (1, .int .i64 a), (4, .func (.func g) fs.toArray cs.toArray), (11, .int .i64 s), (12, .int .i64 j)])
      (fun s H2 => a < s ∧ s ≤ j + 1 ∧ Same (fun k => k = id) H H2 ∧ Arr Bk.cells H2 id d1 ∧ scanUp (fun x => !lt pv x) d1 j s = scanUp (fun x => !lt pv x) d1 j i) (fun s => j + 1 - s) i
      (fun _ => [(0, lv 3 id 0 n), (1, .int .i64 a), (4, .func (.func g) fs.toArray cs.toArray), (11, .int .i64 ((scanUp (fun x => !lt pv x) d1 j i : Nat) : Int)), (12, .int .i64 j)])
      (fun _ H2 => Same (fun k => k = id) H H2 ∧ Arr Bk.cells H2 id d1) ?_ ?_ ?_ ?_
    · simp [upF, Fr.get, Up.refl]
    · exact ⟨by omega, by omega, hS1, hA1, rfl⟩
    · rintro K KE s H2 ⟨has, hsj, hS2, hA2, hP⟩ hK hKE
      by_cases hsj2 : s ≤ j
      · have hi1 : s < (d1).size := by omega
        have hi0 : a < (d1).size := by omega
        have n1 : s < n := by omega
        have n0 : a < n := by omega
        have hsj3 : (s : Int) ≤ ((j : Nat) : Int) := by omega
        have hw_s : IntKind.i64.wrap ((s : Int) + 1) = (s : Int) + 1 := i64w (by omega) (by omega)
        have c1 := hA2.load Bk.cells_len hi1
        have c0 := hA2.load Bk.cells_len hi0
        have q1 := hQ1 _ hi1
        have q0 := hQ1 _ hi0
        obtain ⟨x, hx⟩ : ∃ x, x = (d1)[s]! := ⟨_, rfl⟩
        rw [← hx] at c1 q1
        rw [← hpv] at c0 q0
        simp only [Bk.cells, Nat.mul_one, Row.val] at c1 c0
        refine AWp.draw mixed [(0, false), (1, false), (2, false), (3, false), (4, false), (5, false), (6, false), (7, false), (8, false), (9, false), (10, false), (11, false), (12, false), (13, false), (14, false), (15, false), (16, false)] (by kernel_rfl) ?_
        simp (maxSteps := 1000000) [go_sem, hsj2, hsj3, c1, c0, n1, n0]
        refine hC H2 pv x _ hS2 q0 q1 ?_
        intro H3 c hp3 hc
        have hS3 := hS2.via (Same.of_prefix (S := fun _ => False) hp3) (fun _ _ h => h.elim)
        have hA3 := hA2.pre hp3
        cases hl' : lt pv x with
        | false =>
          rw [hl'] at hc
          have hc0 := hc
          simp only [decide_eq_true_eq, decide_eq_false_iff_not] at hc0
          simp (maxSteps := 1000000) [go_sem, hc, hc0, hw_s]
          exact hK (s + 1) _ _ (by omega) (by simp [upF, Fr.get, Up.refl]) ⟨by omega, by omega, hS3, hA3, by rw [← hP]; exact (scanUp_go hsj2 (by show (!lt pv d1[s]!) = true; rw [← hx]; simp [hl'])).symm⟩
        | true =>
          rw [hl'] at hc
          have hc0 := hc
          simp only [decide_eq_true_eq, decide_eq_false_iff_not] at hc0
          rw [scanUp_stop (.inr (by show (!lt pv d1[s]!) = false; rw [← hx]; simp [hl']))] at hP
          simp (maxSteps := 1000000) [go_sem, hc, hc0]
          exact hKE () _ _ (by simp [upF, Fr.get, Up.refl, hP]) ⟨hS3, hA3⟩
      · rw [scanUp_stop (.inl (by omega))] at hP
        have hsj3 : ¬ ((s : Int) ≤ ((j : Nat) : Int)) := by omega
        refine AWp.draw mixed [(0, false), (1, false), (2, false), (3, false), (4, false), (5, false), (6, false), (7, false), (8, false), (9, false), (10, false), (11, false), (12, false), (13, false), (14, false), (15, false), (16, false)] (by kernel_rfl) ?_
        simp (maxSteps := 1000000) [go_sem, undef, hsj2, hsj3]
        exact hKE () _ _ (by simp [upF, Fr.get, Up.refl, hP]) ⟨hS2, hA2⟩
    rintro _ H3 ⟨hS3, hA3⟩
    have hge1 := scanUp_ge (fun x => !lt pv x) d1 j i
    have hle1 := (scanUp_spec (fun x => !lt pv x) d1 j _ i rfl).2.1 (by omega)
    have hle1s := (scanUp_spec (fun x => !lt pv x) d1 j _ i rfl).2.2.2
    obtain ⟨i2, hi2'⟩ : ∃ I, scanUp (fun x => !lt pv x) d1 j i = I := ⟨_, rfl⟩
    rw [hi2'] at hge1 hle1 hle1s ⊢
    simp (maxSteps := 1000000) [go_sem]
    refine AWp.loopCut (St := Nat) (St' := Unit) 4 (fun s => [(0, lv 3 id 0 n), (1, .int .i64 a), (4, .func (.func g) fs.toArray cs.toArray), (11, .int .i64 i2), (12, .int .i64 s)])
      (fun s H2 => s < n ∧ i2 ≤ s + 1 ∧ Same (fun k => k = id) H H2 ∧ Arr Bk.cells H2 id d1 ∧ scanDown (fun x => lt pv x) d1 i2 s = scanDown (fun x => lt pv x) d1 i2 j) (fun s => s) j
      (fun _ => [(0, lv 3 id 0 n), (1, .int .i64 a), (4, .func (.func g) fs.toArray cs.toArray), (11, .int .i64 i2), (12, .int .i64 ((scanDown (fun x => lt pv x) d1 i2 j : Nat) : Int))])
      (fun _ H2 => Same (fun k => k = id) H H2 ∧ Arr Bk.cells H2 id d1) ?_ ?_ ?_ ?_
    · simp [upF, Fr.get, Up.refl]
    · exact ⟨by omega, by omega, hS3, hA3, rfl⟩
    · rintro K KE s H2 ⟨hsn, his, hS2, hA2, hP⟩ hK hKE
      by_cases his2 : i2 ≤ s
      · obtain ⟨r, rfl⟩ : ∃ r, s = r + 1 := ⟨s - 1, by omega⟩
        have hi1 : r + 1 < (d1).size := by omega
        have hi0 : a < (d1).size := by omega
        have n1 : r + 1 < n := by omega
        have n0 : a < n := by omega
        have m1 : (r : Int) + 1 < n := by omega
        have z1 : (0 : Int) ≤ (r : Int) + 1 := by omega
        have his3 : ((i2 : Nat) : Int) ≤ (r : Int) + 1 := by omega
        have hwr : IntKind.i64.wrap (r : Int) = (r : Int) := i64w (by omega) (by omega)
        have c1 := hA2.load Bk.cells_len hi1
        have c0 := hA2.load Bk.cells_len hi0
        have q1 := hQ1 _ hi1
        have q0 := hQ1 _ hi0
        obtain ⟨x, hx⟩ : ∃ x, x = (d1)[r + 1]! := ⟨_, rfl⟩
        rw [← hx] at c1 q1
        rw [← hpv] at c0 q0
        simp only [Bk.cells, Nat.mul_one, Row.val] at c1 c0
        refine AWp.draw mixed [(0, false), (1, false), (2, false), (3, false), (4, false), (5, false), (6, false), (7, false), (8, false), (9, false), (10, false), (11, false), (12, false), (13, false), (14, false), (15, false)] (by kernel_rfl) ?_
        simp (maxSteps := 1000000) [go_sem, his2, his3, c1, c0, n1, n0, m1, z1]
        refine hC H2 pv x _ hS2 q0 q1 ?_
        intro H3 c hp3 hc
        have hS3 := hS2.via (Same.of_prefix (S := fun _ => False) hp3) (fun _ _ h => h.elim)
        have hA3 := hA2.pre hp3
        cases hl' : lt pv x with
        | true =>
          rw [hl'] at hc
          have hc0 := hc
          simp only [decide_eq_true_eq, decide_eq_false_iff_not] at hc0
          simp (maxSteps := 1000000) [go_sem, hc, hc0, hwr]
          exact hK r _ _ (by omega) (by simp [upF, Fr.get, Up.refl]) ⟨by omega, by omega, hS3, hA3, by rw [← hP]; exact (scanDown_go his2 (by show (lt pv d1[r + 1]!) = true; rw [← hx]; simp [hl'])).symm⟩
        | false =>
          rw [hl'] at hc
          have hc0 := hc
          simp only [decide_eq_true_eq, decide_eq_false_iff_not] at hc0
          rw [scanDown_stop (.inr (by show (lt pv d1[r + 1]!) = false; rw [← hx]; simp [hl']))] at hP
          have hP' : ((r : Nat) : Int) + 1 = ((scanDown (fun x => lt pv x) d1 i2 j : Nat) : Int) := by rw [← hP]; simp
          simp (maxSteps := 1000000) [go_sem, hc, hc0]
          exact hKE () _ _ (by simp [upF, Fr.get, Up.refl, hP']) ⟨hS3, hA3⟩
      · rw [scanDown_stop (.inl (by omega))] at hP
        have his3 : ¬ (((i2 : Nat) : Int) ≤ (s : Int)) := by omega
        refine AWp.draw mixed [(0, false), (1, false), (2, false), (3, false), (4, false), (5, false), (6, false), (7, false), (8, false), (9, false), (10, false), (11, false), (12, false), (13, false), (14, false), (15, false)] (by kernel_rfl) ?_
        simp (maxSteps := 1000000) [go_sem, undef, his2, his3]
        exact hKE () _ _ (by simp [upF, Fr.get, Up.refl, hP]) ⟨hS2, hA2⟩
    rintro _ H4 ⟨hS4, hA4⟩
    have hge2 := scanDown_le (fun x => lt pv x) d1 i2 j
    have hle2 := (scanDown_spec (fun x => lt pv x) d1 i2 j).2.1 (by omega)
    have hle2s := (scanDown_spec (fun x => lt pv x) d1 i2 j).2.2.2
    obtain ⟨j2, hj2'⟩ : ∃ J, scanDown (fun x => lt pv x) d1 i2 j = J := ⟨_, rfl⟩
    rw [hj2'] at hge2 hle2 hle2s ⊢
    simp (maxSteps := 1000000) [go_sem]
    rw [hi2', hj2'] at hO
    by_cases hgt : j2 < i2
    · have hgt' : (j2 : Int) < i2 := by omega
      rw [if_pos hgt] at hO
      simp (maxSteps := 1000000) [go_sem, hgt, hgt']
      rw [← hO] at h
      exact h H4 hS4 hA4
    · have hgt' : ¬ ((j2 : Int) < i2) := by omega
      rw [if_neg hgt] at hO
      have hne : i2 ≠ j2 := by
        intro e
        have f1 := hle1s (by omega)
        have f2 := hle2s (by omega) (by omega)
        rw [← e] at f2
        simp only [Bool.not_eq_false'] at f1
        rw [f1] at f2; cases f2
      obtain ⟨r, rfl⟩ : ∃ r, j2 = r + 1 := ⟨j2 - 1, by omega⟩
      have hi1 : i2 < d1.size := by omega
      have hi2 : r + 1 < d1.size := by omega
      have n1 : i2 < n := by omega
      have n2 : r + 1 < n := by omega
      have m2 : (r : Int) + 1 < n := by omega
      have z2 : (0 : Int) ≤ (r : Int) + 1 := by omega
      have hgt3 : ¬ ((r : Int) + 1 < i2) := by omega
      have hwr : IntKind.i64.wrap (r : Int) = (r : Int) := i64w (by omega) (by omega)
      have hwi : IntKind.i64.wrap ((i2 : Int) + 1) = (i2 : Int) + 1 := i64w (by omega) (by omega)
      have ca := hA4.load Bk.cells_len hi1
      have cb := hA4.load Bk.cells_len hi2
      obtain ⟨H5, H6, s1, s0, hA6, hS6, hl6⟩ := hA4.swap Bk.cells_len Bk.cells_one hi1 hi2
      obtain ⟨x, hx⟩ : ∃ x, x = d1[i2]! := ⟨_, rfl⟩
      obtain ⟨y, hy⟩ : ∃ y, y = d1[r + 1]! := ⟨_, rfl⟩
      rw [← hx] at ca s0
      rw [← hy] at cb s1
      simp only [Bk.cells, Nat.mul_one, Row.val] at ca cb s0 s1
      simp (maxSteps := 1000000) [go_sem, hgt, hgt', hgt3]
      refine AWp.draw mixed [(0, false), (1, false), (2, false), (3, false), (4, false), (5, false), (6, false), (7, false), (8, false), (9, false), (10, false), (11, false), (12, false), (13, false), (14, false), (15, false)] (by kernel_rfl) ?_
      simp (maxSteps := 1000000) [go_sem, ca, cb, n1, n2, m2, z2, s1, s0, hwr, hwi]
      exact hK0 (i2 + 1, r, swp d1 i2 (r + 1)) _ _ (by simp only; omega) (by simp [upF, Fr.get, Up.refl]) ⟨by simp only; omega, by simp only; omega, by simp only; omega, by rw [size_swp]; exact hsz, hQ1.swp hi1 hi2, hS4.trans hS6, hA6, hO⟩

end Go.Proofs.Ytdfeoccjllljiaa
end
