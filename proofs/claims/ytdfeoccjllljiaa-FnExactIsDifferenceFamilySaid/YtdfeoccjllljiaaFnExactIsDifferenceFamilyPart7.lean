/- Part 7 of what the proof of the law FnExactIsDifferenceFamily rests on: contracts of functions of the program, for every argument that each names; no statement of the seat is proved here. -/
import Derived.Test.YtdfeoccjllljiaaFnExactIsDifferenceFamilyPart6

section
/- Difference families: the specification's side. -/
set_option linter.all false
set_option maxRecDepth 20000
set_option maxHeartbeats 8000000
namespace Go.Proofs.Ytdfeoccjllljiaa
open Go.Ab Go.Sort

theorem l02Numbers_ok {H : Heap} {v : Int} (Post : Value → Heap → Prop) (h : Post (.bool (numB v)) H) : ACalls Try.prog 102 [.int .i64 v] H Post := by
  refine acalls_vc (rs := [.tmp 2]) Try.func102 rfl rfl Try.ntmps102 rfl rfl ?_
  by_cases c1 : v = 7
  · subst c1
    simp (maxSteps := 1000000) [go_sem, undef]; exact h
  by_cases c2 : v = 13
  · subst c2
    simp (maxSteps := 1000000) [go_sem, undef]; exact h
  have e1 : (v == 7) = false := beq_eq_false_iff_ne.2 c1
  have e2 : (v == 13) = false := beq_eq_false_iff_ne.2 c2
  have e3 : (v == 15) = decide (v = 15) := rfl
  have hn : numB v = decide (v = 15) := by simp [numB, c1, c2]
  rw [hn] at h
  simp (maxSteps := 1000000) [go_sem, undef, e1, e2]
  rw [e3]; exact h

theorem mask_in {L : List Int} (hL : ∀ x ∈ L, 0 ≤ x) {n : Nat} (h : (n : Int) ∈ L) : maskL L &&& 2 ^ n = 2 ^ n := by
  apply Nat.eq_of_testBit_eq
  intro j
  rw [Nat.testBit_and, Nat.testBit_two_pow]
  by_cases hj : n = j
  · subst hj; simp [(maskL_bit hL n).2 h]
  · simp [hj]
theorem mask_out {L : List Int} (hL : ∀ x ∈ L, 0 ≤ x) {n : Nat} (h : (n : Int) ∉ L) : maskL L &&& 2 ^ n = 0 := by
  have hb : (maskL L).testBit n = false := by
    cases hb : (maskL L).testBit n with
    | false => rfl
    | true => exact absurd ((maskL_bit hL n).1 hb) h
  apply Nat.eq_of_testBit_eq
  intro j
  rw [Nat.testBit_and, Nat.testBit_two_pow, Nat.zero_testBit]
  by_cases hj : n = j
  · subst hj; simp [hb]
  · simp [hj]

theorem l02Family_ok {H : Heap} {u : Value} {v : Int} {xs : List (List Int)} (hv : NumB v) (hu : IntssAt H u xs) (hl : xs.length + xs.flatten.length ≤ 1048576) (Post : Value → Heap → Prop) (h : ∀ H', H <+: H' → Post (.bool (decide (xs = famOf v))) H') :
    ACalls Try.prog 103 [.int .i64 v, u] H Post := by
  obtain ⟨i, o, rfl⟩ : ∃ i o, u = lv 1 i o xs.length := by obtain ⟨i, o, _, e, _⟩ := hu; exact ⟨i, o, e⟩
  have hvb : 7 ≤ v ∧ v ≤ 15 := by unfold NumB at hv; omega
  have no : ¬ IsFam v xs → ∀ H', H <+: H' → Post (.bool false) H' := by
    intro hn H' hp
    have := h H' hp
    rwa [decide_eq_false (fun e : xs = famOf v => hn (by rw [e]; exact fam_is hv))] at this
  have hpre : ∀ x ∈ preF v, 0 ≤ x ∧ x < 60 := by
    intro x hx; unfold preF at hx; split at hx <;> simp at hx; omega
  have hm0 : maskL (preF v) = if v = 15 then 32 else 0 := by unfold preF; split <;> rfl
  have hcn : ∀ H', H <+: H' → (∀ t ∈ xs, tripS v t = true) → (∀ (j : Nat) (x y : List Int), xs[j]? = some x → xs[j + 1]? = some y → hd x < hd y) → (preF v ++ xs.flatten).Nodup →
      Post (.bool (decide ((3 * (xs.length : Int)) = (v - 1) / 2 - (if v = 15 then 1 else 0)))) H' := by
    intro H' hp h1 h2 h3
    have := h H' hp
    have he : decide ((3 * (xs.length : Int)) = (v - 1) / 2 - (if v = 15 then 1 else 0)) = decide (xs = famOf v) := by
      rw [decide_eq_decide]
      exact ⟨fun e => fam_to hv ⟨h1, h2, h3, e⟩, fun e => by rw [e]; exact (fam_is hv).cnt⟩
    rwa [he]
  have wv : IntKind.i64.wrap (v - 1) = v - 1 := i64w (by omega) (by omega)
  have hq : (v - 1).tdiv 2 = (v - 1) / 2 := Int.tdiv_eq_ediv_of_nonneg (by omega)
  have wh : IntKind.i64.wrap ((v - 1) / 2) = (v - 1) / 2 := i64w (by omega) (by omega)
  refine acalls_vc (rs := [.tmp 4]) Try.func103 rfl rfl Try.ntmps103 rfl rfl ?_
  by_cases c15 : v = 15
  · have b15 : (v == 15) = true := beq_iff_eq.2 c15
    rw [if_pos c15] at hm0
    simp only [if_pos c15] at hcn
    have wf : IntKind.i64.wrap ((v - 1) / 2 - 1) = (v - 1) / 2 - 1 := i64w (by omega) (by omega)
    simp (maxSteps := 1000000) [go_sem, b15]
    refine AWp.loopVc (fun s : Nat => [(0, .int .i64 v), (1, lv 1 i o xs.length), (5, .int .i64 (maskL (preF v ++ (xs.take s).flatten))), (6, .int .i64 (3 * (s : Int))), (7, .int .i64 s)])
      (fun s H' => s ≤ xs.length ∧ H <+: H' ∧ (∀ t ∈ xs.take s, tripS v t = true) ∧ (∀ (j : Nat) (x y : List Int), j + 1 < s → xs[j]? = some x → xs[j + 1]? = some y → hd x < hd y) ∧ (preF v ++ (xs.take s).flatten).Nodup) (fun s => xs.length - s) 0 ?_ ?_ ?_
    · simp [upF, Fr.get, Up.refl, hm0]
    · exact ⟨by omega, List.prefix_refl _, by simp, fun j x y hj => by omega, by simp [preF]; split <;> simp⟩
    · rintro K s H' ⟨hs, hp, htr, hor, hnd⟩ hK
      have hin : ∀ x ∈ preF v ++ (xs.take s).flatten, 0 ≤ x ∧ x < 60 := by
        intro x hx
        rcases List.mem_append.1 hx with hx | hx
        · exact hpre x hx
        · obtain ⟨r, hr, hxr⟩ := List.mem_flatten.1 hx
          have h1 := htr r hr
          obtain ⟨a, b, c, rfl⟩ := tripS_three h1
          have := tripS_iff.1 h1
          simp at hxr; omega
      by_cases hlt : s < xs.length
      · have hx : xs[s]? = some xs[s] := List.getElem?_eq_getElem hlt
        have hmem : xs[s] ∈ xs := List.getElem_mem hlt
        obtain ⟨i0, o0, ee, row⟩ := row_at hu hlt
        cases ee
        obtain ⟨i', o', c1, hrow⟩ := row hp
        have hw_s : IntKind.i64.wrap ((s : Int) + 1) = (s : Int) + 1 := i64w (by omega) (by omega)
        have tsn := List.take_succ_eq_append_getElem hlt
        obtain ⟨t, ht⟩ : ∃ t, xs[s] = t := ⟨_, rfl⟩
        rw [ht] at c1 hrow hx hmem tsn
        obtain ⟨L, hL⟩ : ∃ L, preF v ++ (xs.take s).flatten = L := ⟨_, rfl⟩
        have hsn : preF v ++ (xs.take (s + 1)).flatten = L ++ t := by rw [tsn, List.flatten_append, ← List.append_assoc, hL]; simp
        rw [hL] at hin hnd ⊢
        obtain ⟨bad, hbad⟩ : ∃ bad : Bool, (bad = true ↔ (tripS v t = false ∨ ∃ y, xs[s - 1]? = some y ∧ 0 < s ∧ hd t ≤ hd y)) := ⟨@decide (tripS v t = false ∨ ∃ y, xs[s - 1]? = some y ∧ 0 < s ∧ hd t ≤ hd y) (Classical.propDecidable _), by simp⟩
        simp (maxSteps := 1000000) [go_sem, hlt]
        refine AWp.regCut (St := Unit) (fun _ => [(44, .bool bad)]) (fun _ H2 => H2 = H') ?_ ?_
        · intro Q' hQ'
          refine AWp.draw mixed [(0, false), (1, false), (2, false), (3, false), (4, false), (5, false), (6, false), (7, false), (8, false), (9, false), (10, false), (11, false), (12, false), (13, false), (14, false), (15, false), (16, false), (17, false), (18, false), (19, false), (20, false), (21, false), (22, false), (23, false), (24, false), (25, false), (26, false)] (by kernel_rfl) ?_
          simp (maxSteps := 1000000) [go_sem, hlt, c1]
          refine l02Triple_ok (by omega) hrow _ ?_
          cases htI : tripS v t with
          | false =>
            have hb : bad = true := hbad.2 (.inl htI)
            simp (maxSteps := 1000000) [go_sem, undef]
            exact hQ' () _ _ (by simp [upF, Fr.get, Up.refl, hb]) rfl
          | true =>
            obtain ⟨a, b, c, rfl⟩ := tripS_three htI
            obtain ⟨i9, o9, e9, hrow', _⟩ := hrow
            cases e9
            have l0 : cellsAt H' i' o' 1 = some [.int .i64 a] := by simpa using hrow'.cell (k := 0) (v := .int .i64 a) (by simp [ints])
            by_cases hs0 : s = 0
            · subst hs0
              have hb : bad = false := by
                cases hbb : bad with
                | false => rfl
                | true =>
                  rcases hbad.1 hbb with e | ⟨_, _, e, _⟩
                  · rw [htI] at e; cases e
                  · omega
              simp (maxSteps := 1000000) [go_sem, undef]
              exact hQ' () _ _ (by simp [upF, Fr.get, Up.refl, hb]) rfl
            · obtain ⟨s', rfl⟩ : ∃ s', s = s' + 1 := ⟨s - 1, by omega⟩
              obtain ⟨_, _, ee, row'⟩ := row_at hu (show s' < xs.length by omega)
              cases ee
              obtain ⟨i2, o2, c2, hrow2⟩ := row' hp
              have hx' : xs[s']? = some (xs[s']'(by omega)) := List.getElem?_eq_getElem (by omega)
              have hmem' : xs[s']'(by omega) ∈ xs.take (s' + 1) := by have e := List.take_succ_eq_append_getElem (show s' < xs.length by omega); rw [e]; exact List.mem_append_right _ (List.mem_singleton.2 rfl)
              obtain ⟨t', ht'⟩ : ∃ t', xs[s']'(by omega) = t' := ⟨_, rfl⟩
              rw [ht'] at c2 hrow2 hx' hmem'
              obtain ⟨a', b', c', rfl⟩ := tripS_three (htr t' hmem')
              obtain ⟨i8, o8, e8, hrow2', _⟩ := hrow2
              cases e8
              have l1 : cellsAt H' i2 o2 1 = some [.int .i64 a'] := by simpa using hrow2'.cell (k := 0) (v := .int .i64 a') (by simp [ints])
              have wm : IntKind.i64.wrap ((s' : Int) + 1 - 1) = s' := i64w (by omega) (by omega) |>.trans (by omega)
              have wm' : IntKind.i64.wrap (s' : Int) = s' := i64w (by omega) (by omega)
              have hpos : (0 : Int) < (s' : Int) + 1 := by omega
              have hlt' : s' < xs.length := by omega
              have hb : bad = decide (a ≤ a') := by
                rw [Bool.eq_iff_iff, hbad, decide_eq_true_eq]
                constructor
                · rintro (e | ⟨y, e1, _, e2⟩)
                  · rw [htI] at e; cases e
                  · rw [Nat.add_sub_cancel, hx'] at e1
                    cases e1; exact e2
                · intro e
                  exact .inr ⟨_, hx', by omega, e⟩
              by_cases hle : a ≤ a'
              · simp (maxSteps := 1000000) [go_sem, undef, hlt, hpos, wm, wm', hlt', c1, c2, l0, l1, hle]
                refine andK_intro (by omega) ?_
                exact hQ' () _ _ (by simp [upF, Fr.get, Up.refl, hb, hle]) rfl
              · simp (maxSteps := 1000000) [go_sem, undef, hlt, hpos, wm, wm', hlt', c1, c2, l0, l1, hle]
                refine andK_intro (by omega) ?_
                exact hQ' () _ _ (by simp [upF, Fr.get, Up.refl, hb, hle]) rfl
        · rintro ⟨⟩ H2 rfl
          cases hbb : bad with
          | true =>
            simp (maxSteps := 1000000) [go_sem]
            refine no (fun hh => ?_) _ hp
            rcases hbad.1 hbb with e | ⟨y, e1, e2, e3⟩
            · have := hh.trip t hmem; rw [e] at this; cases this
            · have := hh.ord (s - 1) y t e1 (by rw [show s - 1 + 1 = s by omega]; exact hx)
              omega
          | false =>
            have hok : ¬ (tripS v t = false ∨ ∃ y, xs[s - 1]? = some y ∧ 0 < s ∧ hd t ≤ hd y) := fun e => by rw [hbad.2 e] at hbb; cases hbb
            have htI : tripS v t = true := by
              cases e : tripS v t with
              | true => rfl
              | false => exact absurd (.inl e) hok
            have htr' : ∀ r ∈ xs.take (s + 1), tripS v r = true := by
              intro r hr
              rw [tsn, List.mem_append, List.mem_singleton] at hr
              rcases hr with hr | rfl
              · exact htr r hr
              · exact htI
            have hor' : ∀ (j : Nat) (x y : List Int), j + 1 < s + 1 → xs[j]? = some x → xs[j + 1]? = some y → hd x < hd y := by
              intro j x y hj hjx hjy
              by_cases hjs : j + 1 = s
              · have hty : y = t := by rw [hjs, hx] at hjy; exact (Option.some.inj hjy).symm
                subst hty
                exact Classical.byContradiction fun e => hok (.inr ⟨x, by rw [← hjs]; simpa using hjx, by omega, by omega⟩)
              · exact hor j x y (by omega) hjx hjy
            have htb : ∀ x ∈ t, 0 ≤ x ∧ x < 60 := by
              obtain ⟨a, b, c, rfl⟩ := tripS_three htI
              have := tripS_iff.1 htI
              intro x hx; simp at hx; omega
            have ht3 : t.length = 3 := by obtain ⟨a, b, c, rfl⟩ := tripS_three htI; rfl
            have hrow0 := hrow
            obtain ⟨i9, o9, e9, hrow', _⟩ := hrow0
            cases e9
            simp (maxSteps := 1000000) [go_sem]
            refine AWp.loopVc (fun k : Nat => [(0, .int .i64 v), (1, lv 1 i o xs.length), (5, .int .i64 (maskL (L ++ t.take k))), (6, .int .i64 (3 * (s : Int) + k)), (7, .int .i64 s), (8, .int .i64 k)])
              (fun k H4 => k ≤ 3 ∧ H4 = H2 ∧ (L ++ t.take k).Nodup) (fun k => 3 - k) 0 ?_ ?_ ?_
            · simp [upF, Fr.get, Up.refl]
            · exact ⟨by omega, rfl, by simpa using hnd⟩
            · rintro K2 k H4 ⟨hk, rfl, hndk⟩ hK2
              by_cases hk3 : k < 3
              · have hkt : k < t.length := by omega
                have hki : (k : Int) < 3 := by omega
                have hw_k : IntKind.i64.wrap ((k : Int) + 1) = (k : Int) + 1 := i64w (by omega) (by omega)
                have lk := hrow'.cell (k := k) (v := .int .i64 t[k]) (by simp [ints_get, hkt])
                have tk := List.take_succ_eq_append_getElem hkt
                have hkm : t[k] ∈ t := List.getElem_mem hkt
                obtain ⟨n, hn⟩ : ∃ n : Nat, t[k] = n := ⟨(t[k]).toNat, by have := htb _ hkm; omega⟩
                have hnb := htb _ hkm
                rw [hn] at lk tk hnb
                have hLk : ∀ x ∈ L ++ t.take k, 0 ≤ x ∧ x < 60 := by
                  intro x hx
                  rcases List.mem_append.1 hx with hx | hx
                  · exact hin x hx
                  · exact htb x (List.mem_of_mem_take hx)
                have hLk0 : ∀ x ∈ L ++ t.take k, 0 ≤ x := fun x hx => (hLk x hx).1
                have hms : maskL (L ++ t.take (k + 1)) = maskL (L ++ t.take k) ||| 2 ^ n := by rw [tk, ← List.append_assoc, maskL_snoc, Int.toNat_natCast]
                have hm1 : maskL (L ++ t.take k) < 2 ^ 62 := Nat.lt_of_lt_of_le (maskL_lt (n := 60) hLk) (Nat.pow_le_pow_right (by omega) (by omega))
                have hpn : 2 ^ n < 2 ^ 62 := Nat.pow_lt_pow_right (by omega) (by omega)
                have hp0 : 0 < 2 ^ n := Nat.pow_pos (by omega)
                have un : IntKind.u64.wrap (n : Int) = n := by rw [IntKind.wrap_u64]; omega
                have nn : min n 64 = n := by omega
                have sn := pow_i64 (n := n) (by omega)
                have on := or_i64w hm1 hpn
                have an := and_i64w hm1 hpn
                have wc : IntKind.i64.wrap (3 * (s : Int) + k + 1) = 3 * (s : Int) + k + 1 := i64w (by omega) (by omega)
                rw [← hms] at on
                have hin' := @mask_in (L ++ t.take k) hLk0 n
                have hout := @mask_out (L ++ t.take k) hLk0 n
                have hA2 : ((2 : Int) ^ n) = ((2 ^ n : Nat) : Int) := by rw [Int.natCast_pow]; rfl
                obtain ⟨M, hM⟩ : ∃ M, maskL (L ++ t.take k) = M := ⟨_, rfl⟩
                obtain ⟨M', hM'⟩ : ∃ M, maskL (L ++ t.take (k + 1)) = M := ⟨_, rfl⟩
                rw [hM] at hm1 an on hin' hout ⊢
                rw [hM'] at on
                obtain ⟨A, hA⟩ : ∃ A, 2 ^ n = A := ⟨_, rfl⟩
                rw [hA] at hpn hp0 sn on an hin' hout hA2
                by_cases hmem2 : (n : Int) ∈ L ++ t.take k
                · rw [hin' hmem2] at an
                  have hne : ((A : Int) != 0) = true := by simp; omega
                  simp (maxSteps := 1000000) [go_sem, hlt, hkt, hki, hk3, ht3, c1, lk, un, nn, sn, an, hne]
                  refine no (fun hh => ?_) _ hp
                  have h1 := hh.nod
                  have e1 : xs.flatten = (xs.take (s + 1)).flatten ++ (xs.drop (s + 1)).flatten := by rw [← List.flatten_append, List.take_append_drop]
                  rw [e1, ← List.append_assoc, hsn] at h1
                  have h2 := (List.nodup_append.1 h1).1
                  rw [← List.take_append_drop (k + 1) t, tk, ← List.append_assoc, ← List.append_assoc] at h2
                  have h3 := (List.nodup_append.1 h2).1
                  exact (List.nodup_append.1 h3).2.2 _ hmem2 _ (by simp) rfl
                · rw [hout hmem2] at an
                  simp (maxSteps := 1000000) [go_sem, hlt, hkt, hki, hk3, ht3, c1, lk, un, nn, sn, an, on, hw_k, wc]
                  refine hK2 (k + 1) _ _ (by omega) (by simp [upF, Fr.get, Up.refl, hM', Int.add_assoc]) ⟨by omega, rfl, ?_⟩
                  rw [tk, ← List.append_assoc, List.nodup_append]
                  refine ⟨hndk, by simp, ?_⟩
                  intro x hx y hy
                  simp at hy; subst hy
                  rintro rfl; exact hmem2 hx
              · have : k = 3 := by omega
                subst this
                rw [show t.take 3 = t from List.take_of_length_le (by omega)] at *
                have h3s : 3 * ((s : Int) + 1) = 3 * (s : Int) + 3 := by omega
                simp (maxSteps := 1000000) [go_sem, hw_s]
                exact hK (s + 1) _ _ (by omega) (by simp [upF, Fr.get, Up.refl, hsn, h3s]) ⟨by omega, hp, htr', hor', by rw [hsn]; exact hndk⟩
      · have : s = xs.length := by omega
        subst this
        rw [List.take_length] at htr hnd
        have fin := hcn H' hp htr (fun j x y hx hy => hor j x y (List.getElem?_eq_some_iff.1 hy).1 hx hy) hnd
        simp (maxSteps := 1000000) [go_sem, wv, hq, wh, b15]
        refine specOne_ok _ ?_
        simp (maxSteps := 1000000) [go_sem, bitB, wf, wh]
        exact fin
  · have b15 : (v == 15) = false := beq_eq_false_iff_ne.2 c15
    rw [if_neg c15] at hm0
    simp only [if_neg c15] at hcn
    have wf : IntKind.i64.wrap ((v - 1) / 2 - 0) = (v - 1) / 2 - 0 := i64w (by omega) (by omega)
    simp (maxSteps := 1000000) [go_sem, b15]
    refine AWp.loopVc (fun s : Nat => [(0, .int .i64 v), (1, lv 1 i o xs.length), (5, .int .i64 (maskL (preF v ++ (xs.take s).flatten))), (6, .int .i64 (3 * (s : Int))), (7, .int .i64 s)])
      (fun s H' => s ≤ xs.length ∧ H <+: H' ∧ (∀ t ∈ xs.take s, tripS v t = true) ∧ (∀ (j : Nat) (x y : List Int), j + 1 < s → xs[j]? = some x → xs[j + 1]? = some y → hd x < hd y) ∧ (preF v ++ (xs.take s).flatten).Nodup) (fun s => xs.length - s) 0 ?_ ?_ ?_
    · simp [upF, Fr.get, Up.refl, hm0]
    · exact ⟨by omega, List.prefix_refl _, by simp, fun j x y hj => by omega, by simp [preF]; split <;> simp⟩
    · rintro K s H' ⟨hs, hp, htr, hor, hnd⟩ hK
      have hin : ∀ x ∈ preF v ++ (xs.take s).flatten, 0 ≤ x ∧ x < 60 := by
        intro x hx
        rcases List.mem_append.1 hx with hx | hx
        · exact hpre x hx
        · obtain ⟨r, hr, hxr⟩ := List.mem_flatten.1 hx
          have h1 := htr r hr
          obtain ⟨a, b, c, rfl⟩ := tripS_three h1
          have := tripS_iff.1 h1
          simp at hxr; omega
      by_cases hlt : s < xs.length
      · have hx : xs[s]? = some xs[s] := List.getElem?_eq_getElem hlt
        have hmem : xs[s] ∈ xs := List.getElem_mem hlt
        obtain ⟨i0, o0, ee, row⟩ := row_at hu hlt
        cases ee
        obtain ⟨i', o', c1, hrow⟩ := row hp
        have hw_s : IntKind.i64.wrap ((s : Int) + 1) = (s : Int) + 1 := i64w (by omega) (by omega)
        have tsn := List.take_succ_eq_append_getElem hlt
        obtain ⟨t, ht⟩ : ∃ t, xs[s] = t := ⟨_, rfl⟩
        rw [ht] at c1 hrow hx hmem tsn
        obtain ⟨L, hL⟩ : ∃ L, preF v ++ (xs.take s).flatten = L := ⟨_, rfl⟩
        have hsn : preF v ++ (xs.take (s + 1)).flatten = L ++ t := by rw [tsn, List.flatten_append, ← List.append_assoc, hL]; simp
        rw [hL] at hin hnd ⊢
        obtain ⟨bad, hbad⟩ : ∃ bad : Bool, (bad = true ↔ (tripS v t = false ∨ ∃ y, xs[s - 1]? = some y ∧ 0 < s ∧ hd t ≤ hd y)) := ⟨@decide (tripS v t = false ∨ ∃ y, xs[s - 1]? = some y ∧ 0 < s ∧ hd t ≤ hd y) (Classical.propDecidable _), by simp⟩
        simp (maxSteps := 1000000) [go_sem, hlt]
        refine AWp.regCut (St := Unit) (fun _ => [(44, .bool bad)]) (fun _ H2 => H2 = H') ?_ ?_
        · intro Q' hQ'
          refine AWp.draw mixed [(0, false), (1, false), (2, false), (3, false), (4, false), (5, false), (6, false), (7, false), (8, false), (9, false), (10, false), (11, false), (12, false), (13, false), (14, false), (15, false), (16, false), (17, false), (18, false), (19, false), (20, false), (21, false), (22, false), (23, false), (24, false), (25, false), (26, false)] (by kernel_rfl) ?_
          simp (maxSteps := 1000000) [go_sem, hlt, c1]
          refine l02Triple_ok (by omega) hrow _ ?_
          cases htI : tripS v t with
          | false =>
            have hb : bad = true := hbad.2 (.inl htI)
            simp (maxSteps := 1000000) [go_sem, undef]
            exact hQ' () _ _ (by simp [upF, Fr.get, Up.refl, hb]) rfl
          | true =>
            obtain ⟨a, b, c, rfl⟩ := tripS_three htI
            obtain ⟨i9, o9, e9, hrow', _⟩ := hrow
            cases e9
            have l0 : cellsAt H' i' o' 1 = some [.int .i64 a] := by simpa using hrow'.cell (k := 0) (v := .int .i64 a) (by simp [ints])
            by_cases hs0 : s = 0
            · subst hs0
              have hb : bad = false := by
                cases hbb : bad with
                | false => rfl
                | true =>
                  rcases hbad.1 hbb with e | ⟨_, _, e, _⟩
                  · rw [htI] at e; cases e
                  · omega
              simp (maxSteps := 1000000) [go_sem, undef]
              exact hQ' () _ _ (by simp [upF, Fr.get, Up.refl, hb]) rfl
            · obtain ⟨s', rfl⟩ : ∃ s', s = s' + 1 := ⟨s - 1, by omega⟩
              obtain ⟨_, _, ee, row'⟩ := row_at hu (show s' < xs.length by omega)
              cases ee
              obtain ⟨i2, o2, c2, hrow2⟩ := row' hp
              have hx' : xs[s']? = some (xs[s']'(by omega)) := List.getElem?_eq_getElem (by omega)
              have hmem' : xs[s']'(by omega) ∈ xs.take (s' + 1) := by have e := List.take_succ_eq_append_getElem (show s' < xs.length by omega); rw [e]; exact List.mem_append_right _ (List.mem_singleton.2 rfl)
              obtain ⟨t', ht'⟩ : ∃ t', xs[s']'(by omega) = t' := ⟨_, rfl⟩
              rw [ht'] at c2 hrow2 hx' hmem'
              obtain ⟨a', b', c', rfl⟩ := tripS_three (htr t' hmem')
              obtain ⟨i8, o8, e8, hrow2', _⟩ := hrow2
              cases e8
              have l1 : cellsAt H' i2 o2 1 = some [.int .i64 a'] := by simpa using hrow2'.cell (k := 0) (v := .int .i64 a') (by simp [ints])
              have wm : IntKind.i64.wrap ((s' : Int) + 1 - 1) = s' := i64w (by omega) (by omega) |>.trans (by omega)
              have wm' : IntKind.i64.wrap (s' : Int) = s' := i64w (by omega) (by omega)
              have hpos : (0 : Int) < (s' : Int) + 1 := by omega
              have hlt' : s' < xs.length := by omega
              have hb : bad = decide (a ≤ a') := by
                rw [Bool.eq_iff_iff, hbad, decide_eq_true_eq]
                constructor
                · rintro (e | ⟨y, e1, _, e2⟩)
                  · rw [htI] at e; cases e
                  · rw [Nat.add_sub_cancel, hx'] at e1
                    cases e1; exact e2
                · intro e
                  exact .inr ⟨_, hx', by omega, e⟩
              by_cases hle : a ≤ a'
              · simp (maxSteps := 1000000) [go_sem, undef, hlt, hpos, wm, wm', hlt', c1, c2, l0, l1, hle]
                refine andK_intro (by omega) ?_
                exact hQ' () _ _ (by simp [upF, Fr.get, Up.refl, hb, hle]) rfl
              · simp (maxSteps := 1000000) [go_sem, undef, hlt, hpos, wm, wm', hlt', c1, c2, l0, l1, hle]
                refine andK_intro (by omega) ?_
                exact hQ' () _ _ (by simp [upF, Fr.get, Up.refl, hb, hle]) rfl
        · rintro ⟨⟩ H2 rfl
          cases hbb : bad with
          | true =>
            simp (maxSteps := 1000000) [go_sem]
            refine no (fun hh => ?_) _ hp
            rcases hbad.1 hbb with e | ⟨y, e1, e2, e3⟩
            · have := hh.trip t hmem; rw [e] at this; cases this
            · have := hh.ord (s - 1) y t e1 (by rw [show s - 1 + 1 = s by omega]; exact hx)
              omega
          | false =>
            have hok : ¬ (tripS v t = false ∨ ∃ y, xs[s - 1]? = some y ∧ 0 < s ∧ hd t ≤ hd y) := fun e => by rw [hbad.2 e] at hbb; cases hbb
            have htI : tripS v t = true := by
              cases e : tripS v t with
              | true => rfl
              | false => exact absurd (.inl e) hok
            have htr' : ∀ r ∈ xs.take (s + 1), tripS v r = true := by
              intro r hr
              rw [tsn, List.mem_append, List.mem_singleton] at hr
              rcases hr with hr | rfl
              · exact htr r hr
              · exact htI
            have hor' : ∀ (j : Nat) (x y : List Int), j + 1 < s + 1 → xs[j]? = some x → xs[j + 1]? = some y → hd x < hd y := by
              intro j x y hj hjx hjy
              by_cases hjs : j + 1 = s
              · have hty : y = t := by rw [hjs, hx] at hjy; exact (Option.some.inj hjy).symm
                subst hty
                exact Classical.byContradiction fun e => hok (.inr ⟨x, by rw [← hjs]; simpa using hjx, by omega, by omega⟩)
              · exact hor j x y (by omega) hjx hjy
            have htb : ∀ x ∈ t, 0 ≤ x ∧ x < 60 := by
              obtain ⟨a, b, c, rfl⟩ := tripS_three htI
              have := tripS_iff.1 htI
              intro x hx; simp at hx; omega
            have ht3 : t.length = 3 := by obtain ⟨a, b, c, rfl⟩ := tripS_three htI; rfl
            have hrow0 := hrow
            obtain ⟨i9, o9, e9, hrow', _⟩ := hrow0
            cases e9
            simp (maxSteps := 1000000) [go_sem]
            refine AWp.loopVc (fun k : Nat => [(0, .int .i64 v), (1, lv 1 i o xs.length), (5, .int .i64 (maskL (L ++ t.take k))), (6, .int .i64 (3 * (s : Int) + k)), (7, .int .i64 s), (8, .int .i64 k)])
              (fun k H4 => k ≤ 3 ∧ H4 = H2 ∧ (L ++ t.take k).Nodup) (fun k => 3 - k) 0 ?_ ?_ ?_
            · simp [upF, Fr.get, Up.refl]
            · exact ⟨by omega, rfl, by simpa using hnd⟩
            · rintro K2 k H4 ⟨hk, rfl, hndk⟩ hK2
              by_cases hk3 : k < 3
              · have hkt : k < t.length := by omega
                have hki : (k : Int) < 3 := by omega
                have hw_k : IntKind.i64.wrap ((k : Int) + 1) = (k : Int) + 1 := i64w (by omega) (by omega)
                have lk := hrow'.cell (k := k) (v := .int .i64 t[k]) (by simp [ints_get, hkt])
                have tk := List.take_succ_eq_append_getElem hkt
                have hkm : t[k] ∈ t := List.getElem_mem hkt
                obtain ⟨n, hn⟩ : ∃ n : Nat, t[k] = n := ⟨(t[k]).toNat, by have := htb _ hkm; omega⟩
                have hnb := htb _ hkm
                rw [hn] at lk tk hnb
                have hLk : ∀ x ∈ L ++ t.take k, 0 ≤ x ∧ x < 60 := by
                  intro x hx
                  rcases List.mem_append.1 hx with hx | hx
                  · exact hin x hx
                  · exact htb x (List.mem_of_mem_take hx)
                have hLk0 : ∀ x ∈ L ++ t.take k, 0 ≤ x := fun x hx => (hLk x hx).1
                have hms : maskL (L ++ t.take (k + 1)) = maskL (L ++ t.take k) ||| 2 ^ n := by rw [tk, ← List.append_assoc, maskL_snoc, Int.toNat_natCast]
                have hm1 : maskL (L ++ t.take k) < 2 ^ 62 := Nat.lt_of_lt_of_le (maskL_lt (n := 60) hLk) (Nat.pow_le_pow_right (by omega) (by omega))
                have hpn : 2 ^ n < 2 ^ 62 := Nat.pow_lt_pow_right (by omega) (by omega)
                have hp0 : 0 < 2 ^ n := Nat.pow_pos (by omega)
                have un : IntKind.u64.wrap (n : Int) = n := by rw [IntKind.wrap_u64]; omega
                have nn : min n 64 = n := by omega
                have sn := pow_i64 (n := n) (by omega)
                have on := or_i64w hm1 hpn
                have an := and_i64w hm1 hpn
                have wc : IntKind.i64.wrap (3 * (s : Int) + k + 1) = 3 * (s : Int) + k + 1 := i64w (by omega) (by omega)
                rw [← hms] at on
                have hin' := @mask_in (L ++ t.take k) hLk0 n
                have hout := @mask_out (L ++ t.take k) hLk0 n
                have hA2 : ((2 : Int) ^ n) = ((2 ^ n : Nat) : Int) := by rw [Int.natCast_pow]; rfl
                obtain ⟨M, hM⟩ : ∃ M, maskL (L ++ t.take k) = M := ⟨_, rfl⟩
                obtain ⟨M', hM'⟩ : ∃ M, maskL (L ++ t.take (k + 1)) = M := ⟨_, rfl⟩
                rw [hM] at hm1 an on hin' hout ⊢
                rw [hM'] at on
                obtain ⟨A, hA⟩ : ∃ A, 2 ^ n = A := ⟨_, rfl⟩
                rw [hA] at hpn hp0 sn on an hin' hout hA2
                by_cases hmem2 : (n : Int) ∈ L ++ t.take k
                · rw [hin' hmem2] at an
                  have hne : ((A : Int) != 0) = true := by simp; omega
                  simp (maxSteps := 1000000) [go_sem, hlt, hkt, hki, hk3, ht3, c1, lk, un, nn, sn, an, hne]
                  refine no (fun hh => ?_) _ hp
                  have h1 := hh.nod
                  have e1 : xs.flatten = (xs.take (s + 1)).flatten ++ (xs.drop (s + 1)).flatten := by rw [← List.flatten_append, List.take_append_drop]
                  rw [e1, ← List.append_assoc, hsn] at h1
                  have h2 := (List.nodup_append.1 h1).1
                  rw [← List.take_append_drop (k + 1) t, tk, ← List.append_assoc, ← List.append_assoc] at h2
                  have h3 := (List.nodup_append.1 h2).1
                  exact (List.nodup_append.1 h3).2.2 _ hmem2 _ (by simp) rfl
                · rw [hout hmem2] at an
                  simp (maxSteps := 1000000) [go_sem, hlt, hkt, hki, hk3, ht3, c1, lk, un, nn, sn, an, on, hw_k, wc]
                  refine hK2 (k + 1) _ _ (by omega) (by simp [upF, Fr.get, Up.refl, hM', Int.add_assoc]) ⟨by omega, rfl, ?_⟩
                  rw [tk, ← List.append_assoc, List.nodup_append]
                  refine ⟨hndk, by simp, ?_⟩
                  intro x hx y hy
                  simp at hy; subst hy
                  rintro rfl; exact hmem2 hx
              · have : k = 3 := by omega
                subst this
                rw [show t.take 3 = t from List.take_of_length_le (by omega)] at *
                have h3s : 3 * ((s : Int) + 1) = 3 * (s : Int) + 3 := by omega
                simp (maxSteps := 1000000) [go_sem, hw_s]
                exact hK (s + 1) _ _ (by omega) (by simp [upF, Fr.get, Up.refl, hsn, h3s]) ⟨by omega, hp, htr', hor', by rw [hsn]; exact hndk⟩
      · have : s = xs.length := by omega
        subst this
        rw [List.take_length] at htr hnd
        have fin := hcn H' hp htr (fun j x y hx hy => hor j x y (List.getElem?_eq_some_iff.1 hy).1 hx hy) hnd
        simp (maxSteps := 1000000) [go_sem, wv, hq, wh, b15]
        refine specOne_ok _ ?_
        simp (maxSteps := 1000000) [go_sem, bitB, wf, wh]
        show Post (.bool (decide (3 * (xs.length : Int) = (v - 1) / 2))) _; simpa using fin

theorem specIsFam_ok {H : Heap} {u : Value} {v : Int} {xs : List (List Int)} (hv : In64 v) (hu : IntssAt H u xs) (hl : xs.length + xs.flatten.length ≤ 1048576) (h64 : ∀ r ∈ xs, ∀ x ∈ r, In64 x) (Post : Value → Heap → Prop)
    (h : ∀ H', H <+: H' → Post (.tuple #[.bool (numB v && decide (xs = famOf v)), .int .i64 (if numB v then 0 else 2)]) H') : ACalls Try.prog 46 [.int .i64 v, u] H Post := by
  obtain ⟨i, o, rfl⟩ : ∃ i o, u = lv 1 i o xs.length := by obtain ⟨i, o, _, e, _⟩ := hu; exact ⟨i, o, e⟩
  refine acalls_vc (rs := [.tmp 4, .tmp 5]) Try.func46 rfl rfl Try.ntmps46 rfl rfl ?_
  simp (maxSteps := 1000000) [go_sem]
  refine l02Numbers_ok _ ?_
  cases hn : numB v with
  | false =>
    simp (maxSteps := 1000000) [go_sem]
    simpa [hn] using h H (List.prefix_refl _)
  | true =>
    simp (maxSteps := 1000000) [go_sem]
    refine l02Family_ok (numB_iff.1 hn) hu hl _ ?_
    intro H' hp
    simp (maxSteps := 1000000) [go_sem]
    simpa [hn] using h H' hp
theorem implIsFam_ok {H : Heap} {u : Value} {v : Int} {xs : List (List Int)} (hv : In64 v) (hu : IntssAt H u xs) (hl : xs.length + xs.flatten.length ≤ 1048576) (h64 : ∀ r ∈ xs, ∀ x ∈ r, In64 x) (Post : Value → Heap → Prop)
    (h : ∀ H', H <+: H' → Post (.tuple #[.bool (numB v && decide (xs = famOf v)), .int .i64 (if numB v then 0 else 2)]) H') : ACalls Try.prog 47 [.int .i64 v, u] H Post := by
  obtain ⟨i, o, rfl⟩ : ∃ i o, u = lv 1 i o xs.length := by obtain ⟨i, o, _, e, _⟩ := hu; exact ⟨i, o, e⟩
  refine acalls_vc (rs := [.tmp 4, .tmp 5]) Try.func47 rfl rfl Try.ntmps47 rfl rfl ?_
  simp (maxSteps := 1000000) [go_sem]
  refine isCyclic_ok _ ?_
  cases hn : numB v with
  | false =>
    simp (maxSteps := 1000000) [go_sem]
    simpa [hn] using h H (List.prefix_refl _)
  | true =>
    simp (maxSteps := 1000000) [go_sem]
    refine isFamily_ok (numB_iff.1 hn) hu hl _ ?_
    intro H' hp
    simp (maxSteps := 1000000) [go_sem]
    simpa [hn] using h H' hp

end Go.Proofs.Ytdfeoccjllljiaa
end

section
/- The law on IsDifferenceFamily, in abstract terms: its code returns true, for every input. -/
set_option linter.all false
set_option maxRecDepth 20000
set_option maxHeartbeats 8000000
namespace Go.Proofs.Ytdfeoccjllljiaa
open Go.Ab

theorem lawFnExactIsDifferenceFamily (H : Heap) (avs : List Value) (h : argsSay [shInt, shIntss] H avs) : ACalls Try.prog 8 avs H fun v _ => v = .bool true := by
  obtain ⟨_, _, rfl, a0, _, _, rfl, a1, rfl⟩ := h
  obtain ⟨n0, rfl, hn0⟩ := says_shInt' a0
  obtain ⟨x1, hz1, hw1⟩ := says_shIntss a1
  have hz1c := hz1
  obtain ⟨i1, o1, vs1, rfl, _⟩ := hz1c
  have qz1 : H <+: H := List.prefix_refl _
  refine acalls_vc (rs := [.tmp 4]) Try.func8 rfl rfl Try.ntmps8 rfl rfl ?_
  try simp (maxSteps := 1000000) [go_sem, sysV]
  obtain ⟨Z1, hZ1⟩ : ∃ Z, x1.length + x1.flatten.length = Z := ⟨_, rfl⟩
  refine szIntss0_ok (hz1.pre qz1) (by omega) (by omega) _ ?_
  rw [hZ1]
  by_cases hbig1 : (1048576 : Int) < Z1
  · simp (maxSteps := 1000000) [go_sem, hbig1, sysV]
  have hneg1 : decide ((1048576 : Int) - Z1 < 0) = false := by simp; omega
  have hl1 : x1.length + x1.flatten.length ≤ 1048576 := by omega
  have hq1 := intss_at0 hz1 hl1
  try simp (maxSteps := 1000000) [go_sem, hbig1, hneg1, sysV]
  refine toIntss_ok (hq1.pre qz1) hl1 _ ?_
  intro H1 wo1 hp1 hoo1
  replace qz1 := qz1.trans hp1
  have hlH1 := hp1.length_le
  try simp (maxSteps := 1000000) [go_sem, hbig1, hneg1, sysV]
  refine specIsFam_ok hn0 hoo1.read hl1 hw1 _ ?_
  intro H2  hp2 
  replace hoo1 := hoo1.pre hp2
  replace qz1 := qz1.trans hp2
  have hlH2 := hp2.length_le
  try simp (maxSteps := 1000000) [go_sem, hbig1, hneg1, sysV]
  refine toIntss_ok (hq1.pre qz1) hl1 _ ?_
  intro H3 wo3 hp3 hoo3
  replace hoo1 := hoo1.pre hp3
  replace qz1 := qz1.trans hp3
  have hlH3 := hp3.length_le
  try simp (maxSteps := 1000000) [go_sem, hbig1, hneg1, sysV]
  refine implIsFam_ok hn0 hoo3.read hl1 hw1 _ ?_
  intro H4  hp4 
  replace hoo1 := hoo1.pre hp4
  replace hoo3 := hoo3.pre hp4
  replace qz1 := qz1.trans hp4
  have hlH4 := hp4.length_le
  try simp (maxSteps := 1000000) [go_sem, hbig1, hneg1, sysV]
  refine toIntss_ok (hq1.pre qz1) hl1 _ ?_
  intro H5 wo5 hp5 hoo5
  replace hoo1 := hoo1.pre hp5
  replace hoo3 := hoo3.pre hp5
  replace qz1 := qz1.trans hp5
  have hlH5 := hp5.length_le
  try simp (maxSteps := 1000000) [go_sem, hbig1, hneg1, sysV]
  refine eqInt64SS_ok hoo3.read hoo5.read _ ?_
  try simp (maxSteps := 1000000) [go_sem, hbig1, hneg1, sysV]

end Go.Proofs.Ytdfeoccjllljiaa
end
