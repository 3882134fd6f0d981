/- Part 6 of what the proof of the law FnExactDifferenceFamilies rests on: contracts of functions of the program, for every argument that each names; no statement of the seat is proved here. -/
import Derived.Test.YtdfeoccjllljiaaFnExactDifferenceFamiliesPart5

section
/- DifferenceFamilies: the specification's side (printed by wip/gengos3.py). -/
set_option linter.all false
set_option maxRecDepth 20000
set_option maxHeartbeats 8000000
namespace Go.Proofs.Ytdfeoccjllljiaa
open Go.Ab Go.Sort

noncomputable def rFams (v : Int) : List (List (List Int)) × Int := if numB v then ([famOf v], 0) else ([], 2)
theorem go_of {v : Int} (hv : NumB v) : goS 3 v [] (if v = 15 then 32 else 0) = [famOf v] := by
  rcases hv with rfl | rfl | rfl <;> decide +kernel
theorem famOf_rows {v : Int} : ∀ xs ∈ famOf v, xs.length = 3 := by
  intro xs h
  unfold famOf at h
  split at h
  · simp at h; subst h; rfl
  · split at h <;> (simp at h; rcases h with rfl | rfl <;> rfl)
theorem famOf_len2 {v : Int} : (famOf v).length ≤ 2 := by unfold famOf; split <;> (try split) <;> simp
theorem flat_len3 : ∀ {l : List (List Int)}, (∀ xs ∈ l, xs.length = 3) → l.flatten.length = 3 * l.length
  | [], _ => rfl
  | x :: l, h => by
    rw [List.flatten_cons, List.length_append, flat_len3 (fun y hy => h y (by simp [hy])), h x (by simp), List.length_cons]; omega

theorem specFams_ok {H : Heap} {v : Int} (hv : In64 v) (Post : Value → Heap → Prop) (h : ∀ H' w, H <+: H' → FamsIn H.length H'.length H' w (rFams v).1 → Post (.tuple #[w, .int .i64 (rFams v).2]) H') :
    ACalls Try.prog 48 [.int .i64 v] H Post := by
  refine ACalls.res ?_
  refine acalls_vc (rs := [.tmp 2, .tmp 3]) Try.func48 rfl rfl Try.ntmps48 rfl rfl ?_
  simp (maxSteps := 1000000) [go_sem]
  refine l02Numbers_ok _ ?_
  cases hn : numB v with
  | false =>
    have fin := h H (lv 1 0 0 0) (List.prefix_refl _) (by rw [rFams, hn]; exact FamsIn.nil _ _ _)
    rw [rFams, hn] at fin
    simp (maxSteps := 1000000) [go_sem]
    exact ⟨_, Up.tuple (ys := #[lv 1 0 0 0, .int .i64 2]) ⟨Up.nil _ _ _ _, Up.refl _ _, trivial⟩, fin⟩
  | true =>
  have hN := numB_iff.1 hn
  have hr : rFams v = ([famOf v], 0) := by rw [rFams, hn]; rfl
  rw [hr] at h
  have hgo := go_of hN
  obtain ⟨xss, hxss⟩ : ∃ xss, famOf v = xss := ⟨_, rfl⟩
  have hrows : ∀ xs ∈ xss, xs.length = 3 := hxss ▸ famOf_rows
  have hxl : xss.length ≤ 2 := hxss ▸ famOf_len2
  have hfl := flat_len3 hrows
  rw [hxss] at hgo h
  have w1 : IntKind.i64.wrap 1 = 1 := i64w (by omega) (by omega)
  by_cases c15 : v = 15
  · have b15 : (v == 15) = true := beq_iff_eq.2 c15
    rw [if_pos c15] at hgo
    simp (maxSteps := 1000000) [go_sem, b15]
    have hpe : H <+: H ++ [⟨[], true, true⟩] := List.prefix_append _ _
    generalize H ++ [(⟨[], true, true⟩ : Blk)] = HE at hpe ⊢
    refine ACalls.up (args' := [.int .i64 v, lv 1 H.length 0 0, .int .i64 ((32 : Nat) : Int)]) ⟨Up.refl _ _, Up.ex0 _ _ _ _ _ _, Up.refl _ _, trivial⟩ ?_
    refine l02Go_ok 3 (ib := H.length) (ob := 0) (beg := []) (v := v) (m := 32) (by omega) hN (by omega) (by decide) (by simp) ⟨[], rfl, .inl rfl, by simp⟩ _ ?_
    intro H1 w hp1 hw
    rw [hgo] at hw
    obtain ⟨ir, es, rfl, e1, e2, e3⟩ := hw
    obtain ⟨e, rfl⟩ : ∃ e, es = [e] := by
      match es, e2 with
      | [e], _ => exact ⟨e, rfl⟩
    have hex : e.x = xss := by simpa using e2
    obtain ⟨vs, v1, v2, v3⟩ := (e3 e (by simp)).1
    rw [hex] at v1 v3
    have ce : ∀ {HH : Heap}, H1 <+: HH → cellsAt HH ir 0 1 = some [lv 1 e.i e.o xss.length] := fun hp => by
      have := (e1.pre hp).cell (k := 0) (v := e.val) (by simp)
      simpa [El.val, hex] using this
    obtain ⟨n, hnx⟩ : ∃ n, xss.length = n := ⟨_, rfl⟩
    rw [hnx] at ce v1 hxl hfl
    simp (maxSteps := 1000000) [go_sem]
    have hpg : H1 <+: H1 ++ [⟨[], true, true⟩] := List.prefix_append _ _
    have hgb : (H1 ++ [(⟨[], true, true⟩ : Blk)])[H1.length]? = some ⟨[], true, true⟩ := by simp
    have hgl : (H1 ++ [(⟨[], true, true⟩ : Blk)]).length = H1.length + 1 := by simp
    generalize H1 ++ [(⟨[], true, true⟩ : Blk)] = HG at hpg hgb hgl ⊢
    have hl1 := (hpe.trans hp1).length_le
    refine AWp.loopVc (St := Nat × Nat) (fun t => [(5, lv 1 ir 0 1), (6, lv 1 t.2 0 t.1), (7, .int .i64 t.1)])
      (fun t H2 => t.1 ≤ 1 ∧ (t.1 = 0 → H2 = HG ∧ t.2 = H1.length) ∧ (t.1 = 1 → H <+: H2 ∧ FamsIn H.length H2.length H2 (lv 1 t.2 0 1) [xss])) (fun t => 1 - t.1) (0, H1.length) ?_ ?_ ?_
    · simp [upF, Fr.get, Up.refl, Up.ex0]
    · exact ⟨by simp, fun _ => ⟨rfl, rfl⟩, fun e => by simp at e⟩
    · rintro K ⟨s, oid⟩ H2 ⟨hs, z0, z1⟩ hK
      simp only at hs z0 z1
      obtain rfl | rfl : s = 0 ∨ s = 1 := by omega
      · obtain ⟨rfl, rfl⟩ := z0 rfl
        simp (maxSteps := 1000000) [go_sem]
        have hb0 : Build H2 (H2 ++ [(⟨[], true, true⟩ : Blk)]) H2.length [] := Build.of_ol (List.prefix_append _ _) ⟨by simp, .inr (by simp)⟩ (Nat.le_refl _)
        generalize H2 ++ [(⟨[], true, true⟩ : Blk)] = HR at hb0 ⊢
        refine AWp.loopVc (St := Nat × Nat × List (Nat × List Int)) (fun t => [(5, lv 1 ir 0 1), (6, lv 1 H1.length 0 0), (7, .int .i64 0), (8, lv 1 t.2.1 0 t.2.2.length), (9, .int .i64 t.1)])
          (fun t H3 => t.1 ≤ n ∧ t.2.2.map (·.2) = xss.take t.1 ∧ Build H2 H3 t.2.1 t.2.2) (fun t => n - t.1) (0, H2.length, []) ?_ ?_ ?_
        · simp [upF, Fr.get, Up.refl, Up.ex0]
        · exact ⟨by simp, by simp, hb0⟩
        · rintro K2 ⟨k, rid, rows⟩ H3 ⟨hk, hrw, hbd⟩ hK2
          simp only at hk hrw hbd
          have c1 := ce (hpg.trans hbd.pre)
          have hrl : rows.length = k := by have := congrArg List.length hrw; rw [List.length_map, List.length_take] at this; omega
          by_cases hkn : k < n
          · have hxk : xss[k]? = some (xss[k]'(by omega)) := List.getElem?_eq_getElem (by omega)
            have hmem : xss[k]'(by omega) ∈ xss := List.getElem_mem (by omega)
            have tk : xss.take (k + 1) = xss.take k ++ [xss[k]'(by omega)] := List.take_succ_eq_append_getElem (by omega)
            obtain ⟨xs, hxs⟩ : ∃ xs, xss[k]'(by omega) = xs := ⟨_, rfl⟩
            rw [hxs] at hxk hmem tk
            have hvk : vs[k]? = some (vs[k]'(by omega)) := List.getElem?_eq_getElem (by omega)
            obtain ⟨u, hu⟩ : ∃ u, vs[k]'(by omega) = u := ⟨_, rfl⟩
            rw [hu] at hvk
            have hp13 := hpg.trans hbd.pre
            have c2 := (v2.pre hp13).cell hvk
            obtain ⟨w', hup, hw'⟩ := ((v3 k u xs hvk hxk).1.pre hp13).up
            have h3 := hrows xs hmem
            have hw_k : IntKind.i64.wrap ((k : Int) + 1) = (k : Int) + 1 := i64w (by omega) (by omega)
            have hki : (k : Int) < n := by omega
            simp (maxSteps := 1000000) [go_sem, c1, c2, hkn, hki]
            refine ACalls.up (args' := [w']) ⟨hup, trivial⟩ ?_
            refine l01Own_ok hw' (by omega) _ ?_
            intro H4 z hp4 hz
            obtain ⟨zid, ⟨rfl, hzb, _⟩, hsp⟩ := hz
            have hne : xs ≠ [] := by rintro rfl; simp at h3
            have hol : OL 1 H4 zid (ints xs) xs.length := ⟨by rw [ints_length]; omega, .inr (hzb.resolve_left hne)⟩
            obtain ⟨hsrc, H5, hap, hb5⟩ := hbd.push hp4 hol (hsp hne).1
            rw [hrl] at hap
            simp (maxSteps := 1000000) [go_sem, hsrc, hap, hrl, hw_k]
            refine andK_intro (by omega) (hK2 (k + 1, H4.length + 1, rows ++ [(zid, xs)]) _ _ (by simp only; omega) (by simp [upF, Fr.get, Up.refl, hrl]) ⟨by simp only; omega, ?_, hb5⟩)
            simp only [List.map_append, hrw, tk]; rfl
          · have : k = n := by omega
            subst this
            rw [List.take_of_length_le (by omega)] at hrw
            have hin := hbd.inn (by rw [hrw, hfl]; omega) (by omega)
            rw [hrw, hrl] at hin
            have ho : OL 1 H3 H1.length [] 0 := ⟨by simp, .inr (Same.get (S := fun _ => False) (Same.of_prefix hbd.pre) hgb (fun h => h))⟩
            obtain ⟨hsrc, H5, hap, hol5, hs5, hl5⟩ := ho.push (xs := [lv 1 rid 0 k]) (by omega) rfl
            have hb5 := hol5.2.resolve_left (by rintro ⟨e, _⟩; omega)
            have hle3 := hbd.pre.length_le
            have hki : ¬ ((k : Int) < k) := by omega
            simp (maxSteps := 1000000) [go_sem, c1, hsrc, hap, hrl, w1]
            refine hK (1, H3.length + 1) _ _ (by simp only; omega) (by simp [upF, Fr.get, Up.refl]) ⟨by simp, fun e => by simp at e, fun _ => ⟨?_, H3.length + 1, rfl, by simp, fun ys hy => ?_⟩⟩
            · exact ((Same.of_prefix ((hpe.trans hp1).trans (hpg.trans hbd.pre))).trans hs5).prefix (by rintro j hj rfl; omega)
            · cases hy
              exact ⟨⟨by omega, by omega⟩, lv 1 rid 0 k, H2.length, H3.length, ⟨true, by simpa using hb5⟩, hin.keep hs5 (by rintro j ⟨x1, x2⟩ rfl; omega), by omega, by omega, .inr (by omega)⟩
      · obtain ⟨x1, x2⟩ := z1 rfl
        have fin := h H2 _ x1 x2
        simp (maxSteps := 1000000) [go_sem]
        exact ⟨_, Up.refl _ _, fin⟩
  · have b15 : (v == 15) = false := beq_eq_false_iff_ne.2 c15
    rw [if_neg c15] at hgo
    simp (maxSteps := 1000000) [go_sem, b15]
    have hpe : H <+: H ++ [⟨[], true, true⟩] := List.prefix_append _ _
    generalize H ++ [(⟨[], true, true⟩ : Blk)] = HE at hpe ⊢
    refine ACalls.up (args' := [.int .i64 v, lv 1 H.length 0 0, .int .i64 ((0 : Nat) : Int)]) ⟨Up.refl _ _, Up.ex0 _ _ _ _ _ _, Up.refl _ _, trivial⟩ ?_
    refine l02Go_ok 3 (ib := H.length) (ob := 0) (beg := []) (v := v) (m := 0) (by omega) hN (by omega) (by decide) (by simp) ⟨[], rfl, .inl rfl, by simp⟩ _ ?_
    intro H1 w hp1 hw
    rw [hgo] at hw
    obtain ⟨ir, es, rfl, e1, e2, e3⟩ := hw
    obtain ⟨e, rfl⟩ : ∃ e, es = [e] := by
      match es, e2 with
      | [e], _ => exact ⟨e, rfl⟩
    have hex : e.x = xss := by simpa using e2
    obtain ⟨vs, v1, v2, v3⟩ := (e3 e (by simp)).1
    rw [hex] at v1 v3
    have ce : ∀ {HH : Heap}, H1 <+: HH → cellsAt HH ir 0 1 = some [lv 1 e.i e.o xss.length] := fun hp => by
      have := (e1.pre hp).cell (k := 0) (v := e.val) (by simp)
      simpa [El.val, hex] using this
    obtain ⟨n, hnx⟩ : ∃ n, xss.length = n := ⟨_, rfl⟩
    rw [hnx] at ce v1 hxl hfl
    simp (maxSteps := 1000000) [go_sem]
    have hpg : H1 <+: H1 ++ [⟨[], true, true⟩] := List.prefix_append _ _
    have hgb : (H1 ++ [(⟨[], true, true⟩ : Blk)])[H1.length]? = some ⟨[], true, true⟩ := by simp
    have hgl : (H1 ++ [(⟨[], true, true⟩ : Blk)]).length = H1.length + 1 := by simp
    generalize H1 ++ [(⟨[], true, true⟩ : Blk)] = HG at hpg hgb hgl ⊢
    have hl1 := (hpe.trans hp1).length_le
    refine AWp.loopVc (St := Nat × Nat) (fun t => [(5, lv 1 ir 0 1), (6, lv 1 t.2 0 t.1), (7, .int .i64 t.1)])
      (fun t H2 => t.1 ≤ 1 ∧ (t.1 = 0 → H2 = HG ∧ t.2 = H1.length) ∧ (t.1 = 1 → H <+: H2 ∧ FamsIn H.length H2.length H2 (lv 1 t.2 0 1) [xss])) (fun t => 1 - t.1) (0, H1.length) ?_ ?_ ?_
    · simp [upF, Fr.get, Up.refl, Up.ex0]
    · exact ⟨by simp, fun _ => ⟨rfl, rfl⟩, fun e => by simp at e⟩
    · rintro K ⟨s, oid⟩ H2 ⟨hs, z0, z1⟩ hK
      simp only at hs z0 z1
      obtain rfl | rfl : s = 0 ∨ s = 1 := by omega
      · obtain ⟨rfl, rfl⟩ := z0 rfl
        simp (maxSteps := 1000000) [go_sem]
        have hb0 : Build H2 (H2 ++ [(⟨[], true, true⟩ : Blk)]) H2.length [] := Build.of_ol (List.prefix_append _ _) ⟨by simp, .inr (by simp)⟩ (Nat.le_refl _)
        generalize H2 ++ [(⟨[], true, true⟩ : Blk)] = HR at hb0 ⊢
        refine AWp.loopVc (St := Nat × Nat × List (Nat × List Int)) (fun t => [(5, lv 1 ir 0 1), (6, lv 1 H1.length 0 0), (7, .int .i64 0), (8, lv 1 t.2.1 0 t.2.2.length), (9, .int .i64 t.1)])
          (fun t H3 => t.1 ≤ n ∧ t.2.2.map (·.2) = xss.take t.1 ∧ Build H2 H3 t.2.1 t.2.2) (fun t => n - t.1) (0, H2.length, []) ?_ ?_ ?_
        · simp [upF, Fr.get, Up.refl, Up.ex0]
        · exact ⟨by simp, by simp, hb0⟩
        · rintro K2 ⟨k, rid, rows⟩ H3 ⟨hk, hrw, hbd⟩ hK2
          simp only at hk hrw hbd
          have c1 := ce (hpg.trans hbd.pre)
          have hrl : rows.length = k := by have := congrArg List.length hrw; rw [List.length_map, List.length_take] at this; omega
          by_cases hkn : k < n
          · have hxk : xss[k]? = some (xss[k]'(by omega)) := List.getElem?_eq_getElem (by omega)
            have hmem : xss[k]'(by omega) ∈ xss := List.getElem_mem (by omega)
            have tk : xss.take (k + 1) = xss.take k ++ [xss[k]'(by omega)] := List.take_succ_eq_append_getElem (by omega)
            obtain ⟨xs, hxs⟩ : ∃ xs, xss[k]'(by omega) = xs := ⟨_, rfl⟩
            rw [hxs] at hxk hmem tk
            have hvk : vs[k]? = some (vs[k]'(by omega)) := List.getElem?_eq_getElem (by omega)
            obtain ⟨u, hu⟩ : ∃ u, vs[k]'(by omega) = u := ⟨_, rfl⟩
            rw [hu] at hvk
            have hp13 := hpg.trans hbd.pre
            have c2 := (v2.pre hp13).cell hvk
            obtain ⟨w', hup, hw'⟩ := ((v3 k u xs hvk hxk).1.pre hp13).up
            have h3 := hrows xs hmem
            have hw_k : IntKind.i64.wrap ((k : Int) + 1) = (k : Int) + 1 := i64w (by omega) (by omega)
            have hki : (k : Int) < n := by omega
            simp (maxSteps := 1000000) [go_sem, c1, c2, hkn, hki]
            refine ACalls.up (args' := [w']) ⟨hup, trivial⟩ ?_
            refine l01Own_ok hw' (by omega) _ ?_
            intro H4 z hp4 hz
            obtain ⟨zid, ⟨rfl, hzb, _⟩, hsp⟩ := hz
            have hne : xs ≠ [] := by rintro rfl; simp at h3
            have hol : OL 1 H4 zid (ints xs) xs.length := ⟨by rw [ints_length]; omega, .inr (hzb.resolve_left hne)⟩
            obtain ⟨hsrc, H5, hap, hb5⟩ := hbd.push hp4 hol (hsp hne).1
            rw [hrl] at hap
            simp (maxSteps := 1000000) [go_sem, hsrc, hap, hrl, hw_k]
            refine andK_intro (by omega) (hK2 (k + 1, H4.length + 1, rows ++ [(zid, xs)]) _ _ (by simp only; omega) (by simp [upF, Fr.get, Up.refl, hrl]) ⟨by simp only; omega, ?_, hb5⟩)
            simp only [List.map_append, hrw, tk]; rfl
          · have : k = n := by omega
            subst this
            rw [List.take_of_length_le (by omega)] at hrw
            have hin := hbd.inn (by rw [hrw, hfl]; omega) (by omega)
            rw [hrw, hrl] at hin
            have ho : OL 1 H3 H1.length [] 0 := ⟨by simp, .inr (Same.get (S := fun _ => False) (Same.of_prefix hbd.pre) hgb (fun h => h))⟩
            obtain ⟨hsrc, H5, hap, hol5, hs5, hl5⟩ := ho.push (xs := [lv 1 rid 0 k]) (by omega) rfl
            have hb5 := hol5.2.resolve_left (by rintro ⟨e, _⟩; omega)
            have hle3 := hbd.pre.length_le
            have hki : ¬ ((k : Int) < k) := by omega
            simp (maxSteps := 1000000) [go_sem, c1, hsrc, hap, hrl, w1]
            refine hK (1, H3.length + 1) _ _ (by simp only; omega) (by simp [upF, Fr.get, Up.refl]) ⟨by simp, fun e => by simp at e, fun _ => ⟨?_, H3.length + 1, rfl, by simp, fun ys hy => ?_⟩⟩
            · exact ((Same.of_prefix ((hpe.trans hp1).trans (hpg.trans hbd.pre))).trans hs5).prefix (by rintro j hj rfl; omega)
            · cases hy
              exact ⟨⟨by omega, by omega⟩, lv 1 rid 0 k, H2.length, H3.length, ⟨true, by simpa using hb5⟩, hin.keep hs5 (by rintro j ⟨x1, x2⟩ rfl; omega), by omega, by omega, .inr (by omega)⟩
      · obtain ⟨x1, x2⟩ := z1 rfl
        have fin := h H2 _ x1 x2
        simp (maxSteps := 1000000) [go_sem]
        exact ⟨_, Up.refl _ _, fin⟩

end Go.Proofs.Ytdfeoccjllljiaa
end

section
/- slices.DeleteFunc over numbers. -/
set_option linter.all false
set_option maxRecDepth 20000
set_option maxHeartbeats 8000000
namespace Go.Proofs.Ytdfeoccjllljiaa
open Go.Ab

/-- A function value that tells of numbers, whatever stands in the block id. -/
def TellsIS (g : FuncId) (fs cs : List Value) (P : Int → Bool) (id : Nat) (H : Heap) : Prop :=
  ∀ (H' : Heap) (x : Int) (Post : Value → Heap → Prop), Same (fun k => k = id) H H' → (∀ H'', H' <+: H'' → Post (.bool (P x)) H'') → ACalls Try.prog g (fs ++ .int .i64 x :: cs) H' Post

theorem over_ints {d : List Int} {i : Nat} (v : Int) (h : i < d.length) : over (ints d) i [.int .i64 v] = ints (d.set i v) := by
  rw [over_one (by rw [ints_length]; omega), ints_set]

theorem deleteFuncI_ok {H : Heap} {id n : Nat} {xs : List Int} {g : FuncId} {fs cs : List Value} {P : Int → Bool} (hb : H[id]? = some ⟨ints xs, true, true⟩) (hn : xs.length = n) (hl : n ≤ 1048576) (hf : TellsIS g fs cs P id H) (Post : Value → Heap → Prop)
    (h : ∀ (H' : Heap) (rest : List Value), Same (fun k => k = id) H H' → H'[id]? = some ⟨ints (xs.filter fun x => !P x) ++ rest, true, true⟩ → Post (lv 1 id 0 (xs.filter fun x => !P x).length) H') :
    ACalls Try.prog 155 [lv 1 id 0 n, .func (.func g) fs.toArray cs.toArray] H Post := by
  refine acalls_vc (rs := [.tmp 4]) Try.func155 rfl rfl Try.ntmps155 rfl rfl ?_
  simp (maxSteps := 1000000) [go_sem]
  subst hn
  refine indexFuncI_ok (P := P) (xs := xs) ⟨id, 0, rfl, Holds.at ⟨true, hb⟩, by omega⟩ (fun H' x Post hp _ hk => hf H' x Post (Same.of_prefix hp) hk) _ ?_
  intro H1 m hp1 hm
  have hb1 : H1[id]? = some ⟨ints xs, true, true⟩ := Same.get (S := fun _ => False) (Same.of_prefix hp1) hb (fun h => h)
  have hS1 : Same (fun k => k = id) H H1 := Same.of_prefix hp1
  rcases hm with ⟨rfl, hall⟩ | ⟨k, x, rfl, hk, hPk, hbefore⟩
  · have e : (xs.filter fun x => !P x) = xs := List.filter_eq_self.2 fun x hx => by simp [hall x hx]
    rw [e] at h
    have fin := h H1 [] hS1 (by simpa using hb1)
    simp (maxSteps := 1000000) [go_sem]
    exact fin
  · have hkl := (List.getElem?_eq_some_iff.1 hk).1
    have ek : ((k : Int) == -1) = false := by rw [beq_eq_false_iff_ne]; omega
    have ek' : ¬ (k : Int) = -1 := by omega
    have hw_k : IntKind.i64.wrap ((k : Int) + 1) = (k : Int) + 1 := i64w (by omega) (by omega)
    have f0 : (xs.take k).filter (fun x => !P x) = xs.take k := List.filter_eq_self.2 fun x hx => by simp [hbefore x hx]
    have hxk : xs[k] = x := (List.getElem?_eq_some_iff.1 hk).2
    simp (maxSteps := 1000000) [go_sem, ek, ek', hw_k]
    refine AWp.loopVc (St := Nat × Nat × List Int) (fun s => [(0, lv 1 id 0 xs.length), (1, .func (.func g) fs.toArray cs.toArray), (5, .int .i64 s.1), (6, .int .i64 s.2.1)])
      (fun s H' => s.1 < s.2.1 ∧ s.2.1 ≤ xs.length ∧ s.2.2.length = xs.length ∧ s.2.2.take s.1 = (xs.take s.2.1).filter (fun x => !P x) ∧ s.2.2.drop s.2.1 = xs.drop s.2.1 ∧ Same (fun k => k = id) H H' ∧ H'[id]? = some ⟨ints s.2.2, true, true⟩) (fun s => xs.length - s.2.1) (k, k + 1, xs) ?_ ?_ ?_
    · simp [upF, Fr.get, Up.refl]
    · refine ⟨by simp, by simp only; omega, rfl, ?_, rfl, hS1, hb1⟩
      simp only
      rw [List.take_succ_eq_append_getElem hkl, List.filter_append, f0, hxk]
      simp [hPk]
    · rintro K ⟨i, j, d⟩ H2 ⟨hij, hj, hd, htk, hdr, hS2, hb2⟩ hK
      simp only at hij hj hd htk hdr hS2 hb2
      by_cases hlt : j < xs.length
      · have hw_j : IntKind.i64.wrap ((j : Int) + 1) = (j : Int) + 1 := i64w (by omega) (by omega)
        have hw_i : IntKind.i64.wrap ((i : Int) + 1) = (i : Int) + 1 := i64w (by omega) (by omega)
        have hdj : d[j]? = some xs[j] := by
          have := congrArg (fun z : List Int => z[0]?) hdr
          simp only [List.getElem?_drop, Nat.add_zero] at this
          rw [this]; exact List.getElem?_eq_getElem hlt
        have hatd : At H2 id 0 (ints d) := Holds.at ⟨true, hb2⟩
        have hxt := List.take_succ_eq_append_getElem hlt
        have hxd : xs.drop (j + 1) = d.drop (j + 1) := by
          have := congrArg (List.drop 1) hdr
          rw [List.drop_drop, List.drop_drop] at this
          exact this.symm
        generalize xs[j] = v at *
        have c1 := hatd.cell (k := j) (v := .int .i64 v) (by simp [ints, List.getElem?_map, hdj])
        rw [Nat.zero_add] at c1
        simp (maxSteps := 1000000) [go_sem, hlt, c1]
        refine hf _ v _ hS2 ?_
        intro H4 hp4
        have hS4 : Same (fun k => k = id) H H4 := hS2.via (Same.of_prefix (S := fun _ => False) hp4) (fun _ _ h => h.elim)
        have hb4 : H4[id]? = some ⟨ints d, true, true⟩ := Same.get (S := fun _ => False) (Same.of_prefix hp4) hb2 (fun h => h)
        cases hP : P v with
        | true =>
          simp (maxSteps := 1000000) [go_sem, hw_j]
          refine hK (i, j + 1, d) _ _ (by simp only; omega) (by simp [upF, Fr.get, Up.refl]) ⟨by simp only; omega, by simp only; omega, hd, ?_, hxd.symm, hS4, hb4⟩
          simp only
          rw [hxt, List.filter_append, ← htk]
          simp [hP]
        | false =>
          have hst : storeAt H4 id i [.int .i64 v] = some (H4.set id ⟨ints (d.set i v), true, true⟩) := by
            rw [storeAt_of hb4 rfl rfl (by simp [ints]; omega) (by simp [Value.oneCell']), ← over_ints v (by omega)]
          have hil : i < xs.length := by omega
          have hil' : (i : Int) < xs.length := by omega
          simp (maxSteps := 1000000) [go_sem, hw_j, hw_i, hst, hil, hil']
          refine hK (i + 1, j + 1, d.set i v) _ _ (by simp only; omega) (by simp [upF, Fr.get, Up.refl]) ⟨by simp only; omega, by simp only; omega, by simp [hd], ?_, ?_, hS4.trans same_set, List.getElem?_set_self (List.getElem?_eq_some_iff.1 hb4).1⟩
          · simp only
            have hil2 : i < (d.set i v).length := by simp; omega
            rw [hxt, List.filter_append, ← htk, List.take_succ_eq_append_getElem hil2, List.getElem_set_self, List.take_set_of_le (Nat.le_refl _)]
            simp [hP]
          · simp only
            rw [List.drop_set_of_lt (by omega), hxd]
      · have : j = xs.length := by omega
        subst this
        rw [List.take_length] at htk
        have hil : i ≤ xs.length := by omega
        have hlen : (xs.filter fun x => !P x).length = i := by rw [← htk, List.length_take]; omega
        have ed : ints d = ints (d.take i) ++ ints (d.drop i) := by rw [ints_append, List.take_append_drop]
        have hil0 : i < xs.length := hij
        have hil' : (i : Int) ≤ xs.length := by omega
        have hn0 : ¬ (xs.length - i = 0) := by omega
        have hn1 : ¬ (xs.length ≤ i) := by omega
        simp (maxSteps := 1000000) [go_sem, sliceV, boundV, lenV, hil, hil', hn0, hn1]
        obtain ⟨z, hz⟩ : ∃ z : List Value, z = (Builtin.zeroCells #[Value.int IntKind.i64 0] (xs.length - i)).toList := ⟨_, rfl⟩
        have hzl : z.length = xs.length - i := by rw [hz]; simp [Builtin.zeroCells]
        have hzo : z.all Value.oneCell' = true := by
          rw [hz, List.all_eq_true]
          intro v hv
          unfold Builtin.zeroCells at hv
          rw [Array.mem_toList_iff, Array.mem_map] at hv
          obtain ⟨k, _, rfl⟩ := hv
          simp [Nat.mod_one, Value.oneCell']
        rw [← hz]
        have hst := storeAt_of (o := i) (vs := z) hb2 rfl rfl (by rw [hzl, ints_length]; omega) hzo
        have e3 : over (ints d) i z = ints (d.take i) ++ z := by
          unfold over
          rw [ed, List.take_left' (by rw [ints_length, List.length_take]; omega)]
          rw [List.drop_eq_nil_of_le (by rw [List.length_append, ints_length, ints_length, List.length_take, List.length_drop]; omega), List.append_nil]
        rw [e3] at hst
        have fin := h _ z (hS2.trans same_set) (by rw [← htk]; exact List.getElem?_set_self (List.getElem?_eq_some_iff.1 hb2).1)
        rw [hlen] at fin
        simp (maxSteps := 1000000) [go_sem, hst, sliceV, boundV, lenV, hil, hil', hn0, hn1]
        exact fin

end Go.Proofs.Ytdfeoccjllljiaa
end

section
/- Difference families, the implementation: clones of lists of lists, copyLists; the plain search. -/
set_option linter.all false
set_option maxRecDepth 20000
set_option maxHeartbeats 8000000
namespace Go.Proofs.Ytdfeoccjllljiaa
open Go.Ab Go.Sort

def nthL (l : List Int) (i : Nat) : Int := l.getD i 0
def restL (left : List Int) (t : List Int) : List Int := left.filter fun x => !decide (x ∈ t)
def stepI (F : List (List Int) → List Int → List (List (List Int))) (v : Int) (now : List (List Int)) (left : List Int) (i k : Nat) : List (List (List Int)) :=
  if tripI v [nthL left 0, nthL left i, nthL left k] then F (now ++ [[nthL left 0, nthL left i, nthL left k]]) (restL left [nthL left 0, nthL left i, nthL left k]) else []
def rowI (F : List (List Int) → List Int → List (List (List Int))) (v : Int) (now : List (List Int)) (left : List Int) (i hi : Nat) : List (List (List Int)) := (upTo (i + 1) hi).flatMap (stepI F v now left i)
def famI : Nat → Int → List (List Int) → List Int → List (List (List Int))
  | 0, _, _, _ => []
  | n + 1, v, now, left => if left.isEmpty then [now] else (upTo 1 left.length).flatMap fun i => rowI (famI n v) v now left i left.length
theorem famI_of {v : Int} (hv : NumB v) : famI 7 v [] (diffL v) = [famOf v] := by
  rcases hv with rfl | rfl | rfl <;> decide +kernel
def bnd : Nat → Nat
  | 0 => 1
  | n + 1 => (n + 1) * (n + 1) * bnd n
theorem rest_lt {left t : List Int} (h : left ≠ []) (ht : nthL left 0 ∈ t) : (restL left t).length < left.length := by
  unfold restL
  rw [List.length_filter_lt_length_iff_exists]
  refine ⟨nthL left 0, ?_, by simp [ht]⟩
  cases left with
  | nil => exact absurd rfl h
  | cons x l => simp [nthL]

theorem cloneSS_oe {H : Heap} {i o n : Nat} {vs : List Value} (h1 : At H i o vs) (hn : vs.length = n) (hl : n ≤ 1048576) (Post : Value → Heap → Prop) (h : ∀ H' w, H <+: H' → OE 1 H.length H' w vs n → Post w H') :
    ACalls Try.prog 154 [lv 1 i o n] H Post := by
  by_cases hx : n = 0
  · subst hx
    have hv : vs = [] := List.eq_nil_of_length_eq_zero hn
    subst hv
    refine acalls_body Try.func154 rfl rfl (by rw [Try.ntmps154]; exact Nat.le_of_ble_eq_true rfl) ?_
    rw [Try.ntmps154]
    refine AWp.seq (vc_sound _ _ _ _ ?_)
    simp (maxSteps := 1000000) [go_sem]
    refine AWp.seq (AWp.seq (AWp.regionS ?_))
    refine StepOK.of_v ?_
    simp (maxSteps := 1000000) [go_sem]
    refine StepOK.of_op rfl (ok_eqlNil2 rfl Try.underlying51 rfl rfl (by show (4 : Nat) < 8; decide) (fun b => ?_))
    refine AWp.cond (b := b) (by cases b <;> rfl) (fun _ => ?_) (fun _ => ?_)
    · refine vc_sound _ _ _ _ ?_
      simp (maxSteps := 1000000) [go_sem]
      exact h H _ (List.prefix_refl _) (OE.nil _ _ _)
    · refine vc_sound _ _ _ _ ?_
      simp (maxSteps := 1000000) [go_sem]
      refine vc_sound _ _ _ _ ?_
      simp (maxSteps := 1000000) [go_sem, appendH]
      exact h _ _ (List.prefix_append _ _) (OE.empty (Nat.le_refl _) (by simp))
  · have hp0 : H <+: H ++ [⟨[], true, true⟩] := List.prefix_append _ _
    have hsrc := (h1.pre hp0).src (e := 1) (n := n) (s := some 1) (by omega) (by omega) n
    simp only [srcCells, Nat.mul_one] at hsrc
    have he0 : OE 1 H.length (H ++ [(⟨[], true, true⟩ : Blk)]) (.slice (some ⟨H.length, 0, none⟩) 0 0) [] 0 := OE.empty (Nat.le_refl _) (by simp)
    obtain ⟨v, H2, hap, he2, hk2, hl2⟩ := he0.append (m := n) (news := vs) (by omega) (by simp) (by omega)
    refine acalls_vc (rs := [.tmp 2]) Try.func154 rfl rfl Try.ntmps154 rfl rfl ?_
    have hnil : nilOK (some ⟨i, o, some 1⟩) n = true := by simpa [nilOK] using hx
    simp (maxSteps := 1000000) [go_sem, hnil, hsrc, hap]
    refine andK_intro (by omega) ?_
    simp only [List.nil_append, Nat.zero_add] at he2
    exact h H2 v (KeepL.prefix hp0 (Nat.le_refl _) hk2 hl2) he2

/-- impl.copyLists: the lists are copied, and held alone. -/
theorem copyLists_ok {H : Heap} {i o n : Nat} {vs : List Value} {xss : List (List Int)} (h1 : At H i o vs) (hn : vs.length = n) (hx : xss.length = n) (hrow : ∀ (k : Nat) (u : Value) (xs : List Int), vs[k]? = some u → xss[k]? = some xs → VAt H u xs ∧ xs ≠ []) (h3 : ∀ xs ∈ xss, xs.length = 3) (hl : n ≤ 100)
    (Post : Value → Heap → Prop) (h : ∀ H' w, H <+: H' → RowsIn H.length H'.length H' w xss → Post w H') : ACalls Try.prog 110 [lv 1 i o n] H Post := by
  refine ACalls.res ?_
  refine acalls_vc (rs := [.tmp 2]) Try.func110 rfl rfl Try.ntmps110 rfl rfl ?_
  simp (maxSteps := 1000000) [go_sem]
  refine AWp.addGhost ?_
  have hb0 := Build.start H
  generalize H ++ [(⟨[], false, false⟩ : Blk)] = HG at hb0 ⊢
  refine AWp.loopVc (St := Nat × Nat × List (Nat × List Int)) (fun t => [(3, lv 1 t.2.1 0 t.2.2.length), (6, lv 1 i o n), (7, .int .i64 n), (8, .int .i64 t.1)])
    (fun t H3 => t.1 ≤ n ∧ t.2.2.map (·.2) = xss.take t.1 ∧ Build H H3 t.2.1 t.2.2) (fun t => n - t.1) (0, H.length, []) ?_ ?_ ?_
  · simp [upF, Fr.get, Up.refl, Up.nil]
  · exact ⟨by simp, by simp, hb0⟩
  · rintro K2 ⟨k, rid, rows⟩ H3 ⟨hk, hrw, hbd⟩ hK2
    simp only at hk hrw hbd
    have hrl : rows.length = k := by have := congrArg List.length hrw; rw [List.length_map, List.length_take] at this; omega
    by_cases hkn : k < n
    · have hxk : xss[k]? = some (xss[k]'(by omega)) := List.getElem?_eq_getElem (by omega)
      have hmem : xss[k]'(by omega) ∈ xss := List.getElem_mem (by omega)
      have tk : xss.take (k + 1) = xss.take k ++ [xss[k]'(by omega)] := List.take_succ_eq_append_getElem (by omega)
      obtain ⟨xs, hxs⟩ : ∃ xs, xss[k]'(by omega) = xs := ⟨_, rfl⟩
      rw [hxs] at hxk hmem tk
      have hvk : vs[k]? = some (vs[k]'(by omega)) := List.getElem?_eq_getElem (by omega)
      obtain ⟨u, hu⟩ : ∃ u, vs[k]'(by omega) = u := ⟨_, rfl⟩
      rw [hu] at hvk
      have c2 := (h1.pre hbd.pre).cell hvk
      obtain ⟨w', hup, hw'⟩ := ((hrow k u xs hvk hxk).1.pre hbd.pre).up
      have h33 := h3 xs hmem
      have hw_k : IntKind.i64.wrap ((k : Int) + 1) = (k : Int) + 1 := i64w (by omega) (by omega)
      have hki : (k : Int) < n := by omega
      simp (maxSteps := 1000000) [go_sem, c2, hkn, hki]
      refine ACalls.up (args' := [w']) ⟨hup, trivial⟩ ?_
      refine cloneI_ok hw' (by omega) _ ?_
      intro H4 z hp4 hz
      obtain ⟨zid, ⟨rfl, hzb, _⟩, hsp⟩ := hz
      have hne : xs ≠ [] := by rintro rfl; simp at h33
      have hol : OL 1 H4 zid (ints xs) xs.length := ⟨by rw [ints_length]; omega, .inr (hzb.resolve_left hne)⟩
      obtain ⟨hsrc, H5, hap, hb5⟩ := hbd.push hp4 hol (hsp hne).1
      rw [hrl] at hap
      simp (maxSteps := 1000000) [go_sem, hsrc, hap, hrl, hw_k]
      refine andK_intro (by omega) (hK2 (k + 1, H4.length + 1, rows ++ [(zid, xs)]) _ _ (by simp only; omega) (by simp [upF, Fr.get, Up.refl, hrl]) ⟨by simp only; omega, ?_, hb5⟩)
      simp only [List.map_append, hrw, tk]; rfl
    · have : k = n := by omega
      subst this
      rw [List.take_of_length_le (by omega)] at hrw
      have hin := hbd.inn (by rw [hrw, flat_len3 h3]; omega) (by omega)
      rw [hrw] at hin
      have hki : ¬ ((k : Int) < k) := by omega
      simp (maxSteps := 1000000) [go_sem]
      exact ⟨_, Up.refl _ _, h H3 _ hbd.pre hin⟩

end Go.Proofs.Ytdfeoccjllljiaa
end

section
/- Difference families, the implementation: impl.families (printed by wip/gengoi2.py). -/
set_option linter.all false
set_option maxRecDepth 20000
set_option maxHeartbeats 8000000
namespace Go.Proofs.Ytdfeoccjllljiaa
open Go.Ab Go.Sort

theorem OutF.push1 {H H' H2 : Heap} {oid ib : Nat} {es : List El} (h : OutF H H' oid ib es) (hp : H' <+: H2) (e : El) (hr : RowsAt H2 e.i e.o e.x) (hi : H'.length ≤ e.i) :
    cellsAt (H2 ++ [⟨[e.val], true, true⟩]) H2.length 0 1 = some [e.val] ∧ ∃ H4, appendH (H2 ++ [⟨[e.val], true, true⟩]) 1 (lv 1 oid 0 es.length) 1 [e.val] = some (lv 1 (H2.length + 1) 0 (es.length + 1), H4) ∧ OutF H H4 (H2.length + 1) ib (es ++ [e]) ∧ Same (fun j => j = oid) H2 H4 := by
  have h2 := h.pre hp
  have hoid := h.2.1.lt
  have hle := hp.length_le
  have hle0 := h.1.length_le
  obtain ⟨g0, H4, g1, g2, g3, g4⟩ := h2.2.1.push (xs := [e.val]) (by omega) rfl
  refine ⟨g0, H4, g1, ⟨((Same.of_prefix h2.1).trans g3).prefix (by have := h2.2.2.1; rintro j hj rfl; omega), ?_, by omega, ?_⟩, g3⟩
  · rw [List.map_append, List.length_append]; exact g2
  · intro x hx
    rcases List.mem_append.1 hx with hx | hx
    · obtain ⟨a1, a2⟩ := h2.2.2.2 x hx
      exact ⟨a1.past (fun hn => (a2 hn).2) h2.noInt g3, fun hn => ⟨(a2 hn).1, by have := a1.lt hn; omega⟩⟩
    · simp at hx; subst hx
      exact ⟨hr.past (fun _ => by omega) h2.noInt g3, fun hn => ⟨.inl (by omega), by have := hr.lt hn; omega⟩⟩
theorem cellsAt_mono' {H H' : Heap} (hp : H <+: H') {i o n : Nat} {cs : List Value} (h : cellsAt H i o n = some cs) : cellsAt H' i o n = some cs := by
  obtain ⟨b, hb, hl, hn, rfl⟩ := cellsAt_inv h
  rw [cellsAt_of (Same.get (S := fun _ => False) (Same.of_prefix hp) hb (fun h => h)) hl hn]
theorem bnd_mono : ∀ {a b : Nat}, a ≤ b → bnd a ≤ bnd b := by
  intro a b h
  induction b with
  | zero => have : a = 0 := by omega
            subst this; exact Nat.le_refl _
  | succ b ih =>
    by_cases e : a = b + 1
    · subst e; exact Nat.le_refl _
    · refine Nat.le_trans (ih (by omega)) ?_
      show bnd b ≤ (b + 1) * (b + 1) * bnd b
      have : 1 ≤ (b + 1) * (b + 1) := Nat.mul_pos (by omega) (by omega)
      calc bnd b = 1 * bnd b := (Nat.one_mul _).symm
        _ ≤ _ := Nat.mul_le_mul_right _ this
theorem stepI_le {F : List (List Int) → List Int → List (List (List Int))} {v : Int} {now : List (List Int)} {left : List Int} {B : Nat} (hl : left ≠ []) (hF : ∀ now' left', left'.length < left.length → (F now' left').length ≤ B) (i k : Nat) : (stepI F v now left i k).length ≤ B := by
  unfold stepI
  split
  · exact hF _ _ (rest_lt hl (by simp))
  · simp
theorem rowI_le {F : List (List Int) → List Int → List (List (List Int))} {v : Int} {now : List (List Int)} {left : List Int} {B : Nat} (hl : left ≠ []) (hF : ∀ now' left', left'.length < left.length → (F now' left').length ≤ B) (i hi : Nat) : (rowI F v now left i hi).length ≤ hi * B := by
  unfold rowI
  refine Nat.le_trans (flatMap_le fun k _ => stepI_le hl hF i k) (Nat.mul_le_mul_right _ ?_)
  rw [upTo_length]; omega
theorem famI_le {v : Int} : ∀ (n : Nat) (now : List (List Int)) (left : List Int), (famI n v now left).length ≤ bnd left.length
  | 0, now, left => by simp [famI]
  | n + 1, now, left => by
    rw [famI]
    split
    · rename_i h
      have : left = [] := by simpa using h
      subst this; simp [bnd]
    · rename_i h
      have hne : left ≠ [] := by simpa using h
      obtain ⟨L, hL⟩ : ∃ L, left.length = L + 1 := ⟨left.length - 1, by have := List.length_pos_iff.2 hne; omega⟩
      have hF : ∀ now' left', left'.length < left.length → (famI n v now' left').length ≤ bnd L := fun now' left' hlt => Nat.le_trans (famI_le n now' left') (bnd_mono (by omega))
      refine Nat.le_trans (flatMap_le fun i _ => rowI_le hne hF i _) ?_
      rw [upTo_length, hL]
      show _ ≤ (L + 1) * (L + 1) * bnd L
      rw [Nat.mul_assoc]
      exact Nat.mul_le_mul_right _ (by omega)

theorem families_ok : ∀ (n : Nat) {H0 H : Heap} {oid ib ni no li lo : Nat} {es : List El} {v : Int} {now : List (List Int)} {left : List Int} (hv : NumB v) (hn : left.length < n) (h6 : left.length ≤ 6) (hnl : now.length + left.length ≤ 20)
    (hout : OutF H0 H oid ib es) (hes : es.length + 10000000 * left.length ≤ 100000000) (hnw : RowsAt H ni no now) (hne : now ≠ [] → ni ≠ oid) (hleft : At H li lo (ints left)) (hnn : now ≠ [] ∨ left ≠ []) (Post : Value → Heap → Prop)
    (h : ∀ H' oid' es2, Same (fun j => j = oid) H H' → OutF H0 H' oid' ib (es ++ es2) → (oid' = oid ∨ H.length ≤ oid') → es2.map El.x = famI n v now left → Post (lv 1 oid' 0 (es.length + es2.length)) H'),
    ACalls Try.prog 108 [lv 1 oid 0 es.length, .int .i64 v, lv 1 ni no now.length, lv 1 li lo left.length] H Post := by
  intro n
  induction n with
  | zero => intro H0 H oid ib ni no li lo es v now left hv hn; omega
  | succ n ih =>
  intro H0 H oid ib ni no li lo es v now left hv hn h6 hnl hout hes hnw hne hleft hnn Post h
  have hvb : 7 ≤ v ∧ v ≤ 15 := by unfold NumB at hv; omega
  obtain ⟨L, hL⟩ : ∃ L, left.length = L := ⟨_, rfl⟩
  obtain ⟨N, hN⟩ : ∃ N, now.length = N := ⟨_, rfl⟩
  obtain ⟨vs, v1, v2, v3⟩ := id hnw
  have hoid := hout.2.1.lt
  rw [hN] at v1
  rw [hL] at hn h6 hnl hes ⊢
  rw [hN] at hnl ⊢
  refine acalls_vc (rs := [.tmp 8]) Try.func108 rfl rfl Try.ntmps108 rfl rfl ?_
  by_cases hl0 : L = 0
  · have hle : left = [] := List.eq_nil_of_length_eq_zero (by omega)
    have hnow : now ≠ [] := hnn.resolve_right (fun e => e hle)
    have hfam : famI (n + 1) v now left = [now] := by rw [famI, if_pos (by simp [hle])]
    have hNp : N ≠ 0 := fun e => hnow (List.eq_nil_of_length_eq_zero (by omega))
    subst hl0
    simp (maxSteps := 1000000) [go_sem]
    refine cloneSS_oe v2 v1 (by omega) _ ?_
    intro H1 w hp1 hw
    obtain ⟨id, hid, rfl, hbk⟩ : ∃ id, H.length ≤ id ∧ w = lv 1 id 0 N ∧ H1[id]? = some ⟨vs, true, true⟩ := by
      rcases hw.2 with ⟨e, _⟩ | ⟨id, e, _⟩ | ⟨id, a, b, c⟩
      · exact absurd e hNp
      · exact absurd e hNp
      · rcases c with ⟨e, _⟩ | c
        · exact absurd e hNp
        · exact ⟨id, a, b, c⟩
    have hr1 : RowsAt H1 id 0 now := ⟨vs, by omega, Holds.at ⟨true, hbk⟩, fun k u xs a b => ⟨(v3 k u xs a b).1.pre hp1, (v3 k u xs a b).2⟩⟩
    obtain ⟨hsrc, H4, hap, hout4, hs4⟩ := hout.push1 hp1 ⟨id, 0, now⟩ hr1 hid
    simp only [El.val, hN] at hsrc hap
    have fin := h H4 (H1.length + 1) [⟨id, 0, now⟩] ((Same.of_prefix hp1).trans hs4) hout4 (.inr (by have := hp1.length_le; omega)) (by rw [hfam]; rfl)
    simp (maxSteps := 1000000) [go_sem, hsrc, hap]
    refine andK_intro (by omega) ?_
    simpa using fin
  · have hlne : left ≠ [] := by rintro rfl; simp at hL; omega
    have hlp : 0 < L := by omega
    have hfam : famI (n + 1) v now left = (upTo 1 L).flatMap fun i => rowI (famI n v) v now left i L := by rw [famI, if_neg (by simpa using hlne), hL]
    have hF : ∀ now' left', left'.length < left.length → (famI n v now' left').length ≤ bnd 5 := fun now' left' hlt => Nat.le_trans (famI_le n now' left') (bnd_mono (by omega))
    have hb5 : bnd 5 = 14400 := by decide
    rw [hb5] at hF
    have hL0 : ((L : Int) == 0) = false := beq_eq_false_iff_ne.2 (by omega)
    have w1 : IntKind.i64.wrap 1 = 1 := i64w (by omega) (by omega)
    -- what stands below goes on standing
    have nowAt : ∀ {HH : Heap}, Same (fun j => j = oid) H HH → RowsAt HH ni no now := fun hs => hnw.past hne hout.noInt hs
    have leftAt : ∀ {HH : Heap}, Same (fun j => j = oid) H HH → IntsAt HH (lv 1 li lo left.length) left := fun hs => IntsAt.past ⟨li, lo, rfl, hleft, by omega⟩ hout.noInt hs
    have hni : ∀ {o' : Nat}, (o' = oid ∨ H.length ≤ o') → now ≠ [] → ni ≠ o' := fun ho hn' => by
      have := hnw.lt hn'
      have := hne hn'
      rcases ho with rfl | ho <;> omega
    simp (maxSteps := 1000000) [go_sem, hL0]
    refine AWp.loopVc (St := Nat × Nat × List El) (fun t => [(0, lv 1 t.2.1 0 (es.length + t.2.2.length)), (1, .int .i64 v), (2, lv 1 ni no N), (3, lv 1 li lo L), (9, .int .i64 t.1)])
      (fun t H2 => 1 ≤ t.1 ∧ t.1 ≤ L ∧ t.2.2.map El.x = (upTo 1 t.1).flatMap (fun i => rowI (famI n v) v now left i L) ∧ Same (fun j => j = oid) H H2 ∧ OutF H0 H2 t.2.1 ib (es ++ t.2.2) ∧ (t.2.1 = oid ∨ H.length ≤ t.2.1)) (fun t => L - t.1) (1, oid, []) ?_ ?_ ?_
    · simp [upF, Fr.get, Up.refl]
    · exact ⟨by simp, by simp only; omega, by simp [upTo_self], Same.refl _ _, by simpa using hout, .inl rfl⟩
    · rintro K ⟨i, o1, e1⟩ H1 ⟨hi1, hiL, hx1, hs1, ho1, hoo1⟩ hK
      simp only at hi1 hiL hx1 hs1 ho1 hoo1
      have he1 : e1.length ≤ 6 * (6 * 14400) := by
        have e : e1.length = ((upTo 1 i).flatMap (fun i => rowI (famI n v) v now left i L)).length := by rw [← hx1, List.length_map]
        rw [e]
        refine Nat.le_trans (flatMap_le fun x _ => Nat.le_trans (rowI_le hlne hF x L) (Nat.mul_le_mul_right _ h6)) (Nat.mul_le_mul_right _ ?_)
        rw [upTo_length]; omega
      by_cases hilt : i < L
      · have hii : (i : Int) < L := by omega
        have hw_i : IntKind.i64.wrap ((i : Int) + 1) = (i : Int) + 1 := i64w (by omega) (by omega)
        simp (maxSteps := 1000000) [go_sem, hilt, hii, hw_i]
        refine AWp.loopVc (St := Nat × Nat × List El) (fun t => [(0, lv 1 t.2.1 0 (es.length + t.2.2.length)), (1, .int .i64 v), (2, lv 1 ni no N), (3, lv 1 li lo L), (9, .int .i64 i), (10, .int .i64 t.1)])
          (fun t H2 => i + 1 ≤ t.1 ∧ t.1 ≤ L ∧ t.2.2.map El.x = e1.map El.x ++ (upTo (i + 1) t.1).flatMap (stepI (famI n v) v now left i) ∧ Same (fun j => j = oid) H H2 ∧ OutF H0 H2 t.2.1 ib (es ++ t.2.2) ∧ (t.2.1 = oid ∨ H.length ≤ t.2.1)) (fun t => L - t.1) (i + 1, o1, e1) ?_ ?_ ?_
        · simp [upF, Fr.get, Up.refl]
        · exact ⟨by simp, by simp only; omega, by simp [upTo_self], hs1, ho1, hoo1⟩
        · rintro K2 ⟨k, o2, e2⟩ H2 ⟨hk1, hkL, hx2, hs2, ho2, hoo2⟩ hK2
          simp only at hk1 hkL hx2 hs2 ho2 hoo2
          have he2 : e2.length ≤ 6 * (6 * 14400) + 6 * 14400 := by
            have e : e2.length = (e1.map El.x ++ (upTo (i + 1) k).flatMap (stepI (famI n v) v now left i)).length := by rw [← hx2, List.length_map]
            have e' : ((upTo (i + 1) k).flatMap (stepI (famI n v) v now left i)).length ≤ 6 * 14400 := by
              refine Nat.le_trans (flatMap_le fun x _ => stepI_le hlne hF i x) (Nat.mul_le_mul_right _ ?_)
              rw [upTo_length]; omega
            rw [e, List.length_append, List.length_map]; omega
          by_cases hklt : k < L
          · have hki : (k : Int) < L := by omega
            have hw_k : IntKind.i64.wrap ((k : Int) + 1) = (k : Int) + 1 := i64w (by omega) (by omega)
            have hsucc : (upTo (i + 1) (k + 1)).flatMap (stepI (famI n v) v now left i) = (upTo (i + 1) k).flatMap (stepI (famI n v) v now left i) ++ stepI (famI n v) v now left i k := by
              rw [upTo_succ hk1, List.flatMap_append]; simp
            have no2 : stepI (famI n v) v now left i k = [] → ∀ fr' HH, H2 <+: HH → upF HH [(0, lv 1 o2 0 (es.length + e2.length)), (1, .int .i64 v), (2, lv 1 ni no N), (3, lv 1 li lo L), (9, .int .i64 i), (10, .int .i64 (k + 1))] fr' → K2 fr' HH := fun hz fr' HH hpp hf =>
              hK2 (k + 1, o2, e2) _ _ (by simp only; omega) (by simpa using hf) ⟨by simp only; omega, by simp only; omega, by simp only [hsucc, hz, List.append_nil]; exact hx2, hs2.via (Same.of_prefix (S := fun _ => False) hpp) (fun _ _ h => h.elim), ho2.pre hpp, hoo2⟩
            obtain ⟨_, _, el, hlat, _⟩ := leftAt hs2
            cases el
            have gv : ∀ j, j < L → left[j]? = some (nthL left j) := fun j hj => by
              rw [nthL, List.getD_eq_getElem?_getD, List.getElem?_eq_getElem (by omega)]; rfl
            have l0 : cellsAt H2 li lo 1 = some [.int .i64 (nthL left 0)] := by simpa using hlat.cell (k := 0) (v := .int .i64 (nthL left 0)) (by simp [ints, gv 0 hlp])
            have li' := hlat.cell (k := i) (v := .int .i64 (nthL left i)) (by simp [ints, gv i hilt])
            have lk := hlat.cell (k := k) (v := .int .i64 (nthL left k)) (by simp [ints, gv k hklt])
            have hst : stepI (famI n v) v now left i k = if tripI v [nthL left 0, nthL left i, nthL left k] then famI n v (now ++ [[nthL left 0, nthL left i, nthL left k]]) (restL left [nthL left 0, nthL left i, nthL left k]) else [] := rfl
            have hrl := rest_lt (t := [nthL left 0, nthL left i, nthL left k]) hlne (by simp)
            obtain ⟨a, ha⟩ : ∃ a, nthL left 0 = a := ⟨_, rfl⟩
            obtain ⟨b, hb⟩ : ∃ b, nthL left i = b := ⟨_, rfl⟩
            obtain ⟨c, hc⟩ : ∃ c, nthL left k = c := ⟨_, rfl⟩
            rw [ha] at l0 hst hrl
            rw [hb] at li' hst hrl
            rw [hc] at lk hst hrl
            simp (maxSteps := 1000000) [go_sem, hklt, hki]
            refine AWp.regCut (St := Nat × Nat) (fun z => [(11, .pointer (some ⟨z.1, 0, none⟩))]) (fun z H3 => H2 <+: H3 ∧ Holds H3 z.1 [.slice (some ⟨z.2, 0, none⟩) 3 3] ∧ H3[z.2]? = some ⟨ints [a, b, c], true, true⟩) ?_ ?_
            · intro Q' hQ'
              refine AWp.drawF mixed [12] [(0, false), (1, false), (2, false), (3, false), (4, false), (5, false), (6, false), (7, false), (8, false), (9, false), (10, false), (11, false), (12, true), (13, false)] (.one 0 false (.one 1 false (.one 2 false (.one 3 false (.one 4 false (.one 5 false (.one 6 false (.one 7 false (.one 8 false (.one 9 false (.one 10 false (.two 11 false (.one 12 true (.one 13 false .nil)) 12 (.one 11 false (.one 13 false .nil)))))))))))))) (by kernel_rfl) ?_
              simp (maxSteps := 1000000) [go_sem, l0, li', lk, hlp, hilt, hii, hklt, hki]
              refine vT_two ?_ ?_
              · simp (maxSteps := 1000000) [go_sem, l0, li', lk, hlp, hilt, hii, hklt, hki]
                refine hQ' (H2.length + 1, H2.length) _ _ (by simp [upF, Fr.get, Up.refl]) ⟨List.prefix_append _ _, ⟨true, by simp⟩, by simp [ints]⟩
              · simp (maxSteps := 1000000) [go_sem, l0, li', lk, hlp, hilt, hii, hklt, hki]
                refine hQ' (H2.length, H2.length + 1) _ _ (by simp [upF, Fr.get, Up.refl]) ⟨List.prefix_append _ _, ⟨true, by simp⟩, by simp [ints]⟩
            · rintro ⟨z, y⟩ H3 ⟨hp3, hz3, hy3⟩
              simp only at hz3 hy3
              have cz : cellsAt H3 z 0 1 = some [.slice (some ⟨y, 0, none⟩) 3 3] := hz3.cell (o := 0) rfl
              have hyl := (List.getElem?_eq_some_iff.1 hy3).1
              obtain ⟨zo, hzb⟩ := hz3
              have hzl := (List.getElem?_eq_some_iff.1 hzb).1
              have upt : ∀ {HH : Heap}, HH[y]? = some ⟨ints [a, b, c], true, true⟩ → Up HH (.slice (some ⟨y, 0, none⟩) 3 3) (lv 1 y 0 3) := fun hy => Up.ex (by omega) (.inr (by rw [cellsAt_of hy rfl (by simp [ints])]; rfl))
              have att : ∀ {HH : Heap}, HH[y]? = some ⟨ints [a, b, c], true, true⟩ → IntsAt HH (lv 1 y 0 3) [a, b, c] := fun hy => ⟨y, 0, rfl, Holds.at ⟨true, hy⟩, by simp⟩
              simp (maxSteps := 1000000) [go_sem, cz]
              refine ACalls.up (args' := [.int .i64 v, lv 1 y 0 3]) ⟨Up.refl _ _, upt hy3, trivial⟩ ?_
              refine isTriple_ok (by omega) (att hy3) _ ?_
              cases htr : tripI v [a, b, c] with
              | false =>
                rw [htr] at hst
                simp (maxSteps := 1000000) [go_sem, hw_k]
                exact no2 (by simpa using hst) _ _ hp3 (by simp [upF, Fr.get, Up.refl])
              | true =>
                rw [htr, if_pos rfl] at hst
                have hs3 : Same (fun j => j = oid) H H3 := hs2.via (Same.of_prefix (S := fun _ => False) hp3) (fun _ _ h => h.elim)
                have hla3 := leftAt hs3
                rw [hL] at hla3
                simp (maxSteps := 1000000) [go_sem]
                refine cloneI_ok hla3 (by omega) _ ?_
                intro H4 cl hp4 hcl
                obtain ⟨q, ⟨rfl, hqb, _⟩, hqs⟩ := hcl
                have hqb := hqb.resolve_left hlne
                have hqs := hqs hlne
                have hz4 : H4[z]? = some ⟨[.slice (some ⟨y, 0, none⟩) 3 3], true, zo⟩ := Same.get (S := fun _ => False) (Same.of_prefix hp4) hzb (fun h => h)
                have hy4 := Same.get (S := fun _ => False) (Same.of_prefix hp4) hy3 (fun h => h)
                rw [hL]
                simp (maxSteps := 1000000) [go_sem]
                refine deleteFuncI_ok (fs := []) (cs := [.pointer (some ⟨z, 0, none⟩)]) (P := fun x => decide (x ∈ [a, b, c])) hqb hL (by omega) ?_ _ ?_
                · intro HH x P2 hsS hP2
                  show ACalls Try.prog 157 [.int .i64 x, .pointer (some ⟨z, 0, none⟩)] HH P2
                  refine acalls_vc (rs := [.tmp 3]) Try.func157 rfl rfl Try.ntmps157 rfl rfl ?_
                  have hz5 := hsS.get hz4 (by have := hqs.1; omega)
                  have hy5 := hsS.get hy4 (by have := hqs.1; omega)
                  have cz5 : cellsAt HH z 0 1 = some [.slice (some ⟨y, 0, none⟩) 3 3] := Holds.cell (o := 0) ⟨zo, hz5⟩ rfl
                  simp (maxSteps := 1000000) [go_sem, cz5]
                  refine ACalls.up (args' := [lv 1 y 0 3, .int .i64 x]) ⟨upt hy5, Up.refl _ _, trivial⟩ ?_
                  refine containsI_ok (att hy5) _ ?_
                  simp (maxSteps := 1000000) [go_sem]
                  simpa using hP2 HH (List.prefix_refl _)
                · intro H5 rst hsS hrb
                  have hlH4 := hp4.length_le
                  have hqs1 := hqs.1
                  have hp35 : H3 <+: H5 := ((Same.of_prefix hp4).trans hsS).prefix (by rintro j hj rfl; omega)
                  have hp25 := hp3.trans hp35
                  have hz5 := Same.get (S := fun _ => False) (Same.of_prefix hp35) hzb (fun h => h)
                  have hy5 := Same.get (S := fun _ => False) (Same.of_prefix hp35) hy3 (fun h => h)
                  have cz5 : cellsAt H5 z 0 1 = some [.slice (some ⟨y, 0, none⟩) 3 3] := Holds.cell (o := 0) ⟨zo, hz5⟩ rfl
                  have hRLe : (left.filter fun x => !decide (x ∈ [a, b, c])) = restL left [a, b, c] := rfl
                  rw [hRLe] at hrb ⊢
                  obtain ⟨RL, hRL⟩ : ∃ RL, restL left [a, b, c] = RL := ⟨_, rfl⟩
                  rw [hRL] at hrb hst hrl ⊢
                  have hatR : At H5 q 0 (ints RL) := .inr (by rw [cellsAt_of hrb rfl (by simp [ints]), List.drop_zero, List.take_left' rfl])
                  have hs5 : Same (fun j => j = oid) H H5 := hs3.via (Same.of_prefix (S := fun _ => False) hp35) (fun _ _ h => h.elim)
                  obtain ⟨vs5, p1, p2, p3⟩ := nowAt hs5
                  rw [hN] at p1
                  simp (maxSteps := 1000000) [go_sem]
                  refine AWp.drawF mixed [5] [(0, false), (1, false), (2, false), (4, false), (7, false), (3, true), (5, true), (6, false), (8, false), (9, false)] (.one 0 false (.one 1 false (.one 2 false (.one 4 false (.one 7 false (.two 3 true (.one 5 true (.one 6 false (.one 8 false (.one 9 false .nil)))) 5 (.one 3 true (.one 6 false (.one 8 false (.one 9 false .nil)))))))))) (by kernel_rfl) ?_
                  simp (maxSteps := 1000000) [go_sem, cz5]
                  refine vT_two ?_ ?_
                  · simp (maxSteps := 1000000) [go_sem, cz5]
                    refine cloneSS_oe p2 (by omega) (by omega) _ ?_
                    intro H6 w hp6 hw
                    obtain ⟨aw, rfl⟩ := hw.shape
                    simp (maxSteps := 1000000) [go_sem, hp6]
                    have hpX : H6 <+: H6 ++ [⟨[.slice (some ⟨y, 0, none⟩) 3 3], true, true⟩] := List.prefix_append _ _
                    have hsX : cellsAt (H6 ++ [(⟨[.slice (some ⟨y, 0, none⟩) 3 3], true, true⟩ : Blk)]) H6.length 0 1 = some [.slice (some ⟨y, 0, none⟩) 3 3] := by rw [cellsAt_of (b := ⟨[.slice (some ⟨y, 0, none⟩) 3 3], true, true⟩) (by simp) rfl (by simp)]; rfl
                    have hwX := hw.pre hpX
                    have hle6 := hp6.length_le
                    have hleX := hpX.length_le
                    have hp5X := hp6.trans hpX
                    generalize H6 ++ [(⟨[.slice (some ⟨y, 0, none⟩) 3 3], true, true⟩ : Blk)] = HX at hpX hsX hwX hleX hp5X ⊢
                    obtain ⟨w7, H7, hap, hw7, hk7, hl7⟩ := hwX.append (m := 1) (news := [.slice (some ⟨y, 0, none⟩) 3 3]) (by omega) (by omega) rfl
                    have hp57 : H5 <+: H7 := KeepL.prefix hp5X (Nat.le_refl _) hk7 hl7
                    obtain ⟨id7, hid7, rfl, hbk7⟩ : ∃ id, H5.length ≤ id ∧ w7 = lv 1 id 0 (N + 1) ∧ H7[id]? = some ⟨vs5 ++ [.slice (some ⟨y, 0, none⟩) 3 3], true, true⟩ := by
                      rcases hw7.2 with ⟨e, _⟩ | ⟨id, e, _⟩ | ⟨id, x1, x2, x3⟩
                      · omega
                      · omega
                      · rcases x3 with ⟨e, _⟩ | x3
                        · omega
                        · exact ⟨id, by omega, x2, x3⟩
                    simp (maxSteps := 1000000) [go_sem, hp6, hsX, hap]
                    refine andK_intro (by omega) ?_
                    have hy7 := Same.get (S := fun _ => False) (Same.of_prefix hp57) hy5 (fun h => h)
                    have hr7 : RowsAt H7 id7 0 (now ++ [[a, b, c]]) := by
                      refine ⟨vs5 ++ [.slice (some ⟨y, 0, none⟩) 3 3], by simp; omega, Holds.at ⟨true, hbk7⟩, ?_⟩
                      intro j u xs hu hxs
                      by_cases hj : j < N
                      · rw [List.getElem?_append_left (by omega)] at hu hxs
                        exact ⟨(p3 j u xs hu hxs).1.pre hp57, (p3 j u xs hu hxs).2⟩
                      · have hjl := (List.getElem?_eq_some_iff.1 hu).1
                        rw [List.length_append, List.length_singleton] at hjl
                        obtain rfl : j = N := by omega
                        rw [List.getElem?_append_right (by omega), show j - vs5.length = 0 by omega] at hu
                        rw [List.getElem?_append_right (by omega), show j - now.length = 0 by omega] at hxs
                        cases hu; cases hxs
                        exact ⟨.inr ⟨y, rfl, att hy7, hy7⟩, by simp⟩
                    have hp27 := hp25.trans hp57
                    have hN1 : (now ++ [[a, b, c]]).length = N + 1 := by rw [List.length_append, hN]; rfl
                    have hl1 : (es ++ e2).length = es.length + e2.length := List.length_append
                    have ho2l := ho2.2.1.lt
                    have hle27 := hp25.length_le
                    have hrec := ih (H0 := H0) (H := H7) (oid := o2) (ib := ib) (ni := id7) (no := 0) (li := q) (lo := 0) (es := es ++ e2) (v := v) (now := now ++ [[a, b, c]]) (left := RL) hv (by omega) (by omega) (by omega) (ho2.pre hp27) (by omega) hr7 (fun _ => by omega) (hatR.pre hp57) (.inl (by simp))
                    rw [hl1, hN1] at hrec
                    refine hrec _ ?_
                    intro H8 o3 e3 hs8 ho8 hoo8 hx8
                    have hle7 := hp27.length_le
                    simp (maxSteps := 1000000) [go_sem, hw_k]
                    refine hK2 (k + 1, o3, e2 ++ e3) _ _ (by simp only; omega) (by simp [upF, Fr.get, Up.refl, Nat.add_assoc]) ⟨by simp only; omega, by simp only; omega, by simp only [hsucc, hst, List.map_append, hx8, hx2, List.append_assoc], ?_, by rw [← List.append_assoc]; exact ho8, ?_⟩
                    · refine (hs2.via (Same.of_prefix (S := fun _ => False) hp27) (fun _ _ h => h.elim)).via hs8 (fun j hj e => ?_)
                      subst e
                      rcases hoo2 with e | e
                      · exact e
                      · omega
                    · have h9 := hs2.1
                      show o3 = oid ∨ H.length ≤ o3
                      rcases hoo8 with rfl | e
                      · exact hoo2
                      · exact .inr (by omega)
                  · simp (maxSteps := 1000000) [go_sem, cz5]
                    have hpX : H5 <+: H5 ++ [⟨[.slice (some ⟨y, 0, none⟩) 3 3], true, true⟩] := List.prefix_append _ _
                    have hsX : cellsAt (H5 ++ [(⟨[.slice (some ⟨y, 0, none⟩) 3 3], true, true⟩ : Blk)]) H5.length 0 1 = some [.slice (some ⟨y, 0, none⟩) 3 3] := by rw [cellsAt_of (b := ⟨[.slice (some ⟨y, 0, none⟩) 3 3], true, true⟩) (by simp) rfl (by simp)]; rfl
                    have hleX := hpX.length_le
                    generalize H5 ++ [(⟨[.slice (some ⟨y, 0, none⟩) 3 3], true, true⟩ : Blk)] = HX at hpX hsX hleX ⊢
                    refine cloneSS_oe (p2.pre hpX) (by omega) (by omega) _ ?_
                    intro H6 w hp6 hw
                    obtain ⟨aw, rfl⟩ := hw.shape
                    have hle6 := hp6.length_le
                    have hsX := cellsAt_mono' hp6 hsX
                    obtain ⟨w7, H7, hap, hw7, hk7, hl7⟩ := hw.append (m := 1) (news := [.slice (some ⟨y, 0, none⟩) 3 3]) (by omega) (by omega) rfl
                    have hp57 : H5 <+: H7 := hpX.trans (KeepL.prefix hp6 (Nat.le_refl _) hk7 hl7)
                    obtain ⟨id7, hid7, rfl, hbk7⟩ : ∃ id, H5.length ≤ id ∧ w7 = lv 1 id 0 (N + 1) ∧ H7[id]? = some ⟨vs5 ++ [.slice (some ⟨y, 0, none⟩) 3 3], true, true⟩ := by
                      rcases hw7.2 with ⟨e, _⟩ | ⟨id, e, _⟩ | ⟨id, x1, x2, x3⟩
                      · omega
                      · omega
                      · rcases x3 with ⟨e, _⟩ | x3
                        · omega
                        · exact ⟨id, by omega, x2, x3⟩
                    simp (maxSteps := 1000000) [go_sem, hp6, hsX, hap]
                    refine andK_intro (by omega) ?_
                    have hy7 := Same.get (S := fun _ => False) (Same.of_prefix hp57) hy5 (fun h => h)
                    have hr7 : RowsAt H7 id7 0 (now ++ [[a, b, c]]) := by
                      refine ⟨vs5 ++ [.slice (some ⟨y, 0, none⟩) 3 3], by simp; omega, Holds.at ⟨true, hbk7⟩, ?_⟩
                      intro j u xs hu hxs
                      by_cases hj : j < N
                      · rw [List.getElem?_append_left (by omega)] at hu hxs
                        exact ⟨(p3 j u xs hu hxs).1.pre hp57, (p3 j u xs hu hxs).2⟩
                      · have hjl := (List.getElem?_eq_some_iff.1 hu).1
                        rw [List.length_append, List.length_singleton] at hjl
                        obtain rfl : j = N := by omega
                        rw [List.getElem?_append_right (by omega), show j - vs5.length = 0 by omega] at hu
                        rw [List.getElem?_append_right (by omega), show j - now.length = 0 by omega] at hxs
                        cases hu; cases hxs
                        exact ⟨.inr ⟨y, rfl, att hy7, hy7⟩, by simp⟩
                    have hp27 := hp25.trans hp57
                    have hN1 : (now ++ [[a, b, c]]).length = N + 1 := by rw [List.length_append, hN]; rfl
                    have hl1 : (es ++ e2).length = es.length + e2.length := List.length_append
                    have ho2l := ho2.2.1.lt
                    have hle27 := hp25.length_le
                    have hrec := ih (H0 := H0) (H := H7) (oid := o2) (ib := ib) (ni := id7) (no := 0) (li := q) (lo := 0) (es := es ++ e2) (v := v) (now := now ++ [[a, b, c]]) (left := RL) hv (by omega) (by omega) (by omega) (ho2.pre hp27) (by omega) hr7 (fun _ => by omega) (hatR.pre hp57) (.inl (by simp))
                    rw [hl1, hN1] at hrec
                    refine hrec _ ?_
                    intro H8 o3 e3 hs8 ho8 hoo8 hx8
                    have hle7 := hp27.length_le
                    simp (maxSteps := 1000000) [go_sem, hw_k]
                    refine hK2 (k + 1, o3, e2 ++ e3) _ _ (by simp only; omega) (by simp [upF, Fr.get, Up.refl, Nat.add_assoc]) ⟨by simp only; omega, by simp only; omega, by simp only [hsucc, hst, List.map_append, hx8, hx2, List.append_assoc], ?_, by rw [← List.append_assoc]; exact ho8, ?_⟩
                    · refine (hs2.via (Same.of_prefix (S := fun _ => False) hp27) (fun _ _ h => h.elim)).via hs8 (fun j hj e => ?_)
                      subst e
                      rcases hoo2 with e | e
                      · exact e
                      · omega
                    · have h9 := hs2.1
                      show o3 = oid ∨ H.length ≤ o3
                      rcases hoo8 with rfl | e
                      · exact hoo2
                      · exact .inr (by omega)
          · have : k = L := by omega
            subst this
            have hki : ¬ ((k : Int) < k) := by omega
            simp (maxSteps := 1000000) [go_sem, hw_i]
            refine hK (i + 1, o2, e2) _ _ (by simp only; omega) (by simp [upF, Fr.get, Up.refl]) ⟨by simp only; omega, by simp only; omega, ?_, hs2, ho2, hoo2⟩
            simp only [upTo_succ hi1, List.flatMap_append, ← hx1]
            rw [hx2]; simp [rowI]
      · have : i = L := by omega
        subst this
        simp (maxSteps := 1000000) [go_sem]
        refine h H1 o1 e1 hs1 ho1 hoo1 (by rw [hfam, hx1])

end Go.Proofs.Ytdfeoccjllljiaa
end

section
/- DifferenceFamilies: the implementation's side. -/
set_option linter.all false
set_option maxRecDepth 20000
set_option maxHeartbeats 8000000
namespace Go.Proofs.Ytdfeoccjllljiaa
open Go.Ab Go.Sort

theorem diffL_le6 {v : Int} : (diffL v).length ≤ 6 ∧ diffL v ≠ [] := by unfold diffL; split <;> (try split) <;> simp
theorem implFams_ok {H : Heap} {v : Int} (hv : In64 v) (Post : Value → Heap → Prop) (h : ∀ H' w, H <+: H' → FamsIn H.length H'.length H' w (rFams v).1 → Post (.tuple #[w, .int .i64 (rFams v).2]) H') :
    ACalls Try.prog 49 [.int .i64 v] H Post := by
  refine ACalls.res ?_
  refine acalls_vc (rs := [.tmp 2, .tmp 3]) Try.func49 rfl rfl Try.ntmps49 rfl rfl ?_
  simp (maxSteps := 1000000) [go_sem]
  refine isCyclic_ok _ ?_
  cases hn : numB v with
  | false =>
    have fin := h H (lv 1 0 0 0) (List.prefix_refl _) (by rw [rFams, hn]; exact FamsIn.nil _ _ _)
    rw [rFams, hn] at fin
    simp (maxSteps := 1000000) [go_sem]
    exact ⟨_, Up.tuple (ys := #[lv 1 0 0 0, .int .i64 2]) ⟨Up.nil _ _ _ _, Up.refl _ _, trivial⟩, fin⟩
  | true =>
  have hN := numB_iff.1 hn
  have hr : rFams v = ([famOf v], 0) := by rw [rFams, hn]; rfl
  rw [hr] at h
  have hgo := famI_of hN
  obtain ⟨xss, hxss⟩ : ∃ xss, famOf v = xss := ⟨_, rfl⟩
  have hrows : ∀ xs ∈ xss, xs.length = 3 := hxss ▸ famOf_rows
  have hxl : xss.length ≤ 2 := hxss ▸ famOf_len2
  rw [hxss] at hgo h
  have w1 : IntKind.i64.wrap 1 = 1 := i64w (by omega) (by omega)
  obtain ⟨hd6, hdn⟩ := @diffL_le6 v
  simp (maxSteps := 1000000) [go_sem]
  refine differences_ok hN _ ?_
  intro H1 dd hp1 hdd
  obtain ⟨ld, ⟨rfl, hdb, _⟩, hds⟩ := hdd
  have hdb := hdb.resolve_left hdn
  simp (maxSteps := 1000000) [go_sem]
  refine ACalls.addGhost ?_
  have hpg : H1 <+: H1 ++ [⟨[], false, false⟩] := List.prefix_append _ _
  have hog := OL.ghost 1 H1
  generalize H1 ++ [(⟨[], false, false⟩ : Blk)] = HG at hpg hog ⊢
  have hl1 := hp1.length_le
  refine ACalls.up (args' := [lv 1 H1.length 0 0, .int .i64 v, lv 1 0 0 0, lv 1 ld 0 (diffL v).length]) ⟨Up.nil _ _ _ _, Up.refl _ _, Up.nil _ _ _ _, Up.refl _ _, trivial⟩ ?_
  refine families_ok 7 (H0 := H) (H := HG) (oid := H1.length) (ib := 0) (ni := 0) (no := 0) (li := ld) (lo := 0) (es := []) (v := v) (now := []) (left := diffL v) hN (by omega) hd6 (by simp; omega)
    ⟨hp1.trans hpg, hog, hl1, by simp⟩ (by simp; omega) ⟨[], rfl, .inl rfl, by simp⟩ (fun e => absurd rfl e) (Holds.at ⟨true, Same.get (S := fun _ => False) (Same.of_prefix hpg) hdb (fun h => h)⟩) (.inr hdn) _ ?_
  intro H2 o2 es2 hs2 ho2 hoo2 hx2
  rw [hgo] at hx2
  obtain ⟨e, rfl⟩ : ∃ e, es2 = [e] := by
    match es2, hx2 with
    | [e], _ => exact ⟨e, rfl⟩
  have hex : e.x = xss := by simpa using hx2
  rw [List.nil_append] at ho2
  obtain ⟨vs, v1, v2, v3⟩ := (ho2.2.2.2 e (by simp)).1
  rw [hex] at v1 v3
  have hob : H2[o2]? = some ⟨[lv 1 e.i e.o xss.length], true, true⟩ := by
    have := ho2.2.1.2.resolve_left (by rintro ⟨e, _⟩; simp at e)
    simpa [El.val, hex] using this
  have hol := ho2.2.1.lt
  have hge := ho2.2.2.1
  have c0 : cellsAt H2 o2 0 1 = some [lv 1 e.i e.o xss.length] := Holds.cell (o := 0) ⟨true, hob⟩ rfl
  obtain ⟨n, hnx⟩ : ∃ n, xss.length = n := ⟨_, rfl⟩
  rw [hnx] at c0 hob v1 hxl
  simp (maxSteps := 1000000) [go_sem]
  refine AWp.loopVc (St := Nat) (fun s => [(4, lv 1 o2 0 1), (14, lv 1 o2 0 1), (15, .int .i64 1), (16, .int .i64 s)])
    (fun s H3 => s ≤ 1 ∧ (s = 0 → H3 = H2) ∧ (s = 1 → H <+: H3 ∧ FamsIn H.length H3.length H3 (lv 1 o2 0 1) [xss])) (fun s => 1 - s) 0 ?_ ?_ ?_
  · simp [upF, Fr.get, Up.refl]
  · exact ⟨by omega, fun _ => rfl, fun e => by omega⟩
  · rintro K s H3 ⟨hs, z0, z1⟩ hK
    obtain rfl | rfl : s = 0 ∨ s = 1 := by omega
    · obtain rfl := z0 rfl
      simp (maxSteps := 1000000) [go_sem, c0]
      refine copyLists_ok v2 v1 hnx v3 hrows (by omega) _ ?_
      intro H4 w hp4 hw
      obtain ⟨iw, mw, rfl⟩ : ∃ i m, w = lv 1 i 0 m := by obtain ⟨i, rows, e, _⟩ := hw; exact ⟨i, _, e⟩
      have hob4 := Same.get (S := fun _ => False) (Same.of_prefix hp4) hob (fun h => h)
      obtain ⟨st, hld, hS5, hl5⟩ := boxLate (cs := [lv 1 iw 0 mw]) hob4 (List.prefix_refl _) rfl rfl
      have hl4 := hp4.length_le
      generalize H4.set o2 ⟨[lv 1 iw 0 mw], true, true⟩ = H5 at st hld hS5 hl5
      simp (maxSteps := 1000000) [go_sem, st, w1]
      refine hK 1 _ _ (by omega) (by simp [upF, Fr.get, Up.refl]) ⟨by omega, fun e => by omega, fun _ => ⟨?_, o2, rfl, by simp, fun ys hy => ?_⟩⟩
      · exact ((Same.of_prefix (ho2.1.trans hp4)).trans hS5).prefix (by rintro j hj rfl; omega)
      · cases hy
        exact ⟨⟨hge, by omega⟩, lv 1 iw 0 mw, H3.length, H4.length, hld, hw.keep hS5 (by rintro j ⟨x1, x2⟩ rfl; omega), by omega, by omega, .inl hol⟩
    · obtain ⟨x1, x2⟩ := z1 rfl
      have fin := h H3 _ x1 x2
      simp (maxSteps := 1000000) [go_sem]
      exact ⟨_, Up.refl _ _, fin⟩

end Go.Proofs.Ytdfeoccjllljiaa
end

section
/- The law on DifferenceFamilies, in abstract terms: its code returns true, for every input. -/
set_option linter.all false
set_option maxRecDepth 20000
set_option maxHeartbeats 8000000
namespace Go.Proofs.Ytdfeoccjllljiaa
open Go.Ab

theorem lawFnExactDifferenceFamilies (H : Heap) (avs : List Value) (h : argsSay [shInt] H avs) : ACalls Try.prog 9 avs H fun v _ => v = .bool true := by
  obtain ⟨_, _, rfl, a0, rfl⟩ := h
  obtain ⟨n0, rfl, hn0⟩ := says_shInt' a0
  refine acalls_vc (rs := [.tmp 2]) Try.func9 rfl rfl Try.ntmps9 rfl rfl ?_
  try simp (maxSteps := 1000000) [go_sem, sysV]
  refine specFams_ok hn0 _ ?_
  intro H1 wH1_0 hp1 hoH1_0
  have hlH1 := hp1.length_le
  try simp (maxSteps := 1000000) [go_sem, sysV]
  refine implFams_ok hn0 _ ?_
  intro H2 wH2_0 hp2 hoH2_0
  replace hoH1_0 := hoH1_0.pre hp2
  have hlH2 := hp2.length_le
  try simp (maxSteps := 1000000) [go_sem, sysV]
  refine eqFs_ok hoH2_0.read hoH1_0.read _ ?_
  try simp (maxSteps := 1000000) [go_sem, sysV]
  obtain ⟨TrH2_0, hTrH2_0⟩ : ∃ T : Nat, T = ((rFams n0).1).flatten.flatten.length := ⟨_, rfl⟩
  refine markFs_ok hoH2_0 hTrH2_0 (by omega) (by omega) _ ?_
  intro H3 hs3 mk3
  replace hoH1_0 := hoH1_0.keep hs3 (by rintro j ⟨h1, h2⟩ ⟨h3, h4⟩; omega)
  have hlH3 := hs3.1
  have hng3 : decide ((1 : Int) + (TrH2_0 : Int) < 0) = false := by simp only [decide_eq_false_iff_not]; omega
  try simp only [Int.natCast_mul, Int.cast_ofNat_Int] at hng3
  try simp (maxSteps := 1000000) [go_sem, hng3, sysV]
  refine heldFs_ok mk3 hTrH2_0 (by omega) (by omega) _ ?_
  try simp (maxSteps := 1000000) [go_sem, hng3, sysV]
  refine implFams_ok hn0 _ ?_
  intro H4 wH4_0 hp4 hoH4_0
  replace hoH1_0 := hoH1_0.pre hp4
  replace mk3 := mk3.pre hp4
  have hlH4 := hp4.length_le
  try simp (maxSteps := 1000000) [go_sem, hng3, sysV]
  refine eqFs_ok hoH4_0.read hoH1_0.read _ ?_
  try simp (maxSteps := 1000000) [go_sem, hng3, sysV]
  refine heldFs_ok mk3 hTrH2_0 (by omega) (by omega) _ ?_
  try simp (maxSteps := 1000000) [go_sem, hng3, sysV]

end Go.Proofs.Ytdfeoccjllljiaa
end
