/- Contracts of the laws' own helpers over lists of numbers. They hold for every program that holds these functions. -/
import Derived.Test.YtkgjdmbmdnmilaaBase
import Derived.Test.YtkgjdmbmdnmilaaOwn
set_option linter.all false
namespace Go.Proofs.Ytkgjdmbmdnmilaa
open Go.Ab

theorem eqInt64S_ok {H : Heap} {u v : Value} {xs ys : List Int} (hu : IntsAt H u xs) (hv : IntsAt H v ys) (Post : Value → Heap → Prop) (h : Post (.bool (decide (xs = ys))) H) :
    ACalls Try.prog 46 [u, v] H Post := by
  obtain ⟨i, o, rfl, h1, h2⟩ := hu
  obtain ⟨j, q, rfl, h3, h4⟩ := hv
  refine acalls_vc (rs := [.tmp 4]) Try.func46 rfl rfl Try.ntmps46 rfl rfl ?_
  simp (maxSteps := 1000000) [go_sem]
  refine condK_intro (fun hne => ?_) (fun heq => ?_)
  · have : xs ≠ ys := by rintro rfl; simp at hne
    simpa [this] using h
  · have hlen : xs.length = ys.length := by simp at heq; omega
    refine AWp.loopVc (fun s : Nat => [(0, lv 1 i o xs.length), (1, lv 1 j q ys.length), (5, .int .i64 s)]) (fun s H' => H' = H ∧ s ≤ xs.length ∧ xs.take s = ys.take s) (fun s => xs.length - s) 0 ?_ ?_ ?_
    · simp [upF, Fr.get, Up.refl]
    · simp
    · rintro K s H' ⟨rfl, hs, ht⟩ hK
      simp (maxSteps := 1000000) [go_sem]
      refine condK_intro (fun hlt => ?_) (fun hge => ?_)
      · have hlt : s < xs.length := by simpa using hlt
        have c1 := h1.cell (k := s) (v := .int .i64 xs[s]) (by simp [ints_get, hlt])
        have c2 := h3.cell (k := s) (v := .int .i64 (ys[s]'(by omega))) (by simp [ints_get, hlen ▸ hlt])
        have hw : IntKind.i64.wrap ((s : Int) + 1) = (s : Int) + 1 := i64w (by omega) (by omega)
        refine AWp.draw mixed [(0, false), (1, false), (2, false), (3, false), (4, false), (5, false), (6, false), (7, false), (8, false)] (by kernel_rfl) ?_
        simp (maxSteps := 1000000) [go_sem, hlt, hlen ▸ hlt, c1, c2, hw]
        refine condK_intro (fun hne => ?_) (fun heq => ?_)
        · have : xs ≠ ys := by rintro rfl; simp at hne
          simpa [this] using h
        · refine hK (s + 1) _ _ (by omega) (by simp [upF, Fr.get, Up.refl]) ⟨rfl, by omega, ?_⟩
          have he : xs[s] = ys[s]'(by omega) := by simpa using heq
          rw [List.take_succ_eq_append_getElem hlt, List.take_succ_eq_append_getElem (by omega), ht, he]
      · have : s = xs.length := by simp at hge; omega
        subst this
        rw [List.take_length, hlen, List.take_length] at ht
        simpa [ht] using h

theorem heldInt64S_ok {H : Heap} {u : Value} {k : Int} {n : Nat} (hu : IntsAt H u (upFrom k n)) (hk0 : 0 ≤ k) (hk : k + n ≤ 9223372036854775807) (Post : Value → Heap → Prop) (h : Post (.int .i64 (k + n)) H) :
    ACalls Try.prog 49 [u, .int .i64 k] H Post := by
  obtain ⟨i, o, rfl, h1, h2⟩ := hu
  rw [upFrom_length] at *
  refine acalls_vc (rs := [.tmp 4]) Try.func49 rfl rfl Try.ntmps49 rfl rfl ?_
  simp (maxSteps := 1000000) [go_sem]
  refine AWp.loopVc (fun s : Nat => [(0, lv 1 i o n), (1, .int .i64 (k + s)), (5, .int .i64 s)]) (fun s H' => H' = H ∧ s ≤ n) (fun s => n - s) 0 ?_ ?_ ?_
  · simp [upF, Fr.get, Up.refl]
  · simp
  · rintro K s H' ⟨rfl, hs⟩ hK
    by_cases hlt : s < n
    · have c1 := h1.cell (k := s) (v := .int .i64 (k + s)) (by simp [ints_get, upFrom_get hlt])
      have hw : IntKind.i64.wrap ((s : Int) + 1) = (s : Int) + 1 := i64w (by omega) (by omega)
      have hw2 : IntKind.i64.wrap (k + s + 1) = k + s + 1 := i64w (by omega) (by omega)
      simp (maxSteps := 1000000) [go_sem, hlt, c1, hw, hw2]
      exact hK (s + 1) _ _ (by omega) (by simp [upF, Fr.get, Up.refl, Int.add_assoc]) ⟨rfl, by omega⟩
    · have : s = n := by omega
      subst this
      simp (maxSteps := 1000000) [go_sem]
      exact h

theorem set_same {H : Heap} {i : Nat} {b : Blk} (h : H[i]? = some b) : H.set i b = H := by
  apply List.ext_getElem?
  intro j
  by_cases e : i = j
  · subst e; rw [List.getElem?_set_self (List.getElem?_eq_some_iff.1 h).1, h]
  · rw [List.getElem?_set_ne e]

theorem setInts_get {H : Heap} {i j : Nat} {xs : List Int} (hj : j ≠ i) : (setInts H i xs)[j]? = H[j]? := by
  unfold setInts
  split
  · rfl
  · exact List.getElem?_set_ne (fun e => hj e.symm)

theorem markInt64S_ok {H : Heap} {i : Nat} {k : Int} {xs : List Int} (hu : xs = [] ∨ H[i]? = some ⟨ints xs, true, true⟩) (hl : xs.length ≤ 140737488355328) (hk0 : 0 ≤ k) (hk : k + xs.length ≤ 9223372036854775807) (Post : Value → Heap → Prop)
    (h : Post (.int .i64 (k + xs.length)) (setInts H i (upFrom k xs.length))) :
    ACalls Try.prog 48 [lv 1 i 0 xs.length, .int .i64 k] H Post := by
  refine acalls_vc (rs := [.tmp 4]) Try.func48 rfl rfl Try.ntmps48 rfl rfl ?_
  simp (maxSteps := 1000000) [go_sem]
  refine AWp.loopVc (fun s : Nat => [(0, lv 1 i 0 xs.length), (1, .int .i64 (k + s)), (5, .int .i64 s)]) (fun s H' => s ≤ xs.length ∧ ((xs = [] ∧ H' = H) ∨ (H[i]? = some ⟨ints xs, true, true⟩ ∧ H' = H.set i ⟨ints (upFrom k s ++ xs.drop s), true, true⟩))) (fun s => xs.length - s) 0 ?_ ?_ ?_
  · simp [upF, Fr.get, Up.refl]
  · refine ⟨by omega, ?_⟩
    rcases hu with hu | hu
    · exact .inl ⟨hu, rfl⟩
    · refine .inr ⟨hu, ?_⟩
      simp only [upFrom, List.range_zero, List.map_nil, List.nil_append, List.drop_zero]
      exact (set_same hu).symm
  · rintro K s H' ⟨hs, hH⟩ hK
    by_cases hlt : s < xs.length
    · rcases hH with ⟨rfl, _⟩ | ⟨hb, rfl⟩
      · simp at hlt
      · have hi : i < H.length := (List.getElem?_eq_some_iff.1 hb).1
        have hlen : (ints (upFrom k s ++ xs.drop s)).length = xs.length := by simp [ints_length, upFrom_length]; omega
        have hst : storeAt (H.set i ⟨ints (upFrom k s ++ xs.drop s), true, true⟩) i s [.int .i64 (k + s)] = some (H.set i ⟨ints (upFrom k (s + 1) ++ xs.drop (s + 1)), true, true⟩) := by
          rw [storeAt_of (b := ⟨ints (upFrom k s ++ xs.drop s), true, true⟩) (by simp [hi]) rfl rfl (by show s + 1 ≤ (ints _).length; omega) (by simp [Value.oneCell'])]
          rw [over_one (by show s < (ints _).length; omega), ints_set, List.set_set]
          congr 4
          rw [List.set_append_right _ _ (by rw [upFrom_length]; omega), upFrom_length, Nat.sub_self, List.drop_eq_getElem_cons hlt, List.set_cons_zero, ← upFrom_append k s 1]
          simp [upFrom]
        have hw : IntKind.i64.wrap ((s : Int) + 1) = (s : Int) + 1 := i64w (by omega) (by omega)
        have hw2 : IntKind.i64.wrap (k + s + 1) = k + s + 1 := i64w (by omega) (by omega)
        simp (maxSteps := 1000000) [go_sem, hlt, hst, hw, hw2]
        exact hK (s + 1) _ _ (by omega) (by simp [upF, Fr.get, Up.refl, Int.add_assoc]) ⟨by omega, .inr ⟨hb, rfl⟩⟩
    · have : s = xs.length := by omega
      subst this
      simp (maxSteps := 1000000) [go_sem]
      have e : H' = setInts H i (upFrom k xs.length) := by
        unfold setInts
        rcases hH with ⟨rfl, rfl⟩ | ⟨hb, rfl⟩
        · simp [upFrom]
        · by_cases h0 : xs = []
          · subst h0
            simp only [upFrom, List.length_nil, List.range_zero, List.map_nil, if_true, List.nil_append, List.drop_nil]
            exact set_same hb
          · rw [if_neg (by intro e; have := congrArg List.length e; rw [upFrom_length] at this; exact h0 (List.eq_nil_of_length_eq_zero this))]
            simp
      rw [e]; exact h

theorem heldInt64SS_ok {H : Heap} {u : Value} {k : Int} {xss : List (List Int)} (hu : IntssAt H u (marked k xss)) (hk0 : 0 ≤ k) (hk : k + xss.flatten.length ≤ 9223372036854775807) (Post : Value → Heap → Prop) (h : Post (.int .i64 (k + xss.flatten.length)) H) :
    ACalls Try.prog 29 [u, .int .i64 k] H Post := by
  obtain ⟨i, o, vs, rfl, hvl, h1, h2, h3⟩ := hu
  rw [marked_length] at *
  refine acalls_vc (rs := [.tmp 4]) Try.func29 rfl rfl Try.ntmps29 rfl rfl ?_
  simp (maxSteps := 1000000) [go_sem]
  refine AWp.loopVc (fun s : Nat => [(0, lv 1 i o xss.length), (1, .int .i64 (k + off xss s)), (5, .int .i64 s)]) (fun s H' => H' = H ∧ s ≤ xss.length) (fun s => xss.length - s) 0 ?_ ?_ ?_
  · simp [upF, Fr.get, Up.refl, off]
  · simp
  · rintro K s H' ⟨rfl, hs⟩ hK
    by_cases hlt : s < xss.length
    · have c1 := h1.cell (k := s) (v := vs[s]'(by omega)) (List.getElem?_eq_getElem _)
      have hx : xss[s]? = some xss[s] := List.getElem?_eq_getElem hlt
      have hu := h2 s _ (upFrom (k + (off xss s : Int)) xss[s].length) (List.getElem?_eq_getElem (by omega)) (by rw [marked_get, hx]; rfl)
      have hle := off_le' hx
      have hoff := off_succ hx
      have hw : IntKind.i64.wrap ((s : Int) + 1) = (s : Int) + 1 := i64w (by omega) (by omega)
      simp (maxSteps := 1000000) [go_sem, hlt, c1, hw]
      refine heldInt64S_ok hu (by omega) (by omega) _ ?_
      have hn : decide (k + (off xss s : Int) + (xss[s].length : Int) < 0) = false := by simp; omega
      simp (maxSteps := 1000000) [go_sem, hlt, c1, hw, hn]
      exact hK (s + 1) _ _ (by omega) (by simp [upF, Fr.get, Up.refl, hoff, Int.add_assoc]) ⟨rfl, by omega⟩
    · have : s = xss.length := by omega
      subst this
      simp (maxSteps := 1000000) [go_sem]
      rw [off_all]
      exact h

theorem eqInt64SS_ok {H : Heap} {u v : Value} {xs ys : List (List Int)} (hu : IntssAt H u xs) (hv : IntssAt H v ys) (Post : Value → Heap → Prop) (h : Post (.bool (decide (xs = ys))) H) :
    ACalls Try.prog 27 [u, v] H Post := by
  obtain ⟨i, o, us, rfl, hul, h1, hu, h2⟩ := hu
  obtain ⟨j, q, vs, rfl, hvl, h3, hv, h4⟩ := hv
  refine acalls_vc (rs := [.tmp 4]) Try.func27 rfl rfl Try.ntmps27 rfl rfl ?_
  simp (maxSteps := 1000000) [go_sem]
  refine condK_intro (fun hne => ?_) (fun heq => ?_)
  · have : xs ≠ ys := by rintro rfl; simp at hne
    simpa [this] using h
  · have hlen : xs.length = ys.length := by simp at heq; omega
    refine AWp.loopVc (fun s : Nat => [(0, lv 1 i o xs.length), (1, lv 1 j q ys.length), (5, .int .i64 s)]) (fun s H' => H' = H ∧ s ≤ xs.length ∧ xs.take s = ys.take s) (fun s => xs.length - s) 0 ?_ ?_ ?_
    · simp [upF, Fr.get, Up.refl]
    · simp
    · rintro K s H' ⟨rfl, hs, ht⟩ hK
      simp (maxSteps := 1000000) [go_sem]
      refine condK_intro (fun hlt => ?_) (fun hge => ?_)
      · have hlt : s < xs.length := by simpa using hlt
        have c1 := h1.cell (k := s) (v := us[s]'(by omega)) (List.getElem?_eq_getElem _)
        have c2 := h3.cell (k := s) (v := vs[s]'(by omega)) (List.getElem?_eq_getElem _)
        have d1 := hu s _ xs[s] (List.getElem?_eq_getElem (by omega)) (List.getElem?_eq_getElem _)
        have d2 := hv s _ (ys[s]'(by omega)) (List.getElem?_eq_getElem (by omega)) (List.getElem?_eq_getElem _)
        have hw : IntKind.i64.wrap ((s : Int) + 1) = (s : Int) + 1 := i64w (by omega) (by omega)
        refine AWp.draw mixed [(0, false), (1, false), (2, false), (3, false), (4, false), (5, false), (6, false), (7, false), (8, false), (9, false)] (by kernel_rfl) ?_
        simp (maxSteps := 1000000) [go_sem, hlt, hlen ▸ hlt, c1, c2, hw]
        refine eqInt64S_ok d1 d2 _ ?_
        simp (maxSteps := 1000000) [go_sem, hlt, hlen ▸ hlt, c1, c2, hw]
        refine condK_intro (fun hne => ?_) (fun heq => ?_)
        · have : xs ≠ ys := by rintro rfl; simp at hne
          simpa [this] using h
        · refine hK (s + 1) _ _ (by omega) (by simp [upF, Fr.get, Up.refl]) ⟨rfl, by omega, ?_⟩
          have he : xs[s] = ys[s]'(by omega) := by simpa using heq
          rw [List.take_succ_eq_append_getElem hlt, List.take_succ_eq_append_getElem (by omega), ht, he]
      · have : s = xs.length := by simp at hge; omega
        subst this
        rw [List.take_length, hlen, List.take_length] at ht
        simpa [ht] using h

theorem markInt64SS_ok {H : Heap} {u : Value} {k : Int} {rows : List (Nat × List Int)} (hu : OwnRows H u rows) (hk0 : 0 ≤ k) (hk : k + (rows.map (·.2)).flatten.length ≤ 9223372036854775807) (Post : Value → Heap → Prop)
    (h : ∀ H', H'.length = H.length → Same (fun j => ∃ r ∈ rows, r.2 ≠ [] ∧ r.1 = j) H H' → IntssAt H' u (marked k (rows.map (·.2))) → Post (.int .i64 (k + (rows.map (·.2)).flatten.length)) H') :
    ACalls Try.prog 28 [u, .int .i64 k] H Post := by
  obtain ⟨id, rfl, hat, ⟨hrows, hnd⟩, hid, hl, hls⟩ := hu
  refine acalls_vc (rs := [.tmp 4]) Try.func28 rfl rfl Try.ntmps28 rfl rfl ?_
  simp (maxSteps := 1000000) [go_sem]
  generalize hxss : rows.map (·.2) = xss at *
  have hxl : xss.length = rows.length := by simp [← hxss]
  have hx : ∀ {s : Nat} {r : Nat × List Int}, rows[s]? = some r → xss[s]? = some r.2 := fun {s r} hr => by simp [← hxss, hr]
  refine AWp.loopVc (fun s : Nat => [(0, lv 1 id 0 rows.length), (1, .int .i64 (k + off xss s)), (5, .int .i64 s)])
    (fun s H' => s ≤ rows.length ∧ H'.length = H.length ∧ Same (fun j => ∃ r ∈ rows, r.2 ≠ [] ∧ r.1 = j) H H' ∧ ∀ (a : Nat) (r : Nat × List Int), rows[a]? = some r → r.2 ≠ [] → H'[r.1]? = some ⟨ints (if a < s then upFrom (k + off xss a) r.2.length else r.2), true, true⟩) (fun s => rows.length - s) 0 ?_ ?_ ?_
  · simp [upF, Fr.get, Up.refl, off]
  · refine ⟨by omega, rfl, Same.refl _ _, fun a r hr hne => ?_⟩
    rw [if_neg (by omega)]
    exact (hrows r (List.mem_of_getElem? hr)).resolve_left hne
  · rintro K s H' ⟨hs, hlen, hsame, hcont⟩ hK
    have houter : At H' id 0 (rows.map rowVal) := by
      rcases hat with h0 | h0
      · exact .inl h0
      · right
        obtain ⟨b, hb, hbl, hbn, he⟩ := cellsAt_inv h0
        have : H'[id]? = some b := hsame.get hb (by rintro ⟨r, hr, hne, he⟩; exact hid r hr hne he)
        rw [cellsAt_of this hbl hbn, ← he]
    by_cases hlt : s < rows.length
    · have hr : rows[s]? = some rows[s] := List.getElem?_eq_getElem hlt
      have c1 := houter.cell (k := s) (v := rowVal rows[s]) (by simp [hr])
      have hw : IntKind.i64.wrap ((s : Int) + 1) = (s : Int) + 1 := i64w (by omega) (by omega)
      have hle := off_le' (hx hr)
      have hoff := off_succ (hx hr)
      have hmem := List.mem_of_getElem? hr
      simp only [rowVal, Nat.zero_add] at c1
      simp (maxSteps := 1000000) [go_sem, hlt, c1, hw]
      refine markInt64S_ok (xs := rows[s].2) ?_ (hls _ hmem) (by omega) (by omega) _ ?_
      · by_cases h0 : rows[s].2 = []
        · exact .inl h0
        · right
          have := hcont s _ hr h0
          rwa [if_neg (by omega)] at this
      simp (maxSteps := 1000000) [go_sem, hlt, c1, hw]
      refine hK (s + 1) _ _ (by omega) (by simp [upF, Fr.get, Up.refl, hoff, Int.add_assoc]) ⟨by omega, ?_, ?_, ?_⟩
      · unfold setInts; split <;> simp [hlen]
      · refine hsame.trans ⟨by unfold setInts; split <;> simp, fun j hj hjs => ?_⟩
        by_cases h0 : rows[s].2 = []
        · simp [setInts, upFrom, h0]
        · exact setInts_get (fun e => hjs ⟨_, hmem, h0, e.symm⟩)
      · intro a r ha hne
        by_cases has : a = s
        · subst has
          rw [hr] at ha; cases ha
          rw [if_pos (by omega)]
          have hlt' : rows[a].1 < H'.length := (List.getElem?_eq_some_iff.1 (hcont a _ hr hne)).1
          rw [setInts, if_neg (by intro e; have := congrArg List.length e; rw [upFrom_length] at this; exact hne (List.eq_nil_of_length_eq_zero this)), List.getElem?_set_self hlt']
        · have e1 : (setInts H' rows[s].1 (upFrom (k + (off xss s : Int)) rows[s].2.length))[r.1]? = H'[r.1]? := by
            by_cases h0 : rows[s].2 = []
            · simp [setInts, upFrom, h0]
            · exact setInts_get (fun e => hnd a s r rows[s] ha hr has hne h0 e)
          rw [e1, hcont a r ha hne]
          by_cases h1 : a < s
          · rw [if_pos h1, if_pos (by omega)]
          · rw [if_neg h1, if_neg (by omega)]
    · have : s = rows.length := by omega
      subst this
      simp (maxSteps := 1000000) [go_sem]
      rw [← hxl, off_all]
      refine h H' hlen hsame ⟨id, 0, rows.map rowVal, by rw [marked_length, hxl], by rw [marked_length, hxl]; simp, houter, ?_, by rw [marked_length, hxl]; exact hl⟩
      intro a v xs hv hxs
      rw [marked_get, ← hxss] at hxs
      simp only [List.getElem?_map, Option.map_map, Option.map_eq_some_iff] at hv hxs
      obtain ⟨r, hr, rfl⟩ := hv
      obtain ⟨r', hr', rfl⟩ := hxs
      rw [hr] at hr'; cases hr'
      have hm := List.mem_of_getElem? hr
      refine ⟨r.1, 0, by simp [rowVal, upFrom_length], ?_, by simp [upFrom_length]; exact hls r hm⟩
      by_cases h0 : r.2 = []
      · left; simp [h0, upFrom, ints]
      · have := hcont a r hr h0
        rw [if_pos (List.getElem?_eq_some_iff.1 hr).1] at this
        refine Holds.at ⟨true, ?_⟩
        simp only [Function.comp, hxss]
        exact this

end Go.Proofs.Ytkgjdmbmdnmilaa
