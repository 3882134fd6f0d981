/- TakeBlock: both sides; slices.Grow and slices.Concat over blocks. -/
import Derived.Test.YtkgjdmbmdnmilaaApp
set_option linter.all false
set_option maxRecDepth 20000
namespace Go.Proofs.Ytkgjdmbmdnmilaa
open Go.Ab

theorem specTakeBlock_ok {H : Heap} {u : Value} {p k : Int} {bs : List Bk} (hu : BlocksAt H u bs) (hl : bs.length ≤ 1048576) (hk : In64 k) (Post : Value → Heap → Prop)
    (h : ∀ H' w, H <+: H' → BlocksIn H.length H'.length H' w (rTake p bs k).1.2 → Post (.tuple #[sysV (rTake p bs k).1.1 w, .int .i64 (rTake p bs k).2]) H') :
    ACalls Try.prog 57 [sysV p u, .int .i64 k] H Post := by
  refine ACalls.res ?_
  refine acalls_vc (rs := [.cell 4 36, .tmp 5]) Try.func57 rfl rfl Try.ntmps57 rfl rfl ?_
  simp (maxSteps := 1000000) [go_sem, sysV, hu.one]
  have hp0 : H <+: H ++ [⟨[.int .i64 p, u], true, true⟩, ⟨[.int .i64 0, .slice none 0 0], true, true⟩] := List.prefix_append _ _
  have hx0 : Holds (H ++ [⟨[.int .i64 p, u], true, true⟩, ⟨[.int .i64 0, .slice none 0 0], true, true⟩]) H.length [.int .i64 p, u] := ⟨true, by simp⟩
  have hb0 : (H ++ [(⟨[.int .i64 p, u], true, true⟩ : Blk), ⟨[.int .i64 0, .slice none 0 0], true, true⟩])[H.length + 1]? = some ⟨[.int .i64 0, .slice none 0 0], true, true⟩ := by simp
  have hlen0 : (H ++ [(⟨[.int .i64 p, u], true, true⟩ : Blk), ⟨[.int .i64 0, .slice none 0 0], true, true⟩]).length = H.length + 2 := by simp
  generalize H ++ [(⟨[.int .i64 p, u], true, true⟩ : Blk), ⟨[.int .i64 0, .slice none 0 0], true, true⟩] = H0 at hp0 hx0 hb0 hlen0 ⊢
  -- what is stored at the end, and what comes of it
  have put : ∀ (H' : Heap) (cs : List Value), H0 <+: H' → cs.length = 2 → cs.all Value.oneCell' = true → storeAt H' (H.length + 1) 0 cs = some (H'.set (H.length + 1) ⟨cs, true, true⟩) ∧ cellsAt (H'.set (H.length + 1) ⟨cs, true, true⟩) (H.length + 1) 0 2 = some cs ∧ H <+: H'.set (H.length + 1) ⟨cs, true, true⟩ := by
    intro H' cs hp hcl ho
    have hb' := Same.get (S := fun _ => False) (Same.of_prefix hp) hb0 (fun h => h)
    refine ⟨?_, ?_, (show Same (fun j => j = H.length + 1) H _ from (Same.of_prefix (hp0.trans hp)).trans Same.set).prefix (by intro j hj he; omega)⟩
    · rw [storeAt_of hb' rfl rfl (by simp [hcl]) ho]
      match cs, hcl with
      | [x, y], _ => simp [over]
    · have := Holds.cells (n := 2) (o := 0) (H := H'.set (H.length + 1) ⟨cs, true, true⟩) ⟨true, List.getElem?_set_self (List.getElem?_eq_some_iff.1 hb').1⟩ (by omega)
      rw [this, List.drop_zero, List.take_of_length_le (by omega)]
  have bad : ∀ (H' : Heap) (c : Int), H <+: H' → rTake p bs k = ((0, []), c) → ∃ v', Up H' (.tuple #[.agg #[.int .i64 0, .slice none 0 0], .int .i64 c]) v' ∧ Post v' H' := by
    intro H' c hp hr
    refine ⟨_, Up.tuple (ys := #[sysV 0 (lv 3 0 0 0), .int .i64 c]) ⟨zeroSys, Up.refl _ _, trivial⟩, ?_⟩
    have := h H' (lv 3 0 0 0) hp (by rw [hr]; exact BlocksIn.nil _ _ _)
    rwa [hr] at this
  refine l01Is' (hu.pre hp0) hl _ ?_
  intro H1 hp1
  obtain ⟨d0, d1, d2⟩ := (hx0.pre hp1).sys
  cases hs : sysB p bs with
  | false =>
    obtain ⟨q1, q2, q3⟩ := put H1 [.int .i64 0, .slice none 0 0] hp1 rfl rfl
    simp (maxSteps := 1000000) [go_sem, q1, q2]
    exact bad _ 1 q3 (by simp [rTake, hs])
  | true =>
    have hlenb : u.oneCell' = true := hu.one
    obtain ⟨i, o, rfl, h1, h2⟩ := hu
    have hw : IntKind.i64.wrap ((bs.length : Int) - 1) = (bs.length : Int) - 1 := i64w (by omega) (by omega)
    simp (maxSteps := 1000000) [go_sem, d2, hw]
    refine l01In_ok _ ?_
    cases hin : inP bs.length k with
    | false =>
      have hin' := hin
      unfold inP at hin'
      rw [hin']
      obtain ⟨q1, q2, q3⟩ := put H1 [.int .i64 0, .slice none 0 0] hp1 rfl rfl
      simp (maxSteps := 1000000) [go_sem, q1, q2]
      exact bad _ 2 q3 (by simp [rTake, hs, hin])
    | true =>
      have hin' := hin
      unfold inP at hin'
      rw [hin']
      rw [inP_iff] at hin
      obtain ⟨n, rfl⟩ : ∃ n : Nat, k = n := ⟨k.toNat, by omega⟩
      simp (maxSteps := 1000000) [go_sem, d0]
      refine l01Without_ok ⟨i, o, rfl, h1.pre (hp0.trans hp1), h2⟩ hl (by omega) _ ?_
      intro H2 w hp2 hw2
      obtain ⟨q1, q2, q3⟩ := put H2 [.int .i64 p, w] (hp1.trans hp2) rfl (by simp [one_int, hw2.one])
      simp (maxSteps := 1000000) [go_sem, sysV, q1, q2]
      have hr : rTake p bs n = ((p, without bs n), 0) := by
        have : inP bs.length n = true := by rw [inP_iff]; exact hin
        simp [rTake, hs, this]
      have hl1 := hp1.length_le
      have := h _ w q3 (by rw [hr]; exact (hw2.keep (H' := H2.set (H.length + 1) ⟨[.int .i64 p, w], true, true⟩) Same.set (by rintro j ⟨h3, h4⟩ he; omega)).wider (by omega) |> (by simpa using ·))
      rw [hr] at this
      exact ⟨_, Up.refl _ _, this⟩

theorem isNumber_ok {H : Heap} {u : Value} {p x : Int} {bs : List Bk} (hu : BlocksAt H u bs) (Post : Value → Heap → Prop) (h : ∀ H', H <+: H' → Post (.bool (inP bs.length x)) H') :
    ACalls Try.prog 114 [sysV p u, .int .i64 x] H Post := by
  obtain ⟨i, o, rfl, h1, h2⟩ := hu
  refine acalls_vc (rs := [.tmp 4]) Try.func114 rfl rfl Try.ntmps114 rfl rfl ?_
  have hw : IntKind.i64.wrap ((bs.length : Int) - 1) = (bs.length : Int) - 1 := i64w (by omega) (by omega)
  simp (maxSteps := 1000000) [go_sem, sysV, hw]
  refine within_ok _ ?_
  simp (maxSteps := 1000000) [go_sem]
  exact h _ (List.prefix_append _ _)

theorem growB_ok {H : Heap} {n : Nat} (hn : n ≤ 1048576) (Post : Value → Heap → Prop) (h : ∀ H' v, H <+: H' → OE 3 H.length H' v [] 0 → Post v H') :
    ACalls Try.prog 175 [.slice none 0 0, .int .i64 n] H Post := by
  refine acalls_vc (rs := [.tmp 4]) Try.func175 rfl rfl Try.ntmps175 rfl rfl ?_
  have hw : IntKind.i64.wrap (n : Int) = n := i64w (by omega) (by omega)
  have hneg : decide ((n : Int) < 0) = false := by simp
  by_cases h0 : n = 0
  · subst h0
    simp (maxSteps := 1000000) [go_sem, i64w (n := 0)]
    exact h H _ (List.prefix_refl _) (OE.nil _ _ _)
  · have hpos : 0 < n := by omega
    have hw0 : IntKind.i64.wrap 0 = 0 := i64w (by omega) (by omega)
    simp (maxSteps := 1000000) [go_sem, hw, hw0, hneg, hpos, sliceV, boundV, lenV]
    refine andK_intro (by omega) ?_
    refine h _ _ (List.prefix_append _ _) ⟨by simp, .inr (.inr ⟨H.length, Nat.le_refl _, rfl, .inl ⟨rfl, .inr ?_⟩⟩)⟩
    simp [ownAt]

theorem concatB_ok {H : Heap} {oi oo : Nat} {vs : List Value} {bss : List (List Bk)} (hat : At H oi oo vs) (hl : vs.length = bss.length) (hb : ∀ (k : Nat) (v : Value) (bs : List Bk), vs[k]? = some v → bss[k]? = some bs → BlocksAt H v bs)
    (hsz : bss.flatten.length ≤ 1048576) (hn : bss.length ≤ 1048576) (Post : Value → Heap → Prop) (h : ∀ H' w, H <+: H' → BlocksIn H.length H'.length H' w bss.flatten → Post w H') :
    ACalls Try.prog 115 [lv 1 oi oo bss.length] H Post := by
  refine ACalls.res ?_
  refine acalls_vc (rs := [.tmp 2]) Try.func115 rfl rfl Try.ntmps115 rfl rfl ?_
  simp (maxSteps := 1000000) [go_sem]
  have hpart : ∀ s, (bss.take s).flatten.length ≤ bss.flatten.length := by
    intro s
    conv => rhs; rw [← List.take_append_drop s bss, List.flatten_append, List.length_append]
    omega
  have hsucc : ∀ {s : Nat} {bs : List Bk}, bss[s]? = some bs → (bss.take (s + 1)).flatten = (bss.take s).flatten ++ bs := by
    intro s bs hx
    obtain ⟨hlt, rfl⟩ := List.getElem?_eq_some_iff.1 hx
    rw [List.take_succ_eq_append_getElem hlt, List.flatten_append]; simp
  refine AWp.loopVc (fun s : Nat => [(0, lv 1 oi oo bss.length), (3, .int .i64 (bss.take s).flatten.length), (9, lv 1 oi oo bss.length), (10, .int .i64 bss.length), (11, .int .i64 s)])
    (fun s H' => s ≤ bss.length ∧ H' = H) (fun s => bss.length - s) 0 ?_ ?_ ?_
  · simp [upF, Fr.get, Up.refl]
  · simp
  · rintro K s H' ⟨hs, rfl⟩ hK
    by_cases hlt : s < bss.length
    · have hx : bss[s]? = some bss[s] := List.getElem?_eq_getElem hlt
      have hv : vs[s]? = some (vs[s]'(by omega)) := List.getElem?_eq_getElem _
      have c1 := hat.cell hv
      obtain ⟨i, o, he, h1, h2⟩ := hb s _ _ hv hx
      rw [he] at c1
      have hw_s : IntKind.i64.wrap ((s : Int) + 1) = (s : Int) + 1 := i64w (by omega) (by omega)
      have hsn := hsucc hx
      have h3 := hpart (s + 1)
      rw [hsn, List.length_append] at h3
      obtain ⟨T, hT⟩ : ∃ T, T = (bss.take s).flatten.length := ⟨_, rfl⟩
      rw [← hT] at h3
      have hw2 : IntKind.i64.wrap ((T : Int) + (bss[s].length : Int)) = ((T + bss[s].length : Nat) : Int) := by rw [i64w (by omega) (by omega)]; omega
      have hneg : decide (((T + bss[s].length : Nat) : Int) < 0) = false := by simp only [decide_eq_false_iff_not]; omega
      rw [← hT]
      simp (maxSteps := 1000000) only [Int.natCast_add] at hw2 hneg
      simp (maxSteps := 1000000) [go_sem, hlt, c1, hw_s, hw2, hneg]
      refine hK (s + 1) _ _ (by omega) ?_ ⟨by omega, rfl⟩
      have e : (((bss.take (s + 1)).flatten.length : Nat) : Int) = (T : Int) + (bss[s].length : Int) := by rw [hsn, List.length_append, hT]; omega
      simp only [upF, Fr.get]
      refine ⟨⟨_, rfl, Up.refl _ _⟩, ⟨_, rfl, ?_⟩, ⟨_, rfl, Up.refl _ _⟩, ⟨_, rfl, Up.refl _ _⟩, ⟨_, rfl, Up.refl _ _⟩, trivial⟩
      rw [e]; exact Up.refl _ _
    · have : s = bss.length := by omega
      subst this
      simp (maxSteps := 1000000) [go_sem, -List.length_flatten]
      refine growB_ok hsz _ ?_
      intro H1 v0 hp1 he1
      simp (maxSteps := 1000000) [go_sem]
      refine AWp.loopVc (St := Nat × Value) (fun s => [(6, s.2), (25, lv 1 oi oo bss.length), (26, .int .i64 bss.length), (27, .int .i64 s.1)])
        (fun s H2 => s.1 ≤ bss.length ∧ H' <+: H2 ∧ OE 3 H'.length H2 s.2 (tri (bss.take s.1).flatten) (bss.take s.1).flatten.length) (fun s => bss.length - s.1) (0, v0) ?_ ?_ ?_
      · simp [upF, Fr.get, Up.refl]
      · exact ⟨by simp, hp1, by simpa [tri] using he1⟩
      · rintro K2 ⟨s, v⟩ H2 ⟨hs2, hp2, he2⟩ hK2
        simp only at hs2 he2
        by_cases hlt2 : s < bss.length
        · have hx : bss[s]? = some bss[s] := List.getElem?_eq_getElem hlt2
          have hv : vs[s]? = some (vs[s]'(by omega)) := List.getElem?_eq_getElem _
          have c1 := (hat.pre hp2).cell hv
          obtain ⟨i, o, he, h1, h2⟩ := hb s _ _ hv hx
          rw [he] at c1
          have hw_s : IntKind.i64.wrap ((s : Int) + 1) = (s : Int) + 1 := i64w (by omega) (by omega)
          have hsn := hsucc hx
          have h3 := hpart (s + 1)
          rw [hsn, List.length_append] at h3
          have hsrc := (h1.pre hp2).src (n := bss[s].length) (s := some 3) (tri_length _) (by omega) bss[s].length
          simp only [srcCells] at hsrc
          obtain ⟨v3, H3, hap, he3, hk3, hl3⟩ := he2.append (m := bss[s].length) (news := tri bss[s]) (by omega) hp2.length_le (tri_length _)
          obtain ⟨a2, rfl⟩ := he2.shape
          generalize hT : (bss.take s).flatten.length = T at *
          generalize hm : (bss[s]).length = m at c1 hsrc hap h3 h2
          simp (maxSteps := 1000000) [go_sem, hlt2, c1, hw_s, hsrc, hap]
          refine andK_intro (by omega) (hK2 (s + 1, v3) _ _ (by simp only; omega) (by simp [upF, Fr.get, Up.refl]) ⟨by simp only; omega, KeepL.prefix hp2 (Nat.le_refl _) hk3 hl3, ?_⟩)
          simp only [hsn]
          rw [tri_append, List.length_append, hT, hm]
          rw [hm] at he3
          exact he3
        · have : s = bss.length := by omega
          subst this
          simp (maxSteps := 1000000) [go_sem]
          rw [List.take_length] at he2
          obtain ⟨w, hup, hw⟩ := he2.blocks (by omega)
          exact ⟨w, hup, h _ w hp2 hw⟩

theorem implTakeBlock_ok {H : Heap} {u : Value} {p k : Int} {bs : List Bk} (hu : BlocksAt H u bs) (hl : bs.length ≤ 1048576) (hk : In64 k) (Post : Value → Heap → Prop)
    (h : ∀ H' w, H <+: H' → BlocksIn H.length H'.length H' w (rTake p bs k).1.2 → Post (.tuple #[sysV (rTake p bs k).1.1 w, .int .i64 (rTake p bs k).2]) H') :
    ACalls Try.prog 58 [sysV p u, .int .i64 k] H Post := by
  refine ACalls.res ?_
  refine acalls_vc (rs := [.cell 4 36, .tmp 5]) Try.func58 rfl rfl Try.ntmps58 rfl rfl ?_
  simp (maxSteps := 1000000) [go_sem, sysV, hu.one]
  have hp0 : H <+: H ++ [⟨[.int .i64 p, u], true, true⟩, ⟨[.int .i64 0, .slice none 0 0], true, true⟩] := List.prefix_append _ _
  have hx0 : Holds (H ++ [⟨[.int .i64 p, u], true, true⟩, ⟨[.int .i64 0, .slice none 0 0], true, true⟩]) H.length [.int .i64 p, u] := ⟨true, by simp⟩
  have hb0 : (H ++ [(⟨[.int .i64 p, u], true, true⟩ : Blk), ⟨[.int .i64 0, .slice none 0 0], true, true⟩])[H.length + 1]? = some ⟨[.int .i64 0, .slice none 0 0], true, true⟩ := by simp
  have hlen0 : (H ++ [(⟨[.int .i64 p, u], true, true⟩ : Blk), ⟨[.int .i64 0, .slice none 0 0], true, true⟩]).length = H.length + 2 := by simp
  generalize H ++ [(⟨[.int .i64 p, u], true, true⟩ : Blk), ⟨[.int .i64 0, .slice none 0 0], true, true⟩] = H0 at hp0 hx0 hb0 hlen0 ⊢
  have put : ∀ (H' : Heap) (cs : List Value), H0 <+: H' → cs.length = 2 → cs.all Value.oneCell' = true → storeAt H' (H.length + 1) 0 cs = some (H'.set (H.length + 1) ⟨cs, true, true⟩) ∧ cellsAt (H'.set (H.length + 1) ⟨cs, true, true⟩) (H.length + 1) 0 2 = some cs ∧ H <+: H'.set (H.length + 1) ⟨cs, true, true⟩ := by
    intro H' cs hp hcl ho
    have hb' := Same.get (S := fun _ => False) (Same.of_prefix hp) hb0 (fun h => h)
    refine ⟨?_, ?_, (show Same (fun j => j = H.length + 1) H _ from (Same.of_prefix (hp0.trans hp)).trans Same.set).prefix (by intro j hj he; omega)⟩
    · rw [storeAt_of hb' rfl rfl (by simp [hcl]) ho]
      match cs, hcl with
      | [x, y], _ => simp [over]
    · have := Holds.cells (n := 2) (o := 0) (H := H'.set (H.length + 1) ⟨cs, true, true⟩) ⟨true, List.getElem?_set_self (List.getElem?_eq_some_iff.1 hb').1⟩ (by omega)
      rw [this, List.drop_zero, List.take_of_length_le (by omega)]
  have bad : ∀ (H' : Heap) (c : Int), H <+: H' → rTake p bs k = ((0, []), c) → ∃ v', Up H' (.tuple #[.agg #[.int .i64 0, .slice none 0 0], .int .i64 c]) v' ∧ Post v' H' := by
    intro H' c hp hr
    refine ⟨_, Up.tuple (ys := #[sysV 0 (lv 3 0 0 0), .int .i64 c]) ⟨zeroSys, Up.refl _ _, trivial⟩, ?_⟩
    have := h H' (lv 3 0 0 0) hp (by rw [hr]; exact BlocksIn.nil _ _ _)
    rwa [hr] at this
  refine implIsSys (hu.pre hp0) _ ?_
  intro H1 hp1
  obtain ⟨d0, d1, d2⟩ := (hx0.pre hp1).sys
  cases hs : sysB p bs with
  | false =>
    obtain ⟨q1, q2, q3⟩ := put H1 [.int .i64 0, .slice none 0 0] hp1 rfl rfl
    simp (maxSteps := 1000000) [go_sem, q1, q2]
    exact bad _ 1 q3 (by simp [rTake, hs])
  | true =>
    simp (maxSteps := 1000000) [go_sem, d0]
    refine isNumber_ok (hu.pre (hp0.trans hp1)) _ ?_
    intro H2 hp2
    have hp12 := hp1.trans hp2
    obtain ⟨d0, d1, d2⟩ := (hx0.pre hp12).sys
    cases hin : inP bs.length k with
    | false =>
      obtain ⟨q1, q2, q3⟩ := put H2 [.int .i64 0, .slice none 0 0] hp12 rfl rfl
      simp (maxSteps := 1000000) [go_sem, q1, q2]
      exact bad _ 2 q3 (by simp [rTake, hs, hin])
    | true =>
      have hr : rTake p bs k = ((p, without bs k.toNat), 0) := by simp [rTake, hs, hin]
      rw [inP_iff] at hin
      obtain ⟨n, rfl⟩ : ∃ n : Nat, k = n := ⟨k.toNat, by omega⟩
      rw [Int.toNat_natCast] at hr
      obtain ⟨i, o, rfl, h1, h2⟩ := hu
      have hw : IntKind.i64.wrap ((n : Int) + 1) = (n : Int) + 1 := i64w (by omega) (by omega)
      have hk1 : n ≤ bs.length := by omega
      have hk2 : n + 1 ≤ bs.length := by omega
      simp (maxSteps := 1000000) [go_sem]
      refine AWp.draw mixed [(0, false), (1, false), (2, false), (3, false), (4, false), (5, false), (6, false), (7, false), (8, false), (9, false), (10, false), (11, true), (12, true), (13, false), (14, false), (15, false)] (by kernel_rfl) ?_
      simp (maxSteps := 1000000) [go_sem, d1, d2, hw, hk1, hk2, sliceV, boundV]
      refine andK_intro (by omega) ?_
      have hp3 : H2 <+: H2 ++ [⟨[lv 3 i o n, lv 3 i (o + (n + 1) * 3) (bs.length - (n + 1))], true, true⟩] := List.prefix_append _ _
      have hat : At (H2 ++ [⟨[lv 3 i o n, lv 3 i (o + (n + 1) * 3) (bs.length - (n + 1))], true, true⟩]) H2.length 0 [lv 3 i o n, lv 3 i (o + (n + 1) * 3) (bs.length - (n + 1))] := Holds.at (Holds.last H2 _)
      have hlen3 : (H2 ++ [(⟨[lv 3 i o n, lv 3 i (o + (n + 1) * 3) (bs.length - (n + 1))], true, true⟩ : Blk)]).length = H2.length + 1 := by simp
      refine ACalls.up (args' := [lv 1 H2.length 0 2]) ⟨Up.ex (by omega) (.inr (by simp [go_sem])), trivial⟩ ?_
      generalize H2 ++ [(⟨[lv 3 i o n, lv 3 i (o + (n + 1) * 3) (bs.length - (n + 1))], true, true⟩ : Blk)] = H3 at hp3 hat hlen3 ⊢
      have hp03 := hp0.trans (hp12.trans hp3)
      have b1 : BlocksAt H3 (lv 3 i o n) (bs.take n) := ⟨i, o, by rw [List.length_take, Nat.min_eq_left hk1], (h1.take_tri n hk1).pre hp03, by rw [List.length_take]; omega⟩
      have b2 : BlocksAt H3 (lv 3 i (o + (n + 1) * 3) (bs.length - (n + 1))) (bs.drop (n + 1)) := ⟨i, o + (n + 1) * 3, by rw [List.length_drop], (h1.drop_tri (n + 1) hk2).pre hp03, by rw [List.length_drop]; omega⟩
      have hfl : [bs.take n, bs.drop (n + 1)].flatten = without bs n := by simp [without]
      have hwl : (without bs n).length ≤ bs.length := by simp only [without, List.length_append, List.length_take, List.length_drop]; omega
      refine concatB_ok (bss := [bs.take n, bs.drop (n + 1)]) hat rfl ?_ (by rw [hfl]; omega) (by simp) _ ?_
      · intro j v cs hv hc
        match j with
        | 0 => simp at hv hc; subst hv; subst hc; exact b1
        | 1 => simp at hv hc; subst hv; subst hc; exact b2
        | j + 2 => simp at hv
      intro H4 w hp4 hw4
      rw [hfl] at hw4
      have hp34 := hp3.trans hp4
      obtain ⟨q1, q2, q3⟩ := put H4 [.int .i64 p, w] (hp12.trans hp34) rfl (by simp [one_int, hw4.one])
      have hbuilt : Try.prog.built 36 [(0, .int .i64 p), (1, w)] = some #[.int .i64 p, w] := by
        obtain ⟨i', o', he, _⟩ := hw4.read
        rw [he]; simp [go_sem]
      simp (maxSteps := 1000000) [go_sem, hp34, hbuilt, q1, q2]
      have hl1 := hp1.length_le; have hl2 := hp2.length_le; have hl3 := hp3.length_le
      have hs6 : Same (fun j => j = H.length + 1) H4 (H4.set (H.length + 1) ⟨[.int .i64 p, w], true, true⟩) := Same.set
      have hw5 := (hw4.keep hs6 (by rintro j ⟨h3, h4⟩ he; omega)).wider (c := H.length) (by omega)
      have := h _ w q3 (by rw [hr]; simpa using hw5)
      rw [hr] at this
      exact andK_intro hp4 ⟨_, Up.refl _ _, this⟩

end Go.Proofs.Ytkgjdmbmdnmilaa
