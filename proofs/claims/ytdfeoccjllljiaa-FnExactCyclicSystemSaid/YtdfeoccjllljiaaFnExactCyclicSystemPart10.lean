/- Part 10 of what the proof of the law FnExactCyclicSystem rests on: contracts of functions of the program, for every argument that each names; no statement of the seat is proved here. -/
import Derived.Test.YtdfeoccjllljiaaFnExactCyclicSystemPart9

section
/- CyclicSystem: the specification's side. -/
set_option linter.all false
set_option maxRecDepth 20000
set_option maxHeartbeats 8000000
namespace Go.Proofs.Ytdfeoccjllljiaa
open Go.Ab Go.Sort

theorem cyOne_len (v : Int) (xs : List (List Int)) (i : Nat) : (cyOne v xs i).length ≤ xs.length + 1 := by
  unfold cyOne; rw [List.length_append, List.length_map]; split <;> simp
theorem cyL_succ (v : Int) (xs : List (List Int)) (k : Nat) : cyL v xs (k + 1) = cyL v xs k ++ cyOne v xs k := by
  simp [cyL, List.range_succ, List.flatMap_append]
theorem cyL_len (v : Int) (xs : List (List Int)) (k : Nat) : (cyL v xs k).length ≤ k * (xs.length + 1) := by
  induction k with
  | zero => simp [cyL]
  | succ k ih => rw [cyL_succ, List.length_append, Nat.succ_mul]; have := cyOne_len v xs k; omega

theorem specCyc_ok {H : Heap} {u : Value} {v : Int} {xs : List (List Int)} (hv : In64 v) (hu : IntssAt H u xs) (hl : xs.length + xs.flatten.length ≤ 1048576) (h64 : ∀ r ∈ xs, ∀ x ∈ r, In64 x) (Post : Value → Heap → Prop)
    (h : ∀ H' w, H <+: H' → BlocksIn H.length H'.length H' w (rCycl v xs).1.2 → Post (.tuple #[sysV (rCycl v xs).1.1 w, .int .i64 (rCycl v xs).2]) H') : ACalls Try.prog 68 [.int .i64 v, u] H Post := by
  obtain ⟨i, o, rfl⟩ : ∃ i o, u = lv 1 i o xs.length := by obtain ⟨i, o, _, e, _⟩ := hu; exact ⟨i, o, e⟩
  refine ACalls.res ?_
  refine acalls_vc (rs := [.cell 4 38, .tmp 5]) Try.func68 rfl rfl Try.ntmps68 rfl rfl ?_
  simp (maxSteps := 1000000) [go_sem]
  have hp0 : H <+: H ++ [⟨[.int .i64 0, .slice none 0 0], true, true⟩] := List.prefix_append _ _
  have hb0 : (H ++ [(⟨[.int .i64 0, .slice none 0 0], true, true⟩ : Blk)])[H.length]? = some ⟨[.int .i64 0, .slice none 0 0], true, true⟩ := by simp
  have hlen0 : (H ++ [(⟨[.int .i64 0, .slice none 0 0], true, true⟩ : Blk)]).length = H.length + 1 := by simp
  generalize H ++ [(⟨[.int .i64 0, .slice none 0 0], true, true⟩ : Blk)] = H0 at hp0 hb0 hlen0 ⊢
  have bad := bad_sys hp0 (Nat.le_refl _) hb0 h
  refine l02Numbers_ok _ ?_
  cases hn : numB v with
  | false =>
    obtain ⟨H9, q1, q2, fin⟩ := bad H0 2 (List.prefix_refl _) (by rw [rCycl, hn]; rfl)
    simp (maxSteps := 1000000) [go_sem, undef, q1, q2]
    exact fin
  | true =>
    simp (maxSteps := 1000000) [go_sem, undef]
    have hN := numB_iff.1 hn
    refine l02Family_ok hN (hu.pre hp0) hl _ ?_
    intro H1 hp1
    by_cases hf : xs = famOf v
    · have hr : rCycl v xs = ((v, sortB (cyL v xs v.toNat)), 0) := by rw [rCycl, hn, decide_eq_true hf]; rfl
      have hxl : xs.length ≤ 2 := by rw [hf]; exact famOf_len
      have hxi : ∀ t ∈ xs, t.length = 3 ∧ (1 ≤ n0 t ∧ n0 t ≤ 7) ∧ (1 ≤ n1 t ∧ n1 t ≤ 7) := fun t ht => famOf_in (by rw [← hf]; exact ht)
      have hd : decide (xs = famOf v) = true := decide_eq_true hf
      rw [hd]
      obtain ⟨n, rfl⟩ : ∃ n : Nat, v = n := ⟨v.toNat, by unfold NumB at hN; omega⟩
      have hnb : 7 ≤ n ∧ n ≤ 15 := by unfold NumB at hN; omega
      have hv0 : (n : Int) ≠ 0 := by omega
      have hv00 : n ≠ 0 := by omega
      rw [Int.toNat_natCast] at hr
      simp (maxSteps := 1000000) [go_sem, undef]
      have hbl0 : Bl 3 H0 (H1 ++ [(⟨[], true, true⟩ : Blk)]) H1.length (tri []) 0 := by
        have := Bl.nil 3 H1
        exact ⟨hp1.trans this.1, this.2.1, hp1.length_le⟩
      generalize H1 ++ [(⟨[], true, true⟩ : Blk)] = HG at hbl0 ⊢
      refine AWp.loopVc (St := Nat × Nat × List Bk) (fun s => [(0, .int .i64 n), (1, lv 1 i o xs.length), (4, .pointer (some ⟨H.length, 0, none⟩)), (6, lv 3 s.2.1 0 s.2.2.length), (7, .int .i64 s.1)])
        (fun s H' => s.1 ≤ n ∧ s.2.2 = cyL n xs s.1 ∧ Bl 3 H0 H' s.2.1 (tri s.2.2) s.2.2.length) (fun s => n - s.1) (0, H1.length, []) ?_ ?_ ?_
      · simp [upF, Fr.get, Up.refl, Up.ex0]
      · exact ⟨by simp, by simp [cyL], hbl0⟩
      · rintro K ⟨s, id, acc⟩ H' ⟨hs, hacc, hbl⟩ hK
        simp only at hs hacc hbl
        have hla : acc.length ≤ 45 := by
          rw [hacc]; have := cyL_len n xs s
          have h2 : s * (xs.length + 1) ≤ 15 * 3 := Nat.mul_le_mul (by omega) (by omega)
          omega
        by_cases hsn : s < n
        · have hw_s : IntKind.i64.wrap ((s : Int) + 1) = (s : Int) + 1 := i64w (by omega) (by omega)
          simp (maxSteps := 1000000) [go_sem, hsn]
          refine AWp.loopVc (St := Nat × Nat × List Bk) (fun r => [(0, .int .i64 n), (1, lv 1 i o xs.length), (4, .pointer (some ⟨H.length, 0, none⟩)), (6, lv 3 r.2.1 0 r.2.2.length), (7, .int .i64 s), (8, .int .i64 r.1)])
            (fun r H' => r.1 ≤ xs.length ∧ r.2.2 = acc ++ (xs.take r.1).map (cyB n s) ∧ Bl 3 H0 H' r.2.1 (tri r.2.2) r.2.2.length) (fun r => xs.length - r.1) (0, id, acc) ?_ ?_ ?_
          · simp [upF, Fr.get, Up.refl]
          · exact ⟨by simp, by simp, hbl⟩
          · rintro K2 ⟨k, id2, acc2⟩ H2 ⟨hk, hacc2, hbl2⟩ hK2
            simp only at hk hacc2 hbl2
            have hla2 : acc2.length ≤ 50 := by rw [hacc2, List.length_append, List.length_map, List.length_take]; omega
            by_cases hlt : k < xs.length
            · obtain ⟨i0, o0, ee, row⟩ := row_at hu hlt
              cases ee
              obtain ⟨i', o', c1, hrow⟩ := row (hp0.trans hbl2.1)
              have hw_k : IntKind.i64.wrap ((k : Int) + 1) = (k : Int) + 1 := i64w (by omega) (by omega)
              have hti := hxi _ (List.getElem_mem hlt)
              have tsn := List.take_succ_eq_append_getElem hlt
              obtain ⟨t, ht⟩ : ∃ t, xs[k] = t := ⟨_, rfl⟩
              rw [ht] at c1 hrow hti tsn
              obtain ⟨i9, o9, e9, hrow', _⟩ := hrow
              cases e9
              obtain ⟨l0, l1⟩ := n_at hrow' hti.1
              rw [hti.1] at c1
              have w1 : IntKind.i64.wrap ((s : Int) + n0 t) = (s : Int) + n0 t := i64w (by omega) (by omega)
              have w2 : IntKind.i64.wrap ((s : Int) + n0 t + n1 t) = (s : Int) + n0 t + n1 t := i64w (by omega) (by omega)
              have m1 := tmod_in (x := (s : Int) + n0 t) (v := n) (by omega) (by omega)
              have m2 := tmod_in (x := (s : Int) + n0 t + n1 t) (v := n) (by omega) (by omega)
              simp (maxSteps := 1000000) [go_sem, hlt, c1]
              refine AWp.draw mixed [(0, false), (1, false), (2, false), (3, false), (4, false), (5, false), (6, false), (7, false), (8, false), (9, false), (10, false), (11, false), (12, false), (13, false), (14, false), (15, false), (16, false), (17, false), (18, false), (19, false), (20, false), (21, false), (22, false), (23, false), (24, false), (25, false), (26, false), (27, false), (28, false), (29, false), (30, false), (31, false), (32, false)] (by kernel_rfl) ?_
              simp (maxSteps := 1000000) [go_sem, hlt, c1, l0, l1, w1, w2, hv0, hv00]
              refine l01Block_ok (by omega) m1 m2 _ ?_
              intro H3 hp3
              obtain ⟨c, hc⟩ : ∃ c, blk (s : Int) (((s : Int) + n0 t).tmod n) (((s : Int) + n0 t + n1 t).tmod n) = c := ⟨_, rfl⟩
              have hcc : cyB n s t = c := hc
              rw [hc]
              obtain ⟨hsrc, H5, hap, hbl5⟩ := (hbl2.pre hp3).push (xs := c.cells) (by omega) rfl
              simp only [Bk.cells] at hsrc hap hbl5
              simp (maxSteps := 1000000) [go_sem, Bk.val, hlt, c1, l0, l1, w1, w2, hv0, hv00, hsrc, hap, hw_k]
              refine andK_intro (by omega) (hK2 (k + 1, H3.length + 1, acc2 ++ [c]) _ _ (by simp only; omega) (by simp [upF, Fr.get, Up.refl]) ⟨by simp only; omega, ?_, ?_⟩)
              · simp only [tsn, List.map_append, hacc2, List.append_assoc]; simp [hcc]
              · simp only [List.length_append, List.length_singleton, tri_append, tri_one, Bk.cells]
                exact hbl5
            · have : k = xs.length := by omega
              subst this
              rw [List.take_length] at hacc2
              have hlx : ¬ (xs.length < xs.length) := by omega
              have w5 : IntKind.i64.wrap ((s : Int) + 5) = (s : Int) + 5 := i64w (by omega) (by omega)
              have w10 : IntKind.i64.wrap ((s : Int) + 10) = (s : Int) + 10 := i64w (by omega) (by omega)
              have no : ¬ ((n : Int) = 15 ∧ s < 5) → ∀ fr', upF H2 [(0, .int .i64 n), (1, lv 1 i o xs.length), (4, .pointer (some ⟨H.length, 0, none⟩)), (6, lv 3 id2 0 acc2.length), (7, .int .i64 (s + 1))] fr' → K fr' H2 := fun hc fr' hf' =>
                hK (s + 1, id2, acc2) _ _ (by simp only; omega) (by simpa using hf') ⟨by simp only; omega, by simp only [cyL_succ, cyOne, hacc2, hacc]; rw [if_neg hc]; simp, hbl2⟩
              by_cases c15 : (n : Int) = 15
              · have b15 : ((n : Int) == 15) = true := beq_iff_eq.2 c15
                by_cases c5 : s < 5
                · have c5' : (s : Int) < 5 := by omega
                  simp (maxSteps := 1000000) [go_sem, undef, b15, c5', w5, w10]
                  refine l01Block_ok (by omega) (by omega) (by omega) _ ?_
                  intro H3 hp3
                  obtain ⟨c, hc⟩ : ∃ c, blk (s : Int) ((s : Int) + 5) ((s : Int) + 10) = c := ⟨_, rfl⟩
                  rw [hc]
                  obtain ⟨hsrc, H5, hap, hbl5⟩ := (hbl2.pre hp3).push (xs := c.cells) (by omega) rfl
                  simp only [Bk.cells] at hsrc hap hbl5
                  simp (maxSteps := 1000000) [go_sem, Bk.val, hsrc, hap, hw_s]
                  refine andK_intro (by omega) (hK (s + 1, H3.length + 1, acc2 ++ [c]) _ _ (by simp only; omega) (by simp [upF, Fr.get, Up.refl]) ⟨by simp only; omega, ?_, ?_⟩)
                  · simp only [cyL_succ, cyOne, hacc2, hacc]; rw [if_pos ⟨c15, c5⟩, hc]; simp
                  · simp only [List.length_append, List.length_singleton, tri_append, tri_one, Bk.cells]
                    exact hbl5
                · have c5' : ¬ (s : Int) < 5 := by omega
                  simp (maxSteps := 1000000) [go_sem, undef, b15, c5', hw_s]
                  exact no (fun e => c5 e.2) _ (by simp [upF, Fr.get, Up.refl])
              · have b15 : ((n : Int) == 15) = false := beq_eq_false_iff_ne.2 c15
                simp (maxSteps := 1000000) [go_sem, undef, b15, hw_s]
                exact no (fun e => c15 e.1) _ (by simp [upF, Fr.get, Up.refl])
        · have : s = n := by omega
          subst this
          have hown : BlocksIn H0.length H'.length H' (lv 3 id 0 acc.length) acc := OwnBlocks.inn (OwnBlocks.of_ol hbl.2.1 (by omega)) hbl.2.2
          simp (maxSteps := 1000000) [go_sem]
          refine l01Made_ok hown.read (by omega) _ ?_
          intro H6 w hp6 hw
          rw [hacc] at hw
          obtain ⟨q1, q2, q3, q4⟩ := put2 (cs := [.int .i64 s, w]) hp0 (Nat.le_refl _) hb0 rfl (hbl.1.trans hp6) rfl (by simp [one_int, hw.one])
          have hll := hbl.1.length_le
          have fin := h _ w q3 (by rw [hr, List.length_set]; exact (hw.keep q4 (fun j hj e => by have := hj.1; omega)).wider (by omega))
          rw [hr] at fin
          simp (maxSteps := 1000000) [go_sem, sysV, q1, q2]
          exact ⟨_, Up.refl _ _, fin⟩
    · have hd : decide (xs = famOf v) = false := decide_eq_false hf
      rw [hd]
      obtain ⟨H9, q1, q2, fin⟩ := bad H1 2 hp1 (by rw [rCycl, hn, hd]; rfl)
      simp (maxSteps := 1000000) [go_sem, undef, q1, q2]
      exact fin

end Go.Proofs.Ytdfeoccjllljiaa
end

section
/- The law on CyclicSystem, in abstract terms: its code returns true, for every input. -/
set_option linter.all false
set_option maxRecDepth 20000
set_option maxHeartbeats 8000000
namespace Go.Proofs.Ytdfeoccjllljiaa
open Go.Ab

theorem lawFnExactCyclicSystem (H : Heap) (avs : List Value) (h : argsSay [shInt, shIntss] H avs) : ACalls Try.prog 15 avs H fun v _ => v = .bool true := by
  obtain ⟨_, _, rfl, a0, _, _, rfl, a1, rfl⟩ := h
  obtain ⟨n0, rfl, hn0⟩ := says_shInt' a0
  obtain ⟨x1, hz1, hw1⟩ := says_shIntss a1
  have hz1c := hz1
  obtain ⟨i1, o1, vs1, rfl, _⟩ := hz1c
  have qz1 : H <+: H := List.prefix_refl _
  refine acalls_vc (rs := [.tmp 4]) Try.func15 rfl rfl Try.ntmps15 rfl rfl ?_
  try simp (maxSteps := 1000000) [go_sem, sysV]
  obtain ⟨Z1, hZ1⟩ : ∃ Z, x1.length + x1.flatten.length = Z := ⟨_, rfl⟩
  refine szIntss0_ok (hz1.pre qz1) (by omega) (by omega) _ ?_
  rw [hZ1]
  by_cases hbig1 : (1048576 : Int) < Z1
  · simp (maxSteps := 1000000) [go_sem, hbig1, sysV]
  have hneg1 : decide ((1048576 : Int) - Z1 < 0) = false := by simp; omega
  have hl1 : x1.length + x1.flatten.length ≤ 1048576 := by omega
  have hq1 := intss_at0 hz1 hl1
  try simp (maxSteps := 1000000) [go_sem, hbig1, hneg1, sysV]
  refine toIntss_ok (hq1.pre qz1) hl1 _ ?_
  intro H1 wo1 hp1 hoo1
  replace qz1 := qz1.trans hp1
  have hlH1 := hp1.length_le
  try simp (maxSteps := 1000000) [go_sem, hbig1, hneg1, sysV]
  refine specCyc_ok hn0 hoo1.read hl1 hw1 _ ?_
  intro H2 wH2_0 hp2 hoH2_0
  replace hoo1 := hoo1.pre hp2
  replace qz1 := qz1.trans hp2
  have hlH2 := hp2.length_le
  have one_rH2_0 : wH2_0.oneCell' = true := hoH2_0.read.one
  try simp (maxSteps := 1000000) [go_sem, hbig1, hneg1, one_rH2_0, sysV]
  have bxrH2_0 := Holds.last H2 [.int .i64 (rCycl n0 x1).1.1, wH2_0]
  have hp3 : H2 <+: H2 ++ [(⟨[.int .i64 (rCycl n0 x1).1.1, wH2_0], true, true⟩ : Blk)] := List.prefix_append _ _
  have hbH3 : (H2 ++ [(⟨[.int .i64 (rCycl n0 x1).1.1, wH2_0], true, true⟩ : Blk)]).length = H2.length + 1 := by simp
  generalize H2 ++ [(⟨[.int .i64 (rCycl n0 x1).1.1, wH2_0], true, true⟩ : Blk)] = H3 at bxrH2_0 hp3 hbH3 ⊢
  replace hoo1 := hoo1.pre hp3
  replace hoH2_0 := hoH2_0.pre hp3
  replace qz1 := qz1.trans hp3
  have hlH3 := hp3.length_le
  obtain ⟨erH2_0a, erH2_0b, erH2_0c⟩ := bxrH2_0.sys
  try simp (maxSteps := 1000000) [go_sem, hbig1, hneg1, one_rH2_0, sysV, erH2_0a, erH2_0b, erH2_0c]
  refine toIntss_ok (hq1.pre qz1) hl1 _ ?_
  intro H4 wo4 hp4 hoo4
  replace bxrH2_0 := bxrH2_0.pre hp4
  replace hoo1 := hoo1.pre hp4
  replace hoH2_0 := hoH2_0.pre hp4
  replace qz1 := qz1.trans hp4
  have hlH4 := hp4.length_le
  obtain ⟨erH2_0a, erH2_0b, erH2_0c⟩ := bxrH2_0.sys
  try simp (maxSteps := 1000000) [go_sem, hbig1, hneg1, one_rH2_0, sysV, erH2_0a, erH2_0b, erH2_0c]
  refine implCyc_ok hn0 hoo4.read hl1 hw1 _ ?_
  intro H5 wH5_0 hp5 hoH5_0
  replace bxrH2_0 := bxrH2_0.pre hp5
  replace hoo1 := hoo1.pre hp5
  replace hoH2_0 := hoH2_0.pre hp5
  replace hoo4 := hoo4.pre hp5
  replace qz1 := qz1.trans hp5
  have hlH5 := hp5.length_le
  obtain ⟨erH2_0a, erH2_0b, erH2_0c⟩ := bxrH2_0.sys
  have one_rH5_0 : wH5_0.oneCell' = true := hoH5_0.read.one
  try simp (maxSteps := 1000000) [go_sem, hbig1, hneg1, one_rH2_0, one_rH5_0, sysV, erH2_0a, erH2_0b, erH2_0c]
  have bxrH5_0 := Holds.last H5 [.int .i64 (rCycl n0 x1).1.1, wH5_0]
  have hp6 : H5 <+: H5 ++ [(⟨[.int .i64 (rCycl n0 x1).1.1, wH5_0], true, true⟩ : Blk)] := List.prefix_append _ _
  have hbH6 : (H5 ++ [(⟨[.int .i64 (rCycl n0 x1).1.1, wH5_0], true, true⟩ : Blk)]).length = H5.length + 1 := by simp
  generalize H5 ++ [(⟨[.int .i64 (rCycl n0 x1).1.1, wH5_0], true, true⟩ : Blk)] = H6 at bxrH5_0 hp6 hbH6 ⊢
  replace bxrH2_0 := bxrH2_0.pre hp6
  replace hoo1 := hoo1.pre hp6
  replace hoH2_0 := hoH2_0.pre hp6
  replace hoo4 := hoo4.pre hp6
  replace hoH5_0 := hoH5_0.pre hp6
  replace qz1 := qz1.trans hp6
  have hlH6 := hp6.length_le
  obtain ⟨erH2_0a, erH2_0b, erH2_0c⟩ := bxrH2_0.sys
  obtain ⟨erH5_0a, erH5_0b, erH5_0c⟩ := bxrH5_0.sys
  try simp (maxSteps := 1000000) [go_sem, hbig1, hneg1, one_rH2_0, one_rH5_0, sysV, erH2_0a, erH2_0b, erH2_0c, erH5_0a, erH5_0b, erH5_0c]
  refine eqSystem_ok hoH5_0.read hoH2_0.read _ ?_
  intro H7 hp7
  replace bxrH2_0 := bxrH2_0.pre hp7
  replace bxrH5_0 := bxrH5_0.pre hp7
  replace hoo1 := hoo1.pre hp7
  replace hoH2_0 := hoH2_0.pre hp7
  replace hoo4 := hoo4.pre hp7
  replace hoH5_0 := hoH5_0.pre hp7
  replace qz1 := qz1.trans hp7
  have hlH7 := hp7.length_le
  obtain ⟨erH2_0a, erH2_0b, erH2_0c⟩ := bxrH2_0.sys
  obtain ⟨erH5_0a, erH5_0b, erH5_0c⟩ := bxrH5_0.sys
  try simp (maxSteps := 1000000) [go_sem, hbig1, hneg1, one_rH2_0, one_rH5_0, sysV, erH2_0a, erH2_0b, erH2_0c, erH5_0a, erH5_0b, erH5_0c]
  refine toIntss_ok (hq1.pre qz1) hl1 _ ?_
  intro H8 wo8 hp8 hoo8
  replace bxrH2_0 := bxrH2_0.pre hp8
  replace bxrH5_0 := bxrH5_0.pre hp8
  replace hoo1 := hoo1.pre hp8
  replace hoH2_0 := hoH2_0.pre hp8
  replace hoo4 := hoo4.pre hp8
  replace hoH5_0 := hoH5_0.pre hp8
  replace qz1 := qz1.trans hp8
  have hlH8 := hp8.length_le
  obtain ⟨erH2_0a, erH2_0b, erH2_0c⟩ := bxrH2_0.sys
  obtain ⟨erH5_0a, erH5_0b, erH5_0c⟩ := bxrH5_0.sys
  try simp (maxSteps := 1000000) [go_sem, hbig1, hneg1, one_rH2_0, one_rH5_0, sysV, erH2_0a, erH2_0b, erH2_0c, erH5_0a, erH5_0b, erH5_0c]
  refine eqInt64SS_ok hoo4.read hoo8.read _ ?_
  try simp (maxSteps := 1000000) [go_sem, hbig1, hneg1, one_rH2_0, one_rH5_0, sysV, erH2_0a, erH2_0b, erH2_0c, erH5_0a, erH5_0b, erH5_0c]
  obtain ⟨To4, hTo4⟩ : ∃ T : Nat, T = (x1).flatten.length := ⟨_, rfl⟩
  have hTbo4 : To4 ≤ 1048576 := by omega
  refine markIntss_ok hoo4 hTo4 (by omega) (by omega) _ ?_
  intro H9 hs9 mk9
  replace bxrH2_0 := bxrH2_0.keepS hs9 (by rintro ⟨h1, h2⟩; omega)
  replace bxrH5_0 := bxrH5_0.keepS hs9 (by rintro ⟨h1, h2⟩; omega)
  replace hoo1 := hoo1.keep hs9 (by rintro j ⟨h1, h2⟩ ⟨h3, h4⟩; omega)
  replace hoH2_0 := hoH2_0.keep hs9 (by rintro j ⟨h1, h2⟩ ⟨h3, h4⟩; omega)
  replace hoH5_0 := hoH5_0.keep hs9 (by rintro j ⟨h1, h2⟩ ⟨h3, h4⟩; omega)
  replace hoo8 := hoo8.keep hs9 (by rintro j ⟨h1, h2⟩ ⟨h3, h4⟩; omega)
  replace qz1 := ((Same.of_prefix qz1).trans hs9).prefix (by rintro j hj ⟨h1, h2⟩; omega)
  have hlH9 := hs9.1
  obtain ⟨erH2_0a, erH2_0b, erH2_0c⟩ := bxrH2_0.sys
  obtain ⟨erH5_0a, erH5_0b, erH5_0c⟩ := bxrH5_0.sys
  have hng9 : decide ((1 : Int) + (To4 : Int) < 0) = false := by simp only [decide_eq_false_iff_not]; omega
  try simp only [Int.natCast_mul, Int.cast_ofNat_Int] at hng9
  try simp (maxSteps := 1000000) [go_sem, hbig1, hneg1, hng9, one_rH2_0, one_rH5_0, sysV, erH2_0a, erH2_0b, erH2_0c, erH5_0a, erH5_0b, erH5_0c]
  refine eqSystem_ok hoH5_0.read hoH2_0.read _ ?_
  intro H10 hp10
  replace bxrH2_0 := bxrH2_0.pre hp10
  replace bxrH5_0 := bxrH5_0.pre hp10
  replace hoo1 := hoo1.pre hp10
  replace hoH2_0 := hoH2_0.pre hp10
  replace mk9 := mk9.pre hp10
  replace hoH5_0 := hoH5_0.pre hp10
  replace hoo8 := hoo8.pre hp10
  replace qz1 := qz1.trans hp10
  have hlH10 := hp10.length_le
  obtain ⟨erH2_0a, erH2_0b, erH2_0c⟩ := bxrH2_0.sys
  obtain ⟨erH5_0a, erH5_0b, erH5_0c⟩ := bxrH5_0.sys
  try simp (maxSteps := 1000000) [go_sem, hbig1, hneg1, hng9, one_rH2_0, one_rH5_0, sysV, erH2_0a, erH2_0b, erH2_0c, erH5_0a, erH5_0b, erH5_0c]
  refine markSys_ok hoH5_0 (by omega) (by omega) _ ?_
  intro H11 hs11 mk11
  replace bxrH2_0 := bxrH2_0.keepS hs11 (by rintro ⟨h1, h2⟩; omega)
  replace bxrH5_0 := bxrH5_0.keepS hs11 (by rintro ⟨h1, h2⟩; omega)
  replace hoo1 := hoo1.keep hs11 (by rintro j ⟨h1, h2⟩ ⟨h3, h4⟩; omega)
  replace hoH2_0 := hoH2_0.keep hs11 (by rintro j ⟨h1, h2⟩ ⟨h3, h4⟩; omega)
  replace mk9 := mk9.keep hs11 (by rintro j ⟨h1, h2⟩ ⟨h3, h4⟩; omega)
  replace hoo8 := hoo8.keep hs11 (by rintro j ⟨h1, h2⟩ ⟨h3, h4⟩; omega)
  replace qz1 := ((Same.of_prefix qz1).trans hs11).prefix (by rintro j hj ⟨h1, h2⟩; omega)
  have hlH11 := hs11.1
  obtain ⟨erH2_0a, erH2_0b, erH2_0c⟩ := bxrH2_0.sys
  obtain ⟨erH5_0a, erH5_0b, erH5_0c⟩ := bxrH5_0.sys
  have hng11 : decide ((1 : Int) + (((rCycl n0 x1).1.2).length * 3 : Nat) < 0) = false := by simp only [decide_eq_false_iff_not]; omega
  try simp only [Int.natCast_mul, Int.cast_ofNat_Int] at hng11
  try simp (maxSteps := 1000000) [go_sem, hbig1, hneg1, hng11, hng9, one_rH2_0, one_rH5_0, sysV, erH2_0a, erH2_0b, erH2_0c, erH5_0a, erH5_0b, erH5_0c]
  refine heldSys_ok mk11 (by omega) (by omega) _ ?_
  intro H12 hp12
  replace bxrH2_0 := bxrH2_0.pre hp12
  replace bxrH5_0 := bxrH5_0.pre hp12
  replace hoo1 := hoo1.pre hp12
  replace hoH2_0 := hoH2_0.pre hp12
  replace mk9 := mk9.pre hp12
  replace mk11 := mk11.pre hp12
  replace hoo8 := hoo8.pre hp12
  replace qz1 := qz1.trans hp12
  have hlH12 := hp12.length_le
  obtain ⟨erH2_0a, erH2_0b, erH2_0c⟩ := bxrH2_0.sys
  obtain ⟨erH5_0a, erH5_0b, erH5_0c⟩ := bxrH5_0.sys
  try simp (maxSteps := 1000000) [go_sem, hbig1, hneg1, hng11, hng9, one_rH2_0, one_rH5_0, sysV, erH2_0a, erH2_0b, erH2_0c, erH5_0a, erH5_0b, erH5_0c]
  refine toIntss_ok (hq1.pre qz1) hl1 _ ?_
  intro H13 wo13 hp13 hoo13
  replace bxrH2_0 := bxrH2_0.pre hp13
  replace bxrH5_0 := bxrH5_0.pre hp13
  replace hoo1 := hoo1.pre hp13
  replace hoH2_0 := hoH2_0.pre hp13
  replace mk9 := mk9.pre hp13
  replace mk11 := mk11.pre hp13
  replace hoo8 := hoo8.pre hp13
  replace qz1 := qz1.trans hp13
  have hlH13 := hp13.length_le
  obtain ⟨erH2_0a, erH2_0b, erH2_0c⟩ := bxrH2_0.sys
  obtain ⟨erH5_0a, erH5_0b, erH5_0c⟩ := bxrH5_0.sys
  try simp (maxSteps := 1000000) [go_sem, hbig1, hneg1, hng11, hng9, one_rH2_0, one_rH5_0, sysV, erH2_0a, erH2_0b, erH2_0c, erH5_0a, erH5_0b, erH5_0c]
  refine implCyc_ok hn0 hoo13.read hl1 hw1 _ ?_
  intro H14 wH14_0 hp14 hoH14_0
  replace bxrH2_0 := bxrH2_0.pre hp14
  replace bxrH5_0 := bxrH5_0.pre hp14
  replace hoo1 := hoo1.pre hp14
  replace hoH2_0 := hoH2_0.pre hp14
  replace mk9 := mk9.pre hp14
  replace mk11 := mk11.pre hp14
  replace hoo8 := hoo8.pre hp14
  replace hoo13 := hoo13.pre hp14
  replace qz1 := qz1.trans hp14
  have hlH14 := hp14.length_le
  obtain ⟨erH2_0a, erH2_0b, erH2_0c⟩ := bxrH2_0.sys
  obtain ⟨erH5_0a, erH5_0b, erH5_0c⟩ := bxrH5_0.sys
  have one_rH14_0 : wH14_0.oneCell' = true := hoH14_0.read.one
  try simp (maxSteps := 1000000) [go_sem, hbig1, hneg1, hng11, hng9, one_rH14_0, one_rH2_0, one_rH5_0, sysV, erH2_0a, erH2_0b, erH2_0c, erH5_0a, erH5_0b, erH5_0c]
  have bxrH14_0 := Holds.last H14 [.int .i64 (rCycl n0 x1).1.1, wH14_0]
  have hp15 : H14 <+: H14 ++ [(⟨[.int .i64 (rCycl n0 x1).1.1, wH14_0], true, true⟩ : Blk)] := List.prefix_append _ _
  have hbH15 : (H14 ++ [(⟨[.int .i64 (rCycl n0 x1).1.1, wH14_0], true, true⟩ : Blk)]).length = H14.length + 1 := by simp
  generalize H14 ++ [(⟨[.int .i64 (rCycl n0 x1).1.1, wH14_0], true, true⟩ : Blk)] = H15 at bxrH14_0 hp15 hbH15 ⊢
  replace bxrH2_0 := bxrH2_0.pre hp15
  replace bxrH5_0 := bxrH5_0.pre hp15
  replace hoo1 := hoo1.pre hp15
  replace hoH2_0 := hoH2_0.pre hp15
  replace mk9 := mk9.pre hp15
  replace mk11 := mk11.pre hp15
  replace hoo8 := hoo8.pre hp15
  replace hoo13 := hoo13.pre hp15
  replace hoH14_0 := hoH14_0.pre hp15
  replace qz1 := qz1.trans hp15
  have hlH15 := hp15.length_le
  obtain ⟨erH2_0a, erH2_0b, erH2_0c⟩ := bxrH2_0.sys
  obtain ⟨erH5_0a, erH5_0b, erH5_0c⟩ := bxrH5_0.sys
  obtain ⟨erH14_0a, erH14_0b, erH14_0c⟩ := bxrH14_0.sys
  try simp (maxSteps := 1000000) [go_sem, hbig1, hneg1, hng11, hng9, one_rH14_0, one_rH2_0, one_rH5_0, sysV, erH2_0a, erH2_0b, erH2_0c, erH5_0a, erH5_0b, erH5_0c, erH14_0a, erH14_0b, erH14_0c]
  refine eqSystem_ok hoH14_0.read hoH2_0.read _ ?_
  intro H16 hp16
  replace bxrH2_0 := bxrH2_0.pre hp16
  replace bxrH5_0 := bxrH5_0.pre hp16
  replace bxrH14_0 := bxrH14_0.pre hp16
  replace hoo1 := hoo1.pre hp16
  replace hoH2_0 := hoH2_0.pre hp16
  replace mk9 := mk9.pre hp16
  replace mk11 := mk11.pre hp16
  replace hoo8 := hoo8.pre hp16
  replace hoo13 := hoo13.pre hp16
  replace hoH14_0 := hoH14_0.pre hp16
  replace qz1 := qz1.trans hp16
  have hlH16 := hp16.length_le
  obtain ⟨erH2_0a, erH2_0b, erH2_0c⟩ := bxrH2_0.sys
  obtain ⟨erH5_0a, erH5_0b, erH5_0c⟩ := bxrH5_0.sys
  obtain ⟨erH14_0a, erH14_0b, erH14_0c⟩ := bxrH14_0.sys
  try simp (maxSteps := 1000000) [go_sem, hbig1, hneg1, hng11, hng9, one_rH14_0, one_rH2_0, one_rH5_0, sysV, erH2_0a, erH2_0b, erH2_0c, erH5_0a, erH5_0b, erH5_0c, erH14_0a, erH14_0b, erH14_0c]
  refine heldSys_ok mk11 (by omega) (by omega) _ ?_
  intro H17 hp17
  replace bxrH2_0 := bxrH2_0.pre hp17
  replace bxrH5_0 := bxrH5_0.pre hp17
  replace bxrH14_0 := bxrH14_0.pre hp17
  replace hoo1 := hoo1.pre hp17
  replace hoH2_0 := hoH2_0.pre hp17
  replace mk9 := mk9.pre hp17
  replace mk11 := mk11.pre hp17
  replace hoo8 := hoo8.pre hp17
  replace hoo13 := hoo13.pre hp17
  replace hoH14_0 := hoH14_0.pre hp17
  replace qz1 := qz1.trans hp17
  have hlH17 := hp17.length_le
  obtain ⟨erH2_0a, erH2_0b, erH2_0c⟩ := bxrH2_0.sys
  obtain ⟨erH5_0a, erH5_0b, erH5_0c⟩ := bxrH5_0.sys
  obtain ⟨erH14_0a, erH14_0b, erH14_0c⟩ := bxrH14_0.sys
  try simp (maxSteps := 1000000) [go_sem, hbig1, hneg1, hng11, hng9, one_rH14_0, one_rH2_0, one_rH5_0, sysV, erH2_0a, erH2_0b, erH2_0c, erH5_0a, erH5_0b, erH5_0c, erH14_0a, erH14_0b, erH14_0c]

end Go.Proofs.Ytdfeoccjllljiaa
end
