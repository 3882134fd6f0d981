/- BlocksOn: the tested program's side. -/
import Derived.Test.YtkgjdmbmdnmilaaOn3
set_option linter.all false
set_option maxRecDepth 20000
set_option maxHeartbeats 8000000
namespace Go.Proofs.Ytkgjdmbmdnmilaa
open Go.Ab

def zk (pa pb pc : Int) (k : Nat) : List Value := [.int .i64 (if 0 < k then pa else 0), .int .i64 (if 1 < k then pb else 0), .int .i64 (if 2 < k then pc else 0)]
def okk (pa pb pc : Int) (k : Nat) : Bool := (decide (k < 1) || decide (0 ≤ pa)) && ((decide (k < 2) || decide (0 ≤ pb)) && (decide (k < 3) || decide (0 ≤ pc)))

theorem implBlocksOn_ok {H : Heap} {u v : Value} {p : Int} {bs : List Bk} {xs : List Int} (hu : BlocksAt H u bs) (hl : bs.length ≤ 1048576) (hv : IntsAt H v xs) (hl' : xs.length ≤ 1048576) (hw : ∀ x ∈ xs, In64 x) (Post : Value → Heap → Prop)
    (h : ∀ H' w, H <+: H' → BlocksIn H.length H'.length H' w (rOn p bs xs).1.2 → Post (.tuple #[sysV (rOn p bs xs).1.1 w, .int .i64 (rOn p bs xs).2]) H') :
    ACalls Try.prog 76 [sysV p u, v] H Post := by
  have hvo := hv
  have huo := hu
  obtain ⟨j, q, rfl, h3, h4⟩ := hv
  obtain ⟨i, o, rfl, h1, h2⟩ := hu
  refine ACalls.res ?_
  refine acalls_vc (rs := [.cell 4 36, .tmp 5]) Try.func76 rfl rfl Try.ntmps76 rfl rfl ?_
  simp (maxSteps := 1000000) [go_sem, sysV]
  have hp0 : H <+: H ++ [⟨[.int .i64 p, lv 3 i o bs.length], true, true⟩, ⟨[.int .i64 0, .slice none 0 0], true, true⟩] := List.prefix_append _ _
  have hx0 : Holds (H ++ [⟨[.int .i64 p, lv 3 i o bs.length], true, true⟩, ⟨[.int .i64 0, .slice none 0 0], true, true⟩]) H.length [.int .i64 p, lv 3 i o bs.length] := ⟨true, by simp⟩
  have hb0 : (H ++ [(⟨[.int .i64 p, lv 3 i o bs.length], true, true⟩ : Blk), ⟨[.int .i64 0, .slice none 0 0], true, true⟩])[H.length + 1]? = some ⟨[.int .i64 0, .slice none 0 0], true, true⟩ := by simp
  have hlen0 : (H ++ [(⟨[.int .i64 p, lv 3 i o bs.length], true, true⟩ : Blk), ⟨[.int .i64 0, .slice none 0 0], true, true⟩]).length = H.length + 2 := by simp
  generalize H ++ [(⟨[.int .i64 p, lv 3 i o bs.length], true, true⟩ : Blk), ⟨[.int .i64 0, .slice none 0 0], true, true⟩] = H0 at hp0 hx0 hb0 hlen0 ⊢
  have bad : ∀ (H' : Heap) (c : Int), H <+: H' → rOn p bs xs = ((0, []), c) → ∃ v', Up H' (.tuple #[.agg #[.int .i64 0, .slice none 0 0], .int .i64 c]) v' ∧ Post v' H' := by
    intro H' c hp hr
    refine ⟨_, Up.tuple (ys := #[sysV 0 (lv 3 0 0 0), .int .i64 c]) ⟨zeroSys, Up.refl _ _, trivial⟩, ?_⟩
    have := h H' (lv 3 0 0 0) hp (by rw [hr]; exact BlocksIn.nil _ _ _)
    rwa [hr] at this
  refine implIsSys (huo.pre hp0) _ ?_
  intro H1 hp1
  obtain ⟨d0, d1, d2⟩ := (hx0.pre hp1).sys
  obtain ⟨q1, q2, q3, _⟩ := put2 (cs := [.int .i64 0, .slice none 0 0]) hp0 (by omega) hb0 rfl hp1 rfl rfl
  cases hs : sysB p bs with
  | false =>
    simp (maxSteps := 1000000) [go_sem, q1, q2]
    exact bad _ 1 q3 (by simp [rOn, setCode_none hs])
  | true =>
    have hS := sysB_of hs
    have hp := hS.1
    by_cases h3l : 3 ≤ xs.length
    · have hlt3 : ¬ ((xs.length : Int) < 3) := by omega
      have hlt3' : ¬ (xs.length < 3) := by omega
      simp (maxSteps := 1000000) [go_sem, hlt3, hlt3', d1]
      refine rises_ok (hvo.pre (hp0.trans hp1)) (by omega) (by omega) _ ?_
      intro b hb
      cases b with
      | false =>
        simp (maxSteps := 1000000) [go_sem, q1, q2]
        exact bad _ 2 q3 (by simp [rOn, setCode_bad hs (fun hr => by have := hb.2 hr; cases this)])
      | true =>
        have hrise := hb.1 rfl
        have hr : rOn p bs xs = (((xs.length : Int), onB xs bs), 0) := by simp [rOn, setCode_good hs hrise, h3l]
        obtain ⟨d0', d1', d2'⟩ := ((hx0.pre hp1).pre (List.prefix_append H1 [⟨[.int .i64 xs.length, .slice none 0 0], true, true⟩])).sys
        simp (maxSteps := 1000000) [go_sem, d2']
        have hp2 : H1 <+: H1 ++ [⟨[.int .i64 xs.length, .slice none 0 0], true, true⟩] := List.prefix_append _ _
        have hout0 : (H1 ++ [(⟨[.int .i64 xs.length, .slice none 0 0], true, true⟩ : Blk)])[H1.length]? = some ⟨[.int .i64 xs.length, .slice none 0 0], true, true⟩ := by simp
        have hlen2 : (H1 ++ [(⟨[.int .i64 xs.length, .slice none 0 0], true, true⟩ : Blk)]).length = H1.length + 1 := by simp
        generalize H1 ++ [(⟨[.int .i64 xs.length, .slice none 0 0], true, true⟩ : Blk)] = H2 at hp2 hout0 hlen2 ⊢
        refine AWp.loopVc (St := Nat × List Bk × Value) (fun s => [(1, lv 1 j q xs.length), (4, .pointer (some ⟨H.length + 1, 0, none⟩)), (6, .pointer (some ⟨H1.length, 0, none⟩)), (33, lv 3 i o bs.length), (34, .int .i64 bs.length), (35, .int .i64 s.1)])
          (fun s H' => s.1 ≤ bs.length ∧ s.2.1 = onB xs (bs.take s.1) ∧ H1 <+: H' ∧ H'[H1.length]? = some ⟨[.int .i64 xs.length, s.2.2], true, true⟩ ∧ OE 3 (H1.length + 1) H' s.2.2 (tri s.2.1) s.2.1.length) (fun s => bs.length - s.1) (0, [], .slice none 0 0) ?_ ?_ ?_
        · simp [upF, Fr.get, Up.refl]
        · exact ⟨by simp, by simp [onB], hp2, hout0, by simpa [tri] using OE.nil 3 (H1.length + 1) H2⟩
        · rintro K ⟨s, acc, vO⟩ H' ⟨hs', hacc, hp', hout, hoe⟩ hK
          simp only at hs' hacc hp' hout hoe
          have hltO := (List.getElem?_eq_some_iff.1 hout).1
          by_cases hlt : s < bs.length
          · have hbs : bs[s]? = some bs[s] := List.getElem?_eq_getElem hlt
            have c1 := (h1.pre (hp0.trans (hp1.trans hp'))).bk hbs
            simp only [Bk.cells] at c1
            have hw_s : IntKind.i64.wrap ((s : Int) + 1) = (s : Int) + 1 := i64w (by omega) (by omega)
            have hsn := onB_snoc xs (bs.take s) bs[s]
            rw [← List.take_succ_eq_append_getElem hlt] at hsn
            have hlen : acc.length ≤ s := by rw [hacc]; exact Nat.le_trans (onB_length _ _) (by simp; omega)
            have hv2 := fun (H2 : Heap) (hp2 : H' <+: H2) => hvo.pre (hp0.trans (hp1.trans (hp'.trans hp2)))
            simp (maxSteps := 1000000) [go_sem, hlt, c1]
            generalize hb_ : bs[s] = b at *
            obtain ⟨pa, hpa⟩ : ∃ x, x = plc xs b.a := ⟨_, rfl⟩
            obtain ⟨pb, hpb⟩ : ∃ x, x = plc xs b.b := ⟨_, rfl⟩
            obtain ⟨pc, hpc⟩ : ∃ x, x = plc xs b.c := ⟨_, rfl⟩
            refine AWp.loopVc (St := Nat) (fun k => [(1, lv 1 j q xs.length), (4, .pointer (some ⟨H.length + 1, 0, none⟩)), (6, .pointer (some ⟨H1.length, 0, none⟩)), (9, .pointer (some ⟨H'.length + 1, 0, none⟩)), (10, .bool (okk pa pb pc k)), (33, lv 3 i o bs.length), (34, .int .i64 bs.length), (35, .int .i64 s), (39, .agg #[.int .i64 b.a, .int .i64 b.b, .int .i64 b.c]), (40, .int .i64 k)])
              (fun k H2 => k ≤ 3 ∧ H' <+: H2 ∧ H2[H'.length + 1]? = some ⟨zk pa pb pc k, true, true⟩) (fun k => 3 - k) 0 ?_ ?_ ?_
            · simp [upF, Fr.get, Up.refl, okk]
            · exact ⟨by omega, List.prefix_append _ _, by simp [zk]⟩
            · rintro K2 k H3 ⟨hk, hp3, hz⟩ hK2
              have hltz := (List.getElem?_eq_some_iff.1 hz).1
              have hst : ∀ (x : Int), k < 3 → storeAt H3 (H'.length + 1) k [.int .i64 x] = some (H3.set (H'.length + 1) ⟨over (zk pa pb pc k) k [.int .i64 x], true, true⟩) := by
                intro x hk3
                exact storeAt_of hz rfl rfl (by simp [zk]; omega) (by simp [Value.oneCell'])
              have next : ∀ (fr : Fr) (cs : List Value), k < 3 → cs = zk pa pb pc (k + 1) → upF (H3.set (H'.length + 1) ⟨cs, true, true⟩) [(1, lv 1 j q xs.length), (4, .pointer (some ⟨H.length + 1, 0, none⟩)), (6, .pointer (some ⟨H1.length, 0, none⟩)), (9, .pointer (some ⟨H'.length + 1, 0, none⟩)), (10, .bool (okk pa pb pc (k + 1))), (33, lv 3 i o bs.length), (34, .int .i64 bs.length), (35, .int .i64 s), (39, .agg #[.int .i64 b.a, .int .i64 b.b, .int .i64 b.c]), (40, .int .i64 ((k + 1 : Nat) : Int))] fr → K2 fr (H3.set (H'.length + 1) ⟨cs, true, true⟩) := by
                intro fr cs hk3 hcs hfr
                refine hK2 (k + 1) fr _ (by omega) hfr ⟨by omega, ?_, by rw [List.getElem?_set_self hltz, hcs]⟩
                exact ((Same.of_prefix (S := fun j => j = H'.length + 1) hp3).trans ⟨by simp, fun j hj hS => List.getElem?_set_ne (fun e => hS e.symm)⟩).prefix (by intro j hj e; omega)
              have w1 : IntKind.i64.wrap 1 = 1 := i64w (by omega) (by omega)
              have w2 : IntKind.i64.wrap 2 = 2 := i64w (by omega) (by omega)
              have w3 : IntKind.i64.wrap 3 = 3 := i64w (by omega) (by omega)
              have hk4 : k = 0 ∨ k = 1 ∨ k = 2 ∨ k = 3 := by omega
              rcases hk4 with rfl | rfl | rfl | rfl
              · have hst := hst pa (by omega)
                have hpv : partV Try.prog 2 [.int .i64 b.a, .int .i64 b.b, .int .i64 b.c] 0 = some (.int .i64 b.a) := by simp [partV, go_sem, aggT]
                simp (maxSteps := 1000000) [go_sem, okk, hpv]
                refine indexI_ok (hv2 H3 hp3) _ ?_
                rw [← hpa]
                by_cases ha : 0 ≤ pa
                · simp (maxSteps := 1000000) [go_sem, w1, w2, w3, hst, ha]
                  exact next _ _ (by omega) (by simp [zk, over]) (by simp [upF, Fr.get, Up.refl, okk, ha])
                · simp (maxSteps := 1000000) [go_sem, w1, w2, w3, hst, ha]
                  exact next _ _ (by omega) (by simp [zk, over]) (by simp [upF, Fr.get, Up.refl, okk, ha])
              · have hst := hst pb (by omega)
                have hpv : partV Try.prog 2 [.int .i64 b.a, .int .i64 b.b, .int .i64 b.c] 1 = some (.int .i64 b.b) := by simp [partV, go_sem, aggT]
                simp (maxSteps := 1000000) [go_sem, okk, hpv]
                refine indexI_ok (hv2 H3 hp3) _ ?_
                rw [← hpb]
                by_cases ha : 0 ≤ pa
                · by_cases hb : 0 ≤ pb
                  · simp (maxSteps := 1000000) [go_sem, w1, w2, w3, hst, ha, hb]
                    exact next _ _ (by omega) (by simp [zk, over]) (by simp [upF, Fr.get, Up.refl, okk, ha, hb])
                  · simp (maxSteps := 1000000) [go_sem, w1, w2, w3, hst, ha, hb]
                    exact next _ _ (by omega) (by simp [zk, over]) (by simp [upF, Fr.get, Up.refl, okk, ha, hb])
                · simp (maxSteps := 1000000) [go_sem, undef, w1, w2, w3, hst, ha]
                  exact next _ _ (by omega) (by simp [zk, over]) (by simp [upF, Fr.get, Up.refl, okk, ha])
              · have hst := hst pc (by omega)
                have hpv : partV Try.prog 2 [.int .i64 b.a, .int .i64 b.b, .int .i64 b.c] 2 = some (.int .i64 b.c) := by simp [partV, go_sem, aggT]
                simp (maxSteps := 1000000) [go_sem, okk, hpv]
                refine indexI_ok (hv2 H3 hp3) _ ?_
                rw [← hpc]
                by_cases hab : 0 ≤ pa ∧ 0 ≤ pb
                · obtain ⟨ha, hb⟩ := hab
                  by_cases hc : 0 ≤ pc
                  · simp (maxSteps := 1000000) [go_sem, w1, w2, w3, hst, ha, hb, hc]
                    exact next _ _ (by omega) (by simp [zk, over]) (by simp [upF, Fr.get, Up.refl, okk, ha, hb, hc])
                  · simp (maxSteps := 1000000) [go_sem, w1, w2, w3, hst, ha, hb, hc]
                    exact next _ _ (by omega) (by simp [zk, over]) (by simp [upF, Fr.get, Up.refl, okk, ha, hb, hc])
                · have e : (decide (0 ≤ pa) && decide (0 ≤ pb)) = false := by
                    rw [← Bool.decide_and]; exact decide_eq_false hab
                  simp (maxSteps := 1000000) [go_sem, undef, w1, w2, w3, hst, e]
                  exact next _ _ (by omega) (by simp [zk, over]) (by simp [upF, Fr.get, Up.refl, okk, e, ← Bool.and_assoc])
              · have hz3 : cellsAt H3 (H'.length + 1) 0 3 = some [.int .i64 pa, .int .i64 pb, .int .i64 pc] := by
                  rw [cellsAt_of hz rfl (by simp [zk])]; simp [zk]
                have hout3 : H3[H1.length]? = some ⟨[.int .i64 xs.length, vO], true, true⟩ := Same.get (S := fun _ => False) (Same.of_prefix hp3) hout (fun h => h)
                have hoe3 := hoe.pre hp3
                by_cases hall : (decide (0 ≤ pa) && (decide (0 ≤ pb) && decide (0 ≤ pc))) = true
                · have e : okk pa pb pc 3 = true := by simpa [okk] using hall
                  have hle1 := hp'.length_le
                  obtain ⟨aO, rfl⟩ := hoe3.shape
                  have l1 : cellsAt H3 H1.length 1 1 = some [.slice aO acc.length acc.length] := by rw [cellsAt_of hout3 rfl (by simp)]; rfl
                  have hp4 : H3 <+: H3 ++ [⟨[.int .i64 pa, .int .i64 pb, .int .i64 pc], true, true⟩] := List.prefix_append _ _
                  have hsrc : cellsAt (H3 ++ [⟨[.int .i64 pa, .int .i64 pb, .int .i64 pc], true, true⟩]) H3.length 0 3 = some [.int .i64 pa, .int .i64 pb, .int .i64 pc] := by simp [go_sem]
                  have hle3 := hp3.length_le
                  obtain ⟨v5, H5, hap, hoe5, hk5, hlen5⟩ := (hoe3.pre hp4).append (m := 1) (news := [.int .i64 pa, .int .i64 pb, .int .i64 pc]) (by omega) (by simp; omega) rfl
                  obtain ⟨a5, rfl⟩ := hoe5.shape
                  have hout5 : H5[H1.length]? = some ⟨[.int .i64 xs.length, .slice aO acc.length acc.length], true, true⟩ := by
                    rw [hk5 _ (by omega)]; exact Same.get (S := fun _ => False) (Same.of_prefix hp4) hout3 (fun h => h)
                  have hp15 : H1 <+: H5 := KeepL.prefix ((hp'.trans hp3).trans hp4) (by omega) hk5 (by simp at hlen5 ⊢; omega)
                  have hst5 : storeAt H5 H1.length 1 [.slice a5 (acc.length + 1) (acc.length + 1)] = some (H5.set H1.length ⟨[.int .i64 xs.length, .slice a5 (acc.length + 1) (acc.length + 1)], true, true⟩) := by
                    rw [storeAt_of hout5 rfl rfl (by simp) (by simp [Value.oneCell'])]; simp [over]
                  have hsame5 : Same (fun j => j = H1.length) H5 (H5.set H1.length ⟨[.int .i64 xs.length, .slice a5 (acc.length + 1) (acc.length + 1)], true, true⟩) := ⟨by simp, fun j hj hS => List.getElem?_set_ne (fun e => hS e.symm)⟩
                  simp (maxSteps := 1000000) [go_sem, e, l1, hz3, hsrc, hap, hst5, hw_s]
                  rw [← hpa, ← hpb, ← hpc, hall] at hsn
                  refine andK_intro (by omega) (hK (s + 1, acc ++ [⟨pa, pb, pc⟩], .slice a5 (acc.length + 1) (acc.length + 1)) _ _ (by simp only; omega) (by simp [upF, Fr.get, Up.refl]) ⟨by simp only; omega, by simp only [hsn, hacc]; simp, ?_, ?_, ?_⟩)
                  · exact ((Same.of_prefix hp15).trans hsame5).prefix (by intro j hj e; omega)
                  · simp only; rw [List.getElem?_set_self (List.getElem?_eq_some_iff.1 hout5).1]
                  · simp only [List.length_append, List.length_singleton, tri_append, tri_one, Bk.cells]
                    exact hoe5.keep hsame5 (by intro j hj e; omega)
                · have hall : (decide (0 ≤ pa) && (decide (0 ≤ pb) && decide (0 ≤ pc))) = false := by simpa using hall
                  have e : okk pa pb pc 3 = false := by simpa [okk] using hall
                  rw [← hpa, ← hpb, ← hpc, hall] at hsn
                  simp (maxSteps := 1000000) [go_sem, e, hw_s]
                  exact hK (s + 1, acc, vO) _ _ (by simp only; omega) (by simp [upF, Fr.get, Up.refl]) ⟨by simp only; omega, by simp only [hsn, hacc]; simp, hp'.trans hp3, hout3, hoe3⟩
          · have : s = bs.length := by omega
            subst this
            rw [List.take_length] at hacc
            have hal : acc.length ≤ 1048576 := by rw [hacc]; exact Nat.le_trans (onB_length _ _) hl
            have hle1 := hp'.length_le
            have hle2 := hp1.length_le
            obtain ⟨aO, rfl⟩ := hoe.shape
            have l2 : cellsAt H' H1.length 0 2 = some [.int .i64 xs.length, .slice aO acc.length acc.length] := by rw [cellsAt_of hout rfl (by simp)]; rfl
            obtain ⟨r1, r2, r3, r4⟩ := put2 (cs := [.int .i64 xs.length, .slice aO acc.length acc.length]) hp0 (by omega) hb0 rfl (hp1.trans hp') rfl rfl
            simp (maxSteps := 1000000) [go_sem, l2, r1, r2]
            obtain ⟨w, hup, hww⟩ := (hoe.keep r4 (by intro j hj e; omega)).blocks (by omega)
            have hle0 := hp0.length_le
            have fin := h _ w r3 (by
              rw [hr, ← hacc]
              exact hww.wider (by omega))
            rw [hr] at fin
            exact ⟨_, Up.tuple (ys := #[sysV xs.length w, .int .i64 0]) ⟨Up.agg ⟨Up.refl _ _, hup, trivial⟩, Up.refl _ _, trivial⟩, fin⟩
    · have hlt3 : ((xs.length : Int) < 3) := by omega
      have hlt3' : (xs.length < 3) := by omega
      simp (maxSteps := 1000000) [go_sem, undef, hlt3, hlt3', q1, q2]
      refine bad _ 2 q3 ?_
      by_cases hr : Rises p xs
      · simp [rOn, setCode_good hs hr, h3l]
      · simp [rOn, setCode_bad hs hr]

end Go.Proofs.Ytkgjdmbmdnmilaa
