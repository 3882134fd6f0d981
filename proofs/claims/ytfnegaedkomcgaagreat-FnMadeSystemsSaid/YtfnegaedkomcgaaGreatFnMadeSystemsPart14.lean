/- Part 14 of what the proof of the law FnMadeSystems rests on: contracts of functions of the program, for every argument that each names; no statement of the seat is proved here. -/
import Derived.Test.YtfnegaedkomcgaaGreatFnMadeSystemsPart13

set_option linter.all false
set_option maxRecDepth 20000
set_option maxHeartbeats 8000000
section
namespace Go.Proofs.YtfnegaedkomcgaaGreat
open Go.Ab

def zk (pa pb pc : Int) (k : Nat) : List Value := [.int .i64 (if 0 < k then pa else 0), .int .i64 (if 1 < k then pb else 0), .int .i64 (if 2 < k then pc else 0)]
def okk (pa pb pc : Int) (k : Nat) : Bool := (decide (k < 1) || decide (0 <= pa)) && ((decide (k < 2) || decide (0 <= pb)) && (decide (k < 3) || decide (0 <= pc)))

theorem implBlocksOn_ok {H : Heap} {u v : Value} {p : Int} {bs : List Bk} {xs : List Int} (hu : BlocksAt H u bs) (hl : bs.length <= 1048576) (hv : IntsAt H v xs) (hl' : xs.length <= 1048576) (hw : ∀ x ∈ xs, In64 x) (Post : Value -> Heap -> Prop)
    (h : ∀ H' w, H <+: H' -> BlocksIn H.length H'.length H' w (rOn p bs xs).1.2 -> Post (.tuple #[sysV (rOn p bs xs).1.1 w, .int .i64 (rOn p bs xs).2]) H') :
    ACalls Tryz.prog 15 [sysV p u, v] H Post := by
  have hvo := hv
  have huo := hu
  obtain ⟨j, q, rfl, h3, h4⟩ := hv
  obtain ⟨i, o, rfl, h1, h2⟩ := hu
  refine ACalls.res ?_
  refine acalls_vc (rs := [.cell 4 26, .tmp 5]) Tryz.func15 rfl rfl Tryz.ntmps15 rfl rfl ?_
  simp (maxSteps := 1000000) [go_sem, sysV]
  have hp0 : H <+: H ++ [⟨[.int .i64 p, lv 3 i o bs.length], true, true⟩, ⟨[.int .i64 0, .slice none 0 0], true, true⟩] := List.prefix_append _ _
  have hx0 : Holds (H ++ [⟨[.int .i64 p, lv 3 i o bs.length], true, true⟩, ⟨[.int .i64 0, .slice none 0 0], true, true⟩]) H.length [.int .i64 p, lv 3 i o bs.length] := ⟨true, by simp⟩
  have hb0 : (H ++ [(⟨[.int .i64 p, lv 3 i o bs.length], true, true⟩ : Blk), ⟨[.int .i64 0, .slice none 0 0], true, true⟩])[H.length + 1]? = some ⟨[.int .i64 0, .slice none 0 0], true, true⟩ := by simp
  have hlen0 : (H ++ [(⟨[.int .i64 p, lv 3 i o bs.length], true, true⟩ : Blk), ⟨[.int .i64 0, .slice none 0 0], true, true⟩]).length = H.length + 2 := by simp
  generalize H ++ [(⟨[.int .i64 p, lv 3 i o bs.length], true, true⟩ : Blk), ⟨[.int .i64 0, .slice none 0 0], true, true⟩] = H0 at hp0 hx0 hb0 hlen0 ⊢
  have bad : ∀ (H' : Heap) (c : Int), H <+: H' -> rOn p bs xs = ((0, []), c) -> ∃ v', Up H' (.tuple #[.agg #[.int .i64 0, .slice none 0 0], .int .i64 c]) v' /\ Post v' H' := by
    intro H' c hp hr
    refine ⟨_, Up.tuple (ys := #[sysV 0 (lv 3 0 0 0), .int .i64 c]) ⟨zeroSys, Up.refl _ _, trivial⟩, ?_⟩
    have := h H' (lv 3 0 0 0) hp (by rw [hr]; exact BlocksIn.nil _ _ _)
    rwa [hr] at this
  refine implIsSys (huo.pre hp0) _ ?_
  intro H1 hp1
  obtain ⟨d0, d1, d2⟩ := (hx0.pre hp1).sys
  obtain ⟨q1, q2, q3, _⟩ := put2 (cs := [.int .i64 0, .slice none 0 0]) hp0 (by omega) hb0 rfl hp1 rfl rfl
  cases hs : sysB p bs with
  | false =>
    simp (maxSteps := 1000000) [go_sem, q1, q2]
    exact bad _ 1 q3 (by simp [rOn, setCode_none hs])
  | true =>
    have hS := sysB_of hs
    have hp := hS.1
    by_cases h3l : 3 <= xs.length
    · have hlt3 : ¬ ((xs.length : Int) < 3) := by omega
      have hlt3' : ¬ (xs.length < 3) := by omega
      simp (maxSteps := 1000000) [go_sem, hlt3, hlt3', d1]
      refine rises_ok (hvo.pre (hp0.trans hp1)) (by omega) (by omega) _ ?_
      intro b hb
      cases b with
      | false =>
        simp (maxSteps := 1000000) [go_sem, q1, q2]
        exact bad _ 2 q3 (by simp [rOn, setCode_bad hs (fun hr => by have := hb.2 hr; cases this)])
      | true =>
        have hrise := hb.1 rfl
        have hr : rOn p bs xs = (((xs.length : Int), onB xs bs), 0) := by simp [rOn, setCode_good hs hrise, h3l]
        obtain ⟨d0', d1', d2'⟩ := ((hx0.pre hp1).pre (List.prefix_append H1 [⟨[.int .i64 xs.length, .slice none 0 0], true, true⟩])).sys
        simp (maxSteps := 1000000) [go_sem, d2']
        have hp2 : H1 <+: H1 ++ [⟨[.int .i64 xs.length, .slice none 0 0], true, true⟩] := List.prefix_append _ _
        have hout0 : (H1 ++ [(⟨[.int .i64 xs.length, .slice none 0 0], true, true⟩ : Blk)])[H1.length]? = some ⟨[.int .i64 xs.length, .slice none 0 0], true, true⟩ := by simp
        have hlen2 : (H1 ++ [(⟨[.int .i64 xs.length, .slice none 0 0], true, true⟩ : Blk)]).length = H1.length + 1 := by simp
        generalize H1 ++ [(⟨[.int .i64 xs.length, .slice none 0 0], true, true⟩ : Blk)] = H2 at hp2 hout0 hlen2 ⊢
        refine AWp.loopVc (St := Nat × List Bk × Value) (fun s => [(1, lv 1 j q xs.length), (4, .pointer (some ⟨H.length + 1, 0, none⟩)), (6, .pointer (some ⟨H1.length, 0, none⟩)), (33, lv 3 i o bs.length), (34, .int .i64 bs.length), (35, .int .i64 s.1)])
          (fun s H' => s.1 <= bs.length /\ s.2.1 = onB xs (bs.take s.1) /\ H1 <+: H' /\ H'[H1.length]? = some ⟨[.int .i64 xs.length, s.2.2], true, true⟩ /\ OE 3 (H1.length + 1) H' s.2.2 (tri s.2.1) s.2.1.length) (fun s => bs.length - s.1) (0, [], .slice none 0 0) ?_ ?_ ?_
        · simp [upF, Fr.get, Up.refl]
        · exact ⟨by simp, by simp [onB], hp2, hout0, by simpa [tri] using OE.nil 3 (H1.length + 1) H2⟩
        · rintro K ⟨s, acc, vO⟩ H' ⟨hs', hacc, hp', hout, hoe⟩ hK
          simp only at hs' hacc hp' hout hoe
          have hltO := (List.getElem?_eq_some_iff.1 hout).1
          by_cases hlt : s < bs.length
          · have hbs : bs[s]? = some bs[s] := List.getElem?_eq_getElem hlt
            have c1 := (h1.pre (hp0.trans (hp1.trans hp'))).bk hbs
            simp only [Bk.cells] at c1
            have hw_s : IntKind.i64.wrap ((s : Int) + 1) = (s : Int) + 1 := i64w (by omega) (by omega)
            have hsn := onB_snoc xs (bs.take s) bs[s]
            rw [<- List.take_succ_eq_append_getElem hlt] at hsn
            have hlen : acc.length <= s := by rw [hacc]; exact Nat.le_trans (onB_length _ _) (by simp; omega)
            have hv2 := fun (H2 : Heap) (hp2 : H' <+: H2) => hvo.pre (hp0.trans (hp1.trans (hp'.trans hp2)))
            simp (maxSteps := 1000000) [go_sem, hlt, c1]
            generalize hb_ : bs[s] = b at *
            obtain ⟨pa, hpa⟩ : ∃ x, x = plc xs b.a := ⟨_, rfl⟩
            obtain ⟨pb, hpb⟩ : ∃ x, x = plc xs b.b := ⟨_, rfl⟩
            obtain ⟨pc, hpc⟩ : ∃ x, x = plc xs b.c := ⟨_, rfl⟩
            refine AWp.loopVc (St := Nat) (fun k => [(1, lv 1 j q xs.length), (4, .pointer (some ⟨H.length + 1, 0, none⟩)), (6, .pointer (some ⟨H1.length, 0, none⟩)), (9, .pointer (some ⟨H'.length + 1, 0, none⟩)), (10, .bool (okk pa pb pc k)), (33, lv 3 i o bs.length), (34, .int .i64 bs.length), (35, .int .i64 s), (39, .agg #[.int .i64 b.a, .int .i64 b.b, .int .i64 b.c]), (40, .int .i64 k)])
              (fun k H2 => k <= 3 /\ H' <+: H2 /\ H2[H'.length + 1]? = some ⟨zk pa pb pc k, true, true⟩) (fun k => 3 - k) 0 ?_ ?_ ?_
            · simp [upF, Fr.get, Up.refl, okk]
            · exact ⟨by omega, List.prefix_append _ _, by simp [zk]⟩
            · rintro K2 k H3 ⟨hk, hp3, hz⟩ hK2
              have hltz := (List.getElem?_eq_some_iff.1 hz).1
              have hst : ∀ (x : Int), k < 3 -> storeAt H3 (H'.length + 1) k [.int .i64 x] = some (H3.set (H'.length + 1) ⟨over (zk pa pb pc k) k [.int .i64 x], true, true⟩) := by
                intro x hk3
                exact storeAt_of hz rfl rfl (by simp [zk]; omega) (by simp [Value.oneCell'])
              have next : ∀ (fr : Fr) (cs : List Value), k < 3 -> cs = zk pa pb pc (k + 1) -> upF (H3.set (H'.length + 1) ⟨cs, true, true⟩) [(1, lv 1 j q xs.length), (4, .pointer (some ⟨H.length + 1, 0, none⟩)), (6, .pointer (some ⟨H1.length, 0, none⟩)), (9, .pointer (some ⟨H'.length + 1, 0, none⟩)), (10, .bool (okk pa pb pc (k + 1))), (33, lv 3 i o bs.length), (34, .int .i64 bs.length), (35, .int .i64 s), (39, .agg #[.int .i64 b.a, .int .i64 b.b, .int .i64 b.c]), (40, .int .i64 ((k + 1 : Nat) : Int))] fr -> K2 fr (H3.set (H'.length + 1) ⟨cs, true, true⟩) := by
                intro fr cs hk3 hcs hfr
                refine hK2 (k + 1) fr _ (by omega) hfr ⟨by omega, ?_, by rw [List.getElem?_set_self hltz, hcs]⟩
                exact ((Same.of_prefix (S := fun j => j = H'.length + 1) hp3).trans ⟨by simp, fun j hj hS => List.getElem?_set_ne (fun e => hS e.symm)⟩).prefix (by intro j hj e; omega)
              have w1 : IntKind.i64.wrap 1 = 1 := i64w (by omega) (by omega)
              have w2 : IntKind.i64.wrap 2 = 2 := i64w (by omega) (by omega)
              have w3 : IntKind.i64.wrap 3 = 3 := i64w (by omega) (by omega)
              have hk4 : k = 0 \/ k = 1 \/ k = 2 \/ k = 3 := by omega
              rcases hk4 with rfl | rfl | rfl | rfl
              · have hst := hst pa (by omega)
                have hpv : partV Tryz.prog 2 [.int .i64 b.a, .int .i64 b.b, .int .i64 b.c] 0 = some (.int .i64 b.a) := by simp [partV, go_sem, aggT]
                simp (maxSteps := 1000000) [go_sem, okk, hpv]
                refine indexI_ok (hv2 H3 hp3) _ ?_
                rw [<- hpa]
                by_cases ha : 0 <= pa
                · simp (maxSteps := 1000000) [go_sem, w1, w2, w3, hst, ha]
                  exact next _ _ (by omega) (by simp [zk, over]) (by simp [upF, Fr.get, Up.refl, okk, ha])
                · simp (maxSteps := 1000000) [go_sem, w1, w2, w3, hst, ha]
                  exact next _ _ (by omega) (by simp [zk, over]) (by simp [upF, Fr.get, Up.refl, okk, ha])
              · have hst := hst pb (by omega)
                have hpv : partV Tryz.prog 2 [.int .i64 b.a, .int .i64 b.b, .int .i64 b.c] 1 = some (.int .i64 b.b) := by simp [partV, go_sem, aggT]
                simp (maxSteps := 1000000) [go_sem, okk, hpv]
                refine indexI_ok (hv2 H3 hp3) _ ?_
                rw [<- hpb]
                by_cases ha : 0 <= pa
                · by_cases hb : 0 <= pb
                  · simp (maxSteps := 1000000) [go_sem, w1, w2, w3, hst, ha, hb]
                    exact next _ _ (by omega) (by simp [zk, over]) (by simp [upF, Fr.get, Up.refl, okk, ha, hb])
                  · simp (maxSteps := 1000000) [go_sem, w1, w2, w3, hst, ha, hb]
                    exact next _ _ (by omega) (by simp [zk, over]) (by simp [upF, Fr.get, Up.refl, okk, ha, hb])
                · simp (maxSteps := 1000000) [go_sem, undef, w1, w2, w3, hst, ha]
                  exact next _ _ (by omega) (by simp [zk, over]) (by simp [upF, Fr.get, Up.refl, okk, ha])
              · have hst := hst pc (by omega)
                have hpv : partV Tryz.prog 2 [.int .i64 b.a, .int .i64 b.b, .int .i64 b.c] 2 = some (.int .i64 b.c) := by simp [partV, go_sem, aggT]
                simp (maxSteps := 1000000) [go_sem, okk, hpv]
                refine indexI_ok (hv2 H3 hp3) _ ?_
                rw [<- hpc]
                by_cases hab : 0 <= pa /\ 0 <= pb
                · obtain ⟨ha, hb⟩ := hab
                  by_cases hc : 0 <= pc
                  · simp (maxSteps := 1000000) [go_sem, w1, w2, w3, hst, ha, hb, hc]
                    exact next _ _ (by omega) (by simp [zk, over]) (by simp [upF, Fr.get, Up.refl, okk, ha, hb, hc])
                  · simp (maxSteps := 1000000) [go_sem, w1, w2, w3, hst, ha, hb, hc]
                    exact next _ _ (by omega) (by simp [zk, over]) (by simp [upF, Fr.get, Up.refl, okk, ha, hb, hc])
                · have e : (decide (0 <= pa) && decide (0 <= pb)) = false := by
                    rw [<- Bool.decide_and]; exact decide_eq_false hab
                  simp (maxSteps := 1000000) [go_sem, undef, w1, w2, w3, hst, e]
                  exact next _ _ (by omega) (by simp [zk, over]) (by simp [upF, Fr.get, Up.refl, okk, e, <- Bool.and_assoc])
              · have hz3 : cellsAt H3 (H'.length + 1) 0 3 = some [.int .i64 pa, .int .i64 pb, .int .i64 pc] := by
                  rw [cellsAt_of hz rfl (by simp [zk])]; simp [zk]
                have hout3 : H3[H1.length]? = some ⟨[.int .i64 xs.length, vO], true, true⟩ := pget hp3 hout
                have hoe3 := hoe.pre hp3
                by_cases hall : (decide (0 <= pa) && (decide (0 <= pb) && decide (0 <= pc))) = true
                · have e : okk pa pb pc 3 = true := by simpa [okk] using hall
                  have hle1 := hp'.length_le
                  obtain ⟨aO, rfl⟩ := hoe3.shape
                  have l1 : cellsAt H3 H1.length 1 1 = some [.slice aO acc.length acc.length] := by rw [cellsAt_of hout3 rfl (by simp)]; rfl
                  have hp4 : H3 <+: H3 ++ [⟨[.int .i64 pa, .int .i64 pb, .int .i64 pc], true, true⟩] := List.prefix_append _ _
                  have hsrc : cellsAt (H3 ++ [⟨[.int .i64 pa, .int .i64 pb, .int .i64 pc], true, true⟩]) H3.length 0 3 = some [.int .i64 pa, .int .i64 pb, .int .i64 pc] := by simp [go_sem]
                  have hle3 := hp3.length_le
                  obtain ⟨v5, H5, hap, hoe5, hk5, hlen5⟩ := (hoe3.pre hp4).append (m := 1) (news := [.int .i64 pa, .int .i64 pb, .int .i64 pc]) (by omega) (by simp; omega) rfl
                  obtain ⟨a5, rfl⟩ := hoe5.shape
                  have hout5 : H5[H1.length]? = some ⟨[.int .i64 xs.length, .slice aO acc.length acc.length], true, true⟩ := by
                    rw [hk5 _ (by omega)]; exact pget hp4 hout3
                  have hp15 : H1 <+: H5 := KeepL.prefix ((hp'.trans hp3).trans hp4) (by omega) hk5 (by simp at hlen5 ⊢; omega)
                  have hst5 : storeAt H5 H1.length 1 [.slice a5 (acc.length + 1) (acc.length + 1)] = some (H5.set H1.length ⟨[.int .i64 xs.length, .slice a5 (acc.length + 1) (acc.length + 1)], true, true⟩) := by
                    rw [storeAt_of hout5 rfl rfl (by simp) (by simp [Value.oneCell'])]; simp [over]
                  have hsame5 : Same (fun j => j = H1.length) H5 (H5.set H1.length ⟨[.int .i64 xs.length, .slice a5 (acc.length + 1) (acc.length + 1)], true, true⟩) := ⟨by simp, fun j hj hS => List.getElem?_set_ne (fun e => hS e.symm)⟩
                  simp (maxSteps := 1000000) [go_sem, e, l1, hz3, hsrc, hap, hst5, hw_s]
                  rw [<- hpa, <- hpb, <- hpc, hall] at hsn
                  refine andK_intro (by omega) (hK (s + 1, acc ++ [⟨pa, pb, pc⟩], .slice a5 (acc.length + 1) (acc.length + 1)) _ _ (by simp only; omega) (by simp [upF, Fr.get, Up.refl]) ⟨by simp only; omega, by simp only [hsn, hacc]; simp, ?_, ?_, ?_⟩)
                  · exact ((Same.of_prefix hp15).trans hsame5).prefix (by intro j hj e; omega)
                  · simp only; rw [List.getElem?_set_self (List.getElem?_eq_some_iff.1 hout5).1]
                  · simp only [List.length_append, List.length_singleton, tri_append, tri_one, Bk.cells]
                    exact hoe5.keep hsame5 (by intro j hj e; omega)
                · have hall : (decide (0 <= pa) && (decide (0 <= pb) && decide (0 <= pc))) = false := by simpa using hall
                  have e : okk pa pb pc 3 = false := by simpa [okk] using hall
                  rw [<- hpa, <- hpb, <- hpc, hall] at hsn
                  simp (maxSteps := 1000000) [go_sem, e, hw_s]
                  exact hK (s + 1, acc, vO) _ _ (by simp only; omega) (by simp [upF, Fr.get, Up.refl]) ⟨by simp only; omega, by simp only [hsn, hacc]; simp, hp'.trans hp3, hout3, hoe3⟩
          · have : s = bs.length := by omega
            subst this
            rw [List.take_length] at hacc
            have hal : acc.length <= 1048576 := by rw [hacc]; exact Nat.le_trans (onB_length _ _) hl
            have hle1 := hp'.length_le
            have hle2 := hp1.length_le
            obtain ⟨aO, rfl⟩ := hoe.shape
            have l2 : cellsAt H' H1.length 0 2 = some [.int .i64 xs.length, .slice aO acc.length acc.length] := by rw [cellsAt_of hout rfl (by simp)]; rfl
            obtain ⟨r1, r2, r3, r4⟩ := put2 (cs := [.int .i64 xs.length, .slice aO acc.length acc.length]) hp0 (by omega) hb0 rfl (hp1.trans hp') rfl rfl
            simp (maxSteps := 1000000) [go_sem, l2, r1, r2]
            obtain ⟨w, hup, hww⟩ := (hoe.keep r4 (by intro j hj e; omega)).blocks (by omega)
            have hle0 := hp0.length_le
            have fin := h _ w r3 (by
              rw [hr, <- hacc]
              exact hww.wider (by omega))
            rw [hr] at fin
            exact ⟨_, Up.tuple (ys := #[sysV xs.length w, .int .i64 0]) ⟨Up.agg ⟨Up.refl _ _, hup, trivial⟩, Up.refl _ _, trivial⟩, fin⟩
    · have hlt3 : ((xs.length : Int) < 3) := by omega
      have hlt3' : (xs.length < 3) := by omega
      simp (maxSteps := 1000000) [go_sem, undef, hlt3, hlt3', q1, q2]
      refine bad _ 2 q3 ?_
      by_cases hr : Rises p xs
      · simp [rOn, setCode_good hs hr, h3l]
      · simp [rOn, setCode_bad hs hr]

end Go.Proofs.YtfnegaedkomcgaaGreat
end

section
namespace Go.Proofs.YtfnegaedkomcgaaGreat
open Go.Ab

theorem ol_ints {H : Heap} {id n : Nat} {xs : List Int} (h : OL 1 H id (ints xs) n) (hn : xs.length = n) (hl : n <= 140737488355328) : IntsAt H (lv 1 id 0 n) xs := ⟨id, 0, by rw [hn], h.at, by omega⟩

theorem lawFnMadeSystems (H : Heap) (avs : List Value) (h : argsSay [shBytes] H avs) : ACalls Tryz.prog 3 avs H fun v _ => v = .bool true := by
  obtain ⟨u, _, rfl, a0, rfl⟩ := h
  obtain ⟨xs, hu0⟩ := says_shBytes a0
  refine acalls_vc (rs := [.tmp 2]) Tryz.func3 rfl rfl Tryz.ntmps3 rfl rfl ?_
  simp (maxSteps := 1000000) [go_sem]
  refine big_ok hu0 _ ?_
  by_cases hbig : 4096 < xs.length
  · simp (maxSteps := 1000000) [go_sem, hbig]
  have hu := hu0.short (by omega)
  clear a0 hu0
  simp (maxSteps := 1000000) [go_sem, hbig]
  refine drawDouble_ok hu _ ?_
  intro H1 p x bs hp1 hx hwx
  have hlb := hwx.len
  have onex := hx.one
  simp (maxSteps := 1000000) [go_sem, sysV, onex]
  have bxA := Holds.last H1 [.int .i64 p, x]
  have hp2 : H1 <+: H1 ++ [(⟨[.int .i64 p, x], true, true⟩ : Blk)] := List.prefix_append _ _
  generalize H1 ++ [(⟨[.int .i64 p, x], true, true⟩ : Blk)] = H2 at bxA hp2 ⊢
  obtain ⟨a0, a1, a2⟩ := bxA.sys
  try simp (maxSteps := 1000000) [go_sem, a0]
  refine implDouble_ok (hx.read.pre hp2) (by omega) _ ?_
  intro H3 y hp3 hy
  have hplain := @rDbl_full p bs
  have hplainB := @rDbl_bad p bs
  obtain ⟨p3, hp3'⟩ : ∃ q, (rDbl p bs).1.1 = q := ⟨_, rfl⟩
  obtain ⟨b3, hb3⟩ : ∃ b, (rDbl p bs).1.2 = b := ⟨_, rfl⟩
  obtain ⟨e3, he3⟩ : ∃ e, (rDbl p bs).2 = e := ⟨_, rfl⟩
  have hrx : (rDbl p bs).1 = (p3, b3) := by rw [<- hp3', <- hb3]
  rw [hp3', he3, hb3] at hplain
  rw [he3, hrx] at hplainB
  rw [hb3] at hy
  rw [hp3', he3]
  have oney := hy.one
  simp (maxSteps := 1000000) [go_sem, sysV, oney]
  have bxB := Holds.last H3 [.int .i64 p3, y]
  have hp4 : H3 <+: H3 ++ [(⟨[.int .i64 p3, y], true, true⟩ : Blk)] := List.prefix_append _ _
  generalize H3 ++ [(⟨[.int .i64 p3, y], true, true⟩ : Blk)] = H4 at bxB hp4 ⊢
  obtain ⟨a0, a1, a2⟩ := (bxA.pre (hp3.trans hp4)).sys
  try simp (maxSteps := 1000000) [go_sem, a0]
  refine specDouble_ok (hx.read.pre (hp2.trans (hp3.trans hp4))) (by omega) _ ?_
  rw [hp3', he3, hb3]
  intro H5 z hp5 hz
  have onez := hz.one
  simp (maxSteps := 1000000) [go_sem, sysV, onez]
  have bxC := Holds.last H5 [.int .i64 p3, z]
  have hp6 : H5 <+: H5 ++ [(⟨[.int .i64 p3, z], true, true⟩ : Blk)] := List.prefix_append _ _
  generalize H5 ++ [(⟨[.int .i64 p3, z], true, true⟩ : Blk)] = H6 at bxC hp6 ⊢
  have q46 := hp5.trans hp6
  obtain ⟨b0, b1, b2⟩ := (bxB.pre q46).sys
  obtain ⟨c0, c1, c2⟩ := bxC.sys
  try simp (maxSteps := 1000000) [go_sem, undef, b0, c0]
  refine system9_ok (hy.read.pre (hp4.trans q46)) (hz.read.pre hp6) _ ?_
  intro H7 hp7
  have q26 := (hp3.trans hp4).trans q46
  have q17 := (hp1.trans (hp2.trans (q26.trans hp7)))
  simp (maxSteps := 1000000) [go_sem, undef]
  refine drawProduct_ok (hu.pre q17) _ ?_
  intro H8 pa pb wa wb ba bb hp8 hwa hda hwb hdb
  have hla := hda.len
  have hlb2 := hdb.len
  have onea := hwa.one
  have oneb := hwb.one
  simp (maxSteps := 1000000) [go_sem, undef, sysV, onea, oneb]
  have bxD : Holds (H8 ++ [(⟨[.int .i64 pa, wa], true, true⟩ : Blk), ⟨[.int .i64 pb, wb], true, true⟩]) H8.length [.int .i64 pa, wa] := ⟨true, by simp⟩
  have bxE : Holds (H8 ++ [(⟨[.int .i64 pa, wa], true, true⟩ : Blk), ⟨[.int .i64 pb, wb], true, true⟩]) (H8.length + 1) [.int .i64 pb, wb] := ⟨true, by simp⟩
  have hp9 : H8 <+: H8 ++ [(⟨[.int .i64 pa, wa], true, true⟩ : Blk), ⟨[.int .i64 pb, wb], true, true⟩] := List.prefix_append _ _
  generalize H8 ++ [(⟨[.int .i64 pa, wa], true, true⟩ : Blk), ⟨[.int .i64 pb, wb], true, true⟩] = H9 at bxD bxE hp9 ⊢
  obtain ⟨d0, d1, d2⟩ := bxD.sys
  obtain ⟨f0, f1, f2⟩ := bxE.sys
  try simp (maxSteps := 1000000) [go_sem, undef, d0, f0]
  refine implProd_ok (hwa.read.pre hp9) (by omega) (hwb.read.pre hp9) (by omega) _ ?_
  intro H10 r hp10 hr
  have hprod := @rProd_full pa pb ba bb
  obtain ⟨p4, hp4'⟩ : ∃ q, (rProd pa ba pb bb).1.1 = q := ⟨_, rfl⟩
  obtain ⟨b4, hb4⟩ : ∃ b, (rProd pa ba pb bb).1.2 = b := ⟨_, rfl⟩
  obtain ⟨e4, he4⟩ : ∃ e, (rProd pa ba pb bb).2 = e := ⟨_, rfl⟩
  rw [hp4', he4, hb4] at hprod
  rw [hb4] at hr
  rw [hp4', he4]
  have oner := hr.one
  simp (maxSteps := 1000000) [go_sem, undef, sysV, oner]
  have bxF := Holds.last H10 [.int .i64 p4, r]
  have hp11 : H10 <+: H10 ++ [(⟨[.int .i64 p4, r], true, true⟩ : Blk)] := List.prefix_append _ _
  generalize H10 ++ [(⟨[.int .i64 p4, r], true, true⟩ : Blk)] = H11 at bxF hp11 ⊢
  have q911 := hp10.trans hp11
  obtain ⟨d0, d1, d2⟩ := (bxD.pre q911).sys
  obtain ⟨f0, f1, f2⟩ := (bxE.pre q911).sys
  try simp (maxSteps := 1000000) [go_sem, undef, d0, f0]
  refine specProd_ok (hwa.read.pre (hp9.trans q911)) (by omega) (hwb.read.pre (hp9.trans q911)) (by omega) _ ?_
  rw [hp4', he4, hb4]
  intro H12 t hp12 ht
  have onet := ht.one
  simp (maxSteps := 1000000) [go_sem, undef, sysV, onet]
  have bxG := Holds.last H12 [.int .i64 p4, t]
  have hp13 : H12 <+: H12 ++ [(⟨[.int .i64 p4, t], true, true⟩ : Blk)] := List.prefix_append _ _
  generalize H12 ++ [(⟨[.int .i64 p4, t], true, true⟩ : Blk)] = H13 at bxG hp13 ⊢
  have q1113 := hp12.trans hp13
  obtain ⟨g0, g1, g2⟩ := (bxF.pre q1113).sys
  obtain ⟨k0, k1, k2⟩ := bxG.sys
  try simp (maxSteps := 1000000) [go_sem, undef, g0, k0]
  refine system9_ok (hr.read.pre (hp11.trans q1113)) (ht.read.pre hp13) _ ?_
  intro H14 hp14
  have q914 := (q911.trans q1113).trans hp14
  have q114 := q1113.trans hp14
  have q14 : H2 <+: H14 := ((q26.trans hp7).trans hp8).trans (hp9.trans q914)
  have q4 : H4 <+: H14 := ((q46.trans hp7).trans hp8).trans (hp9.trans q914)
  simp (maxSteps := 1000000) [go_sem, undef]
  obtain ⟨g0, g1, g2⟩ := (bxF.pre q114).sys
  by_cases hz4 : e4 = 0
  · subst hz4
    obtain ⟨m1, m2, m3, m4, m5, m6⟩ := hprod rfl
    simp (maxSteps := 1000000) [go_sem, undef, g0]
    refine implIsFull_ok (hr.read.pre (hp11.trans q114)) (by have := m2.2.1; omega) _ ?_
    have hrF4 : rIsFull p4 b4 = (true, 0) := by rw [m1, rIsFull, sysB_iff.2 m2, m3]; rfl
    rw [hrF4]
    intro H15 hp15
    obtain ⟨g0, g1, g2⟩ := (bxF.pre (q114.trans hp15)).sys
    obtain ⟨d0, d1, d2⟩ := (bxD.pre (q914.trans hp15)).sys
    obtain ⟨f0, f1, f2⟩ := (bxE.pre (q914.trans hp15)).sys
    have hmul : 0 <= pa * pb := Int.mul_nonneg (by omega) (by omega)
    have wm : IntKind.i64.wrap (pa * pb) = p4 := by rw [m1]; exact i64w (by omega) (by omega)
    simp (maxSteps := 1000000) [go_sem, undef, g1, d1, f1, wm]
    obtain ⟨a0, a1, a2⟩ := (bxA.pre (q14.trans hp15)).sys
    obtain ⟨b0, b1, b2⟩ := (bxB.pre (q4.trans hp15)).sys
    by_cases hz3 : e3 ≠ 0
    · cases hplainB hz3
      have hz3' : (e3 != 0) = true := by simpa using hz3
      simp (maxSteps := 1000000) [go_sem, undef, hz3', b1]
    have hz3 := Classical.not_not.1 hz3
    subst hz3
    obtain ⟨g1, g2, g3, g4, g5, g6, g7⟩ := hplain rfl
    have hpp := g1.1
    subst g4
    obtain ⟨v, rfl⟩ : ∃ v : Nat, p = v := ⟨p.toNat, by omega⟩
    rw [Int.toNat_natCast] at g7
    simp (maxSteps := 1000000) [go_sem, undef, b0]
    refine implIsFull_ok (hy.read.pre (hp4.trans (q4.trans hp15))) (by have := g5.2.1; omega) _ ?_
    have hrF : rIsFull (2 * (v : Int) + 1) b3 = (true, 0) := by rw [rIsFull, sysB_iff.2 g5, g6]; rfl
    rw [hrF]
    intro H20 hp20
    have q2 := q14.trans (hp15.trans hp20)
    have q3 := q4.trans (hp15.trans hp20)
    clear a0 a1 a2 b0 b1 b2
    simp (maxSteps := 1000000) [go_sem, undef]
    have hbl0 := Bl.nil 1 H20
    generalize H20 ++ [(⟨[], true, true⟩ : Blk)] = H21 at hbl0 ⊢
    refine AWp.loopVc (St := Nat × Nat) (fun q => [(3, .pointer (some ⟨H1.length, 0, none⟩)), (4, .pointer (some ⟨H3.length, 0, none⟩)), (16, .bool true), (17, .int .i64 0), (18, lv 1 q.2 0 q.1), (19, .int .i64 q.1)])
      (fun q H' => q.1 <= v /\ Bl 1 H20 H' q.2 (ints (upI q.1)) q.1) (fun q => v - q.1) (0, H20.length) ?_ ?_ ?_
    · simp [upF, Fr.get, Up.refl, Up.ex0]
    · exact ⟨by simp, by simpa [upI, ints] using hbl0⟩
    · rintro K ⟨k, id⟩ H22 ⟨hk, hbl⟩ hK
      simp only at hk hbl
      obtain ⟨a0, a1, a2⟩ := (bxA.pre (q2.trans hbl.1)).sys
      by_cases hkv : k < v
      · obtain ⟨hsrc, H23, hap, hbl23⟩ := hbl.push (xs := [.int .i64 (k : Int)]) (by omega) rfl
        have hw_k : IntKind.i64.wrap ((k : Int) + 1) = (k : Int) + 1 := i64w (by omega) (by omega)
        simp (maxSteps := 1000000) [go_sem, undef, a1, hkv, hsrc, hap, hw_k]
        refine andK_intro (by omega) (hK (k + 1, H22.length + 1) _ _ (by simp only; omega) (by simp [upF, Fr.get, Up.refl]) ⟨by simp only; omega, ?_⟩)
        have e : ints (upI (k + 1)) = ints (upI k) ++ [.int .i64 (k : Int)] := by simp [upI, ints, List.range_succ]
        rw [e]
        exact hbl23
      · have hkv2 : k = v := by omega
        subst hkv2
        obtain ⟨b0, b1, b2⟩ := (bxB.pre (q3.trans hbl.1)).sys
        simp (maxSteps := 1000000) [go_sem, undef, a1, b0]
        have hIn := ol_ints hbl.2.1 (upI_length k) (by omega)
        refine implBlocksOn_ok (hy.read.pre (hp4.trans (q3.trans hbl.1))) (by have := g5.2.1; omega) hIn (by rw [upI_length]; omega) (fun x hx => by have := mem_upI.1 hx; unfold In64; omega) _ ?_
        rw [g7]
        intro H24 w hp24 hw
        have onew := hw.one
        simp (maxSteps := 1000000) [go_sem, undef, sysV, onew]
        have bxW := Holds.last H24 [.int .i64 (k : Int), w]
        have hp25 : H24 <+: H24 ++ [(⟨[.int .i64 (k : Int), w], true, true⟩ : Blk)] := List.prefix_append _ _
        generalize H24 ++ [(⟨[.int .i64 (k : Int), w], true, true⟩ : Blk)] = H25 at bxW hp25 ⊢
        have q225 := (q2.trans hbl.1).trans (hp24.trans hp25)
        obtain ⟨a0, a1, a2⟩ := (bxA.pre q225).sys
        obtain ⟨b0, b1, b2⟩ := (bxB.pre ((q3.trans hbl.1).trans (hp24.trans hp25))).sys
        obtain ⟨w0, w1, w2⟩ := bxW.sys
        have wm1 : IntKind.i64.wrap (2 * (k : Int)) = 2 * (k : Int) := i64w (by omega) (by omega)
        have wm2 : IntKind.i64.wrap (2 * (k : Int) + 1) = 2 * (k : Int) + 1 := i64w (by omega) (by omega)
        try simp (maxSteps := 1000000) [go_sem, undef, a0, a1, b1, w0, wm1, wm2]
        refine system9_ok (hw.read.pre hp25) (hx.read.pre (hp2.trans q225)) _ ?_
        intro H26 hp26
        simp (maxSteps := 1000000) [go_sem, undef]
  · have hz4' : (e4 == 0) = false := by simpa using hz4
    simp (maxSteps := 1000000) [go_sem, undef, hz4']
    obtain ⟨a0, a1, a2⟩ := (bxA.pre (q14.trans (List.prefix_refl _))).sys
    obtain ⟨b0, b1, b2⟩ := (bxB.pre (q4.trans (List.prefix_refl _))).sys
    by_cases hz3 : e3 ≠ 0
    · cases hplainB hz3
      have hz3' : (e3 != 0) = true := by simpa using hz3
      simp (maxSteps := 1000000) [go_sem, undef, hz3', b1]
    have hz3 := Classical.not_not.1 hz3
    subst hz3
    obtain ⟨g1, g2, g3, g4, g5, g6, g7⟩ := hplain rfl
    have hpp := g1.1
    subst g4
    obtain ⟨v, rfl⟩ : ∃ v : Nat, p = v := ⟨p.toNat, by omega⟩
    rw [Int.toNat_natCast] at g7
    simp (maxSteps := 1000000) [go_sem, undef, b0]
    refine implIsFull_ok (hy.read.pre (hp4.trans (q4.trans (List.prefix_refl _)))) (by have := g5.2.1; omega) _ ?_
    have hrF : rIsFull (2 * (v : Int) + 1) b3 = (true, 0) := by rw [rIsFull, sysB_iff.2 g5, g6]; rfl
    rw [hrF]
    intro H20 hp20
    have q2 := q14.trans ((List.prefix_refl _).trans hp20)
    have q3 := q4.trans ((List.prefix_refl _).trans hp20)
    clear a0 a1 a2 b0 b1 b2
    simp (maxSteps := 1000000) [go_sem, undef]
    have hbl0 := Bl.nil 1 H20
    generalize H20 ++ [(⟨[], true, true⟩ : Blk)] = H21 at hbl0 ⊢
    refine AWp.loopVc (St := Nat × Nat) (fun q => [(3, .pointer (some ⟨H1.length, 0, none⟩)), (4, .pointer (some ⟨H3.length, 0, none⟩)), (16, .bool true), (17, .int .i64 0), (18, lv 1 q.2 0 q.1), (19, .int .i64 q.1)])
      (fun q H' => q.1 <= v /\ Bl 1 H20 H' q.2 (ints (upI q.1)) q.1) (fun q => v - q.1) (0, H20.length) ?_ ?_ ?_
    · simp [upF, Fr.get, Up.refl, Up.ex0]
    · exact ⟨by simp, by simpa [upI, ints] using hbl0⟩
    · rintro K ⟨k, id⟩ H22 ⟨hk, hbl⟩ hK
      simp only at hk hbl
      obtain ⟨a0, a1, a2⟩ := (bxA.pre (q2.trans hbl.1)).sys
      by_cases hkv : k < v
      · obtain ⟨hsrc, H23, hap, hbl23⟩ := hbl.push (xs := [.int .i64 (k : Int)]) (by omega) rfl
        have hw_k : IntKind.i64.wrap ((k : Int) + 1) = (k : Int) + 1 := i64w (by omega) (by omega)
        simp (maxSteps := 1000000) [go_sem, undef, a1, hkv, hsrc, hap, hw_k]
        refine andK_intro (by omega) (hK (k + 1, H22.length + 1) _ _ (by simp only; omega) (by simp [upF, Fr.get, Up.refl]) ⟨by simp only; omega, ?_⟩)
        have e : ints (upI (k + 1)) = ints (upI k) ++ [.int .i64 (k : Int)] := by simp [upI, ints, List.range_succ]
        rw [e]
        exact hbl23
      · have hkv2 : k = v := by omega
        subst hkv2
        obtain ⟨b0, b1, b2⟩ := (bxB.pre (q3.trans hbl.1)).sys
        simp (maxSteps := 1000000) [go_sem, undef, a1, b0]
        have hIn := ol_ints hbl.2.1 (upI_length k) (by omega)
        refine implBlocksOn_ok (hy.read.pre (hp4.trans (q3.trans hbl.1))) (by have := g5.2.1; omega) hIn (by rw [upI_length]; omega) (fun x hx => by have := mem_upI.1 hx; unfold In64; omega) _ ?_
        rw [g7]
        intro H24 w hp24 hw
        have onew := hw.one
        simp (maxSteps := 1000000) [go_sem, undef, sysV, onew]
        have bxW := Holds.last H24 [.int .i64 (k : Int), w]
        have hp25 : H24 <+: H24 ++ [(⟨[.int .i64 (k : Int), w], true, true⟩ : Blk)] := List.prefix_append _ _
        generalize H24 ++ [(⟨[.int .i64 (k : Int), w], true, true⟩ : Blk)] = H25 at bxW hp25 ⊢
        have q225 := (q2.trans hbl.1).trans (hp24.trans hp25)
        obtain ⟨a0, a1, a2⟩ := (bxA.pre q225).sys
        obtain ⟨b0, b1, b2⟩ := (bxB.pre ((q3.trans hbl.1).trans (hp24.trans hp25))).sys
        obtain ⟨w0, w1, w2⟩ := bxW.sys
        have wm1 : IntKind.i64.wrap (2 * (k : Int)) = 2 * (k : Int) := i64w (by omega) (by omega)
        have wm2 : IntKind.i64.wrap (2 * (k : Int) + 1) = 2 * (k : Int) + 1 := i64w (by omega) (by omega)
        try simp (maxSteps := 1000000) [go_sem, undef, a0, a1, b1, w0, wm1, wm2]
        refine system9_ok (hw.read.pre hp25) (hx.read.pre (hp2.trans q225)) _ ?_
        intro H26 hp26
        simp (maxSteps := 1000000) [go_sem, undef]

end Go.Proofs.YtfnegaedkomcgaaGreat
end
