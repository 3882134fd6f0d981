/- Part 12 of what the proof of the law FnBlocks rests on: contracts of functions of the program, for every argument that each names; no statement of the seat is proved here. -/
import Derived.Test.YtfnegaedkomcgaaGreatFnBlocksPart11

set_option linter.all false
set_option maxRecDepth 20000
set_option maxHeartbeats 8000000
section
namespace Go.Proofs.YtfnegaedkomcgaaGreat
open Go.Ab

theorem AWp.upHeap {P : Program} {N : Nat} {c : Code} {Q : Exit -> Fr -> Heap -> Prop} {fr : Fr} {H H2 : Heap} (hu : Go.Ab.upH H H2) (h : AWp P N c Q fr H2) : AWp P N c Q fr H :=
  fun B w0 ρ w a hR hF => h B w0 ρ w a (hu _ _ _ _ hR) hF
theorem upH_sys0 {H : Heap} {id j : Nat} {p : Int} (hb : H[id]? = some ⟨[.int .i64 p, .slice (some ⟨j, 0, none⟩) 0 0], true, true⟩) : Go.Ab.upH H (H.set id ⟨[.int .i64 p, lv 3 0 0 0], true, true⟩) := by
  refine upH.cells hb rfl ?_
  intro k v v' h1 h2
  match k, h1, h2 with
  | 0, h1, h2 => simp at h1 h2; subst h1; subst h2; exact Up.refl _ _
  | 1, h1, h2 => simp at h1 h2; subst h1; subst h2; exact Up.ex0 _ _ _ _ _ _
  | k + 2, h1, h2 => simp at h1
theorem same_set2 {H : Heap} {id : Nat} {b : Blk} : Same (fun j => j = id) H (H.set id b) := ⟨by simp, fun j hj hS => List.getElem?_set_ne (fun e => hS e.symm)⟩
theorem sameUp {s : Nat} {H H' H2 : Heap} {S : Nat -> Prop} (h : Same (fun j => j = s) H H') (h2 : Same S H' H2) (hi : ∀ j, S j -> H.length <= j) : Same (fun j => j = s) H H2 :=
  ⟨Nat.le_trans h.1 h2.1, fun j hj hS => (h2.2 j (Nat.lt_of_lt_of_le hj h.1) (fun e => by have := hi j e; omega)).trans (h.2 j hj hS)⟩
theorem sys_cells {H : Heap} {id : Nat} {p : Int} {u : Value} (h : H[id]? = some ⟨[.int .i64 p, u], true, true⟩) (hu : u.oneCell' = true) :
    cellsAt H id 0 2 = some [.int .i64 p, u] /\ cellsAt H id 0 1 = some [.int .i64 p] /\ cellsAt H id 1 1 = some [u] /\ ∀ (q : Int) (w : Value), w.oneCell' = true -> storeAt H id 0 [.int .i64 q, w] = some (H.set id ⟨[.int .i64 q, w], true, true⟩) := by
  have hh : Holds H id [.int .i64 p, u] := ⟨true, h⟩
  obtain ⟨a, b, c⟩ := hh.sys
  refine ⟨a, b, c, fun q w hw => ?_⟩
  rw [storeAt_of h rfl rfl (by simp) (by simp [hw, one_int])]; simp [over]
theorem ord3 {p : Nat} {xs : List Int} (hO : OrdL p xs) (hp : 3 <= p) : ∃ a b c : Nat, xs[0]? = some (a : Int) /\ xs[1]? = some (b : Int) /\ xs[2]? = some (c : Int) /\ a < p /\ b < p /\ c < p /\ a ≠ b /\ b ≠ c /\ c ≠ a := by
  obtain ⟨h1, h2, h3⟩ := hO
  match xs, h1 with
  | [], h1 => simp at h1; omega
  | [_], h1 => simp at h1; omega
  | [_, _], h1 => simp at h1; omega
  | a :: b :: c :: l, h1 =>
    have ha := h3 a (by simp)
    have hb := h3 b (by simp)
    have hc := h3 c (by simp)
    simp only [List.nodup_cons, List.mem_cons, not_or] at h2
    obtain ⟨⟨n1, n2, _⟩, ⟨n3, _⟩, _⟩ := h2
    exact ⟨a.toNat, b.toNat, c.toNat, by simp; omega, by simp; omega, by simp; omega, by omega, by omega, by omega, by omega, by omega, by omega⟩

theorem drawOf_ok {L s : Nat} {H : Heap} (hs : Src L s H) {p : Nat} (hp : 3 <= p /\ p <= 15) (Post : Value -> Heap -> Prop)
    (h : ∀ (H' : Heap) (w : Value) (bs : List Bk), Same (fun j => j = s) H H' -> Src L s H' -> BlocksIn H.length H'.length H' w bs -> Drawn p bs -> bs.length <= 39 -> Post (sysV p w) H') :
    ACalls Tryz.prog 90 [.pointer (some ⟨s, 0, none⟩), .int .i64 p] H Post := by
  have hslt := hs.lt
  refine acalls_vc (rs := [.cell 4 26]) Tryz.func90 rfl rfl Tryz.ntmps90 rfl rfl ?_
  simp (maxSteps := 1000000) [go_sem]
  have hpA : H <+: H ++ [⟨[.int .i64 0, .slice none 0 0], true, true⟩, ⟨[], true, true⟩, ⟨[.int .i64 p, .slice (some ⟨H.length + 1, 0, none⟩) 0 0], true, true⟩, ⟨[.int .i64 4, .int .i64 12, .int .i64 40], true, true⟩] := List.prefix_append _ _
  have hlA : (H ++ [(⟨[.int .i64 0, .slice none 0 0], true, true⟩ : Blk), ⟨[], true, true⟩, ⟨[.int .i64 p, .slice (some ⟨H.length + 1, 0, none⟩) 0 0], true, true⟩, ⟨[.int .i64 4, .int .i64 12, .int .i64 40], true, true⟩]).length = H.length + 4 := by simp
  have hrA : (H ++ [(⟨[.int .i64 0, .slice none 0 0], true, true⟩ : Blk), ⟨[], true, true⟩, ⟨[.int .i64 p, .slice (some ⟨H.length + 1, 0, none⟩) 0 0], true, true⟩, ⟨[.int .i64 4, .int .i64 12, .int .i64 40], true, true⟩])[H.length]? = some ⟨[.int .i64 0, .slice none 0 0], true, true⟩ := by simp
  have hxA : (H ++ [(⟨[.int .i64 0, .slice none 0 0], true, true⟩ : Blk), ⟨[], true, true⟩, ⟨[.int .i64 p, .slice (some ⟨H.length + 1, 0, none⟩) 0 0], true, true⟩, ⟨[.int .i64 4, .int .i64 12, .int .i64 40], true, true⟩])[H.length + 2]? = some ⟨[.int .i64 p, .slice (some ⟨H.length + 1, 0, none⟩) 0 0], true, true⟩ := by simp
  have hiA : (H ++ [(⟨[.int .i64 0, .slice none 0 0], true, true⟩ : Blk), ⟨[], true, true⟩, ⟨[.int .i64 p, .slice (some ⟨H.length + 1, 0, none⟩) 0 0], true, true⟩, ⟨[.int .i64 4, .int .i64 12, .int .i64 40], true, true⟩])[H.length + 3]? = some ⟨ints [4, 12, 40], true, true⟩ := by simp [ints]
  generalize H ++ [(⟨[.int .i64 0, .slice none 0 0], true, true⟩ : Blk), ⟨[], true, true⟩, ⟨[.int .i64 p, .slice (some ⟨H.length + 1, 0, none⟩) 0 0], true, true⟩, ⟨[.int .i64 4, .int .i64 12, .int .i64 40], true, true⟩] = HA at hpA hlA hrA hxA hiA ⊢
  refine pick_ok (hs.pre hpA) (xs := [4, 12, 40]) hiA (by omega) (by simp) (by simp) _ ?_
  intro HB m hsB hlB hSB hm
  have hm40 : m <= 40 := by simp at hm; omega
  simp (maxSteps := 1000000) [go_sem]
  refine next_ok hSB _ ?_
  intro HC k hsC hlC hSC hk0 hk1
  obtain ⟨k, rfl⟩ : ∃ n : Nat, k = n := ⟨k.toNat, by omega⟩
  have hk : k <= 39 := by omega
  simp (maxSteps := 1000000) [go_sem]
  have hxC := hsC.get (hsB.get hxA (by omega)) (by omega)
  have hrC := hsC.get (hsB.get hrA (by omega)) (by omega)
  have hltC := (List.getElem?_eq_some_iff.1 hxC).1
  refine AWp.upHeap (upH_sys0 hxC) ?_
  have hsD : Same (fun j => j = H.length + 2) HC (HC.set (H.length + 2) ⟨[.int .i64 p, lv 3 0 0 0], true, true⟩) := same_set2
  have hxD : (HC.set (H.length + 2) ⟨[.int .i64 p, lv 3 0 0 0], true, true⟩)[H.length + 2]? = some ⟨[.int .i64 p, lv 3 0 0 0], true, true⟩ := List.getElem?_set_self hltC
  have hlD : (HC.set (H.length + 2) ⟨[.int .i64 p, lv 3 0 0 0], true, true⟩).length = HC.length := by simp
  have hrD := hsD.get hrC (by omega)
  have hSD : Src L s (HC.set (H.length + 2) ⟨[.int .i64 p, lv 3 0 0 0], true, true⟩) := hSC.keep hsD (fun j e => ⟨by have := hs.1; omega, by omega⟩)
  have hsmD : Same (fun j => j = s) H (HC.set (H.length + 2) ⟨[.int .i64 p, lv 3 0 0 0], true, true⟩) := sameUp (((Same.of_prefix hpA).trans hsB).trans hsC) hsD (fun j e => by omega)
  generalize HC.set (H.length + 2) ⟨[.int .i64 p, lv 3 0 0 0], true, true⟩ = HD at hxD hlD hrD hSD hsmD ⊢
  refine AWp.loopVc (St := Nat × Value × List Bk) (fun q => [(0, .pointer (some ⟨s, 0, none⟩)), (1, .int .i64 p), (4, .pointer (some ⟨H.length, 0, none⟩)), (5, .pointer (some ⟨H.length + 2, 0, none⟩)), (6, .int .i64 q.1)])
    (fun q H' => q.1 <= 39 /\ q.2.2.length + q.1 <= 39 /\ H'[H.length + 2]? = some ⟨[.int .i64 p, q.2.1], true, true⟩ /\ H'[H.length]? = some ⟨[.int .i64 0, .slice none 0 0], true, true⟩ /\ BlocksIn (H.length + 4) H'.length H' q.2.1 q.2.2 /\ Drawn p q.2.2 /\ Same (fun j => j = s) H H' /\ Src L s H' /\ H.length + 4 <= H'.length)
    (fun q => q.1) (k, lv 3 0 0 0, []) ?_ ?_ ?_
  · simp [upF, Fr.get, Up.refl]
  · exact ⟨hk, by simpa using hk, hxD, hrD, BlocksIn.nil _ _ _, ⟨by omega, by simp, by simp⟩, hsmD, hSD, by omega⟩
  · rintro K ⟨k, u, bs⟩ H1 ⟨hk, hkl, hx, hr, hu, hd, hsm, hS, hl1⟩ hK
    simp only at hk hkl hx hu hd
    obtain ⟨a0, a1, a2, a3⟩ := sys_cells hx hu.one
    by_cases hk0 : 0 < k
    · simp (maxSteps := 1000000) [go_sem, hk0]
      refine drawOrder_ok hS (by omega) _ ?_
      intro H2 w ord hs2 hS2 hI2 hO2
      obtain ⟨a, b, c, o0, o1, o2, ha, hb, hc, n1, n2, n3⟩ := ord3 hO2 hp.1
      obtain ⟨oid, ⟨rfl, hoat, hosz⟩, _⟩ := hI2
      have hol : ord.length = p := by have := hO2.1; omega
      have hoh : Holds H2 oid (ints ord) := ⟨true, hoat.resolve_left (by intro e; rw [e] at hol; simp at hol; omega)⟩
      have l0 := hoh.cell (o := 0) (v := .int .i64 a) (by simp only [ints_get, o0]; rfl)
      have l1 := hoh.cell (o := 1) (v := .int .i64 b) (by simp only [ints_get, o1]; rfl)
      have l2 := hoh.cell (o := 2) (v := .int .i64 c) (by simp only [ints_get, o2]; rfl)
      have q0 : 0 < ord.length := by omega
      have q1 : 1 < ord.length := by omega
      have q2 : 2 < ord.length := by omega
      have hx2 := hs2.get hx (by omega)
      have hr2 := hs2.get hr (by omega)
      have hu2 := hu.keep hs2 (by rintro j ⟨e1, e2⟩ e; omega)
      have hl2 := hs2.1
      simp (maxSteps := 1000000) [go_sem]
      have hgb : good (p : Int) (blk (a : Int) b c) = true := blk_good.2 ⟨by omega, by omega, by omega, by omega, by omega, by omega⟩
      obtain ⟨B, hB⟩ : ∃ B, blk (a : Int) b c = B := ⟨_, rfl⟩
      rw [hB] at hgb
      refine AWp.regCut (St := Nat) (fun q => [(8, .pointer (some ⟨q, 0, none⟩))]) (fun q H4 => H2 <+: H4 /\ Holds H4 q [.int .i64 B.a, .int .i64 B.b, .int .i64 B.c]) ?_ ?_
      · intro Q' hQ'
        refine AWp.drawF mixed [10] [(0, false), (1, false), (2, false), (3, false), (4, false), (5, false), (6, false), (7, false), (8, false), (9, false), (10, true), (11, false)] (.one 0 false (.one 1 false (.one 2 false (.one 3 false (.one 4 false (.one 5 false (.one 6 false (.one 7 false (.one 8 false (.two 9 false (.one 10 true (.one 11 false .nil)) 10 (.one 9 false (.one 11 false .nil)))))))))))) (by kernel_rfl) ?_
        simp (maxSteps := 1000000) [go_sem, l0, l1, l2, q0, q1, q2]
        refine andK_intro (by omega) (andK_intro (by omega) (vT_two ?_ ?_))
        · simp (maxSteps := 1000000) [go_sem]
          refine l01Block_ok (a := (a : Int)) (b := (b : Int)) (c := (c : Int)) ⟨by omega, by omega⟩ ⟨by omega, by omega⟩ ⟨by omega, by omega⟩ _ ?_
          intro H3 hp3
          rw [hB]
          simp (maxSteps := 1000000) [go_sem, Bk.val]
          exact hQ' H3.length _ _ (by simp [upF, Fr.get, Up.refl]) ⟨hp3.trans (List.prefix_append _ _), Holds.last H3 _⟩
        · have hz : (H2 ++ [(⟨[.int .i64 0, .int .i64 0, .int .i64 0], true, true⟩ : Blk)])[H2.length]? = some ⟨[.int .i64 0, .int .i64 0, .int .i64 0], true, true⟩ := by simp
          have hpz : H2 <+: H2 ++ [⟨[.int .i64 0, .int .i64 0, .int .i64 0], true, true⟩] := List.prefix_append _ _
          simp (maxSteps := 1000000) [go_sem]
          generalize H2 ++ [(⟨[.int .i64 0, .int .i64 0, .int .i64 0], true, true⟩ : Blk)] = HZ at *
          refine l01Block_ok (a := (a : Int)) (b := (b : Int)) (c := (c : Int)) ⟨by omega, by omega⟩ ⟨by omega, by omega⟩ ⟨by omega, by omega⟩ _ ?_
          intro H3 hp3
          rw [hB]
          obtain ⟨z1, z2, z3, z4⟩ := boxLate (cs := [.int .i64 B.a, .int .i64 B.b, .int .i64 B.c]) hz hp3 rfl (by simp [one_int])
          simp (maxSteps := 1000000) [go_sem, Bk.val, z1]
          exact hQ' H2.length _ _ (by simp [upF, Fr.get, Up.refl]) ⟨((Same.of_prefix (hpz.trans hp3)).trans z3).prefix (by omega), z2⟩
      rintro t8 H4 ⟨hp24, hb4⟩
      have hle3 := hp24.length_le
      have hx4 := pget hp24 hx2
      obtain ⟨e0, e1, e2, e3⟩ := hb4.bk
      obtain ⟨x0, x1, x2, x3⟩ := sys_cells hx4 hu.one
      simp (maxSteps := 1000000) [go_sem, e0, e1, e2, e3, x0]
      refine l01Free_ok (hu2.read.pre hp24) hd.good15 hgb _ ?_
      intro H5 hp5
      have hp25 := hp24.trans hp5
      have hle5 := hp25.length_le
      have hx5 := pget hp25 hx2
      have hr5 := pget hp25 hr2
      have hu5 := hu2.pre hp25
      have hS5 := hS2.pre hp25
      have hsm5 := (hsm.trans hs2).trans (Same.of_prefix hp25)
      cases hfree : leftB bs B with
      | false =>
        have wk : IntKind.i64.wrap ((k : Int) - 1) = ((k - 1 : Nat) : Int) := by rw [i64w (by omega) (by omega)]; omega
        simp (maxSteps := 1000000) [go_sem, wk]
        exact hK (k - 1, u, bs) _ _ (by simp only; omega) (by simp [upF, Fr.get, Up.refl]) ⟨by simp only; omega, by simp only; omega, hx5, hr5, ⟨hu5.choose, hu5.choose_spec.1, fun hne => ⟨(hu5.choose_spec.2 hne).1, by have := (hu5.choose_spec.2 hne).2; omega⟩⟩, hd, hsm5, hS5, by omega⟩
      | true =>
        simp (maxSteps := 1000000) [go_sem]
        obtain ⟨e0, e1, e2, e3⟩ := (hb4.pre hp5).bk
        obtain ⟨x0, x1, x2, x3⟩ := sys_cells hx5 hu.one
        obtain ⟨ui, ⟨ueq, uat, usz⟩, _⟩ := id hu5
        obtain ⟨uo, rfl⟩ : ∃ q, u = lv 3 q 0 bs.length := ⟨ui, ueq⟩
        obtain rfl : uo = ui := by simp at ueq; exact ueq
        have uat' : At H5 uo 0 (tri bs) := by
          obtain ⟨j, o, e, ha, _⟩ := hu5.read
          simp at e
          obtain ⟨rfl, rfl⟩ := e
          exact ha
        refine AWp.regCut (St := Value) (fun _ => []) (fun w H' => Same (fun j => j = H.length + 2) H5 H' /\ H'[H.length + 2]? = some ⟨[.int .i64 p, w], true, true⟩ /\ BlocksIn H5.length H'.length H' w (sortB (bs ++ [B]))) ?_ ?_
        · intro Q' hQ'
          refine AWp.drawFX (H5.length) mixed [6] [(0, false), (2, false), (3, false), (5, false), (1, true), (4, true), (6, true), (7, false), (8, false), (9, false)] (.one 0 false (.one 2 false (.one 3 false (.one 5 false (.two 1 true (.two 4 true (.one 6 true (.one 7 false (.one 8 false (.one 9 false .nil)))) 6 (.one 4 true (.one 7 false (.one 8 false (.one 9 false .nil))))) 6 (.one 1 true (.one 4 true (.one 7 false (.one 8 false (.one 9 false .nil)))))))))) (by kernel_rfl) ?_
          simp (maxSteps := 1000000) [go_sem, e0, e1, e2, e3, x0, x1, x2]
          refine andK_intro (by omega) (andK_intro (by have := (List.getElem?_eq_some_iff.1 hb4.choose_spec).1; have := hp5.length_le; omega) (vTX_two ?_ ?_))
          · have hs1 : H5 <+: H5 ++ [⟨[], true, true⟩] := List.prefix_append _ _
            have hk1 : KeepL H5.length H5 (H5 ++ [⟨[], true, true⟩]) := KeepL.of_prefix hs1 (by have := (List.prefix_refl H5).length_le; omega)
            have hbE : (H5 ++ [(⟨[], true, true⟩ : Blk)])[H5.length]? = some ⟨[], true, true⟩ := by simp
            have hgE : H5.length <= H5.length := (List.prefix_refl H5).length_le
            try simp (maxSteps := 1000000) [go_sem, e0, e1, e2, e3, x0, x1, x2]
            generalize H5 ++ [(⟨[], true, true⟩ : Blk)] = HS1 at *
            refine andK_intro hk1 ?_
            refine vTX_two ?_ ?_
            · obtain ⟨v2, HS2, hap2, hv, hs2⟩ := emptyAppend (L := H5.length) (e := 3) (m := bs.length) (news := tri bs) hgE hbE (by omega) (by rw [tri_length])
              obtain ⟨a2, rfl⟩ := hv.shape
              have hk2 : KeepL H5.length HS1 HS2 := KeepL.of_prefix hs2 (by have := ((List.prefix_refl H5).trans hs1).length_le; omega)
              have hsrc := tri_src (uat'.pre ((List.prefix_refl H5).trans hs1))
              simp only [srcCells, List.length_eq_zero_iff] at hsrc
              simp (maxSteps := 1000000) [go_sem, e0, e1, e2, e3, x0, x1, x2, hsrc, hap2]
              refine andK_intro (by omega) (andK_intro hk2 ?_)
              have hs3 : HS2 <+: HS2 ++ [⟨[.int .i64 B.a, .int .i64 B.b, .int .i64 B.c], true, true⟩] := List.prefix_append _ _
              have hk3 : KeepL H5.length HS2 (HS2 ++ [⟨[.int .i64 B.a, .int .i64 B.b, .int .i64 B.c], true, true⟩]) := KeepL.of_prefix hs3 (by have := (((List.prefix_refl H5).trans hs1).trans hs2).length_le; omega)
              have hcN := Holds.last HS2 [.int .i64 B.a, .int .i64 B.b, .int .i64 B.c]
              have hc : cellsAt (HS2 ++ [(⟨[.int .i64 B.a, .int .i64 B.b, .int .i64 B.c], true, true⟩ : Blk)]) HS2.length 0 3 = some [.int .i64 B.a, .int .i64 B.b, .int .i64 B.c] := by simpa using hcN.cells (n := 3) (o := 0) (by simp)
              replace hv := hv.pre hs3
              try simp (maxSteps := 1000000) [go_sem, e0, e1, e2, e3, x0, x1, x2]
              generalize HS2 ++ [(⟨[.int .i64 B.a, .int .i64 B.b, .int .i64 B.c], true, true⟩ : Blk)] = HS3 at *
              refine andK_intro hk3 ?_
              have hleP := ((((List.prefix_refl H5).trans hs1).trans hs2).trans hs3).length_le
              obtain ⟨v6, H6, hap, he6, hk6, hl6⟩ := hv.append (m := 1) (news := [.int .i64 B.a, .int .i64 B.b, .int .i64 B.c]) (by omega) (by omega) rfl
              obtain ⟨a6, rfl⟩ := he6.shape
              have hp6 : H5 <+: H6 := KeepL.prefix ((((List.prefix_refl H5).trans hs1).trans hs2).trans hs3) (Nat.le_refl _) hk6 (by omega)
              have et : tri bs ++ [.int .i64 B.a, .int .i64 B.b, .int .i64 B.c] = tri (bs ++ [B]) := by rw [tri_append]; rfl
              rw [et] at he6
              obtain ⟨w6, hup6, hw6⟩ := (show OE 3 _ H6 _ (tri (bs ++ [B])) (bs ++ [B]).length by rw [List.length_append]; exact he6).blocks (by simp; omega)
              try simp (maxSteps := 1000000) [go_sem, hc, hap]
              refine andK_intro (by omega) ?_
              refine ACalls.up (args' := [.int .i64 p, w6]) ⟨Up.refl _ _, hup6, trivial⟩ ?_
              refine l01Made_ok hw6.read (by simp; omega) _ ?_
              intro H7 z hp7 hz
              have hx7 := pget (hp6.trans hp7) hx5
              obtain ⟨y0, y1, y2, y3⟩ := sys_cells hx7 hu.one
              have y3' := y3 p z hz.one
              have hs8 : Same (fun j => j = H.length + 2) H7 (H7.set (H.length + 2) ⟨[.int .i64 p, z], true, true⟩) := same_set2
              have hlt7 := (List.getElem?_eq_some_iff.1 hx7).1
              have hle6 := hp6.length_le
              simp (maxSteps := 1000000) [go_sem, sysV, y3']
              exact hQ' z _ _ (by simp [upF, Fr.get, Up.refl]) ⟨(Same.of_prefix (hp6.trans hp7)).trans hs8, List.getElem?_set_self hlt7, by rw [List.length_set]; exact (hz.keep hs8 (by rintro j ⟨e1, e2⟩ e; omega)).wider (by omega)⟩
            · have hs2 : HS1 <+: HS1 ++ [⟨[.int .i64 B.a, .int .i64 B.b, .int .i64 B.c], true, true⟩] := List.prefix_append _ _
              have hk2 : KeepL H5.length HS1 (HS1 ++ [⟨[.int .i64 B.a, .int .i64 B.b, .int .i64 B.c], true, true⟩]) := KeepL.of_prefix hs2 (by have := ((List.prefix_refl H5).trans hs1).length_le; omega)
              have hcN := Holds.last HS1 [.int .i64 B.a, .int .i64 B.b, .int .i64 B.c]
              have hc : cellsAt (HS1 ++ [(⟨[.int .i64 B.a, .int .i64 B.b, .int .i64 B.c], true, true⟩ : Blk)]) HS1.length 0 3 = some [.int .i64 B.a, .int .i64 B.b, .int .i64 B.c] := by simpa using hcN.cells (n := 3) (o := 0) (by simp)
              have hbE := pget hs2 hbE
              try simp (maxSteps := 1000000) [go_sem, e0, e1, e2, e3, x0, x1, x2]
              generalize HS1 ++ [(⟨[.int .i64 B.a, .int .i64 B.b, .int .i64 B.c], true, true⟩ : Blk)] = HS2 at *
              refine andK_intro hk2 ?_
              obtain ⟨v3, HS3, hap3, hv, hs3⟩ := emptyAppend (L := H5.length) (e := 3) (m := bs.length) (news := tri bs) hgE hbE (by omega) (by rw [tri_length])
              obtain ⟨a3, rfl⟩ := hv.shape
              have hk3 : KeepL H5.length HS2 HS3 := KeepL.of_prefix hs3 (by have := (((List.prefix_refl H5).trans hs1).trans hs2).length_le; omega)
              have hsrc := tri_src (uat'.pre (((List.prefix_refl H5).trans hs1).trans hs2))
              simp only [srcCells, List.length_eq_zero_iff] at hsrc
              have hc := cellsAt_pre hs3 hc
              simp (maxSteps := 1000000) [go_sem, e0, e1, e2, e3, x0, x1, x2, hsrc, hap3]
              refine andK_intro (by omega) (andK_intro hk3 ?_)
              have hleP := ((((List.prefix_refl H5).trans hs1).trans hs2).trans hs3).length_le
              obtain ⟨v6, H6, hap, he6, hk6, hl6⟩ := hv.append (m := 1) (news := [.int .i64 B.a, .int .i64 B.b, .int .i64 B.c]) (by omega) (by omega) rfl
              obtain ⟨a6, rfl⟩ := he6.shape
              have hp6 : H5 <+: H6 := KeepL.prefix ((((List.prefix_refl H5).trans hs1).trans hs2).trans hs3) (Nat.le_refl _) hk6 (by omega)
              have et : tri bs ++ [.int .i64 B.a, .int .i64 B.b, .int .i64 B.c] = tri (bs ++ [B]) := by rw [tri_append]; rfl
              rw [et] at he6
              obtain ⟨w6, hup6, hw6⟩ := (show OE 3 _ H6 _ (tri (bs ++ [B])) (bs ++ [B]).length by rw [List.length_append]; exact he6).blocks (by simp; omega)
              try simp (maxSteps := 1000000) [go_sem, hc, hap]
              refine andK_intro (by omega) ?_
              refine ACalls.up (args' := [.int .i64 p, w6]) ⟨Up.refl _ _, hup6, trivial⟩ ?_
              refine l01Made_ok hw6.read (by simp; omega) _ ?_
              intro H7 z hp7 hz
              have hx7 := pget (hp6.trans hp7) hx5
              obtain ⟨y0, y1, y2, y3⟩ := sys_cells hx7 hu.one
              have y3' := y3 p z hz.one
              have hs8 : Same (fun j => j = H.length + 2) H7 (H7.set (H.length + 2) ⟨[.int .i64 p, z], true, true⟩) := same_set2
              have hlt7 := (List.getElem?_eq_some_iff.1 hx7).1
              have hle6 := hp6.length_le
              simp (maxSteps := 1000000) [go_sem, sysV, y3']
              exact hQ' z _ _ (by simp [upF, Fr.get, Up.refl]) ⟨(Same.of_prefix (hp6.trans hp7)).trans hs8, List.getElem?_set_self hlt7, by rw [List.length_set]; exact (hz.keep hs8 (by rintro j ⟨e1, e2⟩ e; omega)).wider (by omega)⟩
          · have hs1 : H5 <+: H5 ++ [⟨[.int .i64 B.a, .int .i64 B.b, .int .i64 B.c], true, true⟩] := List.prefix_append _ _
            have hk1 : KeepL H5.length H5 (H5 ++ [⟨[.int .i64 B.a, .int .i64 B.b, .int .i64 B.c], true, true⟩]) := KeepL.of_prefix hs1 (by have := (List.prefix_refl H5).length_le; omega)
            have hcN := Holds.last H5 [.int .i64 B.a, .int .i64 B.b, .int .i64 B.c]
            have hc : cellsAt (H5 ++ [(⟨[.int .i64 B.a, .int .i64 B.b, .int .i64 B.c], true, true⟩ : Blk)]) H5.length 0 3 = some [.int .i64 B.a, .int .i64 B.b, .int .i64 B.c] := by simpa using hcN.cells (n := 3) (o := 0) (by simp)
            have hlS1 : (H5 ++ [(⟨[.int .i64 B.a, .int .i64 B.b, .int .i64 B.c], true, true⟩ : Blk)]).length = H5.length + 1 := by simp
            try simp (maxSteps := 1000000) [go_sem, e0, e1, e2, e3, x0, x1, x2]
            rw [show H5 ++ [(⟨[.int .i64 B.a, .int .i64 B.b, .int .i64 B.c], true, true⟩ : Blk), ⟨[], true, true⟩] = (H5 ++ [(⟨[.int .i64 B.a, .int .i64 B.b, .int .i64 B.c], true, true⟩ : Blk)]) ++ [⟨[], true, true⟩] by simp]
            generalize H5 ++ [(⟨[.int .i64 B.a, .int .i64 B.b, .int .i64 B.c], true, true⟩ : Blk)] = HS1 at *
            refine andK_intro hk1 ?_
            have hs2 : HS1 <+: HS1 ++ [⟨[], true, true⟩] := List.prefix_append _ _
            have hk2 : KeepL H5.length HS1 (HS1 ++ [⟨[], true, true⟩]) := KeepL.of_prefix hs2 (by have := ((List.prefix_refl H5).trans hs1).length_le; omega)
            have hbE : (HS1 ++ [(⟨[], true, true⟩ : Blk)])[HS1.length]? = some ⟨[], true, true⟩ := by simp
            have hgE : H5.length <= HS1.length := ((List.prefix_refl H5).trans hs1).length_le
            have hc := cellsAt_pre hs2 hc
            try simp (maxSteps := 1000000) [go_sem, e0, e1, e2, e3, x0, x1, x2]
            generalize HS1 ++ [(⟨[], true, true⟩ : Blk)] = HS2 at *
            refine andK_intro hk2 ?_
            rw [hlS1] at hbE hgE
            obtain ⟨v3, HS3, hap3, hv, hs3⟩ := emptyAppend (L := H5.length) (e := 3) (m := bs.length) (news := tri bs) hgE hbE (by omega) (by rw [tri_length])
            obtain ⟨a3, rfl⟩ := hv.shape
            have hk3 : KeepL H5.length HS2 HS3 := KeepL.of_prefix hs3 (by have := (((List.prefix_refl H5).trans hs1).trans hs2).length_le; omega)
            have hsrc := tri_src (uat'.pre (((List.prefix_refl H5).trans hs1).trans hs2))
            simp only [srcCells, List.length_eq_zero_iff] at hsrc
            have hc := cellsAt_pre hs3 hc
            simp (maxSteps := 1000000) [go_sem, e0, e1, e2, e3, x0, x1, x2, hsrc, hap3]
            refine andK_intro (by omega) (andK_intro hk3 ?_)
            have hleP := ((((List.prefix_refl H5).trans hs1).trans hs2).trans hs3).length_le
            obtain ⟨v6, H6, hap, he6, hk6, hl6⟩ := hv.append (m := 1) (news := [.int .i64 B.a, .int .i64 B.b, .int .i64 B.c]) (by omega) (by omega) rfl
            obtain ⟨a6, rfl⟩ := he6.shape
            have hp6 : H5 <+: H6 := KeepL.prefix ((((List.prefix_refl H5).trans hs1).trans hs2).trans hs3) (Nat.le_refl _) hk6 (by omega)
            have et : tri bs ++ [.int .i64 B.a, .int .i64 B.b, .int .i64 B.c] = tri (bs ++ [B]) := by rw [tri_append]; rfl
            rw [et] at he6
            obtain ⟨w6, hup6, hw6⟩ := (show OE 3 _ H6 _ (tri (bs ++ [B])) (bs ++ [B]).length by rw [List.length_append]; exact he6).blocks (by simp; omega)
            try simp (maxSteps := 1000000) [go_sem, hc, hap]
            refine andK_intro (by omega) ?_
            refine ACalls.up (args' := [.int .i64 p, w6]) ⟨Up.refl _ _, hup6, trivial⟩ ?_
            refine l01Made_ok hw6.read (by simp; omega) _ ?_
            intro H7 z hp7 hz
            have hx7 := pget (hp6.trans hp7) hx5
            obtain ⟨y0, y1, y2, y3⟩ := sys_cells hx7 hu.one
            have y3' := y3 p z hz.one
            have hs8 : Same (fun j => j = H.length + 2) H7 (H7.set (H.length + 2) ⟨[.int .i64 p, z], true, true⟩) := same_set2
            have hlt7 := (List.getElem?_eq_some_iff.1 hx7).1
            have hle6 := hp6.length_le
            simp (maxSteps := 1000000) [go_sem, sysV, y3']
            exact hQ' z _ _ (by simp [upF, Fr.get, Up.refl]) ⟨(Same.of_prefix (hp6.trans hp7)).trans hs8, List.getElem?_set_self hlt7, by rw [List.length_set]; exact (hz.keep hs8 (by rintro j ⟨e1, e2⟩ e; omega)).wider (by omega)⟩
        rintro w H8 ⟨hs8, hx8, hw8⟩
        have wk : IntKind.i64.wrap ((k : Int) - 1) = ((k - 1 : Nat) : Int) := by rw [i64w (by omega) (by omega)]; omega
        have hlen : (sortB (bs ++ [B])).length = bs.length + 1 := by rw [sortB_len]; simp
        have hd8 : Drawn p (sortB (bs ++ [B])) := ⟨hd.pts, by have := hd.len; omega, fun x hx => by
          have hx := (sortB_perm _ _ rfl).mem_iff.1 hx
          rcases List.mem_append.1 hx with hx | hx
          · exact hd.good x hx
          · simp at hx; subst hx; exact hgb⟩
        simp (maxSteps := 1000000) [go_sem, wk]
        exact hK (k - 1, w, sortB (bs ++ [B])) _ _ (by simp only; omega) (by simp [upF, Fr.get, Up.refl]) ⟨by simp only; omega, by simp only [hlen]; omega, hx8, hs8.get hr5 (by omega), hw8.wider (by omega), hd8, sameUp hsm5 hs8 (fun j e => by omega), hS5.keep hs8 (fun j e => ⟨by have := hs.1; omega, by omega⟩), by have := hs8.1; omega⟩
    · have : k = 0 := by omega
      subst this
      simp (maxSteps := 1000000) [go_sem]
      obtain ⟨r0, r1, r2, r3⟩ := sys_cells hr rfl
      have r3' := r3 p u hu.one
      have hs9 : Same (fun j => j = H.length) H1 (H1.set H.length ⟨[.int .i64 p, u], true, true⟩) := same_set2
      have hr9 : (H1.set H.length ⟨[.int .i64 p, u], true, true⟩)[H.length]? = some ⟨[.int .i64 p, u], true, true⟩ := List.getElem?_set_self (by omega)
      have hl9 : (H1.set H.length ⟨[.int .i64 p, u], true, true⟩).length = H1.length := by simp
      have fin := h (H1.set H.length ⟨[.int .i64 p, u], true, true⟩) u bs (sameUp hsm hs9 (fun j e => by omega)) (hS.keep hs9 (fun j e => ⟨by have := hs.1; omega, by omega⟩)) (by rw [hl9]; exact (hu.keep hs9 (by rintro j ⟨e1, e2⟩ e; omega)).wider (by omega)) hd (by omega)
      generalize H1.set H.length ⟨[.int .i64 p, u], true, true⟩ = H9 at *
      obtain ⟨y0, y1, y2, y3⟩ := sys_cells hr9 hu.one
      simp (maxSteps := 1000000) [go_sem, a0, r3', y0]
      exact fin

end Go.Proofs.YtfnegaedkomcgaaGreat
end

section
namespace Go.Proofs.YtfnegaedkomcgaaGreat
open Go.Ab

theorem third_in {p : Nat} {bs : List Bk} (hg : ∀ b ∈ bs, good p b = true) {q r : Nat} (hqr : q ≠ r) (h : ¬ third bs q r < 0) : ∃ t : Nat, third bs q r = t /\ t < p /\ t ≠ q /\ t ≠ r := by
  obtain ⟨x, hx, h1, h2, h3⟩ := third_some hg (p := q) (q := r) (by omega) (fun e => by rw [e] at h; omega)
  have g := good_iff.1 (hg x hx)
  rw [Bk.has_iff] at h1 h2
  refine ⟨(third bs q r).toNat, by omega, ?_, ?_, ?_⟩ <;> (rcases h1 with h1 | h1 | h1 <;> rcases h2 with h2 | h2 | h2 <;> omega)
theorem ord_at {p : Nat} {xs : List Int} (hO : OrdL p xs) {i : Nat} (hi : i < p) : ∃ c : Nat, xs[i]? = some (c : Int) /\ c < p := by
  have hl : i < xs.length := by have := hO.1; omega
  have h := hO.2.2 xs[i] (List.getElem_mem hl)
  exact ⟨xs[i].toNat, by rw [List.getElem?_eq_getElem hl]; congr 1; omega, by omega⟩
theorem ord_ne {p : Nat} {xs : List Int} (hO : OrdL p xs) {i j : Nat} {c d : Nat} (hi : xs[i]? = some (c : Int)) (hj : xs[j]? = some (d : Int)) (hij : i ≠ j) : c ≠ d := by
  rintro rfl
  obtain ⟨h1, _⟩ := List.getElem?_eq_some_iff.1 hi
  rw [<- hj] at hi
  exact hij ((List.getElem?_inj h1 hO.2.1).1 hi)

def BIn (lo : Nat) (H : Heap) (u : Value) (bs : List Bk) : Prop := ∃ b, BlocksIn lo b H u bs
theorem BIn.keep {lo : Nat} {H H' : Heap} {u : Value} {bs : List Bk} (h : BIn lo H u bs) {S : Nat -> Prop} (hs : Same S H H') (hd : ∀ j, lo <= j -> ¬ S j) : BIn lo H' u bs := by
  obtain ⟨b, h⟩ := h
  exact ⟨b, h.keep hs (fun j hj => hd j hj.1)⟩
theorem BIn.pre {lo : Nat} {H H' : Heap} (hp : H <+: H') {u : Value} {bs : List Bk} (h : BIn lo H u bs) : BIn lo H' u bs := h.keep (S := fun _ => False) (Same.of_prefix hp) (fun _ _ e => e)
theorem BIn.read {lo : Nat} {H : Heap} {u : Value} {bs : List Bk} (h : BIn lo H u bs) : BlocksAt H u bs := by obtain ⟨b, h⟩ := h; exact h.read
theorem BIn.one {lo : Nat} {H : Heap} {u : Value} {bs : List Bk} (h : BIn lo H u bs) : u.oneCell' = true := by obtain ⟨b, h⟩ := h; exact h.one
theorem BIn.wider {lo lo' : Nat} {H : Heap} {u : Value} {bs : List Bk} (h : BIn lo H u bs) (hl : lo' <= lo) : BIn lo' H u bs := by obtain ⟨b, h⟩ := h; exact ⟨b, h.wider hl⟩
theorem switched_ok {L s : Nat} {H : Heap} (hs : Src L s H) {p lo : Nat} {u : Value} {bs : List Bk} (hu : BIn lo H u bs) (hsl : s < lo) (hlo : lo <= H.length) (hd : Drawn p bs) (hlen : bs.length <= 150) (Post : Value -> Heap -> Prop)
    (h : ∀ (H' : Heap) (w : Value) (cs : List Bk), Same (fun j => j = s) H H' -> Src L s H' -> BIn lo H' w cs -> Drawn p cs -> cs.length <= bs.length + 4 -> Post (sysV p w) H') :
    ACalls Tryz.prog 89 [.pointer (some ⟨s, 0, none⟩), sysV p u] H Post := by
  have hslt := hs.lt
  have oneu := hu.one
  have hp := hd.pts
  refine acalls_vc (rs := [.cell 4 26]) Tryz.func89 rfl rfl Tryz.ntmps89 rfl rfl ?_
  simp (maxSteps := 1000000) [go_sem, sysV, oneu]
  have hpA : H <+: H ++ [⟨[.int .i64 p, u], true, true⟩, ⟨[.int .i64 0, .slice none 0 0], true, true⟩] := List.prefix_append _ _
  have hlA : (H ++ [(⟨[.int .i64 p, u], true, true⟩ : Blk), ⟨[.int .i64 0, .slice none 0 0], true, true⟩]).length = H.length + 2 := by simp
  have hxA : (H ++ [(⟨[.int .i64 p, u], true, true⟩ : Blk), ⟨[.int .i64 0, .slice none 0 0], true, true⟩])[H.length]? = some ⟨[.int .i64 p, u], true, true⟩ := by simp
  have hrA : (H ++ [(⟨[.int .i64 p, u], true, true⟩ : Blk), ⟨[.int .i64 0, .slice none 0 0], true, true⟩])[H.length + 1]? = some ⟨[.int .i64 0, .slice none 0 0], true, true⟩ := by simp
  generalize H ++ [(⟨[.int .i64 p, u], true, true⟩ : Blk), ⟨[.int .i64 0, .slice none 0 0], true, true⟩] = HA at hpA hlA hxA hrA ⊢
  refine drawOrder_ok (hs.pre hpA) (by omega) _ ?_
  intro H1 w ord hs1 hS1 hI1 hO1
  have hle1 := hs1.1
  have hx1 := hs1.get hxA (by omega)
  have hr1 := hs1.get hrA (by omega)
  have hu1 := (hu.pre hpA).keep hs1 (fun j hj e => by omega)
  have hsm1 : Same (fun j => j = s) H H1 := (Same.of_prefix hpA).trans hs1
  obtain ⟨oid, ⟨rfl, hoat, hosz⟩, _⟩ := hI1
  have hol : ord.length = p := by have := hO1.1; omega
  have hoh : Holds H1 oid (ints ord) := ⟨true, hoat.resolve_left (by intro e; rw [e] at hol; simp at hol; omega)⟩
  obtain ⟨a, o0, ha⟩ := ord_at hO1 (i := 0) (by omega)
  obtain ⟨b, o1, hb⟩ := ord_at hO1 (i := 1) (by omega)
  have hab := ord_ne hO1 o0 o1 (by omega)
  have l0 := hoh.cell (o := 0) (v := .int .i64 a) (by simp only [ints_get, o0]; rfl)
  have l1 := hoh.cell (o := 1) (v := .int .i64 b) (by simp only [ints_get, o1]; rfl)
  have q0 : 0 < ord.length := by omega
  have q1 : 1 < ord.length := by omega
  have q1' : (1 : Int) < ord.length := by omega
  simp (maxSteps := 1000000) [go_sem]
  refine AWp.draw mixed [(0, false), (1, false), (2, false), (3, false), (4, false), (5, false), (6, false), (7, false)] (by kernel_rfl) ?_
  simp (maxSteps := 1000000) [go_sem, l0, l1, q0, q1, q1']
  rw [hol]
  refine AWp.loopVc (St := Nat) (fun i => [(3, .pointer (some ⟨H.length, 0, none⟩)), (4, .pointer (some ⟨H.length + 1, 0, none⟩)), (5, lv 1 oid 0 p), (6, .int .i64 a), (7, .int .i64 b), (8, .int .i64 i)])
    (fun i H' => i <= p /\ 2 <= i /\ H1 <+: H') (fun i => p - i) 2 ?_ ?_ ?_
  · simp [upF, Fr.get, Up.refl]
  · exact ⟨by omega, by omega, List.prefix_refl _⟩
  · rintro K i H2 ⟨hip, hi2, hp12⟩ hK
    have hx2 := pget hp12 hx1
    have hr2 := pget hp12 hr1
    obtain ⟨x0, x1, x2, x3⟩ := sys_cells hx2 oneu
    by_cases hlt : i < p
    · obtain ⟨c, oi, hc⟩ := ord_at hO1 hlt
      have hca := ord_ne hO1 oi o0 (by omega)
      have hcb := ord_ne hO1 oi o1 (by omega)
      have li := (hoh.pre hp12).cell (o := i) (v := .int .i64 c) (by simp only [ints_get, oi]; rfl)
      have hw_i : IntKind.i64.wrap ((i : Int) + 1) = (i : Int) + 1 := i64w (by omega) (by omega)
      have next : ∀ (H' : Heap) (fr' : Fr), H2 <+: H' -> upF H' [(3, .pointer (some ⟨H.length, 0, none⟩)), (4, .pointer (some ⟨H.length + 1, 0, none⟩)), (5, lv 1 oid 0 p), (6, .int .i64 a), (7, .int .i64 b), (8, .int .i64 ((i : Int) + 1))] fr' -> K fr' H' :=
        fun H' fr' e1 e2 => hK (i + 1) fr' H' (by omega) (by simpa using e2) ⟨by omega, by omega, hp12.trans e1⟩
      simp (maxSteps := 1000000) [go_sem, hlt, li, x0]
      refine l01Third_ok (hu1.read.pre hp12) hd.good15 _ ?_
      intro H3 hp3
      obtain ⟨E, hE⟩ : ∃ E, third bs a c = E := ⟨_, rfl⟩
      rw [hE]
      obtain ⟨x0, x1, x2, x3⟩ := sys_cells (pget hp3 hx2) oneu
      simp (maxSteps := 1000000) [go_sem, x0]
      refine l01Third_ok (hu1.read.pre (hp12.trans hp3)) hd.good15 _ ?_
      intro H4 hp4
      obtain ⟨F, hF⟩ : ∃ F, third bs b c = F := ⟨_, rfl⟩
      rw [hF]
      have hp24 := hp3.trans hp4
      have hx4 := pget hp24 hx2
      obtain ⟨x0, x1, x2, x3⟩ := sys_cells hx4 oneu
      by_cases hE0 : E < 0
      · simp (maxSteps := 1000000) [go_sem, undef, hE0, hw_i]
        exact next H4 _ hp24 (by simp [upF, Fr.get, Up.refl])
      by_cases hF0 : F < 0
      · simp (maxSteps := 1000000) [go_sem, undef, hE0, hF0, hw_i]
        exact next H4 _ hp24 (by simp [upF, Fr.get, Up.refl])
      by_cases hEb : E = b
      · subst hEb
        simp (maxSteps := 1000000) [go_sem, undef, hE0, hF0, hw_i]
        exact next H4 _ hp24 (by simp [upF, Fr.get, Up.refl])
      by_cases hFa : F = a
      · subst hFa
        have hEb' : (E == (b : Int)) = false := by simpa using hEb
        simp (maxSteps := 1000000) [go_sem, undef, hE0, hF0, hEb', hw_i]
        exact next H4 _ hp24 (by simp [upF, Fr.get, Up.refl])
      obtain ⟨e, he, hep, hea, hec⟩ := third_in hd.good (q := a) (r := c) (by omega) (by omega)
      obtain ⟨f, hf, hfp, hfb, hfc⟩ := third_in hd.good (q := b) (r := c) (by omega) (by omega)
      rw [hE] at he
      rw [hF] at hf
      subst he
      subst hf
      have hEb' : ((e : Int) == (b : Int)) = false := by simp; omega
      have hFa' : ((f : Int) == (a : Int)) = false := by simp; omega
      simp (maxSteps := 1000000) [go_sem, undef, hE0, hF0, hEb', hFa', hEb, hFa, hw_i, x0]
      refine l01Third_ok (hu1.read.pre (hp12.trans hp24)) hd.good15 _ ?_
      intro H5 hp5
      obtain ⟨D, hD⟩ : ∃ D, third bs a f = D := ⟨_, rfl⟩
      rw [hD]
      have hp25 := hp24.trans hp5
      obtain ⟨x0, x1, x2, x3⟩ := sys_cells (pget hp25 hx2) oneu
      by_cases hD0 : D < 0
      · simp (maxSteps := 1000000) [go_sem, undef, hD0, hw_i]
        exact next H5 _ hp25 (by simp [upF, Fr.get, Up.refl])
      by_cases hDb : D = b
      · subst hDb
        simp (maxSteps := 1000000) [go_sem, undef, hD0, hw_i]
        exact next H5 _ hp25 (by simp [upF, Fr.get, Up.refl])
      obtain ⟨d, hd', hdp, hda, hdf⟩ := third_in hd.good (q := a) (r := f) (by omega) (by omega)
      rw [hD] at hd'
      subst hd'
      have hDb' : ((d : Int) == (b : Int)) = false := by simp; omega
      simp (maxSteps := 1000000) [go_sem, undef, hD0, hDb', x0]
      refine l01Third_ok (hu1.read.pre (hp12.trans hp25)) hd.good15 _ ?_
      intro H6 hp6
      obtain ⟨G, hG⟩ : ∃ G, third bs b e = G := ⟨_, rfl⟩
      rw [hG]
      have hp26 := hp25.trans hp6
      by_cases hGd : G ≠ (d : Int)
      · have hGd' : (G != (d : Int)) = true := by simpa using hGd
        simp (maxSteps := 1000000) [go_sem, undef, hGd', hw_i]
        exact next H6 _ hp26 (by simp [upF, Fr.get, Up.refl])
      have hGd := Classical.not_not.1 hGd
      subst hGd
      obtain ⟨d2, hd2, _, hdb2, hde2⟩ := third_in hd.good (q := b) (r := e) (by omega) (by omega)
      have hd2' : d2 = d := by omega
      subst hd2'
      have g1 : good (p : Int) (blk (b : Int) c e) = true := blk_good.2 ⟨by omega, by omega, by omega, by omega, by omega, by omega⟩
      have g2 : good (p : Int) (blk (b : Int) d2 f) = true := blk_good.2 ⟨by omega, by omega, by omega, by omega, by omega, by omega⟩
      have g3 : good (p : Int) (blk (a : Int) c f) = true := blk_good.2 ⟨by omega, by omega, by omega, by omega, by omega, by omega⟩
      have g4 : good (p : Int) (blk (a : Int) d2 e) = true := blk_good.2 ⟨by omega, by omega, by omega, by omega, by omega, by omega⟩
      simp (maxSteps := 1000000) [go_sem, undef]
      obtain ⟨B1, hB1⟩ : ∃ B, blk (b : Int) c e = B := ⟨_, rfl⟩
      rw [hB1] at g1
      obtain ⟨B2, hB2⟩ : ∃ B, blk (b : Int) d2 f = B := ⟨_, rfl⟩
      rw [hB2] at g2
      obtain ⟨B3, hB3⟩ : ∃ B, blk (a : Int) c f = B := ⟨_, rfl⟩
      rw [hB3] at g3
      obtain ⟨B4, hB4⟩ : ∃ B, blk (a : Int) d2 e = B := ⟨_, rfl⟩
      rw [hB4] at g4
      obtain ⟨O1, hO1⟩ : ∃ B, blk (a : Int) c e = B := ⟨_, rfl⟩
      obtain ⟨O2, hO2⟩ : ∃ B, blk (a : Int) d2 f = B := ⟨_, rfl⟩
      obtain ⟨O3, hO3⟩ : ∃ B, blk (b : Int) c f = B := ⟨_, rfl⟩
      obtain ⟨O4, hO4⟩ : ∃ B, blk (b : Int) d2 e = B := ⟨_, rfl⟩
      refine l01Block_ok (a := (b : Int)) (b := (c : Int)) (c := (e : Int)) ⟨by omega, by omega⟩ ⟨by omega, by omega⟩ ⟨by omega, by omega⟩ _ ?_
      rw [hB1]
      intro H7 hp7
      simp (maxSteps := 1000000) [go_sem, Bk.val]
      refine l01Block_ok (a := (b : Int)) (b := (d2 : Int)) (c := (f : Int)) ⟨by omega, by omega⟩ ⟨by omega, by omega⟩ ⟨by omega, by omega⟩ _ ?_
      rw [hB2]
      intro H8 hp8
      simp (maxSteps := 1000000) [go_sem, Bk.val]
      refine l01Block_ok (a := (a : Int)) (b := (c : Int)) (c := (f : Int)) ⟨by omega, by omega⟩ ⟨by omega, by omega⟩ ⟨by omega, by omega⟩ _ ?_
      rw [hB3]
      intro H9 hp9
      simp (maxSteps := 1000000) [go_sem, Bk.val]
      refine l01Block_ok (a := (a : Int)) (b := (d2 : Int)) (c := (e : Int)) ⟨by omega, by omega⟩ ⟨by omega, by omega⟩ ⟨by omega, by omega⟩ _ ?_
      rw [hB4]
      intro H10 hp10
      simp (maxSteps := 1000000) [go_sem, Bk.val]
      have hT := List.getElem?_concat_length (l := H10) (a := (⟨[.int .i64 B1.a, .int .i64 B1.b, .int .i64 B1.c, .int .i64 B2.a, .int .i64 B2.b, .int .i64 B2.c, .int .i64 B3.a, .int .i64 B3.b, .int .i64 B3.c, .int .i64 B4.a, .int .i64 B4.b, .int .i64 B4.c], true, true⟩ : Blk))
      have hpT : H10 <+: H10 ++ [⟨[.int .i64 B1.a, .int .i64 B1.b, .int .i64 B1.c, .int .i64 B2.a, .int .i64 B2.b, .int .i64 B2.c, .int .i64 B3.a, .int .i64 B3.b, .int .i64 B3.c, .int .i64 B4.a, .int .i64 B4.b, .int .i64 B4.c], true, true⟩] := List.prefix_append _ _
      have hlT : (H10 ++ [(⟨[.int .i64 B1.a, .int .i64 B1.b, .int .i64 B1.c, .int .i64 B2.a, .int .i64 B2.b, .int .i64 B2.c, .int .i64 B3.a, .int .i64 B3.b, .int .i64 B3.c, .int .i64 B4.a, .int .i64 B4.b, .int .i64 B4.c], true, true⟩ : Blk)]).length = H10.length + 1 := by simp
      generalize H10 ++ [(⟨[.int .i64 B1.a, .int .i64 B1.b, .int .i64 B1.c, .int .i64 B2.a, .int .i64 B2.b, .int .i64 B2.c, .int .i64 B3.a, .int .i64 B3.b, .int .i64 B3.c, .int .i64 B4.a, .int .i64 B4.b, .int .i64 B4.c], true, true⟩ : Blk)] = H11 at hT hpT hlT ⊢
      have hbl11 : Bl 3 H10 H11 H10.length (tri [B1, B2, B3, B4]) 4 := ⟨hpT, ⟨rfl, .inr hT⟩, Nat.le_refl _⟩
      refine l01Block_ok (a := (a : Int)) (b := (c : Int)) (c := (e : Int)) ⟨by omega, by omega⟩ ⟨by omega, by omega⟩ ⟨by omega, by omega⟩ _ ?_
      rw [hO1]
      intro H12 hp12o
      simp (maxSteps := 1000000) [go_sem, Bk.val]
      refine l01Block_ok (a := (a : Int)) (b := (d2 : Int)) (c := (f : Int)) ⟨by omega, by omega⟩ ⟨by omega, by omega⟩ ⟨by omega, by omega⟩ _ ?_
      rw [hO2]
      intro H13 hp13
      simp (maxSteps := 1000000) [go_sem, Bk.val]
      refine l01Block_ok (a := (b : Int)) (b := (c : Int)) (c := (f : Int)) ⟨by omega, by omega⟩ ⟨by omega, by omega⟩ ⟨by omega, by omega⟩ _ ?_
      rw [hO3]
      intro H14 hp14
      simp (maxSteps := 1000000) [go_sem, Bk.val]
      refine l01Block_ok (a := (b : Int)) (b := (d2 : Int)) (c := (e : Int)) ⟨by omega, by omega⟩ ⟨by omega, by omega⟩ ⟨by omega, by omega⟩ _ ?_
      rw [hO4]
      intro H15 hp15
      simp (maxSteps := 1000000) [go_sem, Bk.val]
      have hO := List.getElem?_concat_length (l := H15) (a := (⟨[.int .i64 O1.a, .int .i64 O1.b, .int .i64 O1.c, .int .i64 O2.a, .int .i64 O2.b, .int .i64 O2.c, .int .i64 O3.a, .int .i64 O3.b, .int .i64 O3.c, .int .i64 O4.a, .int .i64 O4.b, .int .i64 O4.c], true, true⟩ : Blk))
      have hpO : H15 <+: H15 ++ [⟨[.int .i64 O1.a, .int .i64 O1.b, .int .i64 O1.c, .int .i64 O2.a, .int .i64 O2.b, .int .i64 O2.c, .int .i64 O3.a, .int .i64 O3.b, .int .i64 O3.c, .int .i64 O4.a, .int .i64 O4.b, .int .i64 O4.c], true, true⟩] := List.prefix_append _ _
      generalize H15 ++ [(⟨[.int .i64 O1.a, .int .i64 O1.b, .int .i64 O1.c, .int .i64 O2.a, .int .i64 O2.b, .int .i64 O2.c, .int .i64 O3.a, .int .i64 O3.b, .int .i64 O3.c, .int .i64 O4.a, .int .i64 O4.b, .int .i64 O4.c], true, true⟩ : Blk)] = H16 at hO hpO ⊢
      have hp1116 : H11 <+: H16 := (((hp12o.trans hp13).trans hp14).trans hp15).trans hpO
      have hp210 : H2 <+: H10 := (((hp26.trans hp7).trans hp8).trans hp9).trans hp10
      have hbl16 := hbl11.pre hp1116
      have hoO : Holds H16 H15.length (tri [O1, O2, O3, O4]) := ⟨true, hO⟩
      have le10 := (hp12.trans hp210).length_le
      have k0 : (tri [O1, O2, O3, O4])[0]? = some (.int .i64 O1.a) := rfl
      have uat := hu1.read.pre (hp12.trans hp210)
      have hx10 := pget hp210 hx2
      have hr10 := pget hp210 hr2
      obtain ⟨ui, uo, rfl, uat0, usz⟩ := uat
      refine AWp.loopVc (St := Nat × Nat × List Bk) (fun q => [(3, .pointer (some ⟨H.length, 0, none⟩)), (4, .pointer (some ⟨H.length + 1, 0, none⟩)), (13, lv 3 q.2.1 0 q.2.2.length), (14, .slice (some ⟨H15.length, 0, none⟩) 4 4), (15, .int .i64 q.1)])
        (fun q H' => q.1 <= bs.length /\ Bl 3 H10 H' q.2.1 (tri q.2.2) q.2.2.length /\ (∀ x ∈ q.2.2, good (p : Int) x = true) /\ q.2.2.length <= q.1 + 4 /\ Holds H' H15.length (tri [O1, O2, O3, O4]) /\ q.2.1 ≠ H15.length) (fun q => bs.length - q.1) (0, H10.length, [B1, B2, B3, B4]) ?_ ?_ ?_
      · simp [upF, Fr.get, Up.refl]
        exact Up.ex (by omega) (.inr (by rw [cellsAt_of (hbl16.2.1.2.resolve_left (by omega)) rfl (by simp [tri_length])]; rfl))
      · exact ⟨by omega, hbl16, by intro x hx; simp at hx; rcases hx with rfl | rfl | rfl | rfl <;> assumption, by simp, hoO, by simp only; have := (((hp12o.trans hp13).trans hp14).trans hp15).length_le; omega⟩
      · rintro K9 ⟨k, id, acc⟩ H17 ⟨hk, hbl, hga, hla, hoh17, hidn⟩ hK9
        simp only at hk hbl hga hla hidn
        have hx17 := Same.get (S := fun _ => False) (Same.of_prefix hbl.1) hx10 (fun e => e)
        have hr17 := Same.get (S := fun _ => False) (Same.of_prefix hbl.1) hr10 (fun e => e)
        obtain ⟨x0, x1, x2, x3⟩ := sys_cells hx17 oneu
        have uat17 := uat0.pre hbl.1
        by_cases hkb : k < bs.length
        · have c1 := uat17.bk (List.getElem?_eq_getElem hkb)
          have gk := hd.good bs[k] (List.getElem_mem hkb)
          simp only [Bk.cells] at c1
          generalize bs[k] = Z at *
          have z1 := hoh17.cells (o := 0) (n := 3) (by simp [tri_length])
          have z2 := hoh17.cells (o := 3) (n := 3) (by simp [tri_length])
          have z3 := hoh17.cells (o := 6) (n := 3) (by simp [tri_length])
          have z4 := hoh17.cells (o := 9) (n := 3) (by simp [tri_length])
          simp [tri, Bk.cells] at z1 z2 z3 z4
          have hw_k : IntKind.i64.wrap ((k : Int) + 1) = (k : Int) + 1 := i64w (by omega) (by omega)
          simp (maxSteps := 1000000) [go_sem, hkb, x1, x2]
          refine AWp.draw mixed [(0, false), (1, false), (2, false), (3, false), (4, false), (5, false), (6, false), (7, false), (8, false), (9, false), (10, false), (11, false), (12, false), (13, false), (14, false), (15, false), (16, false), (17, false), (18, false), (19, false), (20, false), (21, false), (22, false), (23, false), (24, false), (25, false), (26, false), (27, false), (28, false), (29, false), (30, false), (31, false), (32, false), (33, false), (34, false), (35, false), (36, false), (37, false), (38, false), (39, false), (40, false), (41, false)] (by kernel_rfl) ?_
          simp (maxSteps := 1000000) [go_sem, hkb, x1, x2, c1, z1, z2, z3, z4]
          have stay : ∀ fr', upF H17 [(3, .pointer (some ⟨H.length, 0, none⟩)), (4, .pointer (some ⟨H.length + 1, 0, none⟩)), (13, lv 3 id 0 acc.length), (14, .slice (some ⟨H15.length, 0, none⟩) 4 4), (15, .int .i64 ((k : Int) + 1))] fr' -> K9 fr' H17 :=
            fun fr' hf => hK9 (k + 1, id, acc) fr' H17 (by simp only; omega) (by simpa using hf) ⟨by simp only; omega, hbl, hga, by simp only; omega, hoh17, hidn⟩
          obtain ⟨hsrc, H18, hap, hbl18, hsm18⟩ := hbl.pushS (xs := [.int .i64 Z.a, .int .i64 Z.b, .int .i64 Z.c]) (by omega) rfl
          have hoh18 : Holds H18 H15.length (tri [O1, O2, O3, O4]) := by
            obtain ⟨ow, ho⟩ := hoh17
            exact ⟨ow, hsm18.get ho (fun e => hidn e.symm)⟩
          have hl15 := (List.getElem?_eq_some_iff.1 hoh17.choose_spec).1
          refine condK_intro (fun _ => ?_) (fun _ => ?_)
          · refine condK_intro (fun _ => ?_) (fun _ => ?_)
            · refine condK_intro (fun _ => ?_) (fun _ => ?_)
              · refine condK_intro (fun _ => ?_) (fun _ => ?_)
                · simp (maxSteps := 1000000) [go_sem, hsrc, hap, hw_k]
                  refine andK_intro (by omega) (hK9 (k + 1, H17.length + 1, acc ++ [Z]) _ _ (by simp only; omega) (by simp [upF, Fr.get, Up.refl]) ⟨by simp only; omega, ?_, ?_, by simp; omega, hoh18, by simp only; omega⟩)
                  · simp only [tri_append, tri_one, Bk.cells, List.length_append, List.length_singleton]
                    exact hbl18
                  · intro x hx
                    rcases List.mem_append.1 hx with hx | hx
                    · exact hga x hx
                    · simp at hx; subst hx; exact gk
                · simp (maxSteps := 1000000) [go_sem, undef, hw_k]
                  exact stay _ (by simp [upF, Fr.get, Up.refl])
              · simp (maxSteps := 1000000) [go_sem, undef, hw_k]
                exact stay _ (by simp [upF, Fr.get, Up.refl])
            · simp (maxSteps := 1000000) [go_sem, undef, hw_k]
              exact stay _ (by simp [upF, Fr.get, Up.refl])
          · simp (maxSteps := 1000000) [go_sem, undef, hw_k]
            exact stay _ (by simp [upF, Fr.get, Up.refl])
        · have : k = bs.length := by omega
          subst this
          simp (maxSteps := 1000000) [go_sem, x0, x1, x2]
          have hown : BlocksIn H10.length H17.length H17 (lv 3 id 0 acc.length) acc := OwnBlocks.inn (OwnBlocks.of_ol hbl.2.1 (by omega)) hbl.2.2
          refine l01Made_ok hown.read (by omega) _ ?_
          intro H18 z hp18 hz
          have hr18 := pget hp18 hr17
          obtain ⟨r0, r1, r2, r3⟩ := sys_cells hr18 rfl
          have r3' := r3 p z hz.one
          have hs9 : Same (fun j => j = H.length + 1) H18 (H18.set (H.length + 1) ⟨[.int .i64 p, z], true, true⟩) := same_set2
          have hr9 : (H18.set (H.length + 1) ⟨[.int .i64 p, z], true, true⟩)[H.length + 1]? = some ⟨[.int .i64 p, z], true, true⟩ := List.getElem?_set_self (List.getElem?_eq_some_iff.1 hr18).1
          have hsm18 := hsm1.trans (Same.of_prefix (((hp12.trans hp210).trans hbl.1).trans hp18))
          have hS18 := (hS1.pre (((hp12.trans hp210).trans hbl.1).trans hp18))
          have hle17 := hbl.1.length_le
          have fin := h _ z (sortB acc) (sameUp hsm18 hs9 (fun j e => by omega)) (hS18.keep hs9 (fun j e => ⟨by have := hs.1; omega, by omega⟩)) ⟨_, (hz.keep hs9 (by rintro j ⟨e1, e2⟩ e; omega)).wider (by omega)⟩
            ⟨hd.pts, by rw [sortB_len]; omega, fun x hx => hga x ((sortB_perm _ _ rfl).mem_iff.1 hx)⟩ (by rw [sortB_len]; omega)
          generalize H18.set (H.length + 1) ⟨[.int .i64 p, z], true, true⟩ = H19 at *
          obtain ⟨y0, y1, y2, y3⟩ := sys_cells hr9 hz.one
          simp (maxSteps := 1000000) [go_sem, sysV, r3', y0]
          exact fin
    · have : i = p := by omega
      subst this
      simp (maxSteps := 1000000) [go_sem]
      obtain ⟨r0, r1, r2, r3⟩ := sys_cells hr2 rfl
      have r3' := r3 i u oneu
      have hs9 : Same (fun j => j = H.length + 1) H2 (H2.set (H.length + 1) ⟨[.int .i64 i, u], true, true⟩) := same_set2
      have hr9 : (H2.set (H.length + 1) ⟨[.int .i64 i, u], true, true⟩)[H.length + 1]? = some ⟨[.int .i64 i, u], true, true⟩ := List.getElem?_set_self (by have := hp12.length_le; omega)
      have hsm2 := hsm1.trans (Same.of_prefix hp12)
      have hL : L <= s := hs.1
      have fin := h _ u bs (sameUp hsm2 hs9 (fun j e => by omega)) ((hS1.pre hp12).keep hs9 (fun j e => ⟨by omega, by omega⟩)) (hu.keep (sameUp hsm2 hs9 (fun j e => by omega)) (fun j hj e => by omega)) hd (by omega)
      generalize H2.set (H.length + 1) ⟨[.int .i64 i, u], true, true⟩ = H9 at *
      obtain ⟨y0, y1, y2, y3⟩ := sys_cells hr9 oneu
      simp (maxSteps := 1000000) [go_sem, x0, r3', y0]
      exact fin

end Go.Proofs.YtfnegaedkomcgaaGreat
end

section
namespace Go.Proofs.YtfnegaedkomcgaaGreat
open Go.Ab Go.Sort

def NoInts (cs : List Value) : Prop := ∀ (o : Nat) (x y : Int), cs[o]? = some (.int .i64 x) -> cs[o + 1]? = some (.int .i64 y) -> False
end Go.Proofs.YtfnegaedkomcgaaGreat
end

section
namespace Go.Proofs.YtfnegaedkomcgaaGreat
open Go.Ab

def goodL (p : Int) (bs : List Bk) : Bool := decide (3 <= p) && decide (p <= 15) && decide (bs.length <= 35) && bs.all (good p)
theorem goodL_drawn {p : Int} {bs : List Bk} (h : goodL p bs = true) : Drawn p bs /\ bs.length <= 35 := by
  simp only [goodL, Bool.and_eq_true, decide_eq_true_eq, List.all_eq_true] at h
  exact ⟨⟨⟨h.1.1.1, h.1.1.2⟩, by have := h.1.2; omega, h.2⟩, h.1.2⟩
def names6 : List (List UInt8) := [nmSingle, nmFano, nmAffine, nmCyclic13, nmCyclic15, nmProj15]
theorem named_good : ∀ s ∈ names6, goodL (rNamed s).1.1 (rNamed s).1.2 = true := by
  intro s hs
  simp only [names6, List.mem_cons, List.not_mem_nil, or_false] at hs
  rcases hs with rfl | rfl | rfl | rfl | rfl | rfl <;> decide +kernel

def strs6 : List ByteArray := [⟨#[115, 105, 110, 103, 108, 101]⟩, ⟨#[102, 97, 110, 111]⟩, ⟨#[97, 102, 102, 105, 110, 101]⟩, ⟨#[99, 121, 99, 108, 105, 99, 49, 51]⟩, ⟨#[99, 121, 99, 108, 105, 99, 49, 53]⟩, ⟨#[112, 114, 111, 106, 101, 99, 116, 105, 118, 101, 49, 53]⟩]
theorem strs6_in : ∀ s ∈ strs6, s.toList ∈ names6 := by
  intro s hs
  simp only [strs6, List.mem_cons, List.not_mem_nil, or_false] at hs
  rcases hs with rfl | rfl | rfl | rfl | rfl | rfl <;> decide +kernel
theorem BIn.past {lo k : Nat} {H H' : Heap} {u : Value} {bs : List Bk} {cs : List Value} (h : BIn lo H u bs) (hb : H[k]? = some ⟨cs, true, true⟩) (hn : NoInts cs) (hs : Same (fun j => j = k) H H') : BIn lo H' u bs := by
  obtain ⟨b, id, ⟨h1, h2, h3⟩, h4⟩ := h
  refine ⟨b, id, ⟨h1, ?_, h3⟩, h4⟩
  rcases h2 with h2 | h2
  · exact .inl h2
  · cases bs with
    | nil => exact .inl rfl
    | cons x bs =>
      refine .inr (hs.get h2 (fun e => ?_))
      subst e
      rw [h2] at hb
      cases hb
      exact hn 0 x.a x.b (by simp [tri, Bk.cells]) (by simp [tri, Bk.cells])
theorem noInts_sys {p : Int} {u : Value} {bs : List Bk} {H : Heap} {lo : Nat} (h : BIn lo H u bs) : NoInts [.int .i64 p, u] := by
  obtain ⟨_, id, ⟨rfl, _, _⟩, _⟩ := h
  intro o x y h0 h1
  match o, h0, h1 with
  | 0, h0, h1 => simp at h1
  | 1, h0, h1 => simp at h0
  | o + 2, h0, h1 => simp at h0
theorem noInts_zero {p : Int} : NoInts [.int .i64 p, .slice none 0 0] := by
  intro o x y h0 h1
  match o, h0, h1 with
  | 0, h0, h1 => simp at h1
  | 1, h0, h1 => simp at h0
  | o + 2, h0, h1 => simp at h0
def strC (l : List ByteArray) : List Value := l.map .string

theorem l01Names_ok {H : Heap} (Post : Value -> Heap -> Prop) (h : ∀ H', H <+: H' -> H'[H.length]? = some ⟨strC strs6, true, true⟩ -> Post (.slice (some ⟨H.length, 0, none⟩) 6 6) H') : ACalls Tryz.prog 102 [] H Post := by
  refine acalls_vc (rs := [.tmp 0]) Tryz.func102 rfl rfl Tryz.ntmps102 rfl rfl ?_
  simp (maxSteps := 1000000) [go_sem]
  exact h _ (List.prefix_append _ _) (by simp [strC, strs6])

theorem drawFull_ok {L s : Nat} {H : Heap} (hs : Src L s H) (Post : Value -> Heap -> Prop)
    (h : ∀ (H' : Heap) (p : Nat) (w : Value) (bs : List Bk), Same (fun j => j = s) H H' -> Src L s H' -> BIn H.length H' w bs -> Drawn p bs -> bs.length <= 43 -> Post (sysV p w) H') :
    ACalls Tryz.prog 46 [.pointer (some ⟨s, 0, none⟩)] H Post := by
  have hslt := hs.lt
  refine acalls_vc (rs := [.cell 2 26]) Tryz.func46 rfl rfl Tryz.ntmps46 rfl rfl ?_
  simp (maxSteps := 1000000) [go_sem]
  have hp0 : H <+: H ++ [⟨[.int .i64 0, .slice none 0 0], true, true⟩] := List.prefix_append _ _
  have hr0 : (H ++ [(⟨[.int .i64 0, .slice none 0 0], true, true⟩ : Blk)])[H.length]? = some ⟨[.int .i64 0, .slice none 0 0], true, true⟩ := by simp
  have hl0 : (H ++ [(⟨[.int .i64 0, .slice none 0 0], true, true⟩ : Blk)]).length = H.length + 1 := by simp
  generalize H ++ [(⟨[.int .i64 0, .slice none 0 0], true, true⟩ : Blk)] = H0 at hp0 hr0 hl0 ⊢
  refine l01Names_ok _ ?_
  intro H1 hp1 hn1
  have hlen1 := hp1.length_le
  have hln1 := (List.getElem?_eq_some_iff.1 hn1).1
  simp (maxSteps := 1000000) [go_sem]
  have hp2 : H1 <+: H1 ++ [⟨[.int .i64 3, .int .i64 6], true, true⟩] := List.prefix_append _ _
  have hi2 : (H1 ++ [(⟨[.int .i64 3, .int .i64 6], true, true⟩ : Blk)])[H1.length]? = some ⟨ints [3, 6], true, true⟩ := by simp [ints]
  generalize H1 ++ [(⟨[.int .i64 3, .int .i64 6], true, true⟩ : Blk)] = H2 at hp2 hi2 ⊢
  have hp02 := (hp0.trans hp1).trans hp2
  refine pick_ok (hs.pre hp02) (xs := [3, 6]) hi2 (by omega) (by simp) (by simp) _ ?_
  intro H3 m hs3 hl3 hS3 hm
  have hm6 : m <= 6 := by simp at hm; omega
  simp (maxSteps := 1000000) [go_sem]
  refine next_ok hS3 _ ?_
  intro H4 q hs4 hl4 hS4 hq0 hq1
  obtain ⟨q, rfl⟩ : ∃ n : Nat, q = n := ⟨q.toNat, by omega⟩
  have hq : q < 6 := by omega
  have hn4 := hs4.get (hs3.get (pget hp2 hn1) (by omega)) (by omega)
  have lq : cellsAt H4 H0.length q 1 = some [.string (strs6[q]'hq)] := Holds.cell ⟨true, hn4⟩ (by simp only [strC, List.getElem?_map, List.getElem?_eq_getElem (show q < strs6.length from hq), Option.map_some]; rfl)
  have hgd := named_good _ (strs6_in _ (List.getElem_mem (l := strs6) hq))
  generalize strs6[q]'hq = str at lq hgd
  simp (maxSteps := 1000000) [go_sem, hq, lq]
  refine andK_intro (by omega) ?_
  refine l01Named_ok _ ?_
  intro H5 w hp5 hw5
  obtain ⟨hdr, hlb⟩ := goodL_drawn hgd
  generalize (rNamed str.toList).1.2 = bs at *
  generalize (rNamed str.toList).1.1 = pp at *
  have hpp := hdr.pts
  obtain ⟨p, rfl⟩ : ∃ n : Nat, pp = n := ⟨pp.toNat, by omega⟩
  have onew := hw5.one
  have hle45 := hp5.length_le
  have hr4 := hs4.get (hs3.get (pget (hp1.trans hp2) hr0) (by omega)) (by omega)
  have hp6 : H5 <+: H5 ++ [⟨[.int .i64 p, w], true, true⟩] := List.prefix_append _ _
  have hx6 : (H5 ++ [(⟨[.int .i64 p, w], true, true⟩ : Blk)])[H5.length]? = some ⟨[.int .i64 p, w], true, true⟩ := by simp
  have hl6 : (H5 ++ [(⟨[.int .i64 p, w], true, true⟩ : Blk)]).length = H5.length + 1 := by simp
  simp (maxSteps := 1000000) [go_sem, sysV, onew]
  generalize H5 ++ [(⟨[.int .i64 p, w], true, true⟩ : Blk)] = H6 at hp6 hx6 hl6 ⊢
  have hr6 := pget (hp5.trans hp6) hr4
  have hw6 := hw5.pre hp6
  have hS6 := hS4.pre (hp5.trans hp6)
  have hsm6 : Same (fun j => j = s) H H6 := (((Same.of_prefix hp02).trans hs3).trans hs4).trans (Same.of_prefix (hp5.trans hp6))
  have hle06 := hp02.length_le
  have hle2 := hp2.length_le
  obtain ⟨a0, a1, a2, a3⟩ := sys_cells hx6 onew
  refine AWp.drawS (fun i => i ≠ s /\ i < H6.length) mixed [(0, false), (1, false), (2, false), (3, false), (4, true), (5, false), (6, false)] (by kernel_rfl) ?_
  simp (maxSteps := 1000000) [go_sem, a0, a1]
  refine andK_intro ⟨by omega, by omega⟩ ?_
  try refine andK_intro ⟨by omega, by omega⟩ ?_
  refine drawOrder_ok hS6 (by omega) _ ?_
  intro H7 ow ord hs7 hS7 hI7 hO7
  have hk7 : KeepS (fun i => i ≠ s /\ i < H6.length) H6 H7 := fun i hi => hs7.2 i hi.2 hi.1
  simp (maxSteps := 1000000) [go_sem]
  refine andK_intro hk7 ?_
  have hw7 := hw6.keep hs7 (by rintro j ⟨e1, e2⟩ e; omega)
  try simp (maxSteps := 1000000) [go_sem]
  refine l01RenamedG_ok hw7.read hI7.read hpp (by omega) hdr.good hO7 _ ?_
  intro H8 z hp8 hz
  have hx8 := Same.get (S := fun _ => False) (Same.of_prefix hp8) (hs7.get hx6 (by omega)) (fun e => e)
  have hr8 := Same.get (S := fun _ => False) (Same.of_prefix hp8) (hs7.get hr6 (by omega)) (fun e => e)
  obtain ⟨b0, b1, b2, b3⟩ := sys_cells hx8 onew
  have b3' := b3 p z hz.one
  have hs9 : Same (fun j => j = H5.length) H8 (H8.set H5.length ⟨[.int .i64 p, z], true, true⟩) := same_set2
  have hx9 : (H8.set H5.length ⟨[.int .i64 p, z], true, true⟩)[H5.length]? = some ⟨[.int .i64 p, z], true, true⟩ := List.getElem?_set_self (List.getElem?_eq_some_iff.1 hx8).1
  have hsm8 := (hsm6.trans hs7).trans (Same.of_prefix hp8)
  have hle7 := hs7.1
  have hle8 := hp8.length_le
  have hz9 : BIn H.length (H8.set H5.length ⟨[.int .i64 p, z], true, true⟩) z (sortB (bs.map (renB ord))) := ⟨_, (hz.keep hs9 (by rintro j ⟨e1, e2⟩ e; omega)).wider (by omega)⟩
  have hd9 : Drawn p (sortB (bs.map (renB ord))) := ⟨hpp, by rw [sortB_len, List.length_map]; omega, fun x hx => by
    obtain ⟨y, hy, rfl⟩ := List.mem_map.1 ((sortB_perm _ _ rfl).mem_iff.1 hx)
    exact ren_good hO7 (hdr.good y hy)⟩
  have hl9 : (sortB (bs.map (renB ord))).length <= 35 := by rw [sortB_len, List.length_map]; omega
  have hr9 := hs9.get hr8 (by omega)
  have hS9 := (hS7.pre hp8).keep hs9 (fun j e => ⟨by have := hs.1; omega, by omega⟩)
  have hsm9 := sameUp hsm8 hs9 (fun j e => by omega)
  simp (maxSteps := 1000000) [go_sem, sysV, b3']
  generalize H8.set H5.length ⟨[.int .i64 p, z], true, true⟩ = H9 at *
  generalize sortB (bs.map (renB ord)) = cs at *
  refine next_ok hS9 _ ?_
  intro H10 k hs10 hl10 hS10 hk0 hk1
  obtain ⟨k, rfl⟩ : ∃ n : Nat, k = n := ⟨k.toNat, by omega⟩
  simp (maxSteps := 1000000) [go_sem]
  refine AWp.loopVc (St := Nat × Value × List Bk) (fun q => [(0, .pointer (some ⟨s, 0, none⟩)), (2, .pointer (some ⟨H.length, 0, none⟩)), (4, .pointer (some ⟨H5.length, 0, none⟩)), (6, .int .i64 q.1)])
    (fun q H' => q.1 <= 2 /\ q.2.2.length + 4 * q.1 <= 43 /\ H'[H5.length]? = some ⟨[.int .i64 p, q.2.1], true, true⟩ /\ H'[H.length]? = some ⟨[.int .i64 0, .slice none 0 0], true, true⟩ /\ BIn H.length H' q.2.1 q.2.2 /\ Drawn p q.2.2 /\ Same (fun j => j = s) H H' /\ Src L s H') (fun q => q.1) (k, z, cs) ?_ ?_ ?_
  · simp [upF, Fr.get, Up.refl]
  · exact ⟨by simp only; omega, by simp only; omega, hs10.get hx9 (by omega), hs10.get hr9 (by omega), hz9.keep hs10 (fun j hj e => by omega), hd9, hsm9.trans hs10, hS10⟩
  · rintro K ⟨k, u, es⟩ H11 ⟨hk, hkl, hx, hr, hu, hd, hsm, hS⟩ hK
    simp only at hk hkl hx hu hd
    obtain ⟨c0, c1, c2, c3⟩ := sys_cells hx hu.one
    have hle11 := hsm.1
    by_cases hk0 : 0 < k
    · have wk : IntKind.i64.wrap ((k : Int) - 1) = ((k - 1 : Nat) : Int) := by rw [i64w (by omega) (by omega)]; omega
      simp (maxSteps := 1000000) [go_sem, hk0, c0]
      refine switched_ok hS hu hslt hsm.1 hd (by omega) _ ?_
      intro H12 v fs hs12 hS12 hv hdv hlv
      have hx12 := hs12.get hx (by omega)
      have hr12 := hs12.get hr (by omega)
      obtain ⟨e0, e1, e2, e3⟩ := sys_cells hx12 hu.one
      have e3' := e3 p v hv.one
      have hs13 : Same (fun j => j = H5.length) H12 (H12.set H5.length ⟨[.int .i64 p, v], true, true⟩) := same_set2
      have hx13 : (H12.set H5.length ⟨[.int .i64 p, v], true, true⟩)[H5.length]? = some ⟨[.int .i64 p, v], true, true⟩ := List.getElem?_set_self (List.getElem?_eq_some_iff.1 hx12).1
      simp (maxSteps := 1000000) [go_sem, sysV, e3', wk]
      refine hK (k - 1, v, fs) _ _ (by simp only; omega) (by simp [upF, Fr.get, Up.refl]) ⟨by simp only; omega, by simp only; omega, hx13, hs13.get hr12 (by omega), ?_, hdv, sameUp (hsm.trans hs12) hs13 (fun j e => by omega), hS12.keep hs13 (fun j e => ⟨by have := hs.1; omega, by omega⟩)⟩
      exact hv.past hx12 (noInts_sys hu) hs13
    · have : k = 0 := by omega
      subst this
      obtain ⟨r0, r1, r2, r3⟩ := sys_cells hr rfl
      have r3' := r3 p u hu.one
      have hs12 : Same (fun j => j = H.length) H11 (H11.set H.length ⟨[.int .i64 p, u], true, true⟩) := same_set2
      have hr12 : (H11.set H.length ⟨[.int .i64 p, u], true, true⟩)[H.length]? = some ⟨[.int .i64 p, u], true, true⟩ := List.getElem?_set_self (List.getElem?_eq_some_iff.1 hr).1
      have fin := h (H11.set H.length ⟨[.int .i64 p, u], true, true⟩) p u es (sameUp hsm hs12 (fun j e => by omega)) (hS.keep hs12 (fun j e => ⟨by have := hs.1; omega, by omega⟩)) ?_ hd (by omega)
      · generalize H11.set H.length ⟨[.int .i64 p, u], true, true⟩ = H12 at *
        obtain ⟨y0, y1, y2, y3⟩ := sys_cells hr12 hu.one
        simp (maxSteps := 1000000) [go_sem, c0, r3', y0]
        exact fin
      · exact hu.past hr noInts_zero hs12

end Go.Proofs.YtfnegaedkomcgaaGreat
end

section
namespace Go.Proofs.YtfnegaedkomcgaaGreat
open Go.Ab

theorem without_drawn {p : Int} {bs : List Bk} (h : Drawn p bs) (k : Nat) : Drawn p (without bs k) /\ (without bs k).length <= bs.length := by
  have hs := without_sub bs k
  exact ⟨⟨h.pts, Nat.le_trans hs.length_le h.len, fun b hb => h.good b (hs.subset hb)⟩, hs.length_le⟩

theorem draw_ok {L s : Nat} {H : Heap} (hs : Src L s H) (Post : Value -> Heap -> Prop)
    (h : ∀ (H' : Heap) (p : Nat) (w : Value) (bs : List Bk), Same (fun j => j = s) H H' -> Src L s H' -> BIn H.length H' w bs -> Drawn p bs -> bs.length <= 43 -> Post (sysV p w) H') :
    ACalls Tryz.prog 66 [.pointer (some ⟨s, 0, none⟩)] H Post := by
  have hslt := hs.lt
  refine acalls_vc (rs := [.cell 2 26]) Tryz.func66 rfl rfl Tryz.ntmps66 rfl rfl ?_
  simp (maxSteps := 1000000) [go_sem]
  have hp0 : H <+: H ++ [⟨[.int .i64 0, .slice none 0 0], true, true⟩] := List.prefix_append _ _
  have hr0 : (H ++ [(⟨[.int .i64 0, .slice none 0 0], true, true⟩ : Blk)])[H.length]? = some ⟨[.int .i64 0, .slice none 0 0], true, true⟩ := by simp
  have hl0 : (H ++ [(⟨[.int .i64 0, .slice none 0 0], true, true⟩ : Blk)]).length = H.length + 1 := by simp
  generalize H ++ [(⟨[.int .i64 0, .slice none 0 0], true, true⟩ : Blk)] = H0 at hp0 hr0 hl0 ⊢
  refine next_ok (hs.pre hp0) _ ?_
  intro H1 q hs1 hl1 hS1 hq0 hq1
  have hr1 := hs1.get hr0 (by omega)
  have hsm1 : Same (fun j => j = s) H H1 := (Same.of_prefix hp0).trans hs1
  have fin : ∀ (H2 : Heap) (p : Nat) (w : Value) (bs : List Bk), Same (fun j => j = s) H H2 -> Src L s H2 -> H2[H.length]? = some ⟨[.int .i64 0, .slice none 0 0], true, true⟩ -> BIn H.length H2 w bs -> Drawn p bs -> bs.length <= 43 ->
      storeAt H2 H.length 0 [.int .i64 p, w] = some (H2.set H.length ⟨[.int .i64 p, w], true, true⟩) /\ cellsAt (H2.set H.length ⟨[.int .i64 p, w], true, true⟩) H.length 0 2 = some [.int .i64 p, w] /\ Post (sysV p w) (H2.set H.length ⟨[.int .i64 p, w], true, true⟩) := by
    intro H2 p w bs e1 e2 e3 e4 e5 e6
    obtain ⟨r0, r1, r2, r3⟩ := sys_cells e3 rfl
    have hs2 : Same (fun j => j = H.length) H2 (H2.set H.length ⟨[.int .i64 p, w], true, true⟩) := same_set2
    have hr2 : (H2.set H.length ⟨[.int .i64 p, w], true, true⟩)[H.length]? = some ⟨[.int .i64 p, w], true, true⟩ := List.getElem?_set_self (List.getElem?_eq_some_iff.1 e3).1
    exact ⟨r3 p w e4.one, (sys_cells hr2 e4.one).1, h _ p w bs (sameUp e1 hs2 (fun j e => by omega)) (e2.keep hs2 (fun j e => ⟨by have := hs.1; omega, by omega⟩)) (e4.past e3 noInts_zero hs2) e5 e6⟩
  by_cases c0 : q = 0
  · subst c0
    simp (maxSteps := 1000000) [go_sem]
    refine drawFull_ok hS1 _ ?_
    intro H2 p w bs hs2 hS2 hw hd hlb
    have onew := hw.one
    obtain ⟨f1, f2, f3⟩ := fin H2 p w bs (hsm1.trans hs2) hS2 (hs2.get hr1 (by omega)) (hw.wider (by omega)) hd hlb
    simp (maxSteps := 1000000) [go_sem, sysV, f1, f2]
    exact f3
  · have b0 : (q == 0) = false := by simpa using c0
    by_cases c1 : q = 1
    · subst c1
      simp (maxSteps := 1000000) [go_sem]
      refine drawFull_ok hS1 _ ?_
      intro H2 p w bs hs2 hS2 hw hd hlb
      have onew := hw.one
      have hx3 : (H2 ++ [(⟨[.int .i64 p, w], true, true⟩ : Blk)])[H2.length]? = some ⟨[.int .i64 p, w], true, true⟩ := by simp
      have hp3 : H2 <+: H2 ++ [⟨[.int .i64 p, w], true, true⟩] := List.prefix_append _ _
      simp (maxSteps := 1000000) [go_sem, sysV, onew]
      generalize H2 ++ [(⟨[.int .i64 p, w], true, true⟩ : Blk)] = H3 at hx3 hp3 ⊢
      have hle2 := hs2.1
      have hr3 := Same.get (S := fun _ => False) (Same.of_prefix hp3) (hs2.get hr1 (by omega)) (fun e => e)
      refine next_ok (hS2.pre hp3) _ ?_
      intro H4 k hs4 hl4 hS4 hk0 hk1
      obtain ⟨k, rfl⟩ : ∃ n : Nat, k = n := ⟨k.toNat, by omega⟩
      have hk5 : k <= 5 := by omega
      simp (maxSteps := 1000000) [go_sem]
      refine AWp.loopVc (St := Nat × Value × List Bk) (fun q => [(0, .pointer (some ⟨s, 0, none⟩)), (2, .pointer (some ⟨H.length, 0, none⟩)), (3, .pointer (some ⟨H2.length, 0, none⟩)), (4, .int .i64 q.1)])
        (fun q H' => q.1 <= 5 /\ q.2.2.length <= 43 /\ H'[H2.length]? = some ⟨[.int .i64 p, q.2.1], true, true⟩ /\ H'[H.length]? = some ⟨[.int .i64 0, .slice none 0 0], true, true⟩ /\ BIn H.length H' q.2.1 q.2.2 /\ Drawn p q.2.2 /\ Same (fun j => j = s) H H' /\ Src L s H') (fun q => q.1) (k, w, bs) ?_ ?_ ?_
      · simp [upF, Fr.get, Up.refl]
      · exact ⟨hk5, hlb, hs4.get hx3 (by omega), hs4.get hr3 (by omega), ((hw.pre hp3).keep hs4 (fun j hj e => by omega)).wider (by omega), hd, ((hsm1.trans hs2).trans (Same.of_prefix hp3)).trans hs4, hS4⟩
      · rintro K ⟨k, u, es⟩ H5 ⟨hk, hkl, hx, hr, hu, hd5, hsm, hS⟩ hK
        simp only at hk hkl hx hu hd5
        obtain ⟨a0, a1, a2, a3⟩ := sys_cells hx hu.one
        obtain ⟨ui, ueq⟩ : ∃ i, u = lv 3 i 0 es.length := by obtain ⟨_, id, ⟨e, _, _⟩, _⟩ := hu; exact ⟨id, e⟩
        subst ueq
        have leave : ∃ (x : Nat), True := ⟨0, trivial⟩
        by_cases hk0 : 0 < k
        · by_cases he0 : 0 < es.length
          · have wk : IntKind.i64.wrap ((k : Int) - 1) = ((k - 1 : Nat) : Int) := by rw [i64w (by omega) (by omega)]; omega
            simp (maxSteps := 1000000) [go_sem, undef, hk0, he0, a0, a2]
            refine AWp.drawS (fun i => i ≠ s /\ i < H5.length) mixed [(0, false), (1, false), (2, false), (3, false), (4, false), (5, true), (6, false), (7, false)] (by kernel_rfl) ?_
            simp (maxSteps := 1000000) [go_sem, undef, hk0, he0, a0, a2]
            have hl2 := (List.getElem?_eq_some_iff.1 hx).1
            refine andK_intro ⟨by omega, hl2⟩ (andK_intro ⟨by omega, hl2⟩ ?_)
            refine next_ok hS _ ?_
            intro H6 t hs6 hl6 hS6 ht0 ht1
            obtain ⟨t, rfl⟩ : ∃ n : Nat, t = n := ⟨t.toNat, by omega⟩
            have ht : t < es.length := by omega
            have hk6 : KeepS (fun i => i ≠ s /\ i < H5.length) H5 H6 := fun i hi => hs6.2 i hi.2 hi.1
            simp (maxSteps := 1000000) [go_sem]
            refine andK_intro hk6 ?_
            try simp (maxSteps := 1000000) [go_sem]
            have hu6 := hu.keep hs6 (fun j hj e => by omega)
            refine l01Without_ok hu6.read (by omega) ht _ ?_
            intro H7 z hp7 hz
            obtain ⟨hdz, hlz⟩ := without_drawn hd5 t
            have hx7 := Same.get (S := fun _ => False) (Same.of_prefix hp7) (hs6.get hx (by omega)) (fun e => e)
            have hr7 := Same.get (S := fun _ => False) (Same.of_prefix hp7) (hs6.get hr (by omega)) (fun e => e)
            obtain ⟨e0, e1, e2, e3⟩ := sys_cells hx7 hu.one
            have e3' := e3 p z hz.one
            have hs8 : Same (fun j => j = H2.length) H7 (H7.set H2.length ⟨[.int .i64 p, z], true, true⟩) := same_set2
            have hx8 : (H7.set H2.length ⟨[.int .i64 p, z], true, true⟩)[H2.length]? = some ⟨[.int .i64 p, z], true, true⟩ := List.getElem?_set_self (List.getElem?_eq_some_iff.1 hx7).1
            have hz7 : BIn H.length H7 z (without es t) := ⟨_, hz.wider (by omega)⟩
            simp (maxSteps := 1000000) [go_sem, sysV, e3', wk]
            exact hK (k - 1, z, without es t) _ _ (by simp only; omega) (by simp [upF, Fr.get, Up.refl]) ⟨by simp only; omega, by simp only; omega, hx8, hs8.get hr7 (by omega), hz7.past hx7 (noInts_sys hu) hs8, hdz, sameUp ((hsm.trans hs6).trans (Same.of_prefix hp7)) hs8 (fun j e => by omega), (hS6.pre hp7).keep hs8 (fun j e => ⟨by have := hs.1; omega, by omega⟩)⟩
          · have he1 : ¬ (0 < (es.length : Int)) := by omega
            simp (maxSteps := 1000000) [go_sem, undef, hk0, he0, he1, a0, a2]
            obtain ⟨f1, f2, f3⟩ := fin H5 p _ es hsm hS hr hu hd5 hkl
            try simp (maxSteps := 1000000) [go_sem, undef, f1, f2, a0]
            exact f3
        · simp (maxSteps := 1000000) [go_sem, undef, hk0, a0, a2]
          obtain ⟨f1, f2, f3⟩ := fin H5 p _ es hsm hS hr hu hd5 hkl
          try simp (maxSteps := 1000000) [go_sem, undef, f1, f2, a0]
          exact f3
    · have b1 : (q == 1) = false := by simpa using c1
      simp (maxSteps := 1000000) [go_sem, b0, b1]
      refine next_ok hS1 _ ?_
      intro H2 r hs2 hl2 hS2 hr0' hr1'
      obtain ⟨p, hp⟩ : ∃ p : Nat, (p : Int) = 3 + r := ⟨(3 + r).toNat, by omega⟩
      have wp : IntKind.i64.wrap (3 + r) = (p : Int) := by rw [i64w (by omega) (by omega)]; exact hp.symm
      simp (maxSteps := 1000000) [go_sem, wp]
      refine drawOf_ok hS2 ⟨by omega, by omega⟩ _ ?_
      intro H3 w bs hs3 hS3 hw hd hlb
      have onew := hw.one
      have hle2 := hs2.1
      obtain ⟨f1, f2, f3⟩ := fin H3 p w bs ((hsm1.trans hs2).trans hs3) hS3 (hs3.get (hs2.get hr1 (by omega)) (by omega)) ⟨_, hw.wider (by omega)⟩ hd (by omega)
      simp (maxSteps := 1000000) [go_sem, sysV, f1, f2]
      exact f3

end Go.Proofs.YtfnegaedkomcgaaGreat
end

section
namespace Go.Ab
open Go.RowKit (Below)

section
variable {P : Program} {N : Nat} {ops : Array Oper} {L : Nat -> Prop} {K : Fr -> Heap -> Prop} {fs : List Nat}

def vGS (P : Program) (N : Nat) (ops : Array Oper) (L : Nat -> Prop) (K : Fr -> Heap -> Prop) : TreeG -> Fr -> Heap -> Prop
  | .nil, fr, H => K fr H
  | .one i fl t, fr, H => match ops[i]? with
    | none => False
    | some o => match isR o.op with
      | true => offS L o.op fr /\ vstep P N ops o (vGS P N ops L K t) fr H
      | false => vstep P N ops o (eKS L fl H (vGS P N ops L K t)) fr H
  | .alt f t' t, fr, H => match ops[f]? with
    | some o' => vstep P N ops o' (eKS L true H (vGS P N ops L K t')) fr H /\ vGS P N ops L K t fr H
    | none => False
theorem vGS_vFS : ∀ (t : TreeG) (cov : List Nat) (n : Nat) (l : List (Nat × Bool)) (fr : Fr) (H : Heap), l.length <= n -> treeGOK ops fs t cov l = true -> vGS P N ops L K t fr H ->
    (∀ x l' m, l = x :: l' -> n = m + 1 -> ∀ f ∈ cov, ∃ o', ops[f]? = some o' /\ isR o'.op = false /\ vstep P N ops o' (eKS L true H (vFS P N ops L fs K m (x :: l'.filter fun y => y.1 != f))) fr H) -> vFS P N ops L fs K n l fr H := by
  intro t
  induction t with
  | nil =>
    intro cov n l fr H hn hok h _
    cases l with
    | nil => cases n <;> exact h
    | cons x l => simp [treeGOK] at hok
  | one i fl t ih =>
    intro cov n l fr H hn hok h hcov
    cases l with
    | nil => simp [treeGOK] at hok
    | cons x l =>
      obtain ⟨j, fl'⟩ := x
      simp only [treeGOK, Bool.and_eq_true, beq_iff_eq] at hok
      obtain ⟨⟨⟨rfl, rfl⟩, hfl⟩, hok⟩ := hok
      cases n with
      | zero => simp at hn
      | succ n =>
        simp only [List.length_cons] at hn
        simp only [vGS] at h
        simp only [vFS]
        cases ho : ops[i]? with
        | none => simp [ho] at h
        | some o =>
          simp only [ho] at h hfl ⊢
          cases hR : isR o.op with
          | true => simp only [hR] at h ⊢; exact ⟨h.1, vstep_weak h.2 fun f h hk => ih [] n l f h (by omega) hok hk (fun _ _ _ _ _ f hf => by cases hf)⟩
          | false =>
            simp only [hR, Bool.false_or, List.all_eq_true] at h hfl ⊢
            refine ⟨vstep_weak h fun f h' hk => ?_, fun f hf hm => ?_⟩
            · cases fl with
              | true => exact ⟨hk.1, ih [] n l f h' (by omega) hok hk.2 (fun _ _ _ _ _ f hf => by cases hf)⟩
              | false => exact ih [] n l f h' (by omega) hok hk (fun _ _ _ _ _ f hf => by cases hf)
            · have := hfl f hf
              simp only [Bool.or_eq_true, Bool.not_eq_true', List.contains_eq_mem, decide_eq_false_iff_not, decide_eq_true_eq] at this
              exact hcov (i, fl) l n rfl rfl f (this.resolve_right fun e => e hm)
  | alt f t' t ih' ih =>
    intro cov n l fr H hn hok h hcov
    cases l with
    | nil => simp [treeGOK] at hok
    | cons x l =>
      obtain ⟨j, fl'⟩ := x
      simp only [treeGOK, Bool.and_eq_true, decide_eq_true_eq] at hok
      obtain ⟨⟨⟨hE, hlt⟩, hok'⟩, hok⟩ := hok
      simp only [vGS] at h
      cases ho' : ops[f]? with
      | none => simp [ho'] at h
      | some o' =>
        simp only [ho', Bool.not_eq_true'] at h hE
        refine ih (f :: cov) n ((j, fl') :: l) fr H hn hok h.2 ?_
        rintro x l' m he hm g hg
        cases he
        rcases List.mem_cons.1 hg with rfl | hg
        · refine ⟨o', ho', hE, vstep_weak h.1 fun q h' hk => ⟨hk.1, ih' [] m _ q h' ?_ hok' hk.2 (fun _ _ _ _ _ f hf => by cases hf)⟩⟩
          simp only [List.length_cons] at hn ⊢
          omega
        · exact hcov (j, fl') l m rfl hm g hg

theorem AWp.drawGS (L : Nat -> Prop) {id : Nat} {fr : Fr} {H : Heap} {Q : Exit -> Fr -> Heap -> Prop} (hm : P.follows .mixedOrders = true) (fs : List Nat) (canon : List (Nat × Bool)) (t : TreeG) (hok : (drawOKF ops fs canon && treeGOK ops fs t [] canon) = true) (h : vGS P N ops L (Q .normal) t fr H) : AWp P N (.region id ops true) Q fr H := by
  intro B w0 ρ w a hR hF
  simp only [drawOKF, Bool.and_eq_true, decide_eq_true_eq, List.all_eq_true, List.mem_range, List.contains_iff_mem, List.mem_map] at hok
  obtain ⟨⟨⟨⟨⟨h1, h2⟩, h3⟩, h4⟩, h5⟩, h6⟩ := hok
  refine wp_region_any hm ?_
  let K : Fr -> Heap -> Prop := fun f h => ∃ g, feq g f /\ Q .normal g h
  have hK : Closed K := fun f g h hfg ⟨k, hk, hq⟩ => ⟨k, hk.trans hfg, hq⟩
  have hv : vFS P N ops L fs K ops.size canon fr H := by
    refine vGS_vFS t [] ops.size canon fr H (by omega) h6 ?_ (fun _ _ _ _ _ f hf => by cases hf)
    have weak : ∀ (t : TreeG) (fr : Fr) (H : Heap), vGS P N ops L (Q .normal) t fr H -> vGS P N ops L K t fr H := by
      intro t
      induction t with
      | nil => exact fun fr H h => ⟨fr, feq.rfl' _, h⟩
      | one i fl t ih =>
        intro fr H h
        simp only [vGS] at h ⊢
        split at h
        · exact h
        · rename_i o ho
          cases hR : isR o.op with
          | true => simp only [hR] at h ⊢; exact ⟨h.1, vstep_weak h.2 ih⟩
          | false =>
            simp only [hR] at h ⊢
            refine vstep_weak h ?_
            intro f h' hk
            cases fl with
            | true => exact ⟨hk.1, ih _ _ hk.2⟩
            | false => exact ih _ _ hk
      | alt f t' t ih' ih =>
        intro fr H h
        simp only [vGS] at h ⊢
        split at h
        · exact ⟨vstep_weak h.1 fun f h' hk => ⟨hk.1, ih' _ _ hk.2⟩, ih _ _ h.2⟩
        · exact h
    exact weak t fr H h
  have hgt : ∀ i, i < ops.size -> (Array.replicate ops.size false).getD i true = false := by
    intro i hi
    simp [Array.getD_eq_getD_getElem?, hi]
  refine drawFS_any (B := B) (w0 := w0) hK h2 ops.size (Array.replicate ops.size false) canon fr H ρ w.drew a (by simp) h3 h1 ?_ ?_ ?_ hv hR.drew hF ?_
  · intro x hx
    exact ⟨h4 x hx, hgt x.1 (h4 x hx)⟩
  · intro i hi _
    obtain ⟨x, hx, rfl⟩ := h5 i hi
    exact ⟨x, hx, rfl⟩
  · intro j o hj hl
    rw [Array.getD_eq_getD_getElem?, Array.getElem?_replicate] at hl
    split at hl <;> simp at hl
  · rintro ρ' fr' H' a' w' hp ⟨g, hg, hq⟩ hR' hF'
    exact ⟨ρ', g, H', hp, hR', hF'.feq hg.symm, hq⟩

def vGSK (P : Program) (N : Nat) (ops : Array Oper) (L : Nat -> Prop) (K : Fr -> Heap -> Prop) (t : TreeG) (fr : Fr) (H : Heap) : Prop := vGS P N ops L K t fr H
def eGSK (P : Program) (N : Nat) (ops : Array Oper) (L : Nat -> Prop) (K : Fr -> Heap -> Prop) (t : TreeG) (fl : Bool) (H : Heap) (fr : Fr) (H' : Heap) : Prop :=
  match fl with
  | true => andK (KeepS L H H') (vGS P N ops L K t fr H')
  | false => vGS P N ops L K t fr H'
def vGSo (P : Program) (N : Nat) (ops : Array Oper) (L : Nat -> Prop) (K : Fr -> Heap -> Prop) (t : TreeG) (fl : Bool) (fr : Fr) (H : Heap) (o : Oper) : Prop :=
  match isR o.op with
  | true => andK (offBS L o.op fr) (vstep P N ops o (vGSK P N ops L K t) fr H)
  | false => vstep P N ops o (eGSK P N ops L K t fl H) fr H
def vGSe (P : Program) (N : Nat) (ops : Array Oper) (L : Nat -> Prop) (K : Fr -> Heap -> Prop) (t : TreeG) (fl : Bool) (fr : Fr) (H : Heap) (o : Oper) : Prop := vstep P N ops o (eGSK P N ops L K t fl H) fr H
theorem vGS_nil (K : Fr -> Heap -> Prop) (fr : Fr) (H : Heap) : vGS P N ops L K .nil fr H = K fr H := rfl
theorem eGSK_eq (K : Fr -> Heap -> Prop) (t : TreeG) (fl : Bool) (H : Heap) : eKS L fl H (vGS P N ops L K t) = eGSK P N ops L K t fl H := by
  funext f h
  cases fl <;> rfl
theorem vGS_one (K : Fr -> Heap -> Prop) (i : Nat) (fl : Bool) (t : TreeG) (fr : Fr) (H : Heap) : vGS P N ops L K (.one i fl t) fr H = bindO ops[i]? (vGSo P N ops L K t fl fr H) := by
  simp only [vGS]
  cases ops[i]? with
  | none => simp [bindO]
  | some o =>
    simp only [bindO_some, vGSo]
    cases isR o.op with
    | true => rw [offBS_iff]; rfl
    | false => simp only [eGSK_eq]
theorem vGS_alt {f : Nat} {t' t : TreeG} {K : Fr -> Heap -> Prop} {fr : Fr} {H : Heap} (h1 : bindO ops[f]? (vGSe P N ops L K t' true fr H)) (h2 : vGS P N ops L K t fr H) : vGS P N ops L K (.alt f t' t) fr H := by
  simp only [vGS]
  cases ho' : ops[f]? with
  | none => simp [ho', bindO] at h1
  | some o' =>
    simp only [ho', bindO_some, vGSe] at h1 ⊢
    exact ⟨by rw [eGSK_eq]; exact h1, h2⟩

attribute [go_sem] vGSK eGSK vGSo vGSe vGS_nil vGS_one

end
end Go.Ab
end
