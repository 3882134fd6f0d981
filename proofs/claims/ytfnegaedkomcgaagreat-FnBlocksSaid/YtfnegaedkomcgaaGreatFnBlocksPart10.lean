/- Part 10 of what the proof of the law FnBlocks rests on: contracts of functions of the program, for every argument that each names; no statement of the seat is proved here. -/
import Derived.Test.YtfnegaedkomcgaaGreatFnBlocksPart9

set_option linter.all false
set_option maxRecDepth 20000
set_option maxHeartbeats 8000000
section
namespace Go.Proofs.YtfnegaedkomcgaaGreat
open Go.Ab

theorem put2 {H H0 H' : Heap} {id : Nat} {cs0 cs : List Value} (hp0 : H <+: H0) (hid : H.length <= id) (hb0 : H0[id]? = some ⟨cs0, true, true⟩) (h2 : cs0.length = 2) (hp : H0 <+: H') (hcl : cs.length = 2) (ho : cs.all Value.oneCell' = true) :
    storeAt H' id 0 cs = some (H'.set id ⟨cs, true, true⟩) /\ cellsAt (H'.set id ⟨cs, true, true⟩) id 0 2 = some cs /\ H <+: H'.set id ⟨cs, true, true⟩ /\ Same (fun j => j = id) H' (H'.set id ⟨cs, true, true⟩) := by
  have hb' := pget hp hb0
  have hsame : Same (fun j => j = id) H' (H'.set id ⟨cs, true, true⟩) := ⟨by simp, fun j hj hS => List.getElem?_set_ne (fun e => hS e.symm)⟩
  refine ⟨?_, ?_, ((Same.of_prefix (hp0.trans hp)).trans hsame).prefix (by intro j hj he; omega), hsame⟩
  · rw [storeAt_of hb' rfl rfl (by simp [hcl, h2]) ho]
    match cs, hcl, cs0, h2 with
    | [x, y], _, [z, w], _ => simp [over]
  · have := Holds.cells (n := 2) (o := 0) (H := H'.set id ⟨cs, true, true⟩) ⟨true, List.getElem?_set_self (List.getElem?_eq_some_iff.1 hb').1⟩ (by omega)
    rw [this, List.drop_zero, List.take_of_length_le (by omega)]

theorem specBlocksOn_ok {H : Heap} {u v : Value} {p : Int} {bs : List Bk} {xs : List Int} (hu : BlocksAt H u bs) (hl : bs.length <= 1048576) (hv : IntsAt H v xs) (hl' : xs.length <= 1048576) (hw : ∀ x ∈ xs, In64 x) (Post : Value -> Heap -> Prop)
    (h : ∀ H' w, H <+: H' -> BlocksIn H.length H'.length H' w (rOn p bs xs).1.2 -> Post (.tuple #[sysV (rOn p bs xs).1.1 w, .int .i64 (rOn p bs xs).2]) H') :
    ACalls Tryz.prog 31 [sysV p u, v] H Post := by
  have hvo := hv
  obtain ⟨j, q, rfl, h3, h4⟩ := hv
  refine ACalls.res ?_
  refine acalls_vc (rs := [.cell 4 26, .tmp 5]) Tryz.func31 rfl rfl Tryz.ntmps31 rfl rfl ?_
  simp (maxSteps := 1000000) [go_sem, sysV, hu.one]
  have hp0 : H <+: H ++ [⟨[.int .i64 p, u], true, true⟩, ⟨[.int .i64 0, .slice none 0 0], true, true⟩] := List.prefix_append _ _
  have hx0 : Holds (H ++ [⟨[.int .i64 p, u], true, true⟩, ⟨[.int .i64 0, .slice none 0 0], true, true⟩]) H.length [.int .i64 p, u] := ⟨true, by simp⟩
  have hb0 : (H ++ [(⟨[.int .i64 p, u], true, true⟩ : Blk), ⟨[.int .i64 0, .slice none 0 0], true, true⟩])[H.length + 1]? = some ⟨[.int .i64 0, .slice none 0 0], true, true⟩ := by simp
  have hlen0 : (H ++ [(⟨[.int .i64 p, u], true, true⟩ : Blk), ⟨[.int .i64 0, .slice none 0 0], true, true⟩]).length = H.length + 2 := by simp
  generalize H ++ [(⟨[.int .i64 p, u], true, true⟩ : Blk), ⟨[.int .i64 0, .slice none 0 0], true, true⟩] = H0 at hp0 hx0 hb0 hlen0 ⊢
  have bad : ∀ (H' : Heap) (c : Int), H <+: H' -> rOn p bs xs = ((0, []), c) -> ∃ v', Up H' (.tuple #[.agg #[.int .i64 0, .slice none 0 0], .int .i64 c]) v' /\ Post v' H' := by
    intro H' c hp hr
    refine ⟨_, Up.tuple (ys := #[sysV 0 (lv 3 0 0 0), .int .i64 c]) ⟨zeroSys, Up.refl _ _, trivial⟩, ?_⟩
    have := h H' (lv 3 0 0 0) hp (by rw [hr]; exact BlocksIn.nil _ _ _)
    rwa [hr] at this
  refine l01Set_ok (hu.pre hp0) hl (hvo.pre hp0) _ ?_
  intro H1 hp1
  obtain ⟨d0, d1, d2⟩ := (hx0.pre hp1).sys
  obtain ⟨q1, q2, q3, _⟩ := put2 (cs := [.int .i64 0, .slice none 0 0]) hp0 (by omega) hb0 rfl hp1 rfl rfl
  by_cases hc : setCode p bs xs = 0
  · obtain ⟨hS, hrise⟩ := setCode_zero hc
    have hc' : (setCode p bs xs == 0) = true := by simpa using hc
    by_cases h3l : 3 <= xs.length
    · have hlt3 : ¬ ((xs.length : Int) < 3) := by omega
      have hlt3' : ¬ (xs.length < 3) := by omega
      simp (maxSteps := 1000000) [go_sem, hc, hlt3, hlt3', d0]
      refine l01On_ok (hu.pre (hp0.trans hp1)) hl (hvo.pre (hp0.trans hp1)) _ ?_
      intro H2 w hp2 hw2
      rw [sortB_asc (onB_asc hrise (asc_of _ rfl hS.2.2.1))] at hw2
      have ho := hw2.one
      obtain ⟨r1, r2, r3, r4⟩ := put2 (cs := [.int .i64 xs.length, w]) hp0 (by omega) hb0 rfl (hp1.trans hp2) rfl (by simp only [List.all_cons, ho]; rfl)
      have hr : rOn p bs xs = (((xs.length : Int), onB xs bs), 0) := by simp [rOn, hc, h3l]
      have hle := (hp0.trans hp1).length_le
      have hle1 := hp1.length_le
      have fin := h (H2.set (H.length + 1) ⟨[.int .i64 xs.length, w], true, true⟩) w r3 (by
        rw [hr]
        have := (hw2.keep r4 (by rintro j ⟨h1, h2⟩ e; omega)).wider hle
        rwa [List.length_set])
      rw [hr] at fin
      simp (maxSteps := 1000000) [go_sem, sysV, ho, r1, r2]
      exact ⟨_, Up.refl _ _, fin⟩
    · have hlt3 : ((xs.length : Int) < 3) := by omega
      have hlt3' : (xs.length < 3) := by omega
      simp (maxSteps := 1000000) [go_sem, hc, hlt3, hlt3', q1, q2]
      exact bad _ 2 q3 (by simp [rOn, hc, h3l])
  · have hc' : (setCode p bs xs == 0) = false := by simpa using hc
    have hc2 : (setCode p bs xs != 0) = true := by simpa using hc
    simp (maxSteps := 1000000) [go_sem, hc', hc2, q1, q2]
    exact bad _ _ q3 (by simp [rOn, hc])

theorem indexI_ok {H : Heap} {v : Value} {xs : List Int} {q : Int} (hv : IntsAt H v xs) (Post : Value -> Heap -> Prop) (h : Post (.int .i64 (plc xs q)) H) : ACalls Tryz.prog 65 [v, .int .i64 q] H Post := by
  obtain ⟨i, o, rfl, h1, h2⟩ := hv
  refine acalls_vc (rs := [.tmp 4]) Tryz.func65 rfl rfl Tryz.ntmps65 rfl rfl ?_
  simp (maxSteps := 1000000) [go_sem]
  refine AWp.loopVc (fun s : Nat => [(0, lv 1 i o xs.length), (1, .int .i64 q), (7, .int .i64 xs.length), (8, .int .i64 s)])
    (fun s H' => s <= xs.length /\ H' = H /\ ∀ y ∈ xs.take s, y ≠ q) (fun s => xs.length - s) 0 ?_ ?_ ?_
  · simp [upF, Fr.get, Up.refl]
  · exact ⟨by omega, rfl, by simp⟩
  · rintro K s H' ⟨hs, rfl, hall⟩ hK
    by_cases hlt : s < xs.length
    · have hx : xs[s]? = some xs[s] := List.getElem?_eq_getElem hlt
      have c1 := h1.cell (k := s) (v := .int .i64 xs[s]) (by simp [ints_get, hlt])
      have hw_s : IntKind.i64.wrap ((s : Int) + 1) = (s : Int) + 1 := i64w (by omega) (by omega)
      by_cases he : q = xs[s]
      · have e : (q == xs[s]) = true := by simpa using he
        simp (maxSteps := 1000000) [go_sem, hlt, c1, e]
        rwa [plc_at (k := s) (by rw [hx, he]) hall] at h
      · have e : (q == xs[s]) = false := by simpa using he
        simp (maxSteps := 1000000) [go_sem, hlt, c1, e, hw_s]
        refine hK (s + 1) _ _ (by omega) (by simp [upF, Fr.get, Up.refl]) ⟨by omega, rfl, ?_⟩
        intro y hy
        rw [List.take_succ_eq_append_getElem hlt, List.mem_append] at hy
        rcases hy with hy | hy
        · exact hall y hy
        · simp at hy; subst hy; exact fun e => he e.symm
    · have : s = xs.length := by omega
      subst this
      rw [List.take_length] at hall
      simp (maxSteps := 1000000) [go_sem]
      rwa [plc_none hall] at h

end Go.Proofs.YtfnegaedkomcgaaGreat
end

section
namespace Go.Proofs.YtfnegaedkomcgaaGreat
open Go.Ab Go.Sort

theorem tri_src {H : Heap} {i o : Nat} {bs : List Bk} (h : At H i o (tri bs)) : srcCells H 3 (lv 3 i o bs.length) = some (tri bs) := h.src (by rw [tri_length]) (by omega) _

theorem cloneB_oe {H : Heap} {u : Value} {xs : List Bk} (hu : BlocksAt H u xs) (hl : xs.length <= 1048576) (Post : Value -> Heap -> Prop) (h : ∀ H' w, H <+: H' -> OE 3 H.length H' w (tri xs) xs.length -> Post w H') :
    ACalls Tryz.prog 50 [u] H Post := by
  obtain ⟨i, o, rfl, h1, h2⟩ := hu
  by_cases hx : xs = []
  · subst hx
    refine acalls_body Tryz.func50 rfl rfl (by rw [Tryz.ntmps50]; exact Nat.le_of_ble_eq_true rfl) ?_
    rw [Tryz.ntmps50]
    refine AWp.seq (vc_sound _ _ _ _ ?_)
    simp (maxSteps := 1000000) [go_sem]
    refine AWp.seq (AWp.seq (AWp.regionS ?_))
    refine StepOK.of_v ?_
    simp (maxSteps := 1000000) [go_sem]
    refine StepOK.of_op rfl (ok_eqlNil2 rfl Tryz.underlying24 rfl rfl (by show (4 : Nat) < 8; decide) (fun b => ?_))
    refine AWp.cond (b := b) (by cases b <;> rfl) (fun _ => ?_) (fun _ => ?_)
    · refine vc_sound _ _ _ _ ?_
      simp (maxSteps := 1000000) [go_sem]
      exact h H _ (List.prefix_refl _) (OE.nil _ _ _)
    · refine vc_sound _ _ _ _ ?_
      simp (maxSteps := 1000000) [go_sem]
      refine vc_sound _ _ _ _ ?_
      simp (maxSteps := 1000000) [go_sem, appendH]
      exact h _ _ (List.prefix_append _ _) (OE.empty (Nat.le_refl _) (by simp))
  · have hp0 : H <+: H ++ [⟨[], true, true⟩] := List.prefix_append _ _
    have hsrc := tri_src (h1.pre hp0)
    have hm0 : xs.length ≠ 0 := by simpa using hx
    simp only [srcCells] at hsrc
    have he0 : OE 3 H.length (H ++ [(⟨[], true, true⟩ : Blk)]) (.slice (some ⟨H.length, 0, none⟩) 0 0) [] 0 := OE.empty (Nat.le_refl _) (by simp)
    obtain ⟨v, H2, hap, he2, hk2, hl2⟩ := he0.append (m := xs.length) (news := tri xs) (by omega) (by simp) (by rw [tri_length])
    generalize hm : xs.length = m at *
    refine acalls_vc (rs := [.tmp 2]) Tryz.func50 rfl rfl Tryz.ntmps50 rfl rfl ?_
    have hnil : nilOK (some ⟨i, o, some 3⟩) m = true := by simpa [nilOK] using hm0
    simp (maxSteps := 1000000) [go_sem, hnil, hsrc, hap]
    refine andK_intro (by omega) ?_
    simp only [List.nil_append, Nat.zero_add] at he2
    exact h H2 v (KeepL.prefix hp0 (Nat.le_refl _) hk2 hl2) he2
theorem blockCmp {id : Nat} {H : Heap} : Cmp Tryz.prog Bk.val before 128 [] [] (fun _ => True) id H := by
  intro H x y Post _ _ _ h
  show ACalls Tryz.prog 128 [x.val, y.val] H Post
  refine compare_ok _ ?_
  intro H' hp
  refine h H' _ hp ?_
  have := lexC_block x y
  cases hb : before x y with
  | true =>
    have : ¬ (0 <= lexC [x.a, x.b, x.c] [y.a, y.b, y.c]) := by rw [this, hb]; simp
    exact decide_eq_true (by omega)
  | false =>
    have := this.2 hb
    exact decide_eq_false (by omega)

theorem sortFunc0_ok {H : Heap} {id : Nat} {fv : Value} (Post : Value -> Heap -> Prop) (h : Post (.tuple #[]) H) : ACalls Tryz.prog 133 [lv 3 id 0 0, fv] H Post := by
  refine acalls_vc (rs := []) Tryz.func133 rfl rfl Tryz.ntmps133 rfl rfl ?_
  simp (maxSteps := 1000000) [go_sem, wu64_0B]
  refine bitsLenC_ok (x := 0) (by omega) _ ?_
  simp (maxSteps := 1000000) [go_sem]
  refine pdq0B_ok _ ?_
  simp (maxSteps := 1000000) [go_sem]
  exact h

theorem sorted_ok {H : Heap} {u : Value} {bs : List Bk} (hu : BlocksAt H u bs) (hl : bs.length <= 1048576) (Post : Value -> Heap -> Prop) (h : ∀ H' w, H <+: H' -> BlocksIn H.length H'.length H' w (sortB bs) -> Post w H') :
    ACalls Tryz.prog 104 [u] H Post := by
  refine ACalls.res ?_
  refine acalls_vc (rs := [.tmp 2]) Tryz.func104 rfl rfl Tryz.ntmps104 rfl rfl ?_
  simp (maxSteps := 1000000) [go_sem]
  refine cloneB_oe hu hl _ ?_
  intro H1 v hp1 he
  by_cases h0 : bs = []
  · subst h0
    have hs0 : sortB [] = [] := rfl
    have fin := fun (w : Value) (hw : Up H1 v w) (hb : BlocksIn H.length H1.length H1 w []) => (show ∃ v', Up H1 v v' /\ Post v' H1 from ⟨w, hw, h H1 w hp1 (by rw [hs0]; exact hb)⟩)
    rcases he.2 with ⟨_, rfl⟩ | ⟨id, _, _, rfl, _⟩ | ⟨id, _, rfl, _⟩
    · have f := fin (lv 3 0 0 0) (Up.nil _ _ _ _) (BlocksIn.nil _ _ _)
      simp (maxSteps := 1000000) [go_sem]
      refine ACalls.up (args' := [lv 3 0 0 0, _]) ⟨Up.nil _ _ _ _, Up.refl _ _, trivial⟩ ?_
      refine sortFunc0_ok _ ?_
      simp (maxSteps := 1000000) [go_sem]
      exact f
    · have f := fin (lv 3 0 0 0) (Up.ex0 _ _ _ _ _ _) (BlocksIn.nil _ _ _)
      simp (maxSteps := 1000000) [go_sem]
      refine ACalls.up (args' := [lv 3 0 0 0, _]) ⟨Up.ex0 _ _ _ _ _ _, Up.refl _ _, trivial⟩ ?_
      refine sortFunc0_ok _ ?_
      simp (maxSteps := 1000000) [go_sem]
      exact f
    · have f := fin (lv 3 id 0 0) (Up.refl _ _) ⟨id, ⟨rfl, .inl rfl, by simp⟩, fun h => absurd rfl h⟩
      simp (maxSteps := 1000000) [go_sem]
      refine sortFunc0_ok _ ?_
      simp (maxSteps := 1000000) [go_sem]
      exact f
  · have hn0 : bs.length ≠ 0 := fun e => h0 (List.eq_nil_of_length_eq_zero e)
    rcases he.2 with ⟨e, _⟩ | ⟨id, e, _⟩ | ⟨id, hid, rfl, e⟩
    · exact absurd e hn0
    · exact absurd e hn0
    · have hb : H1[id]? = some ⟨tri bs, true, true⟩ := by
        rcases e with ⟨e, _⟩ | e
        · exact absurd e hn0
        · exact e
      simp (maxSteps := 1000000) [go_sem]
      refine sortFuncB_ok (fs := []) (cs := []) (Q := fun _ => True) (l := bs) swoB ⟨by rw [flat_len Bk.cells_len], .inr hb⟩ rfl hl (fun _ _ => trivial) blockCmp _ ?_
      intro H2 l2 hs2 hol hperm hsorted
      have e2 := sort_uniq hperm hsorted
      have hlen : (sortB bs).length = bs.length := sortB_length _ bs rfl
      have hp2 : H <+: H2 := ((Same.of_prefix hp1).trans hs2).prefix (by intro j hj e; omega)
      have hb2 : H2[id]? = some ⟨tri (sortB bs), true, true⟩ := by
        rcases hol.2 with ⟨e, _⟩ | e
        · exact absurd e hn0
        · rw [e2] at e; exact e
      have f := h H2 (lv 3 id 0 bs.length) hp2 ⟨id, ⟨by rw [hlen], .inr hb2, by rw [hlen]; omega⟩, fun _ => ⟨hid, (List.getElem?_eq_some_iff.1 hb2).1⟩⟩
      simp (maxSteps := 1000000) [go_sem]
      exact ⟨_, Up.refl _ _, f⟩

theorem implSystem_ok {H : Heap} {u : Value} {p : Int} {bs : List Bk} (hu : BlocksAt H u bs) (hl : bs.length <= 1048576) (Post : Value -> Heap -> Prop) (h : ∀ H' w, H <+: H' -> BlocksIn H.length H'.length H' w (sortB bs) -> Post (sysV p w) H') :
    ACalls Tryz.prog 52 [.int .i64 p, u] H Post := by
  refine acalls_vc (rs := [.cell 4 26]) Tryz.func52 rfl rfl Tryz.ntmps52 rfl rfl ?_
  simp (maxSteps := 1000000) [go_sem]
  have hp0 : H <+: H ++ [⟨[.int .i64 0, .slice none 0 0], true, true⟩] := List.prefix_append _ _
  have hb0 : (H ++ [(⟨[.int .i64 0, .slice none 0 0], true, true⟩ : Blk)])[H.length]? = some ⟨[.int .i64 0, .slice none 0 0], true, true⟩ := by simp
  have hlen : (H ++ [(⟨[.int .i64 0, .slice none 0 0], true, true⟩ : Blk)]).length = H.length + 1 := by simp
  generalize H ++ [(⟨[.int .i64 0, .slice none 0 0], true, true⟩ : Blk)] = H0 at hp0 hb0 hlen ⊢
  refine sorted_ok (hu.pre hp0) hl _ ?_
  intro H1 w hp1 hw
  have hw0 := hw
  obtain ⟨id, ⟨rfl, _⟩, _⟩ := hw
  obtain ⟨q1, q2, q3, q4⟩ := put2 (cs := [.int .i64 p, lv 3 id 0 (sortB bs).length]) hp0 (Nat.le_refl _) hb0 rfl hp1 rfl rfl
  simp (maxSteps := 1000000) [go_sem, q1, q2]
  refine h _ _ q3 ?_
  have := (hw0.keep q4 (fun j hj e => by have := hj.1; omega)).wider (c := H.length) (by omega)
  rw [List.length_set]
  exact this

end Go.Proofs.YtfnegaedkomcgaaGreat
end

section
namespace Go.Proofs.YtfnegaedkomcgaaGreat
open Go.Ab Go.Sort

theorem bad_sys {H H0 : Heap} {Post : Value -> Heap -> Prop} {r : (Int × List Bk) × Int} (hp0 : H <+: H0) {id : Nat} (hid : H.length <= id) (hb0 : H0[id]? = some ⟨[.int .i64 0, .slice none 0 0], true, true⟩)
    (h : ∀ H' w, H <+: H' -> BlocksIn H.length H'.length H' w r.1.2 -> Post (.tuple #[sysV r.1.1 w, .int .i64 r.2]) H') (H' : Heap) (c : Int) (hp : H0 <+: H') (hr : r = ((0, []), c)) :
    ∃ H2, storeAt H' id 0 [.int .i64 0, .slice none 0 0] = some H2 /\ cellsAt H2 id 0 2 = some [.int .i64 0, .slice none 0 0] /\ ∃ v', Up H2 (.tuple #[.agg #[.int .i64 0, .slice none 0 0], .int .i64 c]) v' /\ Post v' H2 := by
  obtain ⟨q1, q2, q3, _⟩ := put2 (cs := [.int .i64 0, .slice none 0 0]) hp0 hid hb0 rfl hp rfl rfl
  refine ⟨_, q1, q2, _, Up.tuple (ys := #[sysV 0 (lv 3 0 0 0), .int .i64 c]) ⟨zeroSys, Up.refl _ _, trivial⟩, ?_⟩
  have := h _ (lv 3 0 0 0) q3 (by rw [hr]; exact BlocksIn.nil _ _ _)
  rwa [hr] at this

end Go.Proofs.YtfnegaedkomcgaaGreat
end

section
namespace Go.Proofs.YtfnegaedkomcgaaGreat
open Go.Ab Go.Sort

def nthI (xs : List Int) (p : Int) : Int := xs.getD p.toNat 0
def renB (xs : List Int) (b : Bk) : Bk := blk (nthI xs b.a) (nthI xs b.b) (nthI xs b.c)
open Classical in
noncomputable def rRen (p : Int) (bs : List Bk) (xs : List Int) : (Int × List Bk) × Int :=
  if sysB p bs then (if OrdL p xs then ((p, sortB (bs.map (renB xs))), 0) else ((0, []), 2)) else ((0, []), 1)
theorem nthI_in {xs : List Int} {n : Nat} (h : n < xs.length) : xs[n]? = some (nthI xs n) := by
  rw [nthI, Int.toNat_natCast, List.getD_eq_getElem?_getD, List.getElem?_eq_getElem h]; rfl
theorem OrdL.bound {p : Int} {xs : List Int} (h : OrdL p xs) (hp : p <= 15) {n : Nat} (hn : n < xs.length) : 0 <= nthI xs n /\ nthI xs n < 15 := by
  have := h.2.2 _ (List.mem_of_getElem? (nthI_in hn)); omega

theorem renumbered_ok {H : Heap} {u w : Value} {p : Int} {bs : List Bk} {xs : List Int} (hu : BlocksAt H u bs) (hw : IntsAt H w xs) (hS : IsSys p bs) (hO : OrdL p xs) (Post : Value -> Heap -> Prop)
    (h : ∀ H' z, H <+: H' -> BlocksIn H.length H'.length H' z (sortB (bs.map (renB xs))) -> Post (sysV p z) H') :
    ACalls Tryz.prog 79 [sysV p u, w] H Post := by
  obtain ⟨i, o, rfl, h1, h2⟩ := hu
  obtain ⟨j, q, rfl, h3, h4⟩ := hw
  have hpx := hS.1
  have hlb := hS.2.1
  have hxl : (xs.length : Int) = p := hO.1
  refine acalls_vc (rs := [.cell 4 26]) Tryz.func79 rfl rfl Tryz.ntmps79 rfl rfl ?_
  simp (maxSteps := 1000000) [go_sem, sysV]
  have hp0 : H <+: H ++ [⟨[.int .i64 p, lv 3 i o bs.length], true, true⟩, ⟨[.int .i64 0, .slice none 0 0], true, true⟩] := List.prefix_append _ _
  have hx0 : Holds (H ++ [⟨[.int .i64 p, lv 3 i o bs.length], true, true⟩, ⟨[.int .i64 0, .slice none 0 0], true, true⟩]) H.length [.int .i64 p, lv 3 i o bs.length] := ⟨true, by simp⟩
  have hb0 : (H ++ [(⟨[.int .i64 p, lv 3 i o bs.length], true, true⟩ : Blk), ⟨[.int .i64 0, .slice none 0 0], true, true⟩])[H.length + 1]? = some ⟨[.int .i64 0, .slice none 0 0], true, true⟩ := by simp
  have hlen0 : (H ++ [(⟨[.int .i64 p, lv 3 i o bs.length], true, true⟩ : Blk), ⟨[.int .i64 0, .slice none 0 0], true, true⟩]).length = H.length + 2 := by simp
  generalize H ++ [(⟨[.int .i64 p, lv 3 i o bs.length], true, true⟩ : Blk), ⟨[.int .i64 0, .slice none 0 0], true, true⟩] = H0 at hp0 hx0 hb0 hlen0 ⊢
  refine AWp.addGhost ?_
  have hbl0 := Bl.ghost 3 H0
  generalize H0 ++ [(⟨[], false, false⟩ : Blk)] = HG at hbl0 ⊢
  refine AWp.loopVc (St := Nat × Nat) (fun s => [(1, lv 1 j q xs.length), (2, .pointer (some ⟨H.length, 0, none⟩)), (4, .pointer (some ⟨H.length + 1, 0, none⟩)), (5, lv 3 s.2 0 s.1), (9, lv 3 i o bs.length), (10, .int .i64 bs.length), (11, .int .i64 s.1)])
    (fun s H' => s.1 <= bs.length /\ Bl 3 H0 H' s.2 (tri ((bs.take s.1).map (renB xs))) s.1) (fun s => bs.length - s.1) (0, H0.length) ?_ ?_ ?_
  · simp [upF, Fr.get, Up.refl, Up.nil]
  · exact ⟨by simp, by simpa [tri] using hbl0⟩
  · rintro K ⟨s, id⟩ H' ⟨hs, hbl⟩ hK
    simp only at hs hbl
    by_cases hlt : s < bs.length
    · have hbs : bs[s]? = some bs[s] := List.getElem?_eq_getElem hlt
      have c1 := (h1.pre (hp0.trans hbl.1)).bk hbs
      simp only [Bk.cells] at c1
      have hw_s : IntKind.i64.wrap ((s : Int) + 1) = (s : Int) + 1 := i64w (by omega) (by omega)
      have hgd : good p bs[s] = true := hS.good bs[s] (List.getElem_mem hlt)
      obtain ⟨b, hb⟩ : ∃ b, bs[s] = b := ⟨_, rfl⟩
      rw [hb] at c1 hbs hgd
      have hg' := good_iff.1 hgd
      obtain ⟨x, y, z, rfl, hxy, hyz, hz15⟩ := good_nat hgd hpx.2
      simp only at hg' c1
      have lx : x < xs.length := by omega
      have ly : y < xs.length := by omega
      have lz : z < xs.length := by omega
      simp (maxSteps := 1000000) [go_sem, hlt, c1]
      have hpb : H' <+: H' ++ [⟨[.int .i64 x, .int .i64 y, .int .i64 z], true, true⟩] := List.prefix_append _ _
      have hxb := Holds.last H' [.int .i64 x, .int .i64 y, .int .i64 z]
      have hbl1 := hbl.pre hpb
      generalize H' ++ [(⟨[.int .i64 x, .int .i64 y, .int .i64 z], true, true⟩ : Blk)] = H1 at *
      obtain ⟨e0, e1, e2, e3⟩ := hxb.bk
      have hx3 := h3.pre (hp0.trans hbl1.1)
      have f1 := hx3.cell (k := x) (v := .int .i64 (nthI xs x)) (by simp [ints, nthI_in lx])
      have f2 := hx3.cell (k := y) (v := .int .i64 (nthI xs y)) (by simp [ints, nthI_in ly])
      have f3 := hx3.cell (k := z) (v := .int .i64 (nthI xs z)) (by simp [ints, nthI_in lz])
      refine AWp.draw mixed [(0, false), (1, false), (2, false), (3, false), (4, false), (5, false), (6, false), (7, false), (8, false), (9, false), (10, false), (11, false), (12, false), (13, false), (14, false), (15, false), (16, false), (17, false), (18, false), (19, false)] (by kernel_rfl) ?_
      simp (maxSteps := 1000000) [go_sem, e1, e2, e3, f1, f2, f3, lx, ly, lz]
      refine blockOf_ok _ ?_
      intro H2 hp2
      have hcb : renB xs ⟨x, y, z⟩ = blk (nthI xs x) (nthI xs y) (nthI xs z) := rfl
      rw [<- hcb]
      obtain ⟨c, hc⟩ : ∃ c, renB xs ⟨x, y, z⟩ = c := ⟨_, rfl⟩
      rw [hc]
      have hsn : (bs.take (s + 1)).map (renB xs) = (bs.take s).map (renB xs) ++ [c] := by rw [List.take_succ_eq_append_getElem hlt, hb, List.map_append]; simp [hc]
      obtain ⟨hsrc, H5, hap, hbl5⟩ := (hbl1.pre hp2).push (xs := c.cells) (by omega) rfl
      simp only [Bk.cells] at hsrc hap hbl5
      simp (maxSteps := 1000000) [go_sem, Bk.val, hw_s, hsrc, hap]
      refine andK_intro (by omega) (hK (s + 1, H2.length + 1) _ _ (by simp only; omega) (by simp [upF, Fr.get, Up.refl]) ⟨by simp only; omega, ?_⟩)
      simp only [hsn, tri_append, tri_one, Bk.cells]
      exact hbl5
    · have : s = bs.length := by omega
      subst this
      rw [List.take_length] at hbl
      have hlm : (bs.map (renB xs)).length = bs.length := List.length_map _
      have hown : BlocksIn H0.length H'.length H' (lv 3 id 0 bs.length) (bs.map (renB xs)) := by
        rw [<- hlm]
        exact OwnBlocks.inn (OwnBlocks.of_ol (by rw [hlm]; exact hbl.2.1) (by omega)) hbl.2.2
      obtain ⟨d0, d1, d2⟩ := (hx0.pre hbl.1).sys
      simp (maxSteps := 1000000) [go_sem, d0, d1, d2]
      refine implSystem_ok hown.read (by omega) _ ?_
      intro H2 z hp2 hz
      obtain ⟨q1, q2, q3, q4⟩ := put2 (cs := [.int .i64 p, z]) hp0 (show H.length <= H.length + 1 by omega) hb0 rfl (hbl.1.trans hp2) rfl (by simp [one_int, hz.one])
      have hll := hbl.1.length_le
      have fin := h _ z q3 (by rw [List.length_set]; exact (hz.keep q4 (fun j hj e => by have := hj.1; omega)).wider (by omega))
      simp (maxSteps := 1000000) [go_sem, sysV, q1, q2]
      exact fin

theorem implRenumber_ok {H : Heap} {u w : Value} {p : Int} {bs : List Bk} {xs : List Int} (hu : BlocksAt H u bs) (hl : bs.length <= 1048576) (hw : IntsAt H w xs) (hl' : xs.length <= 1048576) (h64 : ∀ x ∈ xs, In64 x) (Post : Value -> Heap -> Prop)
    (h : ∀ H' z, H <+: H' -> BlocksIn H.length H'.length H' z (rRen p bs xs).1.2 -> Post (.tuple #[sysV (rRen p bs xs).1.1 z, .int .i64 (rRen p bs xs).2]) H') :
    ACalls Tryz.prog 23 [sysV p u, w] H Post := by
  have ou := hu.one
  refine ACalls.res ?_
  refine acalls_vc (rs := [.cell 4 26, .tmp 5]) Tryz.func23 rfl rfl Tryz.ntmps23 rfl rfl ?_
  simp (maxSteps := 1000000) [go_sem, sysV, ou]
  have hp0 : H <+: H ++ [⟨[.int .i64 p, u], true, true⟩, ⟨[.int .i64 0, .slice none 0 0], true, true⟩] := List.prefix_append _ _
  have hx0 : Holds (H ++ [⟨[.int .i64 p, u], true, true⟩, ⟨[.int .i64 0, .slice none 0 0], true, true⟩]) H.length [.int .i64 p, u] := ⟨true, by simp⟩
  have hb0 : (H ++ [(⟨[.int .i64 p, u], true, true⟩ : Blk), ⟨[.int .i64 0, .slice none 0 0], true, true⟩])[H.length + 1]? = some ⟨[.int .i64 0, .slice none 0 0], true, true⟩ := by simp
  have hlen0 : (H ++ [(⟨[.int .i64 p, u], true, true⟩ : Blk), ⟨[.int .i64 0, .slice none 0 0], true, true⟩]).length = H.length + 2 := by simp
  generalize H ++ [(⟨[.int .i64 p, u], true, true⟩ : Blk), ⟨[.int .i64 0, .slice none 0 0], true, true⟩] = H0 at hp0 hx0 hb0 hlen0 ⊢
  have bad := bad_sys hp0 (show H.length <= H.length + 1 by omega) hb0 h
  refine implIsSys (hu.pre hp0) _ ?_
  intro H1 hp1
  obtain ⟨d0, d1, d2⟩ := (hx0.pre hp1).sys
  cases hs : sysB p bs with
  | false =>
    obtain ⟨H9, q1, q2, fin⟩ := bad H1 1 hp1 (by rw [rRen, hs]; simp)
    simp (maxSteps := 1000000) [go_sem, q1, q2]
    exact fin
  | true =>
    have hS := sysB_iff.1 hs
    have hpx := hS.1
    simp (maxSteps := 1000000) [go_sem, d0, d1, d2]
    refine isOrder_ok (hw.pre (hp0.trans hp1)) hl' (by omega) _ ?_
    intro H2 b hp2 hb
    obtain ⟨d0, d1, d2⟩ := (hx0.pre (hp1.trans hp2)).sys
    cases b with
    | false =>
      have hO : ¬ OrdL p xs := fun e => by have := hb.2 e; cases this
      obtain ⟨H9, q1, q2, fin⟩ := bad H2 2 (hp1.trans hp2) (by rw [rRen, hs, if_pos rfl, if_neg hO])
      simp (maxSteps := 1000000) [go_sem, q1, q2]
      exact fin
    | true =>
      have hO := hb.1 rfl
      have hr : rRen p bs xs = ((p, sortB (bs.map (renB xs))), 0) := by rw [rRen, hs, if_pos rfl, if_pos hO]
      simp (maxSteps := 1000000) [go_sem, d0, d1, d2]
      refine renumbered_ok (hu.pre (hp0.trans (hp1.trans hp2))) (hw.pre (hp0.trans (hp1.trans hp2))) hS hO _ ?_
      intro H3 z hp3 hz
      obtain ⟨q1, q2, q3, q4⟩ := put2 (cs := [.int .i64 p, z]) hp0 (show H.length <= H.length + 1 by omega) hb0 rfl (hp1.trans (hp2.trans hp3)) rfl (by simp [one_int, hz.one])
      have hll := hp1.length_le
      have hll2 := hp2.length_le
      have fin := h _ z q3 (by rw [hr, List.length_set]; exact (hz.keep q4 (fun j hj e => by have := hj.1; omega)).wider (by omega))
      rw [hr] at fin
      simp (maxSteps := 1000000) [go_sem, sysV, q1, q2]
      exact ⟨_, Up.refl _ _, fin⟩

end Go.Proofs.YtfnegaedkomcgaaGreat
end

section
namespace Go.Proofs.YtfnegaedkomcgaaGreat
open Go.Ab Go.Sort

def metL (n : Nat) (xs : List Int) : List Value := (List.range n).map fun k : Nat => .bool (decide ((k : Int) ∈ xs))
theorem metL_length (n : Nat) (xs : List Int) : (metL n xs).length = n := by simp [metL]
theorem metL_get {n : Nat} {xs : List Int} {k : Nat} (h : k < n) : (metL n xs)[k]? = some (.bool (decide ((k : Int) ∈ xs))) := by simp [metL, h]
theorem metL_nil (n : Nat) : metL n [] = List.replicate n (.bool false) := by
  apply List.ext_getElem?
  intro k
  by_cases hk : k < n
  · rw [metL_get hk, List.getElem?_replicate, if_pos hk]; simp
  · rw [List.getElem?_eq_none (by rw [metL_length]; omega), List.getElem?_eq_none (by rw [List.length_replicate]; omega)]
theorem metL_snoc {n : Nat} {xs : List Int} {x : Nat} : metL n (xs ++ [(x : Int)]) = (metL n xs).set x (.bool true) := by
  apply List.ext_getElem?
  intro k
  rw [List.getElem?_set]
  by_cases hk : k < n
  · rw [metL_get hk]
    by_cases e : x = k
    · subst e
      rw [if_pos rfl, if_pos (by rw [metL_length]; exact hk)]; simp
    · rw [if_neg e, metL_get hk]
      have : ¬ ((k : Int) = (x : Int)) := by omega
      simp [this]
  · have h1 : (metL n (xs ++ [(x : Int)]))[k]? = none := List.getElem?_eq_none (by rw [metL_length]; omega)
    have h2 : (metL n xs)[k]? = none := List.getElem?_eq_none (by rw [metL_length]; omega)
    rw [h1, h2, metL_length]
    split
    · rw [if_neg (by omega)]
    · rfl
theorem l01Order_ok {H : Heap} {u : Value} {xs : List Int} {n : Nat} (hu : IntsAt H u xs) (hn : n <= 15) (Post : Value -> Heap -> Prop) (h : ∀ H' b, H <+: H' -> (b = true ↔ OrdL n xs) -> Post (.bool b) H') :
    ACalls Tryz.prog 80 [u, .int .i64 n] H Post := by
  obtain ⟨i, o, rfl, h1, h2⟩ := hu
  refine acalls_vc (rs := [.tmp 4]) Tryz.func80 rfl rfl Tryz.ntmps80 rfl rfl ?_
  have hm : ∀ n, (madeCells #[Value.bool false] n).toList = List.replicate n (.bool false) := by
    intro n
    rw [made_same (v := .bool false) (by simp) (by intro i hi; simp at hi; subst hi; rfl)]
  simp (maxSteps := 1000000) [go_sem, hm]
  try refine andK_intro (by omega) ?_
  have hlast : (H ++ [(⟨List.replicate n (.bool false), true, true⟩ : Blk)])[H.length]? = some ⟨List.replicate n (.bool false), true, true⟩ := by simp
  have hpl : H <+: H ++ [⟨List.replicate n (.bool false), true, true⟩] := List.prefix_append _ _
  generalize H ++ [(⟨List.replicate n (.bool false), true, true⟩ : Blk)] = H0 at hlast hpl ⊢
  refine AWp.loopVc (St := Nat) (fun s => [(0, lv 1 i o xs.length), (1, .int .i64 n), (5, .slice (some ⟨H.length, 0, none⟩) n n), (6, .int .i64 s)])
    (fun s H' => s <= xs.length /\ H <+: H' /\ H'[H.length]? = some ⟨metL n (xs.take s), true, true⟩ /\ (∀ x ∈ xs.take s, 0 <= x /\ x < n) /\ (xs.take s).Nodup) (fun s => xs.length - s) 0 ?_ ?_ ?_
  · simp [upF, Fr.get, Up.refl]
  · exact ⟨by omega, hpl, by simpa [metL_nil] using hlast, by simp, by simp⟩
  · rintro K s H' ⟨hs, hp, hc, hin, hnd⟩ hK
    by_cases hlt : s < xs.length
    · have hxs : (ints xs)[s]? = some (.int .i64 xs[s]) := by simp [ints, List.getElem?_eq_getElem hlt]
      have c1 := (h1.pre hp).cell hxs
      obtain ⟨x, hx⟩ : ∃ x, xs[s] = x := ⟨_, rfl⟩
      rw [hx] at c1 hxs
      have hmem : x ∈ xs := hx ▸ List.getElem_mem hlt
      have hsn : xs.take (s + 1) = xs.take s ++ [x] := by rw [List.take_succ_eq_append_getElem hlt, hx]
      have wn : IntKind.i64.wrap ((n : Int) - 1) = (n : Int) - 1 := i64w (by omega) (by omega)
      have hw_s : IntKind.i64.wrap ((s : Int) + 1) = (s : Int) + 1 := i64w (by omega) (by omega)
      simp (maxSteps := 1000000) [go_sem, hlt, c1, wn]
      refine l01In_ok _ ?_
      by_cases hr : 0 <= x /\ x <= (n : Int) - 1
      · have er : (decide (0 <= x) && decide (x <= (n : Int) - 1)) = true := by simp [hr]
        rw [er]
        obtain ⟨k, rfl⟩ : ∃ k : Nat, x = k := ⟨x.toNat, by omega⟩
        have hkn : k < n := by omega
        have c2 : cellsAt H' H.length k 1 = some [.bool (decide ((k : Int) ∈ xs.take s))] := Holds.cell ⟨true, hc⟩ (metL_get hkn)
        by_cases hd : (k : Int) ∈ xs.take s
        · rw [decide_eq_true hd] at c2
          simp (maxSteps := 1000000) [go_sem, hlt, c1, c2, hkn]
          refine h H' false hp ⟨fun e => (by cases e), fun e => ?_⟩
          have hnd2 := e.2.1
          rw [<- List.take_append_drop (s + 1) xs, hsn] at hnd2
          have := (List.nodup_append.1 (List.nodup_append.1 hnd2).1).2.2 k hd k (by simp)
          exact absurd rfl this
        · rw [decide_eq_false hd] at c2
          have s2 : storeAt H' H.length k [.bool true] = some (H'.set H.length ⟨metL n (xs.take (s + 1)), true, true⟩) := by
            rw [storeAt_of hc rfl rfl (by simp only [metL_length, List.length_singleton]; omega) (by simp [Value.oneCell']), over_one (by simp only [metL_length]; omega), <- metL_snoc, hsn]
          have fin := fun fr' hf => hK (s + 1) fr' (H'.set H.length ⟨metL n (xs.take (s + 1)), true, true⟩) (by omega) hf ⟨by omega, (show Same (fun j => j = H.length) H _ from (Same.of_prefix hp).trans Same.set).prefix (by omega), by rw [List.getElem?_set_self (List.getElem?_eq_some_iff.1 hc).1], by
            intro y hy
            rw [hsn, List.mem_append, List.mem_singleton] at hy
            rcases hy with hy | rfl
            · exact hin y hy
            · omega, by
            rw [hsn, List.nodup_append]
            exact ⟨hnd, by simp, fun a ha b hb => by simp at hb; subst hb; rintro rfl; exact hd ha⟩⟩
          generalize H'.set H.length ⟨metL n (xs.take (s + 1)), true, true⟩ = H3 at s2 fin
          simp (maxSteps := 1000000) [go_sem, hlt, c1, c2, hkn, s2, hw_s]
          exact fin _ (by simp [upF, Fr.get, Up.refl])
      · have er : (decide (0 <= x) && decide (x <= (n : Int) - 1)) = false := by
          rw [Bool.and_eq_false_iff, decide_eq_false_iff_not, decide_eq_false_iff_not]; omega
        rw [er]
        simp (maxSteps := 1000000) [go_sem, undef]
        refine h H' false hp ⟨fun e => (by cases e), fun e => ?_⟩
        have := e.2.2 x hmem
        omega
    · have : s = xs.length := by omega
      subst this
      rw [List.take_length] at hin hnd
      have fin := h H' ((xs.length : Int) == n) hp ⟨fun e => ⟨by simpa using e, hnd, hin⟩, fun e => by simpa using e.1⟩
      simp (maxSteps := 1000000) [go_sem]
      exact fin

theorem l01Renamed_ok {H : Heap} {u w : Value} {p : Int} {bs : List Bk} {xs : List Int} (hu : BlocksAt H u bs) (hw : IntsAt H w xs) (hS : IsSys p bs) (hO : OrdL p xs) (Post : Value -> Heap -> Prop)
    (h : ∀ H' z, H <+: H' -> BlocksIn H.length H'.length H' z (sortB (bs.map (renB xs))) -> Post (sysV p z) H') :
    ACalls Tryz.prog 81 [sysV p u, w] H Post := by
  obtain ⟨i, o, rfl, h1, h2⟩ := hu
  obtain ⟨j, q, rfl, h3, h4⟩ := hw
  have hpx := hS.1
  have hlb := hS.2.1
  have hxl : (xs.length : Int) = p := hO.1
  refine acalls_vc (rs := [.cell 4 26]) Tryz.func81 rfl rfl Tryz.ntmps81 rfl rfl ?_
  simp (maxSteps := 1000000) [go_sem, sysV]
  have hp0 : H <+: H ++ [⟨[.int .i64 p, lv 3 i o bs.length], true, true⟩, ⟨[.int .i64 0, .slice none 0 0], true, true⟩] := List.prefix_append _ _
  have hx0 : Holds (H ++ [⟨[.int .i64 p, lv 3 i o bs.length], true, true⟩, ⟨[.int .i64 0, .slice none 0 0], true, true⟩]) H.length [.int .i64 p, lv 3 i o bs.length] := ⟨true, by simp⟩
  have hb0 : (H ++ [(⟨[.int .i64 p, lv 3 i o bs.length], true, true⟩ : Blk), ⟨[.int .i64 0, .slice none 0 0], true, true⟩])[H.length + 1]? = some ⟨[.int .i64 0, .slice none 0 0], true, true⟩ := by simp
  have hlen0 : (H ++ [(⟨[.int .i64 p, lv 3 i o bs.length], true, true⟩ : Blk), ⟨[.int .i64 0, .slice none 0 0], true, true⟩]).length = H.length + 2 := by simp
  rw [show H ++ [(⟨[.int .i64 p, lv 3 i o bs.length], true, true⟩ : Blk), ⟨[.int .i64 0, .slice none 0 0], true, true⟩, ⟨[], true, true⟩] = (H ++ [(⟨[.int .i64 p, lv 3 i o bs.length], true, true⟩ : Blk), ⟨[.int .i64 0, .slice none 0 0], true, true⟩]) ++ [⟨[], true, true⟩] by simp]
  generalize H ++ [(⟨[.int .i64 p, lv 3 i o bs.length], true, true⟩ : Blk), ⟨[.int .i64 0, .slice none 0 0], true, true⟩] = H0 at hp0 hx0 hb0 hlen0 ⊢
  have hbl0 := Bl.nil 3 H0
  generalize H0 ++ [(⟨[], true, true⟩ : Blk)] = HG at hbl0 ⊢
  refine AWp.loopVc (St := Nat × Nat) (fun s => [(1, lv 1 j q xs.length), (2, .pointer (some ⟨H.length, 0, none⟩)), (4, .pointer (some ⟨H.length + 1, 0, none⟩)), (5, lv 3 s.2 0 s.1), (6, .int .i64 s.1)])
    (fun s H' => s.1 <= bs.length /\ Bl 3 H0 H' s.2 (tri ((bs.take s.1).map (renB xs))) s.1) (fun s => bs.length - s.1) (0, H0.length) ?_ ?_ ?_
  · simp [upF, Fr.get, Up.refl, Up.ex0]
  · exact ⟨by simp, by simpa [tri] using hbl0⟩
  · rintro K ⟨s, id⟩ H' ⟨hs, hbl⟩ hK
    simp only at hs hbl
    obtain ⟨d0, d1, d2⟩ := (hx0.pre hbl.1).sys
    by_cases hlt : s < bs.length
    · have hbs : bs[s]? = some bs[s] := List.getElem?_eq_getElem hlt
      have c1 := (h1.pre (hp0.trans hbl.1)).bk hbs
      simp only [Bk.cells] at c1
      have hw_s : IntKind.i64.wrap ((s : Int) + 1) = (s : Int) + 1 := i64w (by omega) (by omega)
      have hgd : good p bs[s] = true := hS.good bs[s] (List.getElem_mem hlt)
      obtain ⟨b, hb⟩ : ∃ b, bs[s] = b := ⟨_, rfl⟩
      rw [hb] at c1 hbs hgd
      have hg' := good_iff.1 hgd
      obtain ⟨x, y, z, rfl, hxy, hyz, hz15⟩ := good_nat hgd hpx.2
      simp only at hg' c1
      have lx : x < xs.length := by omega
      have ly : y < xs.length := by omega
      have lz : z < xs.length := by omega
      have bx := hO.bound hpx.2 lx
      have by' := hO.bound hpx.2 ly
      have bz := hO.bound hpx.2 lz
      simp (maxSteps := 1000000) [go_sem, hlt, c1, d0, d1, d2]
      have hpb : H' <+: H' ++ [⟨[.int .i64 x, .int .i64 y, .int .i64 z], true, true⟩] := List.prefix_append _ _
      have hxb := Holds.last H' [.int .i64 x, .int .i64 y, .int .i64 z]
      have hbl1 := hbl.pre hpb
      generalize H' ++ [(⟨[.int .i64 x, .int .i64 y, .int .i64 z], true, true⟩ : Blk)] = H1 at *
      obtain ⟨e0, e1, e2, e3⟩ := hxb.bk
      have hx3 := h3.pre (hp0.trans hbl1.1)
      have f1 := hx3.cell (k := x) (v := .int .i64 (nthI xs x)) (by simp [ints, nthI_in lx])
      have f2 := hx3.cell (k := y) (v := .int .i64 (nthI xs y)) (by simp [ints, nthI_in ly])
      have f3 := hx3.cell (k := z) (v := .int .i64 (nthI xs z)) (by simp [ints, nthI_in lz])
      refine AWp.draw mixed [(0, false), (1, false), (2, false), (3, false), (4, false), (5, false), (6, false), (7, false), (8, false), (9, false), (10, false), (11, false), (12, false), (13, false), (14, false), (15, false), (16, false), (17, false), (18, false), (19, false)] (by kernel_rfl) ?_
      simp (maxSteps := 1000000) [go_sem, e1, e2, e3, f1, f2, f3, lx, ly, lz]
      refine l01Block_ok (by omega) (by omega) (by omega) _ ?_
      intro H2 hp2
      have hcb : renB xs ⟨x, y, z⟩ = blk (nthI xs x) (nthI xs y) (nthI xs z) := rfl
      rw [<- hcb]
      obtain ⟨c, hc⟩ : ∃ c, renB xs ⟨x, y, z⟩ = c := ⟨_, rfl⟩
      rw [hc]
      have hsn : (bs.take (s + 1)).map (renB xs) = (bs.take s).map (renB xs) ++ [c] := by rw [List.take_succ_eq_append_getElem hlt, hb, List.map_append]; simp [hc]
      obtain ⟨hsrc, H5, hap, hbl5⟩ := (hbl1.pre hp2).push (xs := c.cells) (by omega) rfl
      simp only [Bk.cells] at hsrc hap hbl5
      simp (maxSteps := 1000000) [go_sem, Bk.val, hw_s, hsrc, hap]
      refine andK_intro (by omega) (hK (s + 1, H2.length + 1) _ _ (by simp only; omega) (by simp [upF, Fr.get, Up.refl]) ⟨by simp only; omega, ?_⟩)
      simp only [hsn, tri_append, tri_one, Bk.cells]
      exact hbl5
    · have : s = bs.length := by omega
      subst this
      rw [List.take_length] at hbl
      have hlm : (bs.map (renB xs)).length = bs.length := List.length_map _
      have hown : BlocksIn H0.length H'.length H' (lv 3 id 0 bs.length) (bs.map (renB xs)) := by
        rw [<- hlm]
        exact OwnBlocks.inn (OwnBlocks.of_ol (by rw [hlm]; exact hbl.2.1) (by omega)) hbl.2.2
      simp (maxSteps := 1000000) [go_sem, d0, d1, d2]
      refine l01Made_ok hown.read (by omega) _ ?_
      intro H2 z hp2 hz
      obtain ⟨q1, q2, q3, q4⟩ := put2 (cs := [.int .i64 p, z]) hp0 (show H.length <= H.length + 1 by omega) hb0 rfl (hbl.1.trans hp2) rfl (by simp [one_int, hz.one])
      have hll := hbl.1.length_le
      have fin := h _ z q3 (by rw [List.length_set]; exact (hz.keep q4 (fun j hj e => by have := hj.1; omega)).wider (by omega))
      simp (maxSteps := 1000000) [go_sem, sysV, q1, q2]
      exact fin

theorem specRenumber_ok {H : Heap} {u w : Value} {p : Int} {bs : List Bk} {xs : List Int} (hu : BlocksAt H u bs) (hl : bs.length <= 1048576) (hw : IntsAt H w xs) (hl' : xs.length <= 1048576) (h64 : ∀ x ∈ xs, In64 x) (Post : Value -> Heap -> Prop)
    (h : ∀ H' z, H <+: H' -> BlocksIn H.length H'.length H' z (rRen p bs xs).1.2 -> Post (.tuple #[sysV (rRen p bs xs).1.1 z, .int .i64 (rRen p bs xs).2]) H') :
    ACalls Tryz.prog 24 [sysV p u, w] H Post := by
  have ou := hu.one
  refine ACalls.res ?_
  refine acalls_vc (rs := [.cell 4 26, .tmp 5]) Tryz.func24 rfl rfl Tryz.ntmps24 rfl rfl ?_
  simp (maxSteps := 1000000) [go_sem, sysV, ou]
  have hp0 : H <+: H ++ [⟨[.int .i64 p, u], true, true⟩, ⟨[.int .i64 0, .slice none 0 0], true, true⟩] := List.prefix_append _ _
  have hx0 : Holds (H ++ [⟨[.int .i64 p, u], true, true⟩, ⟨[.int .i64 0, .slice none 0 0], true, true⟩]) H.length [.int .i64 p, u] := ⟨true, by simp⟩
  have hb0 : (H ++ [(⟨[.int .i64 p, u], true, true⟩ : Blk), ⟨[.int .i64 0, .slice none 0 0], true, true⟩])[H.length + 1]? = some ⟨[.int .i64 0, .slice none 0 0], true, true⟩ := by simp
  have hlen0 : (H ++ [(⟨[.int .i64 p, u], true, true⟩ : Blk), ⟨[.int .i64 0, .slice none 0 0], true, true⟩]).length = H.length + 2 := by simp
  generalize H ++ [(⟨[.int .i64 p, u], true, true⟩ : Blk), ⟨[.int .i64 0, .slice none 0 0], true, true⟩] = H0 at hp0 hx0 hb0 hlen0 ⊢
  have bad := bad_sys hp0 (show H.length <= H.length + 1 by omega) hb0 h
  refine l01Is' (hu.pre hp0) hl _ ?_
  intro H1 hp1
  obtain ⟨d0, d1, d2⟩ := (hx0.pre hp1).sys
  cases hs : sysB p bs with
  | false =>
    obtain ⟨H9, q1, q2, fin⟩ := bad H1 1 hp1 (by rw [rRen, hs]; simp)
    simp (maxSteps := 1000000) [go_sem, q1, q2]
    exact fin
  | true =>
    have hS := sysB_iff.1 hs
    have hpx := hS.1
    obtain ⟨n, rfl⟩ : ∃ n : Nat, p = n := ⟨p.toNat, by omega⟩
    simp (maxSteps := 1000000) [go_sem, d0, d1, d2]
    refine l01Order_ok (hw.pre (hp0.trans hp1)) (by omega) _ ?_
    intro H2 b hp2 hb
    obtain ⟨d0, d1, d2⟩ := (hx0.pre (hp1.trans hp2)).sys
    cases b with
    | false =>
      have hO : ¬ OrdL n xs := fun e => by have := hb.2 e; cases this
      obtain ⟨H9, q1, q2, fin⟩ := bad H2 2 (hp1.trans hp2) (by rw [rRen, hs, if_pos rfl, if_neg hO])
      simp (maxSteps := 1000000) [go_sem, q1, q2]
      exact fin
    | true =>
      have hO := hb.1 rfl
      have hr : rRen n bs xs = (((n : Int), sortB (bs.map (renB xs))), 0) := by rw [rRen, hs, if_pos rfl, if_pos hO]
      simp (maxSteps := 1000000) [go_sem, d0, d1, d2]
      refine l01Renamed_ok (hu.pre (hp0.trans (hp1.trans hp2))) (hw.pre (hp0.trans (hp1.trans hp2))) hS hO _ ?_
      intro H3 z hp3 hz
      obtain ⟨q1, q2, q3, q4⟩ := put2 (cs := [.int .i64 n, z]) hp0 (show H.length <= H.length + 1 by omega) hb0 rfl (hp1.trans (hp2.trans hp3)) rfl (by simp [one_int, hz.one])
      have hll := hp1.length_le
      have hll2 := hp2.length_le
      have fin := h _ z q3 (by rw [hr, List.length_set]; exact (hz.keep q4 (fun j hj e => by have := hj.1; omega)).wider (by omega))
      rw [hr] at fin
      simp (maxSteps := 1000000) [go_sem, sysV, q1, q2]
      exact ⟨_, Up.refl _ _, fin⟩

end Go.Proofs.YtfnegaedkomcgaaGreat
end

section
namespace Go.Ab
open Go.RowKit (Below)
def offS (L : Nat -> Prop) (o : Op) (fr : Fr) : Prop := ∀ i, rdBlk o fr = some i -> L i
theorem offS_congr {L : Nat -> Prop} {o : Op} {fr fr' : Fr} (h : ∀ x, ev fr' x = ev fr x) (hoff : offS L o fr) : offS L o fr' := fun i hi => hoff i (by rw [<- hi]; exact rdBlk_congr fun x => (h x).symm)
theorem offS_agree {L : Nat -> Prop} {o : Op} {fr fr' : Fr} (h : agree o fr fr') (hoff : offS L o fr) : offS L o fr' := fun i hi => hoff i (by rw [<- hi]; exact (rdBlk_agree h).symm)
def KeepS (L : Nat -> Prop) (H h : Heap) : Prop := ∀ i, L i -> h[i]? = H[i]?

def eKS (L : Nat -> Prop) (fl : Bool) (H : Heap) (k : Fr -> Heap -> Prop) (f : Fr) (h : Heap) : Prop :=
  match fl with
  | true => andK (KeepS L H h) (k f h)
  | false => k f h

def vES (P : Program) (N : Nat) (ops : Array Oper) (L : Nat -> Prop) (K : Fr -> Heap -> Prop) : List (Nat × Bool) -> Fr -> Heap -> Prop
  | [], fr, H => K fr H
  | (i, fl) :: l, fr, H => match ops[i]? with
    | none => False
    | some o => match isR o.op with
      | true => offS L o.op fr /\ vstep P N ops o (vES P N ops L K l) fr H
      | false => vstep P N ops o (eKS L fl H (vES P N ops L K l)) fr H

section
variable {P : Program} {N : Nat} {ops : Array Oper} {L : Nat -> Prop} {K : Fr -> Heap -> Prop}

theorem vES_closed (hK : Closed K) : ∀ l, Closed (vES P N ops L K l)
  | [] => hK
  | (i, fl) :: l => by
    intro f g H hfg h
    have ih := vES_closed hK l
    simp only [vES] at h ⊢
    split at h
    · exact h.elim
    · rename_i o ho
      cases hR : isR o.op with
      | true =>
        simp only [hR] at h ⊢
        obtain ⟨hoff, h⟩ := h
        obtain ⟨v, h1, h2⟩ := vstep_RX hR ih h
        exact ⟨offS_congr (fun x => feq.ev hfg x) hoff, h2 g H _ ih (agreeG.of_feq hfg) (fun _ _ _ h => h) (ih _ _ _ (hfg.put _ _) h1)⟩
      | false =>
        simp only [hR] at h ⊢
        have hc : Closed (eKS L fl H (vES P N ops L K l)) := by
          intro f g h' hfg hk
          cases fl with
          | true => exact ⟨hk.1, ih _ _ _ hfg hk.2⟩
          | false => exact ih _ _ _ hfg hk
        refine vstep_weak (vstep_E hc h (agreeG.of_feq hfg)) ?_
        rintro f' h' ⟨v, h1, h2⟩
        exact hc _ _ _ ((hfg.put _ _).trans h1) h2

def relS (L : Nat -> Prop) (o : Oper) (fl : Bool) (H h : Heap) : Prop := (isR o.op = true \/ fl = true) -> KeepS L H h

theorem vES_head (hK : Closed K) {i : Nat} {fl : Bool} {l : List (Nat × Bool)} {fr : Fr} {H : Heap} {o : Oper} (ho : ops[i]? = some o) (h : vES P N ops L K ((i, fl) :: l) fr H) :
    vstep P N ops o (fun f h => relS L o fl H h /\ vES P N ops L K l f h) fr H := by
  simp only [vES, ho] at h
  cases hR : isR o.op with
  | true =>
    simp only [hR] at h
    obtain ⟨_, h⟩ := h
    obtain ⟨v, h1, h2⟩ := vstep_RX hR (vES_closed hK l) h
    refine h2 fr H _ ?_ (fun _ _ => rfl) (fun _ _ _ h => h) ⟨fun _ _ _ => rfl, h1⟩
    intro f g h hfg hk
    exact ⟨hk.1, vES_closed hK l _ _ _ hfg hk.2⟩
  | false =>
    simp only [hR] at h
    refine vstep_weak h ?_
    intro f h' hk
    cases fl with
    | true => exact ⟨fun _ => hk.1, hk.2⟩
    | false => exact ⟨fun e => by simp [hR] at e, hk⟩

theorem vES_front (hK : Closed K) {i : Nat} {fl : Bool} {l2 : List (Nat × Bool)} {o : Oper} (ho : ops[i]? = some o) : ∀ (l1 : List (Nat × Bool)) (fr : Fr) (H : Heap),
    (∀ x ∈ l1, ∃ p, ops[x.1]? = some p /\ isR p.op = true /\ indep ops p o = true /\ (readsH p.op = true -> isR o.op = true \/ fl = true)) ->
    vES P N ops L K (l1 ++ (i, fl) :: l2) fr H -> vstep P N ops o (fun f h => relS L o fl H h /\ vES P N ops L K (l1 ++ l2) f h) fr H
  | [], fr, H, _, h => vES_head hK ho h
  | (j, fj) :: l1, fr, H, hl, h => by
    obtain ⟨p, hp, hR, hin, hrd⟩ := hl (j, fj) (by simp)
    simp only [List.cons_append, vES, hp, hR] at h ⊢
    have hc1 := vES_closed (P := P) (N := N) (ops := ops) (L := L) hK (l1 ++ (i, fl) :: l2)
    have hc2 := vES_closed (P := P) (N := N) (ops := ops) (L := L) hK (l1 ++ l2)
    obtain ⟨hoff, h⟩ := h
    obtain ⟨v, h1, h2⟩ := vstep_RX hR hc1 h
    have ih := vES_front hK ho l1 (fr.put p.dst v) H (fun x hx => hl x (by simp [hx])) h1
    obtain ⟨i1, i2, i3⟩ := indep_spec hin
    have hcK : Closed (fun f h => relS L o fl H h /\ vES P N ops L K (l1 ++ l2) f h) := fun f g h hfg hk => ⟨hk.1, hc2 _ _ _ hfg hk.2⟩
    have hag : agreeG ops o (fr.put p.dst v) fr := agreeG.symm (agreeG.put i1)
    refine vstep_weak (vstep_E hcK ih hag) ?_
    rintro f h' ⟨u, hf, hrel, hv⟩
    refine ⟨hrel, ?_⟩
    have hvE : offS L p.op (fr.put o.dst u) /\ vstep P N ops p (vES P N ops L K (l1 ++ l2)) (fr.put o.dst u) h' := by
      refine ⟨offS_agree (agreeG.put i2).agree hoff, ?_⟩
      refine h2 (fr.put o.dst u) h' _ hc2 (agreeG.put i2) (fun i hi b hb => ?_) ?_
      · rw [hrel (hrd (by cases hr : readsH p.op with | true => rfl | false => rw [rdBlk_none hr] at hi; cases hi)) i (hoff i hi), hb]
      exact hc2 _ _ _ (put_comm fr i3 v u) hv
    have hfin := vES_closed (P := P) (N := N) (ops := ops) (L := L) hK ((j, fj) :: (l1 ++ l2)) (fr.put o.dst u) f h' hf (by simp only [vES, hp, hR]; exact hvE)
    simpa only [vES, hp, hR] using hfin

theorem draw_anyS {B : Nat} {w0 : World} {Q : Exit -> Act -> World -> Prop} (hK : Closed K) (hedge : edgesOK ops = true) : ∀ (n : Nat) (listed : Array Bool) (l : List (Nat × Bool)) (fr : Fr) (H : Heap) (ρ : Rho) (w : World) (a : Act),
    listed.size = ops.size -> l.length = n -> pairsOK ops (masksGo ops.toList []) l = true -> (∀ x ∈ l, x.1 < ops.size /\ listed.getD x.1 true = false) -> (∀ i, i < ops.size -> listed.getD i true = false -> ∃ x ∈ l, x.1 = i) ->
    (∀ (j : Nat) (o : Oper), ops[j]? = some o -> listed.getD j false = true -> ∀ e ∈ o.after.toList, Region.binds .any e = true -> listed.getD e.on false = true) ->
    vES P N ops L K l fr H -> R B w0 ρ H w -> FR N ρ fr a ->
    (∀ (ρ' : Rho) (fr' : Fr) (H' : Heap) (a' : Act) (w' : World), ρ <+: ρ' -> K fr' H' -> R B w0 ρ' H' w' -> FR N ρ' fr' a' -> Q .normal a' w') -> wpAny P .any ops Q n listed a w := by
  intro n
  have getD2 : ∀ (listed : Array Bool) (i : Nat), listed.size = ops.size -> i < ops.size -> listed.getD i true = listed.getD i false := by
    intro listed i h1 h2
    simp [Array.getD_eq_getD_getElem?, h1, h2]
  induction n with
  | zero =>
    intro listed l fr H ρ w a hsz hl hp hin hall hcl hv hR hF hq
    have : l = [] := List.eq_nil_of_length_eq_zero hl
    subst this
    refine ⟨?_, hq ρ fr H a w (List.prefix_refl _) hv hR hF⟩
    rw [List.eq_nil_iff_forall_not_mem]
    intro i hi
    simp only [Region.ready, List.mem_filter, List.mem_range, Bool.and_eq_true, Bool.not_eq_true'] at hi
    obtain ⟨x, hx, _⟩ := hall i hi.1 hi.2.1
    simp at hx
  | succ n ih =>
    intro listed l fr H ρ w a hsz hl hp hin hall hcl hv hR hF hq
    refine ⟨?_, ?_⟩
    · intro hnil
      exfalso
      match l, hl with
      | (i, fl) :: l, hl =>
        obtain ⟨h1, h2⟩ := hin (i, fl) (by simp)
        have hi : i ∈ Region.ready .any ops listed := by
          simp only [Region.ready, List.mem_filter, List.mem_range, Bool.and_eq_true, Bool.not_eq_true']
          refine ⟨h1, h2, ?_⟩
          rw [Array.getElem?_eq_getElem h1]
          simp only [Option.map_some, Option.getD_some, Array.all_eq_true']
          intro e he
          rw [Bool.or_eq_true, Bool.not_eq_true']
          by_cases hb : Region.binds .any e = true
          · right
            have hedge' := List.all_eq_true.1 hedge i (by simpa using h1)
            simp only [Array.getElem?_eq_getElem h1, List.all_eq_true] at hedge'
            have he' := hedge' e (by simpa using he)
            simp only [hb, Bool.not_true, Bool.false_or, Bool.and_eq_true, decide_eq_true_eq, bne_iff_ne, ne_eq] at he'
            rw [<- getD2 listed e.on hsz he'.1]
            cases hg : listed.getD e.on true with
            | true => rfl
            | false =>
              obtain ⟨x, hx, hxe⟩ := hall e.on he'.1 hg
              rcases List.mem_cons.1 hx with rfl | hx
              · exact absurd hxe.symm he'.2
              · have hpo := (pairsOK_spec (l1 := []) hp).2.1 x hx
                have hx1 := (hin x (by simp [hx])).1
                simp only [pairOK, Array.getElem?_eq_getElem h1, Array.getElem?_eq_getElem hx1, Bool.and_eq_true, Bool.not_eq_true'] at hpo
                have hd := hpo.1.1
                simp only [directTo, List.any_eq_false, Bool.and_eq_true, beq_iff_eq, not_and] at hd
                exact absurd hxe.symm (hd e (by simpa using he) hb)
          · left; simpa using hb
        rw [hnil] at hi
        simp at hi
    · intro i hi
      simp only [Region.ready, List.mem_filter, List.mem_range, Bool.and_eq_true, Bool.not_eq_true'] at hi
      obtain ⟨hilt, hnl, hrdy⟩ := hi
      rw [Array.getElem?_eq_getElem hilt] at hrdy
      simp only [Option.map_some, Option.getD_some, Array.all_eq_true'] at hrdy
      have ho : ops[i]? = some ops[i] := Array.getElem?_eq_getElem hilt
      obtain ⟨x, hx, hxi⟩ := hall i hilt hnl
      obtain ⟨l1, l2, rfl⟩ := List.append_of_mem hx
      obtain ⟨i', fl⟩ := x
      simp only at hxi
      subst hxi
      obtain ⟨hp1, hp2, hp3⟩ := pairsOK_spec hp
      have hpre : ∀ e ∈ (ops[i']).after.toList, Region.binds .any e = true -> listed.getD e.on false = true := by
        intro e he hb
        have := hrdy e (by simpa using he)
        simpa [hb] using this
      have hdep : ∀ y ∈ l1, ¬ ((masksGo ops.toList []).getD i' 0).testBit y.1 = true := by
        intro y hy hb
        have := masks_sound (ops := ops) (fun j => listed.getD j false = true) hcl ops.toList [] (fun j _ => by simp) (fun j o p hj => by simp at hj) i' _ y.1 ho hb hpre
        obtain ⟨hy1, hy2⟩ := hin y (by simp [hy])
        rw [getD2 listed y.1 hsz hy1] at hy2
        rw [hy2] at this; cases this
      have hl1 : ∀ y ∈ l1, ∃ p, ops[y.1]? = some p /\ isR p.op = true /\ indep ops p ops[i'] = true /\ (readsH p.op = true -> isR (ops[i']).op = true \/ fl = true) := by
        intro y hy
        have hy1 := (hin y (by simp [hy])).1
        have hpo := hp1 y hy
        have hd := hdep y hy
        refine ⟨ops[y.1], Array.getElem?_eq_getElem hy1, ?_⟩
        simp only [pairOK, Array.getElem?_eq_getElem hy1, ho, Bool.and_eq_true] at hpo
        have hpo2 := hpo.2
        simp only [Bool.not_eq_true] at hd
        cases hRp : isR (ops[y.1]).op with
        | false => simp only [hRp] at hpo2; rw [hd] at hpo2; cases hpo2
        | true =>
          simp only [hRp, hd, Bool.false_or, Bool.or_false, Bool.and_eq_true, Bool.or_eq_true, Bool.not_eq_true'] at hpo2
          refine ⟨rfl, hpo2.1, fun hr => ?_⟩
          rcases hpo2.2 with (h | h) | h
          · exact .inl h
          · exact .inr h
          · rw [hr] at h; cases h
      have hstep := vES_front hK ho l1 fr H hl1 hv
      unfold wpOp
      rw [ho]
      have hnd : ∀ y ∈ l1 ++ l2, y.1 ≠ i' := by
        intro y hy e
        rcases List.mem_append.1 hy with hy | hy
        · have hpo := hp1 y hy
          have hy1 := (hin y (by simp [hy])).1
          simp [pairOK, Array.getElem?_eq_getElem hy1, ho, e] at hpo
        · have hpo := hp2 y hy
          have hy1 := (hin y (by simp [hy])).1
          simp [pairOK, Array.getElem?_eq_getElem hy1, ho, e] at hpo
      refine vstep_sound hstep hR hF Q ?_
      rintro ρ' fr' H' a' w' hpre' ⟨_, hv'⟩ hR' hF'
      refine ih (listed.setIfInBounds i' true) (l1 ++ l2) fr' H' ρ' w' a' (by simpa using hsz) (by simp at hl ⊢; omega) hp3 ?_ ?_ ?_ hv' hR' hF' (fun ρ'' f'' H'' a'' w'' h1 => hq ρ'' f'' H'' a'' w'' (hpre'.trans h1))
      · intro y hy
        have hne := hnd y hy
        obtain ⟨h1, h2⟩ := hin y (by rcases List.mem_append.1 hy with hy | hy <;> simp [hy])
        exact ⟨h1, by rw [getD_set_ne _ (fun e => hne e.symm)]; exact h2⟩
      · intro j hj hnj
        by_cases e : i' = j
        · subst e
          exfalso
          have : (listed.setIfInBounds i' true).getD i' true = true := by simp [Array.getD_eq_getD_getElem?]
          rw [this] at hnj; cases hnj
        · rw [getD_set_ne _ e] at hnj
          obtain ⟨y, hy, rfl⟩ := hall j hj hnj
          refine ⟨y, ?_, rfl⟩
          rcases List.mem_append.1 hy with hy | hy
          · simp [hy]
          · rcases List.mem_cons.1 hy with rfl | hy
            · exact absurd rfl e
            · simp [hy]
      · intro j o hj hlj e he hb
        by_cases e' : i' = j
        · subst e'
          rw [ho] at hj; cases hj
          exact getD_set_true (hpre e he hb)
        · rw [getD_set_ne _ e'] at hlj
          exact getD_set_true (hcl j o hj hlj e he hb)

theorem AWp.drawS (L : Nat -> Prop) {id : Nat} {fr : Fr} {H : Heap} {Q : Exit -> Fr -> Heap -> Prop} (hm : P.follows .mixedOrders = true) (canon : List (Nat × Bool)) (hok : drawOK ops canon = true) (h : vES P N ops L (Q .normal) canon fr H) : AWp P N (.region id ops true) Q fr H := by
  intro B w0 ρ w a hR hF
  simp only [drawOK, Bool.and_eq_true, decide_eq_true_eq, List.all_eq_true, List.mem_range, List.contains_iff_mem, List.mem_map] at hok
  obtain ⟨⟨⟨⟨h1, h2⟩, h3⟩, h4⟩, h5⟩ := hok
  refine wp_region_any hm ?_
  let K : Fr -> Heap -> Prop := fun f h => ∃ g, feq g f /\ Q .normal g h
  have hK : Closed K := fun f g h hfg ⟨k, hk, hq⟩ => ⟨k, hk.trans hfg, hq⟩
  have hv : vES P N ops L K canon fr H := by
    have weak : ∀ (l : List (Nat × Bool)) (fr : Fr) (H : Heap), vES P N ops L (Q .normal) l fr H -> vES P N ops L K l fr H := by
      intro l
      induction l with
      | nil => exact fun fr H h => ⟨fr, feq.rfl' _, h⟩
      | cons x l ih =>
        obtain ⟨i, fl⟩ := x
        intro fr H h
        simp only [vES] at h ⊢
        split at h
        · exact h
        · rename_i o ho
          cases hR : isR o.op with
          | true => simp only [hR] at h ⊢; exact ⟨h.1, vstep_weak h.2 ih⟩
          | false =>
            simp only [hR] at h ⊢
            refine vstep_weak h ?_
            intro f h' hk
            cases fl with
            | true => exact ⟨hk.1, ih _ _ hk.2⟩
            | false => exact ih _ _ hk
    exact weak canon fr H h
  have hgt : ∀ i, i < ops.size -> (Array.replicate ops.size false).getD i true = false := by
    intro i hi
    simp [Array.getD_eq_getD_getElem?, hi]
  refine draw_anyS (B := B) (w0 := w0) hK h2 ops.size (Array.replicate ops.size false) canon fr H ρ w.drew a (by simp) h3 h1 ?_ ?_ ?_ hv hR.drew hF ?_
  · intro x hx
    exact ⟨h4 x hx, hgt x.1 (h4 x hx)⟩
  · intro i hi _
    obtain ⟨x, hx, rfl⟩ := h5 i hi
    exact ⟨x, hx, rfl⟩
  · intro j o hj hl
    rw [Array.getD_eq_getD_getElem?, Array.getElem?_replicate] at hl
    split at hl <;> simp at hl
  · rintro ρ' fr' H' a' w' hp ⟨g, hg, hq⟩ hR' hF'
    exact ⟨ρ', g, H', hp, hR', hF'.feq hg.symm, hq⟩

/-! The words of such an order, for simp. -/

def vESK (P : Program) (N : Nat) (ops : Array Oper) (L : Nat -> Prop) (K : Fr -> Heap -> Prop) (l : List (Nat × Bool)) (fr : Fr) (H : Heap) : Prop := vES P N ops L K l fr H
def eKSK (P : Program) (N : Nat) (ops : Array Oper) (L : Nat -> Prop) (K : Fr -> Heap -> Prop) (l : List (Nat × Bool)) (fl : Bool) (H : Heap) (fr : Fr) (H' : Heap) : Prop :=
  match fl with
  | true => andK (KeepS L H H') (vES P N ops L K l fr H')
  | false => vES P N ops L K l fr H'
def offBS (L : Nat -> Prop) (o : Op) (fr : Fr) : Prop := match rdBlk o fr with
  | some i => L i
  | none => True
theorem offBS_iff {L : Nat -> Prop} {o : Op} {fr : Fr} : offBS L o fr = offS L o fr := by
  unfold offBS offS
  cases rdBlk o fr with
  | none => simp
  | some i => simp
def vESo (P : Program) (N : Nat) (ops : Array Oper) (L : Nat -> Prop) (K : Fr -> Heap -> Prop) (l : List (Nat × Bool)) (fl : Bool) (fr : Fr) (H : Heap) (o : Oper) : Prop :=
  match isR o.op with
  | true => andK (offBS L o.op fr) (vstep P N ops o (vESK P N ops L K l) fr H)
  | false => vstep P N ops o (eKSK P N ops L K l fl H) fr H

theorem vES_nil (K : Fr -> Heap -> Prop) (fr : Fr) (H : Heap) : vES P N ops L K [] fr H = K fr H := rfl
theorem vES_cons (K : Fr -> Heap -> Prop) (i : Nat) (fl : Bool) (l : List (Nat × Bool)) (fr : Fr) (H : Heap) : vES P N ops L K ((i, fl) :: l) fr H = bindO ops[i]? (vESo P N ops L K l fl fr H) := by
  have e : eKS L fl H (vES P N ops L K l) = eKSK P N ops L K l fl H := by
    funext f h
    cases fl <;> rfl
  simp only [vES]
  cases ops[i]? with
  | none => simp [bindO]
  | some o =>
    simp only [bindO_some, vESo]
    cases isR o.op with
    | true => rw [offBS_iff]; rfl
    | false => simp only [e]

attribute [go_sem] vESK eKSK vESo vES_nil vES_cons offBS

end
end Go.Ab
end

section
namespace Go.Ab
open Go.RowKit (Below)

section
variable {P : Program} {N : Nat} {ops : Array Oper} {L : Nat -> Prop} {K : Fr -> Heap -> Prop} {fs : List Nat}

def vFS (P : Program) (N : Nat) (ops : Array Oper) (L : Nat -> Prop) (fs : List Nat) (K : Fr -> Heap -> Prop) : Nat -> List (Nat × Bool) -> Fr -> Heap -> Prop
  | _, [], fr, H => K fr H
  | 0, _ :: _, _, _ => False
  | n + 1, (i, fl) :: l, fr, H => match ops[i]? with
    | none => False
    | some o => match isR o.op with
      | true => offS L o.op fr /\ vstep P N ops o (vFS P N ops L fs K n l) fr H
      | false => vstep P N ops o (eKS L fl H (vFS P N ops L fs K n l)) fr H /\
          ∀ f, f ∈ fs -> f ∈ l.map (·.1) -> ∃ o', ops[f]? = some o' /\ isR o'.op = false /\ vstep P N ops o' (eKS L true H (vFS P N ops L fs K n ((i, fl) :: l.filter fun y => y.1 != f))) fr H

theorem eKS_closed {fl : Bool} {H : Heap} {T : Fr -> Heap -> Prop} (hT : Closed T) : Closed (eKS L fl H T) := by
  intro f g h' hfg hk
  cases fl with
  | true => exact ⟨hk.1, hT _ _ _ hfg hk.2⟩
  | false => exact hT _ _ _ hfg hk
theorem vFS_closed (hK : Closed K) : ∀ n l, Closed (vFS P N ops L fs K n l)
  | 0, [] => hK
  | n + 1, [] => hK
  | 0, _ :: _ => fun _ _ _ _ h => h
  | n + 1, (i, fl) :: l => by
    intro f g H hfg h
    simp only [vFS] at h ⊢
    split at h
    · exact h.elim
    · rename_i o ho
      cases hR : isR o.op with
      | true => simp only [hR] at h ⊢; exact ⟨offS_congr (fun x => feq.ev hfg x) h.1, vstep_closed (vFS_closed hK n l) hfg h.2⟩
      | false =>
        simp only [hR] at h ⊢
        refine ⟨vstep_closed (eKS_closed (vFS_closed hK n l)) hfg h.1, fun f hf hm => ?_⟩
        obtain ⟨o', h1, h2, h3⟩ := h.2 f hf hm
        exact ⟨o', h1, h2, vstep_closed (eKS_closed (vFS_closed hK n _)) hfg h3⟩

def seqRS (P : Program) (N : Nat) (ops : Array Oper) (L : Nat -> Prop) (T : Fr -> Heap -> Prop) : List (Nat × Bool) -> Fr -> Heap -> Prop
  | [], fr, H => T fr H
  | (j, _) :: l, fr, H => match ops[j]? with
    | none => False
    | some p => offS L p.op fr /\ vstep P N ops p (seqRS P N ops L T l) fr H
theorem seqRS_closed {T : Fr -> Heap -> Prop} (hT : Closed T) : ∀ l, Closed (seqRS P N ops L T l)
  | [] => hT
  | (j, fj) :: l => by
    intro f g H hfg h
    simp only [seqRS] at h ⊢
    split at h
    · exact h.elim
    · exact ⟨offS_congr (fun x => feq.ev hfg x) h.1, vstep_closed (seqRS_closed hT l) hfg h.2⟩
theorem vFS_seqRS {n : Nat} {rest : List (Nat × Bool)} : ∀ (l1 : List (Nat × Bool)) (fr : Fr) (H : Heap), (∀ x ∈ l1, ∃ p, ops[x.1]? = some p /\ isR p.op = true) ->
    (vFS P N ops L fs K (l1.length + n) (l1 ++ rest) fr H ↔ seqRS P N ops L (vFS P N ops L fs K n rest) l1 fr H)
  | [], fr, H, _ => by simp [seqRS]
  | (j, fj) :: l1, fr, H, hl => by
    obtain ⟨p, hp, hR⟩ := hl (j, fj) (by simp)
    have ih := fun fr H => vFS_seqRS (n := n) (rest := rest) l1 fr H fun x hx => hl x (by simp [hx])
    rw [show ((j, fj) :: l1).length + n = (l1.length + n) + 1 by simp; omega]
    simp only [List.cons_append, vFS, seqRS, hp, hR]
    exact ⟨fun h => ⟨h.1, vstep_weak h.2 fun f h => (ih f h).1⟩, fun h => ⟨h.1, vstep_weak h.2 fun f h => (ih f h).2⟩⟩

theorem frontS_gen {o : Oper} {fl : Bool} {T T' : Fr -> Heap -> Prop} (hT : Closed T) (hT' : Closed T') (hstep : ∀ fr H, T fr H -> vstep P N ops o (fun f h => relS L o fl H h /\ T' f h) fr H) : ∀ (l1 : List (Nat × Bool)) (fr : Fr) (H : Heap),
    (∀ x ∈ l1, ∃ p, ops[x.1]? = some p /\ isR p.op = true /\ indep ops p o = true /\ (readsH p.op = true -> isR o.op = true \/ fl = true)) ->
    seqRS P N ops L T l1 fr H -> vstep P N ops o (fun f h => relS L o fl H h /\ seqRS P N ops L T' l1 f h) fr H
  | [], fr, H, _, h => hstep fr H h
  | (j, fj) :: l1, fr, H, hl, h => by
    obtain ⟨p, hp, hR, hin, hrd⟩ := hl (j, fj) (by simp)
    simp only [seqRS, hp] at h ⊢
    have hc1 := seqRS_closed (P := P) (N := N) (ops := ops) (L := L) hT l1
    have hc2 := seqRS_closed (P := P) (N := N) (ops := ops) (L := L) hT' l1
    obtain ⟨hoff, h⟩ := h
    obtain ⟨v, h1, h2⟩ := vstep_RX hR hc1 h
    have ih := frontS_gen hT hT' hstep l1 (fr.put p.dst v) H (fun x hx => hl x (by simp [hx])) h1
    obtain ⟨i1, i2, i3⟩ := indep_spec hin
    have hcK : Closed (fun f h => relS L o fl H h /\ seqRS P N ops L T' l1 f h) := fun f g h hfg hk => ⟨hk.1, hc2 _ _ _ hfg hk.2⟩
    have hag : agreeG ops o (fr.put p.dst v) fr := agreeG.symm (agreeG.put i1)
    refine vstep_weak (vstep_E hcK ih hag) ?_
    rintro f h' ⟨u, hf, hrel, hv⟩
    have hvE : vstep P N ops p (seqRS P N ops L T' l1) (fr.put o.dst u) h' := by
      refine h2 (fr.put o.dst u) h' _ hc2 (agreeG.put i2) (fun i hi b hb => ?_) ?_
      · rw [hrel (hrd (by cases hr : readsH p.op with | true => rfl | false => rw [rdBlk_none hr] at hi; cases hi)) i (hoff i hi), hb]
      exact hc2 _ _ _ (put_comm fr i3 v u) hv
    exact ⟨hrel, offS_congr (fun x => feq.ev hf x) (offS_agree (agreeG.put i2).agree hoff), vstep_closed hc2 hf hvE⟩

theorem eKS_rel {o : Oper} {fl : Bool} {T : Fr -> Heap -> Prop} {fr : Fr} {H : Heap} (hR : isR o.op = false) (h : vstep P N ops o (eKS L fl H T) fr H) : vstep P N ops o (fun f h => relS L o fl H h /\ T f h) fr H := by
  refine vstep_weak h ?_
  intro f h' hk
  cases fl with
  | true => exact ⟨fun _ => hk.1, hk.2⟩
  | false => exact ⟨fun e => by simp [hR] at e, hk⟩

theorem vFS_front (hK : Closed K) {n i : Nat} {fl : Bool} {l1 l2 : List (Nat × Bool)} {o : Oper} (ho : ops[i]? = some o) {fr : Fr} {H : Heap}
    (hl1 : ∀ x ∈ l1, ∃ p, ops[x.1]? = some p /\ isR p.op = true /\ indep ops p o = true /\ (readsH p.op = true -> isR o.op = true \/ fl = true))
    (h : vFS P N ops L fs K (l1.length + (n + 1)) (l1 ++ (i, fl) :: l2) fr H) : vstep P N ops o (fun f h => relS L o fl H h /\ vFS P N ops L fs K (l1.length + n) (l1 ++ l2) f h) fr H := by
  have hl1' : ∀ x ∈ l1, ∃ p, ops[x.1]? = some p /\ isR p.op = true := fun x hx => by obtain ⟨p, h1, h2, _⟩ := hl1 x hx; exact ⟨p, h1, h2⟩
  rw [vFS_seqRS l1 fr H hl1'] at h
  have hstep : ∀ fr H, vFS P N ops L fs K (n + 1) ((i, fl) :: l2) fr H -> vstep P N ops o (fun f h => relS L o fl H h /\ vFS P N ops L fs K n l2 f h) fr H := by
    intro fr H h
    simp only [vFS, ho] at h
    cases hR : isR o.op with
    | true =>
      simp only [hR] at h
      obtain ⟨_, h⟩ := h
      obtain ⟨v, h1, h2⟩ := vstep_RX hR (vFS_closed hK n l2) h
      refine h2 fr H _ ?_ (fun _ _ => rfl) (fun _ _ _ h => h) ⟨fun _ _ _ => rfl, h1⟩
      intro f g h hfg hk
      exact ⟨hk.1, vFS_closed hK n l2 _ _ _ hfg hk.2⟩
    | false => simp only [hR] at h; exact eKS_rel hR h.1
  refine vstep_weak (frontS_gen (vFS_closed hK _ _) (vFS_closed hK n l2) hstep l1 fr H hl1 h) ?_
  rintro f h' ⟨h1, h2⟩
  exact ⟨h1, (vFS_seqRS l1 f h' hl1').2 h2⟩
theorem vFS_float (hK : Closed K) {n i f : Nat} {fl : Bool} {r1 l2 : List (Nat × Bool)} {o o' : Oper} (ho : ops[i]? = some o) (hE : isR o.op = false) (hf : ops[f]? = some o') (hff : f ∈ fs) (hfl : f ∈ l2.map (·.1)) {fr : Fr} {H : Heap}
    (hl1 : ∀ x ∈ r1, ∃ p, ops[x.1]? = some p /\ isR p.op = true /\ indep ops p o' = true)
    (h : vFS P N ops L fs K (r1.length + (n + 1)) (r1 ++ (i, fl) :: l2) fr H) : vstep P N ops o' (fun f' h => relS L o' true H h /\ vFS P N ops L fs K (r1.length + n) (r1 ++ (i, fl) :: l2.filter fun y => y.1 != f) f' h) fr H := by
  have hl1' : ∀ x ∈ r1, ∃ p, ops[x.1]? = some p /\ isR p.op = true := fun x hx => by obtain ⟨p, h1, h2, _⟩ := hl1 x hx; exact ⟨p, h1, h2⟩
  rw [vFS_seqRS r1 fr H hl1'] at h
  have hstep : ∀ fr H, vFS P N ops L fs K (n + 1) ((i, fl) :: l2) fr H -> vstep P N ops o' (fun f' h => relS L o' true H h /\ vFS P N ops L fs K n ((i, fl) :: l2.filter fun y => y.1 != f) f' h) fr H := by
    intro fr H h
    simp only [vFS, ho, hE] at h
    obtain ⟨o2, h1, h2, h3⟩ := h.2 f hff hfl
    rw [hf] at h1; cases h1
    exact eKS_rel h2 h3
  refine vstep_weak (frontS_gen (vFS_closed hK _ _) (vFS_closed hK n _) hstep r1 fr H (fun x hx => by obtain ⟨p, h1, h2, h3⟩ := hl1 x hx; exact ⟨p, h1, h2, h3, fun _ => .inr rfl⟩) h) ?_
  rintro f h' ⟨h1, h2⟩
  exact ⟨h1, (vFS_seqRS r1 f h' hl1').2 h2⟩

theorem drawFS_any {B : Nat} {w0 : World} {Q : Exit -> Act -> World -> Prop} (hK : Closed K) (hedge : edgesOK ops = true) : ∀ (n : Nat) (listed : Array Bool) (l : List (Nat × Bool)) (fr : Fr) (H : Heap) (ρ : Rho) (w : World) (a : Act),
    listed.size = ops.size -> l.length = n -> pairsOKF ops fs (masksGo ops.toList []) l = true -> (∀ x ∈ l, x.1 < ops.size /\ listed.getD x.1 true = false) -> (∀ i, i < ops.size -> listed.getD i true = false -> ∃ x ∈ l, x.1 = i) ->
    (∀ (j : Nat) (o : Oper), ops[j]? = some o -> listed.getD j false = true -> ∀ e ∈ o.after.toList, Region.binds .any e = true -> listed.getD e.on false = true) ->
    vFS P N ops L fs K n l fr H -> R B w0 ρ H w -> FR N ρ fr a ->
    (∀ (ρ' : Rho) (fr' : Fr) (H' : Heap) (a' : Act) (w' : World), ρ <+: ρ' -> K fr' H' -> R B w0 ρ' H' w' -> FR N ρ' fr' a' -> Q .normal a' w') -> wpAny P .any ops Q n listed a w := by
  intro n
  have getD2 : ∀ (listed : Array Bool) (i : Nat), listed.size = ops.size -> i < ops.size -> listed.getD i true = listed.getD i false := by
    intro listed i h1 h2
    simp [Array.getD_eq_getD_getElem?, h1, h2]
  induction n with
  | zero =>
    intro listed l fr H ρ w a hsz hl hp hin hall hcl hv hR hF hq
    have : l = [] := List.eq_nil_of_length_eq_zero hl
    subst this
    refine ⟨?_, hq ρ fr H a w (List.prefix_refl _) hv hR hF⟩
    rw [List.eq_nil_iff_forall_not_mem]
    intro i hi
    simp only [Region.ready, List.mem_filter, List.mem_range, Bool.and_eq_true, Bool.not_eq_true'] at hi
    obtain ⟨x, hx, _⟩ := hall i hi.1 hi.2.1
    simp at hx
  | succ n ih =>
    intro listed l fr H ρ w a hsz hl hp hin hall hcl hv hR hF hq
    refine ⟨?_, ?_⟩
    · intro hnil
      exfalso
      match l, hl with
      | (i, fl) :: l, hl =>
        obtain ⟨h1, h2⟩ := hin (i, fl) (by simp)
        have hi : i ∈ Region.ready .any ops listed := by
          simp only [Region.ready, List.mem_filter, List.mem_range, Bool.and_eq_true, Bool.not_eq_true']
          refine ⟨h1, h2, ?_⟩
          rw [Array.getElem?_eq_getElem h1]
          simp only [Option.map_some, Option.getD_some, Array.all_eq_true']
          intro e he
          rw [Bool.or_eq_true, Bool.not_eq_true']
          by_cases hb : Region.binds .any e = true
          · right
            have hedge' := List.all_eq_true.1 hedge i (by simpa using h1)
            simp only [Array.getElem?_eq_getElem h1, List.all_eq_true] at hedge'
            have he' := hedge' e (by simpa using he)
            simp only [hb, Bool.not_true, Bool.false_or, Bool.and_eq_true, decide_eq_true_eq, bne_iff_ne, ne_eq] at he'
            rw [<- getD2 listed e.on hsz he'.1]
            cases hg : listed.getD e.on true with
            | true => rfl
            | false =>
              obtain ⟨x, hx, hxe⟩ := hall e.on he'.1 hg
              rcases List.mem_cons.1 hx with rfl | hx
              · exact absurd hxe.symm he'.2
              · have hpo := (pairsOKF_spec (l1 := []) hp).2.1 x hx
                have hx1 := (hin x (by simp [hx])).1
                simp only [pairOKF, Array.getElem?_eq_getElem h1, Array.getElem?_eq_getElem hx1, Bool.and_eq_true, Bool.not_eq_true'] at hpo
                have hd := hpo.1.1
                simp only [directTo, List.any_eq_false, Bool.and_eq_true, beq_iff_eq, not_and] at hd
                exact absurd hxe.symm (hd e (by simpa using he) hb)
          · left; simpa using hb
        rw [hnil] at hi
        simp at hi
    · intro i hi
      simp only [Region.ready, List.mem_filter, List.mem_range, Bool.and_eq_true, Bool.not_eq_true'] at hi
      obtain ⟨hilt, hnl, hrdy⟩ := hi
      rw [Array.getElem?_eq_getElem hilt] at hrdy
      simp only [Option.map_some, Option.getD_some, Array.all_eq_true'] at hrdy
      have ho : ops[i]? = some ops[i] := Array.getElem?_eq_getElem hilt
      obtain ⟨x, hx, hxi⟩ := hall i hilt hnl
      obtain ⟨l1, l2, rfl⟩ := List.append_of_mem hx
      obtain ⟨i', fl⟩ := x
      simp only at hxi
      subst hxi
      obtain ⟨hp1, hp2, hp3⟩ := pairsOKF_spec hp
      have hpre : ∀ e ∈ (ops[i']).after.toList, Region.binds .any e = true -> listed.getD e.on false = true := by
        intro e he hb
        have := hrdy e (by simpa using he)
        simpa [hb] using this
      have hdep : ∀ y ∈ l1, ¬ ((masksGo ops.toList []).getD i' 0).testBit y.1 = true := by
        intro y hy hb
        have := masks_sound (ops := ops) (fun j => listed.getD j false = true) hcl ops.toList [] (fun j _ => by simp) (fun j o p hj => by simp at hj) i' _ y.1 ho hb hpre
        obtain ⟨hy1, hy2⟩ := hin y (by simp [hy])
        rw [getD2 listed y.1 hsz hy1] at hy2
        rw [hy2] at this; cases this
      have hR1 : ∀ y ∈ l1, ∀ p, ops[y.1]? = some p -> isR p.op = true -> indep ops p ops[i'] = true /\ (readsH p.op = true -> isR (ops[i']).op = true \/ fl = true) := by
        intro y hy p hp' hRp
        have hy1 := (hin y (by simp [hy])).1
        have hpo := hp1 y hy
        have hd := hdep y hy
        simp only [pairOKF, hp', ho, Bool.and_eq_true] at hpo
        have hpo2 := hpo.2
        simp only [Bool.not_eq_true] at hd
        simp only [hRp, hd, Bool.false_or, Bool.or_false, Bool.and_eq_true, Bool.or_eq_true, Bool.not_eq_true'] at hpo2
        refine ⟨hpo2.1, fun hr => ?_⟩
        rcases hpo2.2 with (h | h) | h
        · exact .inl h
        · exact .inr h
        · rw [hr] at h; cases h
      have hE1 : ∀ y ∈ l1, ∀ p, ops[y.1]? = some p -> isR p.op = false -> i' ∈ fs /\ fl = true /\ isR (ops[i']).op = false := by
        intro y hy p hp' hRp
        have hpo := hp1 y hy
        have hd := hdep y hy
        simp only [pairOKF, hp', ho, Bool.and_eq_true] at hpo
        have hpo2 := hpo.2
        simp only [Bool.not_eq_true] at hd
        simp only [hRp, hd, Bool.false_or, Bool.and_eq_true, Bool.not_eq_true', List.contains_iff_mem] at hpo2
        exact ⟨hpo2.1.1, hpo2.1.2, hpo2.2⟩
      have hnd : ∀ y ∈ l1 ++ l2, y.1 ≠ i' := by
        intro y hy e
        rcases List.mem_append.1 hy with hy | hy
        · have hpo := hp1 y hy
          have hy1 := (hin y (by simp [hy])).1
          simp [pairOKF, Array.getElem?_eq_getElem hy1, ho, e] at hpo
        · have hpo := hp2 y hy
          have hy1 := (hin y (by simp [hy])).1
          simp [pairOKF, Array.getElem?_eq_getElem hy1, ho, e] at hpo
      have hstep : vstep P N ops ops[i'] (fun f h => relS L ops[i'] fl H h /\ vFS P N ops L fs K n (l1 ++ l2) f h) fr H := by
        simp only [List.length_append, List.length_cons] at hl
        rcases first_effect (ops := ops) l1 (fun x hx => ⟨_, Array.getElem?_eq_getElem (hin x (by simp [hx])).1⟩) with hall1 | ⟨r1, e, oe, r2, rfl, he1, he2, he3⟩
        · rw [show n = l1.length + l2.length by omega]
          rw [show n + 1 = l1.length + (l2.length + 1) by omega] at hv
          exact vFS_front hK ho (fun x hx => by obtain ⟨p, h1, h2⟩ := hall1 x hx; obtain ⟨h3, h4⟩ := hR1 x hx p h1 h2; exact ⟨p, h1, h2, h3, h4⟩) hv
        · obtain ⟨hif, hfl, hEi⟩ := hE1 e (by simp) oe he1 he2
          subst hfl
          simp only [List.length_append, List.length_cons] at hl
          rw [show n + 1 = r1.length + ((r2.length + 1 + l2.length) + 1) by omega, List.append_assoc, List.cons_append] at hv
          have hfilt : (r2 ++ (i', true) :: l2).filter (fun y => y.1 != i') = r2 ++ l2 := by
            rw [List.filter_append, List.filter_cons]
            simp only [bne_self_eq_false, Bool.false_eq_true, if_false]
            rw [List.filter_eq_self.2, List.filter_eq_self.2]
            · intro y hy; simpa using hnd y (by simp [hy])
            · intro y hy; simpa using hnd y (by simp [hy])
          have := vFS_float (f := i') hK he1 he2 ho hif (by simp) (fun x hx => by
            obtain ⟨p, h1, h2⟩ := he3 x hx
            exact ⟨p, h1, h2, (hR1 x (by simp [hx]) p h1 h2).1⟩) hv
          rw [hfilt] at this
          rw [show n = r1.length + (r2.length + 1 + l2.length) by omega, List.append_assoc, List.cons_append]
          exact this
      unfold wpOp
      rw [ho]
      refine vstep_sound hstep hR hF Q ?_
      rintro ρ' fr' H' a' w' hpre' ⟨_, hv'⟩ hR' hF'
      refine ih (listed.setIfInBounds i' true) (l1 ++ l2) fr' H' ρ' w' a' (by simpa using hsz) (by simp at hl ⊢; omega) hp3 ?_ ?_ ?_ hv' hR' hF' (fun ρ'' f'' H'' a'' w'' h1 => hq ρ'' f'' H'' a'' w'' (hpre'.trans h1))
      · intro y hy
        have hne := hnd y hy
        obtain ⟨h1, h2⟩ := hin y (by rcases List.mem_append.1 hy with hy | hy <;> simp [hy])
        exact ⟨h1, by rw [getD_set_ne _ (fun e => hne e.symm)]; exact h2⟩
      · intro j hj hnj
        by_cases e : i' = j
        · subst e
          exfalso
          have : (listed.setIfInBounds i' true).getD i' true = true := by simp [Array.getD_eq_getD_getElem?]
          rw [this] at hnj; cases hnj
        · rw [getD_set_ne _ e] at hnj
          obtain ⟨y, hy, rfl⟩ := hall j hj hnj
          refine ⟨y, ?_, rfl⟩
          rcases List.mem_append.1 hy with hy | hy
          · simp [hy]
          · rcases List.mem_cons.1 hy with rfl | hy
            · exact absurd rfl e
            · simp [hy]
      · intro j o hj hlj e he hb
        by_cases e' : i' = j
        · subst e'
          rw [ho] at hj; cases hj
          exact getD_set_true (hpre e he hb)
        · rw [getD_set_ne _ e'] at hlj
          exact getD_set_true (hcl j o hj hlj e he hb)

def vTS (P : Program) (N : Nat) (ops : Array Oper) (L : Nat -> Prop) (K : Fr -> Heap -> Prop) : Tree -> Fr -> Heap -> Prop
  | .nil, fr, H => K fr H
  | .one i fl t, fr, H => match ops[i]? with
    | none => False
    | some o => match isR o.op with
      | true => offS L o.op fr /\ vstep P N ops o (vTS P N ops L K t) fr H
      | false => vstep P N ops o (eKS L fl H (vTS P N ops L K t)) fr H
  | .two i fl t f t', fr, H => match ops[i]?, ops[f]? with
    | some o, some o' => vstep P N ops o (eKS L fl H (vTS P N ops L K t)) fr H /\ vstep P N ops o' (eKS L true H (vTS P N ops L K t')) fr H
    | _, _ => False
theorem vTS_vFS : ∀ (t : Tree) (n : Nat) (l : List (Nat × Bool)) (fr : Fr) (H : Heap), l.length <= n -> (∀ x y, x ∈ l -> y ∈ l -> x.1 = y.1 -> x = y) -> treeOK ops fs t l = true -> vTS P N ops L K t fr H -> vFS P N ops L fs K n l fr H := by
  intro t
  induction t with
  | nil =>
    intro n l fr H hn _ hok h
    cases l with
    | nil => cases n <;> exact h
    | cons x l => simp [treeOK] at hok
  | one i fl t ih =>
    intro n l fr H hn hu hok h
    cases l with
    | nil => simp [treeOK] at hok
    | cons x l =>
      obtain ⟨j, fl'⟩ := x
      simp only [treeOK, Bool.and_eq_true, beq_iff_eq] at hok
      obtain ⟨⟨⟨rfl, rfl⟩, hfl⟩, hok⟩ := hok
      cases n with
      | zero => simp at hn
      | succ n =>
        simp only [List.length_cons] at hn
        have hu' : ∀ x y, x ∈ l -> y ∈ l -> x.1 = y.1 -> x = y := fun x y hx hy => hu x y (by simp [hx]) (by simp [hy])
        simp only [vTS] at h
        simp only [vFS]
        cases ho : ops[i]? with
        | none => simp [ho] at h
        | some o =>
          simp only [ho] at h hfl ⊢
          cases hR : isR o.op with
          | true => simp only [hR] at h ⊢; exact ⟨h.1, vstep_weak h.2 fun f h => ih n l f h (by omega) hu' hok⟩
          | false =>
            simp only [hR, Bool.false_or, List.all_eq_true] at h hfl ⊢
            refine ⟨vstep_weak h fun f h' hk => ?_, fun f hf hm => ?_⟩
            · cases fl with
              | true => exact ⟨hk.1, ih n l f h' (by omega) hu' hok hk.2⟩
              | false => exact ih n l f h' (by omega) hu' hok hk
            · have := hfl f hf
              simp only [Bool.not_eq_true', List.contains_eq_mem, decide_eq_false_iff_not] at this
              exact absurd hm this
  | two i fl t f t' ih ih' =>
    intro n l fr H hn hu hok h
    cases l with
    | nil => simp [treeOK] at hok
    | cons x l =>
      obtain ⟨j, fl'⟩ := x
      simp only [treeOK, Bool.and_eq_true, beq_iff_eq] at hok
      obtain ⟨⟨⟨⟨⟨rfl, rfl⟩, hE⟩, hfl⟩, hok⟩, hok'⟩ := hok
      cases n with
      | zero => simp at hn
      | succ n =>
        simp only [List.length_cons] at hn
        have hu' : ∀ x y, x ∈ l -> y ∈ l -> x.1 = y.1 -> x = y := fun x y hx hy => hu x y (by simp [hx]) (by simp [hy])
        simp only [vTS] at h
        simp only [vFS]
        cases ho : ops[i]? with
        | none => simp [ho] at h
        | some o =>
          cases ho' : ops[f]? with
          | none => simp [ho, ho'] at h
          | some o' =>
            simp only [ho, ho', Bool.and_eq_true, Bool.not_eq_true'] at h hE ⊢
            simp only [hE.1]
            refine ⟨vstep_weak h.1 fun g h' hk => ?_, fun g hg hm => ?_⟩
            · cases fl with
              | true => exact ⟨hk.1, ih n l g h' (by omega) hu' hok hk.2⟩
              | false => exact ih n l g h' (by omega) hu' hok hk
            · rw [List.all_eq_true] at hfl
              have hgf := hfl g hg
              simp only [Bool.or_eq_true, beq_iff_eq, Bool.not_eq_true', List.contains_eq_mem, decide_eq_false_iff_not] at hgf
              have : g = f := hgf.resolve_right (fun e => e hm)
              subst this
              refine ⟨o', ho', hE.2, vstep_weak h.2 fun q h' hk => ⟨hk.1, ih' n _ q h' ?_ ?_ hok' hk.2⟩⟩
              · obtain ⟨z, hz, hzg⟩ := List.mem_map.1 hm
                have : (l.filter fun y => y.1 != g).length < l.length := by
                  rw [List.length_filter_lt_length_iff_exists]
                  exact ⟨z, hz, by simp [hzg]⟩
                simp only [List.length_cons]; omega
              · intro x y hx hy
                refine hu x y ?_ ?_
                · rcases List.mem_cons.1 hx with rfl | hx
                  · simp
                  · exact List.mem_cons_of_mem _ (List.mem_filter.1 hx).1
                · rcases List.mem_cons.1 hy with rfl | hy
                  · simp
                  · exact List.mem_cons_of_mem _ (List.mem_filter.1 hy).1

theorem AWp.drawFS (L : Nat -> Prop) {id : Nat} {fr : Fr} {H : Heap} {Q : Exit -> Fr -> Heap -> Prop} (hm : P.follows .mixedOrders = true) (fs : List Nat) (canon : List (Nat × Bool)) (t : Tree) (hok : (drawOKF ops fs canon && treeOK ops fs t canon) = true) (h : vTS P N ops L (Q .normal) t fr H) : AWp P N (.region id ops true) Q fr H := by
  intro B w0 ρ w a hR hF
  simp only [drawOKF, Bool.and_eq_true, decide_eq_true_eq, List.all_eq_true, List.mem_range, List.contains_iff_mem, List.mem_map] at hok
  obtain ⟨⟨⟨⟨⟨h1, h2⟩, h3⟩, h4⟩, h5⟩, h6⟩ := hok
  refine wp_region_any hm ?_
  let K : Fr -> Heap -> Prop := fun f h => ∃ g, feq g f /\ Q .normal g h
  have hK : Closed K := fun f g h hfg ⟨k, hk, hq⟩ => ⟨k, hk.trans hfg, hq⟩
  have hu : ∀ x y, x ∈ canon -> y ∈ canon -> x.1 = y.1 -> x = y := by
    intro x y hx hy e
    obtain ⟨l1, l2, rfl⟩ := List.append_of_mem hx
    obtain ⟨hp1, hp2, _⟩ := pairsOKF_spec h1
    rcases List.mem_append.1 hy with hy | hy
    · have := hp1 y hy
      unfold pairOKF at this
      split at this
      · simp [e] at this
      · cases this
    · rcases List.mem_cons.1 hy with rfl | hy
      · rfl
      · have := hp2 y hy
        unfold pairOKF at this
        split at this
        · simp [e] at this
        · cases this
  have hv : vFS P N ops L fs K ops.size canon fr H := by
    refine vTS_vFS t ops.size canon fr H (by omega) hu h6 ?_
    have weak : ∀ (t : Tree) (fr : Fr) (H : Heap), vTS P N ops L (Q .normal) t fr H -> vTS P N ops L K t fr H := by
      intro t
      induction t with
      | nil => exact fun fr H h => ⟨fr, feq.rfl' _, h⟩
      | one i fl t ih =>
        intro fr H h
        simp only [vTS] at h ⊢
        split at h
        · exact h
        · rename_i o ho
          cases hR : isR o.op with
          | true => simp only [hR] at h ⊢; exact ⟨h.1, vstep_weak h.2 ih⟩
          | false =>
            simp only [hR] at h ⊢
            refine vstep_weak h ?_
            intro f h' hk
            cases fl with
            | true => exact ⟨hk.1, ih _ _ hk.2⟩
            | false => exact ih _ _ hk
      | two i fl t f t' ih ih' =>
        intro fr H h
        simp only [vTS] at h ⊢
        split at h
        · rename_i o o' ho ho'
          refine ⟨vstep_weak h.1 ?_, vstep_weak h.2 fun f h' hk => ⟨hk.1, ih' _ _ hk.2⟩⟩
          intro f h' hk
          cases fl with
          | true => exact ⟨hk.1, ih _ _ hk.2⟩
          | false => exact ih _ _ hk
        · exact h
    exact weak t fr H h
  have hgt : ∀ i, i < ops.size -> (Array.replicate ops.size false).getD i true = false := by
    intro i hi
    simp [Array.getD_eq_getD_getElem?, hi]
  refine drawFS_any (B := B) (w0 := w0) hK h2 ops.size (Array.replicate ops.size false) canon fr H ρ w.drew a (by simp) h3 h1 ?_ ?_ ?_ hv hR.drew hF ?_
  · intro x hx
    exact ⟨h4 x hx, hgt x.1 (h4 x hx)⟩
  · intro i hi _
    obtain ⟨x, hx, rfl⟩ := h5 i hi
    exact ⟨x, hx, rfl⟩
  · intro j o hj hl
    rw [Array.getD_eq_getD_getElem?, Array.getElem?_replicate] at hl
    split at hl <;> simp at hl
  · rintro ρ' fr' H' a' w' hp ⟨g, hg, hq⟩ hR' hF'
    exact ⟨ρ', g, H', hp, hR', hF'.feq hg.symm, hq⟩

/-! The words of such a tree, for simp. -/

def vTSK (P : Program) (N : Nat) (ops : Array Oper) (L : Nat -> Prop) (K : Fr -> Heap -> Prop) (t : Tree) (fr : Fr) (H : Heap) : Prop := vTS P N ops L K t fr H
def eTSK (P : Program) (N : Nat) (ops : Array Oper) (L : Nat -> Prop) (K : Fr -> Heap -> Prop) (t : Tree) (fl : Bool) (H : Heap) (fr : Fr) (H' : Heap) : Prop :=
  match fl with
  | true => andK (KeepS L H H') (vTS P N ops L K t fr H')
  | false => vTS P N ops L K t fr H'
def vTSo (P : Program) (N : Nat) (ops : Array Oper) (L : Nat -> Prop) (K : Fr -> Heap -> Prop) (t : Tree) (fl : Bool) (fr : Fr) (H : Heap) (o : Oper) : Prop :=
  match isR o.op with
  | true => andK (offBS L o.op fr) (vstep P N ops o (vTSK P N ops L K t) fr H)
  | false => vstep P N ops o (eTSK P N ops L K t fl H) fr H
def vTSe (P : Program) (N : Nat) (ops : Array Oper) (L : Nat -> Prop) (K : Fr -> Heap -> Prop) (t : Tree) (fl : Bool) (fr : Fr) (H : Heap) (o : Oper) : Prop := vstep P N ops o (eTSK P N ops L K t fl H) fr H

theorem vTS_nil (K : Fr -> Heap -> Prop) (fr : Fr) (H : Heap) : vTS P N ops L K .nil fr H = K fr H := rfl
theorem eTSK_eq (K : Fr -> Heap -> Prop) (t : Tree) (fl : Bool) (H : Heap) : eKS L fl H (vTS P N ops L K t) = eTSK P N ops L K t fl H := by
  funext f h
  cases fl <;> rfl
theorem vTS_one (K : Fr -> Heap -> Prop) (i : Nat) (fl : Bool) (t : Tree) (fr : Fr) (H : Heap) : vTS P N ops L K (.one i fl t) fr H = bindO ops[i]? (vTSo P N ops L K t fl fr H) := by
  simp only [vTS]
  cases ops[i]? with
  | none => simp [bindO]
  | some o =>
    simp only [bindO_some, vTSo]
    cases isR o.op with
    | true => rw [offBS_iff]; rfl
    | false => simp only [eTSK_eq]
theorem vTS_two {i : Nat} {fl : Bool} {t : Tree} {f : Nat} {t' : Tree} {K : Fr -> Heap -> Prop} {fr : Fr} {H : Heap} (h1 : bindO ops[i]? (vTSe P N ops L K t fl fr H)) (h2 : bindO ops[f]? (vTSe P N ops L K t' true fr H)) : vTS P N ops L K (.two i fl t f t') fr H := by
  simp only [vTS]
  cases ho : ops[i]? with
  | none => simp [ho, bindO] at h1
  | some o =>
    cases ho' : ops[f]? with
    | none => simp [ho', bindO] at h2
    | some o' =>
      simp only [ho, ho', bindO_some, vTSe] at h1 h2 ⊢
      exact ⟨by rw [eTSK_eq]; exact h1, by rw [eTSK_eq]; exact h2⟩

attribute [go_sem] vTSK eTSK vTSo vTSe vTS_nil vTS_one

end
end Go.Ab
end

section
namespace Go.Proofs.YtfnegaedkomcgaaGreat
open Go.Ab Go.Sort

theorem common_self {v : Int} {x : Bk} (h : good v x = true) : common x x = 3 := by
  simp only [good, Bool.and_eq_true, decide_eq_true_eq] at h
  have e1 : x.a ≠ x.b := by omega
  have e2 : x.a ≠ x.c := by omega
  have e3 : x.b ≠ x.c := by omega
  simp [common, eq01, e1, e2, e3, e1.symm, e2.symm, e3.symm]
theorem before_tri {x y : Bk} (h1 : before x y = false) (h2 : before y x = false) : x = y := by
  rw [before_false] at h1 h2
  obtain ⟨a, b, c⟩ := x
  obtain ⟨d, e, f⟩ := y
  simp only at h1 h2
  have : a = d /\ b = e /\ c = f := by omega
  obtain ⟨rfl, rfl, rfl⟩ := this
  rfl
theorem fits_of_pair {l : List Bk} (h : l.Pairwise fun x y => common x y <= 1) : Fits l := by
  intro i k x y hki hx hy
  obtain ⟨hi, rfl⟩ := List.getElem?_eq_some_iff.1 hx
  obtain ⟨hk, rfl⟩ := List.getElem?_eq_some_iff.1 hy
  rw [common_comm]
  exact (List.pairwise_iff_getElem.1 h) k i hk hi hki
theorem pair_of_fits {l : List Bk} (h : Fits l) : l.Pairwise fun x y => common x y <= 1 := by
  rw [List.pairwise_iff_getElem]
  intro i j hi hj hij
  rw [common_comm]
  exact h j i l[j] l[i] hij (List.getElem?_eq_getElem hj) (List.getElem?_eq_getElem hi)
theorem sys_of_list {p : Int} {l : List Bk} (hp : 3 <= p /\ p <= 15) (hl : l.length <= 35) (hg : ∀ b ∈ l, good p b = true) (hc : l.Pairwise fun x y => common x y <= 1) (hs : l.Pairwise fun x y => before y x = false) : IsSys p l := by
  refine ⟨hp, hl, ?_, fits_of_pair hc⟩
  intro i x hx
  refine ⟨hg x (List.mem_of_getElem? hx), fun y hi hy => ?_⟩
  obtain ⟨h1, rfl⟩ := List.getElem?_eq_some_iff.1 hx
  obtain ⟨h2, rfl⟩ := List.getElem?_eq_some_iff.1 hy
  have ha := (List.pairwise_iff_getElem.1 hs) (i - 1) i h2 h1 (by omega)
  have hb := (List.pairwise_iff_getElem.1 hc) (i - 1) i h2 h1 (by omega)
  cases e : before l[i - 1] l[i] with
  | true => rfl
  | false =>
    have := before_tri e ha
    rw [this, common_self (hg _ (List.getElem_mem _))] at hb
    omega
theorem sys_of_perm {p : Int} {l : List Bk} (hp : 3 <= p /\ p <= 15) (hl : l.length <= 35) (hg : ∀ b ∈ l, good p b = true) (hc : l.Pairwise fun x y => common x y <= 1) : IsSys p (sortB l) := by
  have hperm := sortB_perm _ l rfl
  refine sys_of_list hp (by rw [hperm.length_eq]; exact hl) (fun b hb => hg b (hperm.mem_iff.1 hb)) ?_ (sortB_sorted _ l rfl)
  exact (hperm.symm.pairwise_iff (fun h => by rw [common_comm]; exact h)).1 hc

end Go.Proofs.YtfnegaedkomcgaaGreat
end

section
namespace Go.Proofs.YtfnegaedkomcgaaGreat
open Go.Ab Go.Sort

theorem intsOf2 (a b : Int) : intsOf .i64 [.int .i64 a, .int .i64 b] = some [a, b] := by simp [intsOf]
attribute [go_sem] intsOf2

end Go.Proofs.YtfnegaedkomcgaaGreat
end

section
namespace Go.Proofs.YtfnegaedkomcgaaGreat
open Go.Ab Go.Sort

def goSub {α : Type} (ok : α -> α -> Bool) (test : List α -> Bool) : List α -> List α -> Bool
  | [], acc => test acc
  | c :: cs, acc => goSub ok test cs acc && (if acc.all (fun x => ok x c) then goSub ok test cs (acc ++ [c]) else true)
theorem asc_weak {l : List Bk} (h : l.Pairwise fun x y => before x y = true) : l.Pairwise fun x y => before y x = false := h.imp fun hxy => before_asymm hxy
theorem triples_mem {v : Nat} {b : Bk} (h : good v b = true) : b ∈ triples v := by
  have hg := good_iff.1 h
  obtain ⟨a, b, c⟩ := b
  simp only at hg
  obtain ⟨x, rfl⟩ : ∃ n : Nat, a = n := ⟨a.toNat, by omega⟩
  obtain ⟨y, rfl⟩ : ∃ n : Nat, b = n := ⟨b.toNat, by omega⟩
  obtain ⟨z, rfl⟩ : ∃ n : Nat, c = n := ⟨c.toNat, by omega⟩
  simp only [triples, trip0, trip1, trip2, List.mem_flatMap, List.mem_map, mem_upTo]
  exact ⟨x, by omega, y, by omega, z, by omega, rfl⟩
def pmask (b : Bk) : Nat := 2 ^ (b.a.toNat * 7 + b.b.toNat) ||| 2 ^ (b.a.toNat * 7 + b.c.toNat) ||| 2 ^ (b.b.toNat * 7 + b.c.toNat)
def okM (x y : Nat × Bk) : Bool := (x.1 &&& y.1) == 0
def candM (v : Nat) : List (Nat × Bk) := (triples v).map fun b => (pmask b, b)
end Go.Proofs.YtfnegaedkomcgaaGreat
end

section
namespace Go.Proofs.YtfnegaedkomcgaaGreat
open Go.Ab Go.Sort

instance : DecidableEq Bk := fun x y => decidable_of_iff _ (Bk.eq3 x y).symm
end Go.Proofs.YtfnegaedkomcgaaGreat
end

section
namespace Go.Proofs.YtfnegaedkomcgaaGreat
open Go.Ab Go.Sort

theorem sortB_len (bs : List Bk) : (sortB bs).length = bs.length := (sortB_perm _ bs rfl).length_eq
end Go.Proofs.YtfnegaedkomcgaaGreat
end

section
namespace Go.Proofs.YtfnegaedkomcgaaGreat
open Go.Ab Go.Sort

noncomputable def rPut (p : Int) (bs : List Bk) (b : Bk) : (Int × List Bk) × Int :=
  if sysB p bs then (if good p b then (if leftB bs b then ((p, sortB (bs ++ [b])), 0) else ((0, []), 5)) else ((0, []), 2)) else ((0, []), 1)
theorem rPut_len (p : Int) (bs : List Bk) (b : Bk) : (rPut p bs b).1.2.length <= 1048576 := by
  unfold rPut
  split
  · rename_i h
    have h1 := (sysB_iff.1 h).2.1
    split
    · split
      · simp only [sortB_len, List.length_append, List.length_singleton]; omega
      · simp
    · simp
  · simp

theorem isLeftB_ok {H : Heap} {id : Nat} {gs : List Int} {bs : List Bk} {b : Bk} {p : Int} (hg : GridAt H id gs) (hgo : GridOf gs bs) (hb : good p b = true) (hp : p <= 15) (Post : Value -> Heap -> Prop) (h : ∀ H', H <+: H' -> Post (.bool (leftB bs b)) H') :
    ACalls Tryz.prog 72 [.pointer (some ⟨id, 0, none⟩), b.val] H Post := by
  have hgd : 0 <= b.a /\ b.a < b.b /\ b.b < b.c /\ b.c < p := by simpa [good, and_assoc] using hb
  obtain ⟨x, y, z⟩ := b
  simp only at hgd
  obtain ⟨a, rfl⟩ : ∃ n : Nat, x = n := ⟨x.toNat, by omega⟩
  obtain ⟨c, rfl⟩ : ∃ n : Nat, y = n := ⟨y.toNat, by omega⟩
  obtain ⟨d, rfl⟩ : ∃ n : Nat, z = n := ⟨z.toNat, by omega⟩
  refine isLeft_ok hg (by omega) (by omega) (by omega) _ ?_
  intro H' hp'
  have := h H' hp'
  have e1 := hgo.2 a c (by omega) (by omega)
  have e2 := hgo.2 a d (by omega) (by omega)
  have e3 := hgo.2 c d (by omega) (by omega)
  rw [if_neg (by omega)] at e1 e2 e3
  rw [e1, e2, e3]
  exact this

theorem implPut_ok {H : Heap} {u : Value} {p : Int} {bs : List Bk} {b : Bk} (hu : BlocksAt H u bs) (hl : bs.length <= 1048576) (hn : In64 b.a /\ In64 b.b /\ In64 b.c) (Post : Value -> Heap -> Prop)
    (h : ∀ H' z, H <+: H' -> BlocksIn H.length H'.length H' z (rPut p bs b).1.2 -> Post (.tuple #[sysV (rPut p bs b).1.1 z, .int .i64 (rPut p bs b).2]) H') : ACalls Tryz.prog 17 [sysV p u, b.val] H Post := by
  have ou := hu.one
  refine ACalls.res ?_
  refine acalls_vc (rs := [.cell 4 26, .tmp 5]) Tryz.func17 rfl rfl Tryz.ntmps17 rfl rfl ?_
  simp (maxSteps := 1000000) [go_sem, sysV, Bk.val, ou]
  have hp0 : H <+: H ++ [(⟨[.int .i64 p, u], true, true⟩ : Blk), ⟨[.int .i64 b.a, .int .i64 b.b, .int .i64 b.c], true, true⟩, ⟨[.int .i64 0, .slice none 0 0], true, true⟩] := List.prefix_append _ _
  have hx0 : Holds (H ++ [(⟨[.int .i64 p, u], true, true⟩ : Blk), ⟨[.int .i64 b.a, .int .i64 b.b, .int .i64 b.c], true, true⟩, ⟨[.int .i64 0, .slice none 0 0], true, true⟩]) H.length [.int .i64 p, u] := ⟨true, by simp⟩
  have hy0 : Holds (H ++ [(⟨[.int .i64 p, u], true, true⟩ : Blk), ⟨[.int .i64 b.a, .int .i64 b.b, .int .i64 b.c], true, true⟩, ⟨[.int .i64 0, .slice none 0 0], true, true⟩]) (H.length + 1) [.int .i64 b.a, .int .i64 b.b, .int .i64 b.c] := ⟨true, by simp⟩
  have hb0 : (H ++ [(⟨[.int .i64 p, u], true, true⟩ : Blk), ⟨[.int .i64 b.a, .int .i64 b.b, .int .i64 b.c], true, true⟩, ⟨[.int .i64 0, .slice none 0 0], true, true⟩])[H.length + 2]? = some ⟨[.int .i64 0, .slice none 0 0], true, true⟩ := by simp
  have hlen : (H ++ [(⟨[.int .i64 p, u], true, true⟩ : Blk), ⟨[.int .i64 b.a, .int .i64 b.b, .int .i64 b.c], true, true⟩, ⟨[.int .i64 0, .slice none 0 0], true, true⟩]).length = H.length + 3 := by simp
  generalize H ++ [(⟨[.int .i64 p, u], true, true⟩ : Blk), ⟨[.int .i64 b.a, .int .i64 b.b, .int .i64 b.c], true, true⟩, ⟨[.int .i64 0, .slice none 0 0], true, true⟩] = H0 at hp0 hx0 hy0 hb0 hlen ⊢
  have bad : ∀ (H' : Heap) (c : Int), H0 <+: H' -> rPut p bs b = ((0, []), c) ->
      storeAt H' (H.length + 2) 0 [.int .i64 0, .slice none 0 0] = some (H'.set (H.length + 2) ⟨[.int .i64 0, .slice none 0 0], true, true⟩) /\
      cellsAt (H'.set (H.length + 2) ⟨[.int .i64 0, .slice none 0 0], true, true⟩) (H.length + 2) 0 2 = some [.int .i64 0, .slice none 0 0] /\
      ∃ v', Up (H'.set (H.length + 2) ⟨[.int .i64 0, .slice none 0 0], true, true⟩) (.tuple #[.agg #[.int .i64 0, .slice none 0 0], .int .i64 c]) v' /\ Post v' (H'.set (H.length + 2) ⟨[.int .i64 0, .slice none 0 0], true, true⟩) := by
    intro H' c hp hr
    obtain ⟨q1, q2, q3, q4⟩ := put2 (cs := [.int .i64 0, .slice none 0 0]) hp0 (show H.length <= H.length + 2 by omega) hb0 rfl hp rfl rfl
    have fin := h _ (lv 3 0 0 0) q3 (by rw [hr]; exact BlocksIn.nil _ _ _)
    rw [hr] at fin
    exact ⟨q1, q2, _, Up.tuple (ys := #[sysV 0 (lv 3 0 0 0), .int .i64 c]) ⟨zeroSys, Up.refl _ _, trivial⟩, fin⟩
  refine implIsSys (hu.pre hp0) _ ?_
  intro H1 hp1
  obtain ⟨d0, d1, d2⟩ := (hx0.pre hp1).sys
  obtain ⟨e0, e1, e2, e3⟩ := (hy0.pre hp1).bk
  cases hs : sysB p bs with
  | false =>
    obtain ⟨q1, q2, fin⟩ := bad H1 1 hp1 (by simp [rPut, hs])
    simp (maxSteps := 1000000) [go_sem, undef, q1, q2]
    exact fin
  | true =>
    have hS := sysB_iff.1 hs
    have hp15 := hS.1
    simp (maxSteps := 1000000) [go_sem, d0, d1, d2, e0, e1, e2, e3]
    refine isBlock_ok (b := b) (by omega) (by omega) _ ?_
    intro H2 hp2
    have hp12 := hp1.trans hp2
    obtain ⟨d0, d1, d2⟩ := (hx0.pre hp12).sys
    obtain ⟨e0, e1, e2, e3⟩ := (hy0.pre hp12).bk
    cases hg : good p b with
    | false =>
      obtain ⟨q1, q2, fin⟩ := bad H2 2 hp12 (by simp [rPut, hs, hg])
      simp (maxSteps := 1000000) [go_sem, undef, q1, q2]
      exact fin
    | true =>
      simp (maxSteps := 1000000) [go_sem, undef]
      refine AWp.draw mixed [(0, false), (2, false), (1, true), (3, false), (4, false), (5, false)] (by kernel_rfl) ?_
      simp (maxSteps := 1000000) [go_sem, undef, d0, d1, d2, e0, e1, e2, e3]
      refine sysGrid_ok (hu.pre (hp0.trans hp12)) hS.good15 hS.2.2.2 _ ?_
      intro H2b gid gs hp2b _ hga hgo
      obtain ⟨e0, e1, e2, e3⟩ := (hy0.pre (hp12.trans hp2b)).bk
      simp (maxSteps := 1000000) [go_sem, undef, hp2b, e0]
      refine isLeftB_ok hga hgo hg (by omega) _ ?_
      intro H3 hp3
      have hp03 := hp12.trans (hp2b.trans hp3)
      simp (maxSteps := 1000000) [go_sem, undef, hp3]
      have hx3 := hx0.pre hp03
      have hy3 := hy0.pre hp03
      obtain ⟨d0, d1, d2⟩ := hx3.sys
      obtain ⟨e0, e1, e2, e3⟩ := hy3.bk
      have hle3 := hp03.length_le
      cases hf : leftB bs b with
      | false =>
        obtain ⟨q1, q2, fin⟩ := bad H3 5 hp03 (by simp [rPut, hs, hg, hf])
        simp (maxSteps := 1000000) [go_sem, undef, q1, q2]
        exact fin
      | true =>
        have hr : rPut p bs b = ((p, sortB (bs ++ [b])), 0) := by simp [rPut, hs, hg, hf]
        have hu3 := hu.pre (hp0.trans hp03)
        have hl35 := hS.2.1
        simp (maxSteps := 1000000) [go_sem, undef]
        refine AWp.drawFX (H.length + 3) mixed [6] [(0, false), (1, false), (2, false), (3, false), (5, false), (4, true), (6, true), (7, true), (8, false), (9, false), (10, false)] (.one 0 false (.one 1 false (.one 2 false (.one 3 false (.one 5 false (.two 4 true (.one 6 true (.one 7 true (.one 8 false (.one 9 false (.one 10 false .nil))))) 6 (.one 4 true (.one 7 true (.one 8 false (.one 9 false (.one 10 false .nil))))))))))) (by kernel_rfl) ?_
        obtain ⟨j0, q0, eu, hat0, hsz0⟩ : ∃ j q, u = lv 3 j q bs.length /\ At H3 j q (tri bs) /\ bs.length <= 140737488355328 := hu3
        subst eu
        have hu3 : BlocksAt H3 (lv 3 j0 q0 bs.length) bs := ⟨j0, q0, rfl, hat0, hsz0⟩
        simp (maxSteps := 1000000) [go_sem, undef, d0, d1, d2, e0, e1, e2, e3]
        refine vTX_two ?_ ?_
        · simp (maxSteps := 1000000) [go_sem, undef, d0, d1, d2, e0, e1, e2, e3]
          refine cloneB_oe hu3 hl _ ?_
          intro H4 v4 hp4 hv4
          have hkA : KeepL (H.length + 3) H3 H4 := KeepL.of_prefix hp4 (by omega)
          obtain ⟨d0, d1, d2⟩ := (hx3.pre hp4).sys
          obtain ⟨e0, e1, e2, e3⟩ := (hy3.pre hp4).bk
          obtain ⟨a4, rfl⟩ := hv4.shape
          have hle4 := hp4.length_le
          have hp5 : H4 <+: H4 ++ [⟨[.int .i64 b.a, .int .i64 b.b, .int .i64 b.c], true, true⟩] := List.prefix_append _ _
          have hkB : KeepL (H.length + 3) H4 (H4 ++ [⟨[.int .i64 b.a, .int .i64 b.b, .int .i64 b.c], true, true⟩]) := KeepL.of_prefix hp5 (by omega)
          have hv := hv4.pre hp5
          have hc : cellsAt (H4 ++ [⟨[.int .i64 b.a, .int .i64 b.b, .int .i64 b.c], true, true⟩]) H4.length 0 3 = some [.int .i64 b.a, .int .i64 b.b, .int .i64 b.c] := by simpa using (Holds.last H4 [.int .i64 b.a, .int .i64 b.b, .int .i64 b.c]).cells (n := 3) (o := 0) (by simp)
          have hl5 : (H4 ++ [(⟨[.int .i64 b.a, .int .i64 b.b, .int .i64 b.c], true, true⟩ : Blk)]).length = H4.length + 1 := by simp
          have hleP := (hp4.trans hp5).length_le
          obtain ⟨v6, H6, hap, he6, hk6, hl6⟩ := hv.append (m := 1) (news := [.int .i64 b.a, .int .i64 b.b, .int .i64 b.c]) (by omega) (by omega) rfl
          obtain ⟨a6, rfl⟩ := he6.shape
          have hle := (hp4.trans hp5).length_le
          have hp6 : H3 <+: H6 := KeepL.prefix (hp4.trans hp5) (by omega) hk6 (by omega)
          have hk6' : KeepL (H.length + 3) (H4 ++ [⟨[.int .i64 b.a, .int .i64 b.b, .int .i64 b.c], true, true⟩]) H6 := fun k hk => hk6 k (by omega)
          have et : tri bs ++ [.int .i64 b.a, .int .i64 b.b, .int .i64 b.c] = tri (bs ++ [b]) := by rw [tri_append]; rfl
          rw [et] at he6
          obtain ⟨w6, hup6, hw6⟩ := (show OE 3 _ H6 _ (tri (bs ++ [b])) (bs ++ [b]).length by rw [List.length_append]; exact he6).blocks (by simp; omega)
          simp (maxSteps := 1000000) [go_sem, undef, hkA, hkB, hc, hap, hk6', d0, d1, d2, e0, e1, e2, e3]
          refine andK_intro (by omega) ?_
          refine ACalls.up (args' := [.int .i64 p, w6]) ⟨Up.refl _ _, hup6, trivial⟩ ?_
          refine implSystem_ok hw6.read (by simp; omega) _ ?_
          intro H7 z hp7 hz
          have hk7 : KeepL (H.length + 3) H6 H7 := KeepL.of_prefix hp7 (by have := hp6.length_le; omega)
          have az := hz.one
          obtain ⟨q1, q2, q3, q4⟩ := put2 (cs := [.int .i64 p, z]) hp0 (show H.length <= H.length + 2 by omega) hb0 rfl (hp03.trans (hp6.trans hp7)) rfl (by simp [az, one_int])
          have fin := h _ z q3 (by rw [hr, List.length_set]; exact (hz.keep q4 (fun j hj e => by have := hj.1; have := hp6.length_le; omega)).wider (by have := hp6.length_le; omega))
          rw [hr] at fin
          simp (maxSteps := 1000000) [go_sem, undef, sysV, hk7, q1, q2]
          exact ⟨_, Up.refl _ _, fin⟩
        · have hp5 : H3 <+: H3 ++ [⟨[.int .i64 b.a, .int .i64 b.b, .int .i64 b.c], true, true⟩] := List.prefix_append _ _
          have hkA : KeepL (H.length + 3) H3 (H3 ++ [⟨[.int .i64 b.a, .int .i64 b.b, .int .i64 b.c], true, true⟩]) := KeepL.of_prefix hp5 (by omega)
          have hn := Holds.last H3 [.int .i64 b.a, .int .i64 b.b, .int .i64 b.c]
          have hl5 : (H3 ++ [(⟨[.int .i64 b.a, .int .i64 b.b, .int .i64 b.c], true, true⟩ : Blk)]).length = H3.length + 1 := by simp
          simp (maxSteps := 1000000) [go_sem, undef, hkA, d0, d1, d2, e0, e1, e2, e3]
          generalize H3 ++ [(⟨[.int .i64 b.a, .int .i64 b.b, .int .i64 b.c], true, true⟩ : Blk)] = HB at *
          refine cloneB_oe (hu3.pre hp5) hl _ ?_
          intro H4 v4 hp4 hv4
          have hkB : KeepL (H.length + 3) HB H4 := KeepL.of_prefix hp4 (by omega)
          obtain ⟨d0, d1, d2⟩ := (hx3.pre (hp5.trans hp4)).sys
          obtain ⟨e0, e1, e2, e3⟩ := (hy3.pre (hp5.trans hp4)).bk
          obtain ⟨a4, rfl⟩ := hv4.shape
          have hle4 := hp4.length_le
          have hv := hv4
          have hc : cellsAt H4 H3.length 0 3 = some [.int .i64 b.a, .int .i64 b.b, .int .i64 b.c] := by simpa using (hn.pre hp4).cells (n := 3) (o := 0) (by simp)
          have hleP := (hp5.trans hp4).length_le
          obtain ⟨v6, H6, hap, he6, hk6, hl6⟩ := hv.append (m := 1) (news := [.int .i64 b.a, .int .i64 b.b, .int .i64 b.c]) (by omega) (by omega) rfl
          obtain ⟨a6, rfl⟩ := he6.shape
          have hle := (hp5.trans hp4).length_le
          have hp6 : H3 <+: H6 := KeepL.prefix (hp5.trans hp4) (by omega) hk6 (by omega)
          have hk6' : KeepL (H.length + 3) H4 H6 := fun k hk => hk6 k (by omega)
          have et : tri bs ++ [.int .i64 b.a, .int .i64 b.b, .int .i64 b.c] = tri (bs ++ [b]) := by rw [tri_append]; rfl
          rw [et] at he6
          obtain ⟨w6, hup6, hw6⟩ := (show OE 3 _ H6 _ (tri (bs ++ [b])) (bs ++ [b]).length by rw [List.length_append]; exact he6).blocks (by simp; omega)
          simp (maxSteps := 1000000) [go_sem, undef, hkA, hkB, hc, hap, hk6', d0, d1, d2, e0, e1, e2, e3]
          refine andK_intro (by omega) ?_
          refine ACalls.up (args' := [.int .i64 p, w6]) ⟨Up.refl _ _, hup6, trivial⟩ ?_
          refine implSystem_ok hw6.read (by simp; omega) _ ?_
          intro H7 z hp7 hz
          have hk7 : KeepL (H.length + 3) H6 H7 := KeepL.of_prefix hp7 (by have := hp6.length_le; omega)
          have az := hz.one
          obtain ⟨q1, q2, q3, q4⟩ := put2 (cs := [.int .i64 p, z]) hp0 (show H.length <= H.length + 2 by omega) hb0 rfl (hp03.trans (hp6.trans hp7)) rfl (by simp [az, one_int])
          have fin := h _ z q3 (by rw [hr, List.length_set]; exact (hz.keep q4 (fun j hj e => by have := hj.1; have := hp6.length_le; omega)).wider (by have := hp6.length_le; omega))
          rw [hr] at fin
          simp (maxSteps := 1000000) [go_sem, undef, sysV, hk7, q1, q2]
          exact ⟨_, Up.refl _ _, fin⟩

end Go.Proofs.YtfnegaedkomcgaaGreat
end
