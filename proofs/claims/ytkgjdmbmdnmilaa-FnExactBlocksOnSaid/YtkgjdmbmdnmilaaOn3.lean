/- BlocksOn: the specification's side, and places on the other side. -/
import Derived.Test.YtkgjdmbmdnmilaaOn2
set_option linter.all false
set_option maxRecDepth 20000
set_option maxHeartbeats 4000000
namespace Go.Proofs.Ytkgjdmbmdnmilaa
open Go.Ab

theorem put2 {H H0 H' : Heap} {id : Nat} {cs0 cs : List Value} (hp0 : H <+: H0) (hid : H.length ≤ id) (hb0 : H0[id]? = some ⟨cs0, true, true⟩) (h2 : cs0.length = 2) (hp : H0 <+: H') (hcl : cs.length = 2) (ho : cs.all Value.oneCell' = true) :
    storeAt H' id 0 cs = some (H'.set id ⟨cs, true, true⟩) ∧ cellsAt (H'.set id ⟨cs, true, true⟩) id 0 2 = some cs ∧ H <+: H'.set id ⟨cs, true, true⟩ ∧ Same (fun j => j = id) H' (H'.set id ⟨cs, true, true⟩) := by
  have hb' := Same.get (S := fun _ => False) (Same.of_prefix hp) hb0 (fun h => h)
  have hsame : Same (fun j => j = id) H' (H'.set id ⟨cs, true, true⟩) := ⟨by simp, fun j hj hS => List.getElem?_set_ne (fun e => hS e.symm)⟩
  refine ⟨?_, ?_, ((Same.of_prefix (hp0.trans hp)).trans hsame).prefix (by intro j hj he; omega), hsame⟩
  · rw [storeAt_of hb' rfl rfl (by simp [hcl, h2]) ho]
    match cs, hcl, cs0, h2 with
    | [x, y], _, [z, w], _ => simp [over]
  · have := Holds.cells (n := 2) (o := 0) (H := H'.set id ⟨cs, true, true⟩) ⟨true, List.getElem?_set_self (List.getElem?_eq_some_iff.1 hb').1⟩ (by omega)
    rw [this, List.drop_zero, List.take_of_length_le (by omega)]

theorem specBlocksOn_ok {H : Heap} {u v : Value} {p : Int} {bs : List Bk} {xs : List Int} (hu : BlocksAt H u bs) (hl : bs.length ≤ 1048576) (hv : IntsAt H v xs) (hl' : xs.length ≤ 1048576) (hw : ∀ x ∈ xs, In64 x) (Post : Value → Heap → Prop)
    (h : ∀ H' w, H <+: H' → BlocksIn H.length H'.length H' w (rOn p bs xs).1.2 → Post (.tuple #[sysV (rOn p bs xs).1.1 w, .int .i64 (rOn p bs xs).2]) H') :
    ACalls Try.prog 75 [sysV p u, v] H Post := by
  have hvo := hv
  obtain ⟨j, q, rfl, h3, h4⟩ := hv
  refine ACalls.res ?_
  refine acalls_vc (rs := [.cell 4 36, .tmp 5]) Try.func75 rfl rfl Try.ntmps75 rfl rfl ?_
  simp (maxSteps := 1000000) [go_sem, sysV, hu.one]
  have hp0 : H <+: H ++ [⟨[.int .i64 p, u], true, true⟩, ⟨[.int .i64 0, .slice none 0 0], true, true⟩] := List.prefix_append _ _
  have hx0 : Holds (H ++ [⟨[.int .i64 p, u], true, true⟩, ⟨[.int .i64 0, .slice none 0 0], true, true⟩]) H.length [.int .i64 p, u] := ⟨true, by simp⟩
  have hb0 : (H ++ [(⟨[.int .i64 p, u], true, true⟩ : Blk), ⟨[.int .i64 0, .slice none 0 0], true, true⟩])[H.length + 1]? = some ⟨[.int .i64 0, .slice none 0 0], true, true⟩ := by simp
  have hlen0 : (H ++ [(⟨[.int .i64 p, u], true, true⟩ : Blk), ⟨[.int .i64 0, .slice none 0 0], true, true⟩]).length = H.length + 2 := by simp
  generalize H ++ [(⟨[.int .i64 p, u], true, true⟩ : Blk), ⟨[.int .i64 0, .slice none 0 0], true, true⟩] = H0 at hp0 hx0 hb0 hlen0 ⊢
  have bad : ∀ (H' : Heap) (c : Int), H <+: H' → rOn p bs xs = ((0, []), c) → ∃ v', Up H' (.tuple #[.agg #[.int .i64 0, .slice none 0 0], .int .i64 c]) v' ∧ Post v' H' := by
    intro H' c hp hr
    refine ⟨_, Up.tuple (ys := #[sysV 0 (lv 3 0 0 0), .int .i64 c]) ⟨zeroSys, Up.refl _ _, trivial⟩, ?_⟩
    have := h H' (lv 3 0 0 0) hp (by rw [hr]; exact BlocksIn.nil _ _ _)
    rwa [hr] at this
  refine l01Set_ok (hu.pre hp0) hl (hvo.pre hp0) _ ?_
  intro H1 hp1
  obtain ⟨d0, d1, d2⟩ := (hx0.pre hp1).sys
  obtain ⟨q1, q2, q3, _⟩ := put2 (cs := [.int .i64 0, .slice none 0 0]) hp0 (by omega) hb0 rfl hp1 rfl rfl
  by_cases hc : setCode p bs xs = 0
  · obtain ⟨hS, hrise⟩ := setCode_zero hc
    have hc' : (setCode p bs xs == 0) = true := by simpa using hc
    by_cases h3l : 3 ≤ xs.length
    · have hlt3 : ¬ ((xs.length : Int) < 3) := by omega
      have hlt3' : ¬ (xs.length < 3) := by omega
      simp (maxSteps := 1000000) [go_sem, hc, hlt3, hlt3', d0]
      refine l01On_ok (hu.pre (hp0.trans hp1)) hl (hvo.pre (hp0.trans hp1)) _ ?_
      intro H2 w hp2 hw2
      rw [sortB_asc (onB_asc hrise (asc_of _ rfl hS.2.2.1))] at hw2
      have ho := hw2.one
      obtain ⟨r1, r2, r3, r4⟩ := put2 (cs := [.int .i64 xs.length, w]) hp0 (by omega) hb0 rfl (hp1.trans hp2) rfl (by simp only [List.all_cons, ho]; rfl)
      have hr : rOn p bs xs = (((xs.length : Int), onB xs bs), 0) := by simp [rOn, hc, h3l]
      have hle := (hp0.trans hp1).length_le
      have hle1 := hp1.length_le
      have fin := h (H2.set (H.length + 1) ⟨[.int .i64 xs.length, w], true, true⟩) w r3 (by
        rw [hr]
        have := (hw2.keep r4 (by rintro j ⟨h1, h2⟩ e; omega)).wider hle
        rwa [List.length_set])
      rw [hr] at fin
      simp (maxSteps := 1000000) [go_sem, sysV, ho, r1, r2]
      exact ⟨_, Up.refl _ _, fin⟩
    · have hlt3 : ((xs.length : Int) < 3) := by omega
      have hlt3' : (xs.length < 3) := by omega
      simp (maxSteps := 1000000) [go_sem, hc, hlt3, hlt3', q1, q2]
      exact bad _ 2 q3 (by simp [rOn, hc, h3l])
  · have hc' : (setCode p bs xs == 0) = false := by simpa using hc
    have hc2 : (setCode p bs xs != 0) = true := by simpa using hc
    simp (maxSteps := 1000000) [go_sem, hc', hc2, q1, q2]
    exact bad _ _ q3 (by simp [rOn, hc])

theorem indexI_ok {H : Heap} {v : Value} {xs : List Int} {q : Int} (hv : IntsAt H v xs) (Post : Value → Heap → Prop) (h : Post (.int .i64 (plc xs q)) H) : ACalls Try.prog 140 [v, .int .i64 q] H Post := by
  obtain ⟨i, o, rfl, h1, h2⟩ := hv
  refine acalls_vc (rs := [.tmp 4]) Try.func140 rfl rfl Try.ntmps140 rfl rfl ?_
  simp (maxSteps := 1000000) [go_sem]
  refine AWp.loopVc (fun s : Nat => [(0, lv 1 i o xs.length), (1, .int .i64 q), (7, .int .i64 xs.length), (8, .int .i64 s)])
    (fun s H' => s ≤ xs.length ∧ H' = H ∧ ∀ y ∈ xs.take s, y ≠ q) (fun s => xs.length - s) 0 ?_ ?_ ?_
  · simp [upF, Fr.get, Up.refl]
  · exact ⟨by omega, rfl, by simp⟩
  · rintro K s H' ⟨hs, rfl, hall⟩ hK
    by_cases hlt : s < xs.length
    · have hx : xs[s]? = some xs[s] := List.getElem?_eq_getElem hlt
      have c1 := h1.cell (k := s) (v := .int .i64 xs[s]) (by simp [ints_get, hlt])
      have hw_s : IntKind.i64.wrap ((s : Int) + 1) = (s : Int) + 1 := i64w (by omega) (by omega)
      by_cases he : q = xs[s]
      · have e : (q == xs[s]) = true := by simpa using he
        simp (maxSteps := 1000000) [go_sem, hlt, c1, e]
        rwa [plc_at (k := s) (by rw [hx, he]) hall] at h
      · have e : (q == xs[s]) = false := by simpa using he
        simp (maxSteps := 1000000) [go_sem, hlt, c1, e, hw_s]
        refine hK (s + 1) _ _ (by omega) (by simp [upF, Fr.get, Up.refl]) ⟨by omega, rfl, ?_⟩
        intro y hy
        rw [List.take_succ_eq_append_getElem hlt, List.mem_append] at hy
        rcases hy with hy | hy
        · exact hall y hy
        · simp at hy; subst hy; exact fun e => he e.symm
    · have : s = xs.length := by omega
      subst this
      rw [List.take_length] at hall
      simp (maxSteps := 1000000) [go_sem]
      rwa [plc_none hall] at h

end Go.Proofs.Ytkgjdmbmdnmilaa
