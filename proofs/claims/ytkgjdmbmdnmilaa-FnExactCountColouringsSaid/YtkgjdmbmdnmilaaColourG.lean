/- The specification's test of colours. -/
import Derived.Test.YtkgjdmbmdnmilaaColourDef
import Derived.Test.YtkgjdmbmdnmilaaAbPass
set_option linter.all false
set_option maxRecDepth 20000
set_option maxHeartbeats 8000000
namespace Go.Proofs.Ytkgjdmbmdnmilaa
open Go.Ab

theorem l07Good_ok {H : Heap} {u v : Value} {p n : Int} {bs : List Bk} {xs : List Int} {st : Bool} (hu : BlocksAt H u bs) (hg : ∀ x ∈ bs, good p x = true) (hp : p ≤ 15) (hv : IntsAt H v xs) (hn : n ≤ xs.length) (Post : Value → Heap → Prop)
    (h : ∀ H', H <+: H' → Post (.bool (goodCol bs xs n st)) H') : ACalls Try.prog 119 [sysV p u, v, .int .i64 n, .bool st] H Post := by
  obtain ⟨i, o, rfl, h1, h2⟩ := hu
  obtain ⟨j, q, rfl, h3, h4⟩ := hv
  refine acalls_vc (rs := [.tmp 8]) Try.func119 rfl rfl Try.ntmps119 rfl rfl ?_
  simp (maxSteps := 1000000) [go_sem, sysV]
  have hx0 := Holds.last H [.int .i64 p, lv 3 i o bs.length]
  have hp0 : H <+: H ++ [⟨[.int .i64 p, lv 3 i o bs.length], true, true⟩] := List.prefix_append _ _
  generalize H ++ [(⟨[.int .i64 p, lv 3 i o bs.length], true, true⟩ : Blk)] = H0 at hx0 hp0 ⊢
  refine AWp.loopVc (fun s : Nat => [(1, lv 1 j q xs.length), (2, .int .i64 n), (3, .bool st), (4, .pointer (some ⟨H.length, 0, none⟩)), (9, .int .i64 s)])
    (fun s H' => s ≤ bs.length ∧ H0 <+: H' ∧ goodCol (bs.take s) xs n st = true) (fun s => bs.length - s) 0 ?_ ?_ ?_
  · simp [upF, Fr.get, Up.refl]
  · exact ⟨by omega, List.prefix_refl _, by simp [goodCol]⟩
  · rintro K s H' ⟨hs, hp', hf⟩ hK
    obtain ⟨d0, d1, d2⟩ := (hx0.pre hp').sys
    by_cases hlt : s < bs.length
    · have hbs : bs[s]? = some bs[s] := List.getElem?_eq_getElem hlt
      have c1 := (h1.pre (hp0.trans hp')).bk hbs
      obtain ⟨a, b, c, hb, hab, hbc, hc⟩ := good_nat (hg _ (List.mem_of_getElem? hbs)) hp
      rw [hb] at c1 hbs
      simp only [Bk.cells] at c1
      have hw_s : IntKind.i64.wrap ((s : Int) + 1) = (s : Int) + 1 := i64w (by omega) (by omega)
      have hsn : goodCol (bs.take (s + 1)) xs n st = (decide (n ≤ (c : Int)) || !bad3 (cAt xs a) (cAt xs b) (cAt xs c) st) := by
        unfold goodCol at hf ⊢
        rw [List.take_succ_eq_append_getElem hlt, hb, List.all_append, hf]; simp
      have hpb : H' <+: H' ++ [⟨[.int .i64 a, .int .i64 b, .int .i64 c], true, true⟩] := List.prefix_append _ _
      obtain ⟨e0, e1, e2, e3⟩ := (Holds.last H' [.int .i64 a, .int .i64 b, .int .i64 c]).bk
      simp (maxSteps := 1000000) [go_sem, hlt, d2, c1]
      refine condK_intro (fun hge => ?_) (fun hlt' => ?_)
      · have hge : n ≤ (c : Int) := by simpa using hge
        refine hK (s + 1) _ _ (by omega) (by simp [upF, Fr.get, Up.refl, hw_s]) ⟨by omega, hp'.trans hpb, by rw [hsn]; simp [hge]⟩
      · have hlt' : (c : Int) < n := by simpa using hlt'
        have hxa : a < xs.length := by omega
        have hxb : b < xs.length := by omega
        have hxc : c < xs.length := by omega
        have f1 := cAt_load (h3.pre (hp0.trans (hp'.trans hpb))) hxa
        have f2 := cAt_load (h3.pre (hp0.trans (hp'.trans hpb))) hxb
        have f3 := cAt_load (h3.pre (hp0.trans (hp'.trans hpb))) hxc
        refine AWp.up (f := [(1, lv 1 j q xs.length), (2, .int .i64 n), (3, .bool st), (4, .pointer (some ⟨H.length, 0, none⟩)), (9, .int .i64 s), (10, .pointer (some ⟨H'.length, 0, none⟩))]) (by simp [upF, Fr.get, Up.refl]) ?_
        refine AWp.draw mixed [(0, false), (1, false), (2, false), (3, false), (4, false), (5, false), (6, false), (7, false), (8, false), (9, false), (10, false), (11, false), (12, false), (13, false), (14, false), (15, false), (16, false), (17, false)] (by kernel_rfl) ?_
        apply vE_pass
        · simp (maxSteps := 1000000) [go_sem, hxa, hxb, hxc, f1, f2, f3]
          exact ⟨rfl, rfl⟩
        have hge : decide (n ≤ (c : Int)) = false := by simp; omega
        rw [hge, Bool.false_or] at hsn
        have fin : bad3 (cAt xs a) (cAt xs b) (cAt xs c) st = true → Post (.bool false) (H' ++ [⟨[.int .i64 a, .int .i64 b, .int .i64 c], true, true⟩]) := by
          intro hb3
          have : goodCol bs xs n st = false := by
            unfold goodCol
            rw [List.all_eq_false]
            exact ⟨⟨a, b, c⟩, List.mem_of_getElem? hbs, by simp [hb3]; omega⟩
          have := h _ (hp0.trans (hp'.trans hpb)) |> (this ▸ ·)
          exact this
        generalize cAt xs a = P at *
        generalize cAt xs b = Q at *
        generalize cAt xs c = R at *
        unfold bad3 at hsn fin
        obtain ⟨x1, hx1⟩ : ∃ x, (P == Q) = x := ⟨_, rfl⟩
        obtain ⟨x2, hx2⟩ : ∃ x, (Q == R) = x := ⟨_, rfl⟩
        obtain ⟨x3, hx3⟩ : ∃ x, (P == R) = x := ⟨_, rfl⟩
        have hn1 : (P != Q) = !x1 := by rw [← hx1]; rfl
        have hn2 : (Q != R) = !x2 := by rw [← hx2]; rfl
        have hn3 : (P != R) = !x3 := by rw [← hx3]; rfl
        rw [hx1, hx2, hx3] at hsn fin
        cases x1 with
        | false =>
          cases st with
          | false => simp (maxSteps := 5000000) [go_sem, hx1, hx2, hx3, hn1, hn2, hn3, hw_s]; exact hK (s + 1) _ _ (by omega) (by simp [upF, Fr.get, Up.refl]) ⟨by omega, hp'.trans hpb, by rw [hsn]; simp⟩
          | true =>
            cases x2 with
            | true => simp (maxSteps := 5000000) [go_sem, hx1, hx2, hx3, hn1, hn2, hn3, hw_s]; exact hK (s + 1) _ _ (by omega) (by simp [upF, Fr.get, Up.refl]) ⟨by omega, hp'.trans hpb, by rw [hsn]; simp⟩
            | false =>
              cases x3 with
              | true => simp (maxSteps := 5000000) [go_sem, hx1, hx2, hx3, hn1, hn2, hn3, hw_s]; exact hK (s + 1) _ _ (by omega) (by simp [upF, Fr.get, Up.refl]) ⟨by omega, hp'.trans hpb, by rw [hsn]; simp⟩
              | false => simp (maxSteps := 5000000) [go_sem, hx1, hx2, hx3, hn1, hn2, hn3, hw_s]; exact fin rfl
        | true =>
          cases x2 with
          | true => simp (maxSteps := 500000) [go_sem, undef, hx1, hx2, hx3, hn1, hn2, hn3, hw_s]; exact fin (by simp)
          | false =>
            cases st with
            | false => simp (maxSteps := 5000000) [go_sem, hx1, hx2, hx3, hn1, hn2, hn3, hw_s]; exact hK (s + 1) _ _ (by omega) (by simp [upF, Fr.get, Up.refl]) ⟨by omega, hp'.trans hpb, by rw [hsn]; simp⟩
            | true => simp (maxSteps := 5000000) [go_sem, hx1, hx2, hx3, hn1, hn2, hn3, hw_s]; exact hK (s + 1) _ _ (by omega) (by simp [upF, Fr.get, Up.refl]) ⟨by omega, hp'.trans hpb, by rw [hsn]; simp⟩
    · have : s = bs.length := by omega
      subst this
      rw [List.take_length] at hf
      simp (maxSteps := 1000000) [go_sem, d2]
      have := h H' (hp0.trans hp')
      rwa [hf] at this


end Go.Proofs.Ytkgjdmbmdnmilaa
