/- Part 12 of what the proof of the law FnExactIsMinimalTrade rests on: contracts of functions of the program, for every argument that each names; no statement of the seat is proved here. -/
import Derived.Test.YtdfeoccjllljiaaFnExactIsMinimalTradePart11

section
/- All subsets of some size: spec.l04Subsets, by recursion. -/
set_option linter.all false
set_option maxRecDepth 20000
set_option maxHeartbeats 8000000
namespace Go.Proofs.Ytdfeoccjllljiaa
open Go.Ab Go.Sort

theorem flat_pow {α : Type} {F : Nat → List α} {m : Nat} : ∀ (n : Nat), n ≤ m → (∀ i, i < n → (F i).length ≤ 2 ^ (m - (i + 1))) → ((List.range n).flatMap F).length + 2 ^ (m - n) ≤ 2 ^ m
  | 0, _, _ => by simp
  | n + 1, hn, h => by
    have ih := flat_pow n (by omega) fun i hi => h i (by omega)
    have h1 := h n (by omega)
    rw [List.range_succ, List.flatMap_append, List.length_append]
    simp only [List.flatMap_cons, List.flatMap_nil, List.append_nil]
    have e : 2 ^ (m - n) = 2 ^ (m - (n + 1)) + 2 ^ (m - (n + 1)) := by rw [show m - n = (m - (n + 1)) + 1 by omega, Nat.pow_succ]; omega
    omega
theorem subs_len : ∀ (k : Nat) (rest now : List Bk), (subs k rest now).length ≤ 2 ^ rest.length
  | 0, rest, now => by simp [subs]; exact Nat.one_le_two_pow
  | k + 1, rest, now => by
    simp only [subs]
    have := flat_pow (F := fun i => subs k (rest.drop (i + 1)) (now ++ (rest[i]?).toList)) (m := rest.length) (rest.length - k) (by omega) (fun i _ => by have := subs_len k (rest.drop (i + 1)) (now ++ (rest[i]?).toList); rwa [List.length_drop] at this)
    exact Nat.le_trans (Nat.le_add_right _ _) this
theorem subs_pre (k : Nat) (rest now : List Bk) (s : Nat) (hs : s ≤ rest.length) : ((List.range s).flatMap fun j => subs k (rest.drop (j + 1)) (now ++ (rest[j]?).toList)).length ≤ 2 ^ rest.length := by
  have := flat_pow (F := fun i => subs k (rest.drop (i + 1)) (now ++ (rest[i]?).toList)) (m := rest.length) s hs (fun i _ => by have := subs_len k (rest.drop (i + 1)) (now ++ (rest[i]?).toList); rwa [List.length_drop] at this)
  exact Nat.le_trans (Nat.le_add_right _ _) this

/-- A set of blocks in a block of memory from L on, but not this one. -/
def RowIn (H : Heap) (L oid : Nat) (x : Value) (s : List Bk) : Prop := ∃ i o, x = lv 3 i o s.length ∧ At H i o (tri s) ∧ s.length ≤ 140737488355328 ∧ (s ≠ [] → L ≤ i ∧ i < H.length ∧ i ≠ oid)

theorem subsets_ok : ∀ (k : Nat) {H : Heap} {u v : Value} {list now : List Bk} {L fr : Nat} (hu : BlocksAt H u list) (hv : ∃ i o, v = lv 3 i o now.length ∧ At H i o (tri now) ∧ now.length ≤ 140737488355328 ∧ (now ≠ [] → L ≤ i)) (hL : L ≤ H.length) (hfr : fr ≤ list.length)
    (hnl : now.length + k ≤ 1000) (hll : list.length ≤ 12) (hk : k ≤ 12) (Post : Value → Heap → Prop)
    (h : ∀ (H' : Heap) (id : Nat) (rows : List (Value × List Bk)), H <+: H' → H.length ≤ id → OL 1 H' id (rows.map (·.1)) rows.length → rows.map (·.2) = subs k (list.drop fr) now → (∀ r ∈ rows, RowIn H' L id r.1 r.2) → Post (lv 1 id 0 rows.length) H'),
    ACalls Try.prog 133 [u, v, .int .i64 (fr : Nat), .int .i64 (k : Nat)] H Post
  | 0, H, u, v, list, now, L, fr, hu, hv, hL, hfr, hnl, hll, hk, Post, h => by
    obtain ⟨i0, o0, rfl, hnow, hn2, hn3⟩ := hv
    refine ACalls.res ?_
    refine acalls_vc (rs := [.tmp 8]) Try.func133 rfl rfl Try.ntmps133 rfl rfl ?_
    simp (maxSteps := 1000000) [go_sem]
    have fin := h (H ++ [⟨[lv 3 i0 o0 now.length], true, true⟩]) H.length [(lv 3 i0 o0 now.length, now)] (List.prefix_append _ _) (Nat.le_refl _) ⟨by simp, .inr (by simp)⟩ rfl (by
      intro r hr
      simp at hr; subst hr
      refine ⟨i0, o0, rfl, hnow.pre (List.prefix_append _ _), hn2, fun hne => ?_⟩
      have : i0 < H.length := by
        rcases hnow with e | e
        · have := tri_length now; rw [e] at this; simp at this; exact absurd (List.eq_nil_of_length_eq_zero (show now.length = 0 by omega)) hne
        · obtain ⟨blk, hb, _⟩ := cellsAt_inv e
          exact (List.getElem?_eq_some_iff.1 hb).1
      exact ⟨hn3 hne, by simp; omega, by omega⟩)
    exact ⟨_, Up.ex (by omega) (.inr (by simp [go_sem])), fin⟩
  | k + 1, H, u, v, list, now, L, fr, hu, hv, hL, hfr, hnl, hll, hk, Post, h => by
    obtain ⟨i0, o0, rfl, hnow, hn2, hn3⟩ := hv
    obtain ⟨i, o, rfl, h1, h2⟩ := hu
    have ih := @subsets_ok k
    refine ACalls.res ?_
    refine acalls_vc (rs := [.tmp 8]) Try.func133 rfl rfl Try.ntmps133 rfl rfl ?_
    have hk1 : ¬ ((k : Int) + 1 = 0) := by omega
    have hk2 : (((k : Int) + 1) == 0) = false := by simpa using hk1
    simp (maxSteps := 1000000) [go_sem, hk1, hk2]
    have bl0 := Bl.nil 1 H
    generalize H ++ [(⟨[], true, true⟩ : Blk)] = HX at bl0 ⊢
    refine AWp.loopVc (St := Nat × Nat × List (Value × List Bk)) (fun s => [(0, lv 3 i o list.length), (1, lv 3 i0 o0 now.length), (3, .int .i64 ((k : Int) + 1)), (9, lv 1 s.2.1 0 s.2.2.length), (10, .int .i64 ((fr + s.1 : Nat) : Int))])
      (fun s H' => s.1 ≤ list.length - fr - k ∧ H <+: H' ∧ H.length ≤ s.2.1 ∧ OL 1 H' s.2.1 (s.2.2.map (·.1)) s.2.2.length ∧ s.2.2.map (·.2) = ((List.range s.1).flatMap fun j => subs k ((list.drop fr).drop (j + 1)) (now ++ ((list.drop fr)[j]?).toList)) ∧ ∀ r ∈ s.2.2, RowIn H' L s.2.1 r.1 r.2)
      (fun s => list.length - fr - k - s.1) (0, H.length, []) ?_ ?_ ?_
    · simp [upF, Fr.get, Up.refl, Up.ex0]
    · exact ⟨by simp, bl0.1, Nat.le_refl _, bl0.2.1, by simp, by simp⟩
    · rintro K ⟨s, oid, rows⟩ H' ⟨hsn, hp, hoid, hol, hrows, hrd⟩ hK
      simp only at hsn hp hoid hol hrows hrd
      have hle := hp.length_le
      obtain ⟨g, hg⟩ : ∃ g, g = fr + s := ⟨_, rfl⟩
      have hg2 : fr + (s + 1) = g + 1 := by omega
      rw [← hg]
      have hw1 : IntKind.i64.wrap ((g : Int) + ((k : Int) + 1)) = (g : Int) + ((k : Int) + 1) := i64w (by omega) (by omega)
      by_cases hlt : s < list.length - fr - k
      · have hlt' : (g : Int) + ((k : Int) + 1) ≤ list.length := by omega
        have hlt2 : g + (k + 1) ≤ list.length := by omega
        have hw2 : IntKind.i64.wrap ((g : Int) + 1) = (g : Int) + 1 := i64w (by omega) (by omega)
        have hwi := hw2
        have hwk : IntKind.i64.wrap (k : Int) = (k : Int) := i64w (by omega) (by omega)
        have hsl : g < list.length := by omega
        have hsl' : (g : Int) < list.length := by omega
        have hres0 : list[g]? = some list[g] := List.getElem?_eq_getElem hsl
        have hres : (list.drop fr)[s]? = some list[g] := by rw [List.getElem?_drop, ← hg]; exact hres0
        have c1 := (h1.pre hp).bk hres0
        have hiH : i < H'.length := by
          rcases h1 with e | e
          · have := tri_length list; rw [e] at this; simp at this; omega
          · obtain ⟨blk, hb, _⟩ := cellsAt_inv e
            have := (List.getElem?_eq_some_iff.1 hb).1
            omega
        generalize list[g] = b at *
        simp only [Bk.cells] at c1
        simp (maxSteps := 1000000) [go_sem, hw1, hlt', hlt2]
        refine AWp.drawFX (H'.length) mixed [9] [(0, false), (1, false), (3, false), (5, false), (6, false), (7, false), (8, false), (11, false), (12, false), (13, false), (14, false), (2, true), (4, true), (9, true), (10, false), (15, false), (16, false), (17, false)] (.one 0 false (.one 1 false (.one 3 false (.one 5 false (.one 6 false (.one 7 false (.one 8 false (.one 11 false (.one 12 false (.one 13 false (.one 14 false (.two 2 true (.two 4 true (.one 9 true (.one 10 false (.one 15 false (.one 16 false (.one 17 false .nil))))) 9 (.one 4 true (.one 10 false (.one 15 false (.one 16 false (.one 17 false .nil)))))) 9 (.one 2 true (.one 4 true (.one 10 false (.one 15 false (.one 16 false (.one 17 false .nil)))))))))))))))))) (by kernel_rfl) ?_
        simp (maxSteps := 1000000) [go_sem, undef, hlt', hlt2, hw1, hw2, hwk, hsl, hsl', c1]
        refine andK_intro hiH ?_
        refine vTX_two ?_ ?_
        · have hleX0 := ((List.prefix_refl H')).length_le
          have hs0 : H' <+: H' ++ [⟨[], true, true⟩] := List.prefix_append _ _
          have hkA : KeepL H'.length H' (H' ++ [⟨[], true, true⟩]) := KeepL.of_prefix hs0 (by omega)
          have hbE : (H' ++ [(⟨[], true, true⟩ : Blk)])[H'.length]? = some ⟨[], true, true⟩ := by simp
          have hlY0 : (H' ++ [(⟨[], true, true⟩ : Blk)]).length = H'.length + 1 := by simp
          try simp (maxSteps := 1000000) [go_sem, undef, hlt', hlt2, hw1, hw2, hwk, hsl, hsl', c1]
          generalize H' ++ [(⟨[], true, true⟩ : Blk)] = HS0 at *
          refine andK_intro hkA ?_
          have hleX1 := (((List.prefix_refl H').trans hs0)).length_le
          refine vTX_two ?_ ?_
          · obtain ⟨v4, HS1, hapP, hv4, hs1⟩ := emptyAppend (L := H'.length) (e := 3) (m := now.length) (news := tri now) (by omega) hbE (by omega) (by rw [tri_length])
            obtain ⟨a4, rfl⟩ := hv4.shape
            have hkB : KeepL H'.length HS0 HS1 := KeepL.of_prefix hs1 (by omega)
            have hsrc := tri_src ((hnow.pre hp).pre ((List.prefix_refl H').trans hs0))
            simp only [srcCells, List.length_eq_zero_iff] at hsrc
            simp (maxSteps := 1000000) [go_sem, undef, hlt', hlt2, hw1, hw2, hwk, hsl, hsl', c1, hkA, hkB, hsrc, hapP]
            refine andK_intro (by omega) ?_
            have hleX2 := ((((List.prefix_refl H').trans hs0).trans hs1)).length_le
            have hs2 : HS1 <+: HS1 ++ [⟨[.int .i64 b.a, .int .i64 b.b, .int .i64 b.c], true, true⟩] := List.prefix_append _ _
            have hkC : KeepL H'.length HS1 (HS1 ++ [⟨[.int .i64 b.a, .int .i64 b.b, .int .i64 b.c], true, true⟩]) := KeepL.of_prefix hs2 (by omega)
            have hcN := Holds.last HS1 [.int .i64 b.a, .int .i64 b.b, .int .i64 b.c]
            have hlY2 : (HS1 ++ [(⟨[.int .i64 b.a, .int .i64 b.b, .int .i64 b.c], true, true⟩ : Blk)]).length = HS1.length + 1 := by simp
            try simp (maxSteps := 1000000) [go_sem, undef, hlt', hlt2, hw1, hw2, hwk, hsl, hsl', c1, hkA, hkB]
            generalize HS1 ++ [(⟨[.int .i64 b.a, .int .i64 b.b, .int .i64 b.c], true, true⟩ : Blk)] = HS2 at *
            refine andK_intro hkC ?_
            replace hv4 := hv4.pre hs2
            have hleE := (((((List.prefix_refl H').trans hs0).trans hs1).trans hs2)).length_le
            have hc : cellsAt HS2 HS1.length 0 3 = some [.int .i64 b.a, .int .i64 b.b, .int .i64 b.c] := by simpa using hcN.cells (n := 3) (o := 0) (by simp)
            obtain ⟨v6, H6, hap, he6, hk6, hl6⟩ := hv4.append (m := 1) (news := [.int .i64 b.a, .int .i64 b.b, .int .i64 b.c]) (by omega) (by omega) rfl
            obtain ⟨a6, rfl⟩ := he6.shape
            have hp6 : H' <+: H6 := KeepL.prefix (((((List.prefix_refl H').trans hs0).trans hs1).trans hs2)) (Nat.le_refl _) hk6 (by omega)
            have hk6' : KeepL H'.length HS2 H6 := hk6
            have et : tri now ++ [.int .i64 b.a, .int .i64 b.b, .int .i64 b.c] = tri (now ++ [b]) := by rw [tri_append]; rfl
            rw [et] at he6
            obtain ⟨w6, hup6, hw6⟩ := (show OE 3 _ H6 _ (tri (now ++ [b])) (now ++ [b]).length by rw [List.length_append]; exact he6).blocks (by simp; omega)
            simp (maxSteps := 1000000) [go_sem, undef, hlt', hlt2, hw1, hw2, hwk, hsl, hsl', c1, hkA, hkB, hkC, hc, hap, hk6']
            refine andK_intro (by omega) ?_
            have hpp := hp.trans hp6
            have hle6 := hp6.length_le
            refine ACalls.up (args' := [lv 3 i o list.length, w6, .int .i64 ((g + 1 : Nat) : Int), .int .i64 (k : Nat)]) ⟨Up.refl _ _, hup6, by simpa using Up.refl _ _, Up.refl _ _, trivial⟩ ?_
            obtain ⟨i6, ⟨ew6, hb6, hn6⟩, hs6⟩ := hw6
            have hat6 : At H6 i6 0 (tri (now ++ [b])) := by
              rcases hb6 with e | e
              · left; rw [e]; rfl
              · exact Holds.at ⟨true, e⟩
            refine ih (list := list) (now := now ++ [b]) (L := H'.length) (fr := g + 1) ⟨i, o, rfl, h1.pre hpp, h2⟩ ⟨i6, 0, ew6, hat6, hn6, fun hne => (hs6 hne).1⟩ hle6 (by omega) (by simp; omega) hll (by omega) _ ?_
            intro H7 cid crows hp7 hcid hcol hcs hcr
            have hple7 := hp7.length_le
            have hol7 : OL 1 H7 oid (rows.map (·.1)) rows.length := hol.keep (S := fun _ => False) (Same.of_prefix (hp6.trans hp7)) (fun h => h)
            have holt := hol.lt
            have hsrcC : srcCells H7 1 (lv 1 cid 0 crows.length) = some (crows.map (·.1)) := hcol.at.src (by rw [List.length_map, Nat.mul_one]) (by omega) _
            simp only [srcCells, List.length_eq_zero_iff] at hsrcC
            have hcb := subs_len k (list.drop (g + 1)) (now ++ [b])
            rw [← hcs, List.length_map] at hcb
            have hb12 : ∀ m, m ≤ 12 → 2 ^ m ≤ 4096 := fun m hm => Nat.le_trans (Nat.pow_le_pow_right (by omega) hm) (by decide)
            have hcb2 := hb12 (list.drop (g + 1)).length (by rw [List.length_drop]; omega)
            have hrows2 : (rows ++ crows).map (·.2) = ((List.range (s + 1)).flatMap fun j => subs k ((list.drop fr).drop (j + 1)) (now ++ ((list.drop fr)[j]?).toList)) := by
              rw [List.range_succ, List.flatMap_append, List.map_append, hrows, hcs]
              simp only [List.flatMap_cons, List.flatMap_nil, List.append_nil, hres, Option.toList, List.drop_drop, hg2]
            have hrcnt : rows.length ≤ 4096 := by
              have := congrArg List.length hrows
              rw [List.length_map] at this
              rw [this]; exact Nat.le_trans (subs_pre k (list.drop fr) now s (by rw [List.length_drop]; omega)) (hb12 _ (by rw [List.length_drop]; omega))
            have oldr : ∀ {H8 : Heap} {oid8 : Nat}, Same (fun j => j = oid) H7 H8 → H7.length ≤ oid8 → ∀ r ∈ rows, RowIn H8 L oid8 r.1 r.2 := by
              intro H8 oid8 hs8 ho8 r hr
              obtain ⟨x, y, e1, e2, e3, e4⟩ := hrd r hr
              refine ⟨x, y, e1, At.keepS hs8 (e2.pre (hp6.trans hp7)) (fun hne => ?_), e3, fun hne => ?_⟩
              · have hne' : r.2 ≠ [] := by intro e; rw [e] at hne; exact hne rfl
                exact (e4 hne').2.2
              · have := e4 hne
                exact ⟨this.1, by have := hs8.1; omega, by omega⟩
            have newr : ∀ {H8 : Heap} {oid8 : Nat}, Same (fun j => j = oid) H7 H8 → H7.length ≤ oid8 → ∀ r ∈ crows, RowIn H8 L oid8 r.1 r.2 := by
              intro H8 oid8 hs8 ho8 r hr
              obtain ⟨x, y, e1, e2, e3, e4⟩ := hcr r hr
              refine ⟨x, y, e1, At.keepS hs8 e2 (fun hne => ?_), e3, fun hne => ?_⟩
              · have hne' : r.2 ≠ [] := by intro e; rw [e] at hne; exact hne rfl
                have := (e4 hne').1
                omega
              · have := e4 hne
                exact ⟨by omega, by have := hs8.1; omega, by omega⟩
            by_cases hm : crows = []
            · subst hm
              have hz : appendH H7 1 (lv 1 oid 0 rows.length) 0 [] = some (lv 1 oid 0 rows.length, H7) := by simp [appendH]
              simp only [List.append_nil] at hrows2
              simp (maxSteps := 1000000) [go_sem, undef, KeepL.of_prefix hp7, hz, hw1, hw2, hwi]
              refine andK_intro (by omega) (hK (s + 1, oid, rows) _ _ (by simp only; omega) (by simp [upF, Fr.get, Up.refl, hg2]) ⟨by simp only; omega, hpp.trans hp7, hoid, hol7, hrows2, fun r hr => ?_⟩)
              obtain ⟨x, y, e1, e2, e3, e4⟩ := hrd r hr
              exact ⟨x, y, e1, e2.pre (hp6.trans hp7), e3, fun hne => ⟨(e4 hne).1, by have := (e4 hne).2.1; omega, (e4 hne).2.2⟩⟩
            · have hm0 : 0 < crows.length := List.length_pos_iff.2 hm
              obtain ⟨H8, hap8, hol8, hsame8, hlen8⟩ := hol7.append (m := crows.length) (by omega) hm0 (news := crows.map (·.1)) (by simp)
              rw [← List.map_append, ← List.length_append] at hol8
              have hp8 : H <+: H8 := ((Same.of_prefix (hpp.trans hp7)).trans hsame8).prefix (by intro j hj e; omega)
              have hcc : cellsAt H7 cid 0 crows.length = some (crows.map (·.1)) := by
                have := hsrcC
                simp only [hm, if_false, Nat.mul_one] at this
                exact this
              simp (maxSteps := 1000000) [go_sem, undef, KeepL.of_prefix hp7, hcc, hm, hap8, hw1, hw2, hwi]
              refine andK_intro (by omega) (hK (s + 1, H7.length, rows ++ crows) _ _ (by simp only; omega) (by simp [upF, Fr.get, Up.refl, hg2]) ⟨by simp only; omega, hp8, by simp only; omega, hol8, hrows2, fun r hr => ?_⟩)
              rcases List.mem_append.1 hr with hr | hr
              · exact oldr hsame8 (Nat.le_refl _) r hr
              · exact newr hsame8 (Nat.le_refl _) r hr
          · have hs1 : HS0 <+: HS0 ++ [⟨[.int .i64 b.a, .int .i64 b.b, .int .i64 b.c], true, true⟩] := List.prefix_append _ _
            have hkB : KeepL H'.length HS0 (HS0 ++ [⟨[.int .i64 b.a, .int .i64 b.b, .int .i64 b.c], true, true⟩]) := KeepL.of_prefix hs1 (by omega)
            have hcN := Holds.last HS0 [.int .i64 b.a, .int .i64 b.b, .int .i64 b.c]
            have hlY1 : (HS0 ++ [(⟨[.int .i64 b.a, .int .i64 b.b, .int .i64 b.c], true, true⟩ : Blk)]).length = HS0.length + 1 := by simp
            try simp (maxSteps := 1000000) [go_sem, undef, hlt', hlt2, hw1, hw2, hwk, hsl, hsl', c1, hkA]
            generalize HS0 ++ [(⟨[.int .i64 b.a, .int .i64 b.b, .int .i64 b.c], true, true⟩ : Blk)] = HS1 at *
            refine andK_intro hkB ?_
            replace hbE := Same.get (S := fun _ => False) (Same.of_prefix hs1) hbE (fun h => h)
            have hleX2 := ((((List.prefix_refl H').trans hs0).trans hs1)).length_le
            obtain ⟨v4, HS2, hapP, hv4, hs2⟩ := emptyAppend (L := H'.length) (e := 3) (m := now.length) (news := tri now) (by omega) hbE (by omega) (by rw [tri_length])
            obtain ⟨a4, rfl⟩ := hv4.shape
            have hkC : KeepL H'.length HS1 HS2 := KeepL.of_prefix hs2 (by omega)
            have hsrc := tri_src ((hnow.pre hp).pre (((List.prefix_refl H').trans hs0).trans hs1))
            simp only [srcCells, List.length_eq_zero_iff] at hsrc
            simp (maxSteps := 1000000) [go_sem, undef, hlt', hlt2, hw1, hw2, hwk, hsl, hsl', c1, hkA, hkB, hkC, hsrc, hapP]
            refine andK_intro (by omega) ?_
            replace hcN := hcN.pre hs2
            have hleE := (((((List.prefix_refl H').trans hs0).trans hs1).trans hs2)).length_le
            have hc : cellsAt HS2 HS0.length 0 3 = some [.int .i64 b.a, .int .i64 b.b, .int .i64 b.c] := by simpa using hcN.cells (n := 3) (o := 0) (by simp)
            obtain ⟨v6, H6, hap, he6, hk6, hl6⟩ := hv4.append (m := 1) (news := [.int .i64 b.a, .int .i64 b.b, .int .i64 b.c]) (by omega) (by omega) rfl
            obtain ⟨a6, rfl⟩ := he6.shape
            have hp6 : H' <+: H6 := KeepL.prefix (((((List.prefix_refl H').trans hs0).trans hs1).trans hs2)) (Nat.le_refl _) hk6 (by omega)
            have hk6' : KeepL H'.length HS2 H6 := hk6
            have et : tri now ++ [.int .i64 b.a, .int .i64 b.b, .int .i64 b.c] = tri (now ++ [b]) := by rw [tri_append]; rfl
            rw [et] at he6
            obtain ⟨w6, hup6, hw6⟩ := (show OE 3 _ H6 _ (tri (now ++ [b])) (now ++ [b]).length by rw [List.length_append]; exact he6).blocks (by simp; omega)
            simp (maxSteps := 1000000) [go_sem, undef, hlt', hlt2, hw1, hw2, hwk, hsl, hsl', c1, hkA, hkB, hkC, hc, hap, hk6']
            refine andK_intro (by omega) ?_
            have hpp := hp.trans hp6
            have hle6 := hp6.length_le
            refine ACalls.up (args' := [lv 3 i o list.length, w6, .int .i64 ((g + 1 : Nat) : Int), .int .i64 (k : Nat)]) ⟨Up.refl _ _, hup6, by simpa using Up.refl _ _, Up.refl _ _, trivial⟩ ?_
            obtain ⟨i6, ⟨ew6, hb6, hn6⟩, hs6⟩ := hw6
            have hat6 : At H6 i6 0 (tri (now ++ [b])) := by
              rcases hb6 with e | e
              · left; rw [e]; rfl
              · exact Holds.at ⟨true, e⟩
            refine ih (list := list) (now := now ++ [b]) (L := H'.length) (fr := g + 1) ⟨i, o, rfl, h1.pre hpp, h2⟩ ⟨i6, 0, ew6, hat6, hn6, fun hne => (hs6 hne).1⟩ hle6 (by omega) (by simp; omega) hll (by omega) _ ?_
            intro H7 cid crows hp7 hcid hcol hcs hcr
            have hple7 := hp7.length_le
            have hol7 : OL 1 H7 oid (rows.map (·.1)) rows.length := hol.keep (S := fun _ => False) (Same.of_prefix (hp6.trans hp7)) (fun h => h)
            have holt := hol.lt
            have hsrcC : srcCells H7 1 (lv 1 cid 0 crows.length) = some (crows.map (·.1)) := hcol.at.src (by rw [List.length_map, Nat.mul_one]) (by omega) _
            simp only [srcCells, List.length_eq_zero_iff] at hsrcC
            have hcb := subs_len k (list.drop (g + 1)) (now ++ [b])
            rw [← hcs, List.length_map] at hcb
            have hb12 : ∀ m, m ≤ 12 → 2 ^ m ≤ 4096 := fun m hm => Nat.le_trans (Nat.pow_le_pow_right (by omega) hm) (by decide)
            have hcb2 := hb12 (list.drop (g + 1)).length (by rw [List.length_drop]; omega)
            have hrows2 : (rows ++ crows).map (·.2) = ((List.range (s + 1)).flatMap fun j => subs k ((list.drop fr).drop (j + 1)) (now ++ ((list.drop fr)[j]?).toList)) := by
              rw [List.range_succ, List.flatMap_append, List.map_append, hrows, hcs]
              simp only [List.flatMap_cons, List.flatMap_nil, List.append_nil, hres, Option.toList, List.drop_drop, hg2]
            have hrcnt : rows.length ≤ 4096 := by
              have := congrArg List.length hrows
              rw [List.length_map] at this
              rw [this]; exact Nat.le_trans (subs_pre k (list.drop fr) now s (by rw [List.length_drop]; omega)) (hb12 _ (by rw [List.length_drop]; omega))
            have oldr : ∀ {H8 : Heap} {oid8 : Nat}, Same (fun j => j = oid) H7 H8 → H7.length ≤ oid8 → ∀ r ∈ rows, RowIn H8 L oid8 r.1 r.2 := by
              intro H8 oid8 hs8 ho8 r hr
              obtain ⟨x, y, e1, e2, e3, e4⟩ := hrd r hr
              refine ⟨x, y, e1, At.keepS hs8 (e2.pre (hp6.trans hp7)) (fun hne => ?_), e3, fun hne => ?_⟩
              · have hne' : r.2 ≠ [] := by intro e; rw [e] at hne; exact hne rfl
                exact (e4 hne').2.2
              · have := e4 hne
                exact ⟨this.1, by have := hs8.1; omega, by omega⟩
            have newr : ∀ {H8 : Heap} {oid8 : Nat}, Same (fun j => j = oid) H7 H8 → H7.length ≤ oid8 → ∀ r ∈ crows, RowIn H8 L oid8 r.1 r.2 := by
              intro H8 oid8 hs8 ho8 r hr
              obtain ⟨x, y, e1, e2, e3, e4⟩ := hcr r hr
              refine ⟨x, y, e1, At.keepS hs8 e2 (fun hne => ?_), e3, fun hne => ?_⟩
              · have hne' : r.2 ≠ [] := by intro e; rw [e] at hne; exact hne rfl
                have := (e4 hne').1
                omega
              · have := e4 hne
                exact ⟨by omega, by have := hs8.1; omega, by omega⟩
            by_cases hm : crows = []
            · subst hm
              have hz : appendH H7 1 (lv 1 oid 0 rows.length) 0 [] = some (lv 1 oid 0 rows.length, H7) := by simp [appendH]
              simp only [List.append_nil] at hrows2
              simp (maxSteps := 1000000) [go_sem, undef, KeepL.of_prefix hp7, hz, hw1, hw2, hwi]
              refine andK_intro (by omega) (hK (s + 1, oid, rows) _ _ (by simp only; omega) (by simp [upF, Fr.get, Up.refl, hg2]) ⟨by simp only; omega, hpp.trans hp7, hoid, hol7, hrows2, fun r hr => ?_⟩)
              obtain ⟨x, y, e1, e2, e3, e4⟩ := hrd r hr
              exact ⟨x, y, e1, e2.pre (hp6.trans hp7), e3, fun hne => ⟨(e4 hne).1, by have := (e4 hne).2.1; omega, (e4 hne).2.2⟩⟩
            · have hm0 : 0 < crows.length := List.length_pos_iff.2 hm
              obtain ⟨H8, hap8, hol8, hsame8, hlen8⟩ := hol7.append (m := crows.length) (by omega) hm0 (news := crows.map (·.1)) (by simp)
              rw [← List.map_append, ← List.length_append] at hol8
              have hp8 : H <+: H8 := ((Same.of_prefix (hpp.trans hp7)).trans hsame8).prefix (by intro j hj e; omega)
              have hcc : cellsAt H7 cid 0 crows.length = some (crows.map (·.1)) := by
                have := hsrcC
                simp only [hm, if_false, Nat.mul_one] at this
                exact this
              simp (maxSteps := 1000000) [go_sem, undef, KeepL.of_prefix hp7, hcc, hm, hap8, hw1, hw2, hwi]
              refine andK_intro (by omega) (hK (s + 1, H7.length, rows ++ crows) _ _ (by simp only; omega) (by simp [upF, Fr.get, Up.refl, hg2]) ⟨by simp only; omega, hp8, by simp only; omega, hol8, hrows2, fun r hr => ?_⟩)
              rcases List.mem_append.1 hr with hr | hr
              · exact oldr hsame8 (Nat.le_refl _) r hr
              · exact newr hsame8 (Nat.le_refl _) r hr
        · have hleX0 := ((List.prefix_refl H')).length_le
          have hs0 : H' <+: H' ++ [⟨[.int .i64 b.a, .int .i64 b.b, .int .i64 b.c], true, true⟩] := List.prefix_append _ _
          have hkA : KeepL H'.length H' (H' ++ [⟨[.int .i64 b.a, .int .i64 b.b, .int .i64 b.c], true, true⟩]) := KeepL.of_prefix hs0 (by omega)
          have hcN := Holds.last H' [.int .i64 b.a, .int .i64 b.b, .int .i64 b.c]
          have hlY0 : (H' ++ [(⟨[.int .i64 b.a, .int .i64 b.b, .int .i64 b.c], true, true⟩ : Blk)]).length = H'.length + 1 := by simp
          try simp (maxSteps := 1000000) [go_sem, undef, hlt', hlt2, hw1, hw2, hwk, hsl, hsl', c1]
          rw [show H' ++ [(⟨[.int .i64 b.a, .int .i64 b.b, .int .i64 b.c], true, true⟩ : Blk), ⟨[], true, true⟩] = (H' ++ [⟨[.int .i64 b.a, .int .i64 b.b, .int .i64 b.c], true, true⟩]) ++ [⟨[], true, true⟩] by simp]
          generalize H' ++ [(⟨[.int .i64 b.a, .int .i64 b.b, .int .i64 b.c], true, true⟩ : Blk)] = HS0 at *
          refine andK_intro hkA ?_
          have hleX1 := (((List.prefix_refl H').trans hs0)).length_le
          have hs1 : HS0 <+: HS0 ++ [⟨[], true, true⟩] := List.prefix_append _ _
          have hkB : KeepL H'.length HS0 (HS0 ++ [⟨[], true, true⟩]) := KeepL.of_prefix hs1 (by omega)
          have hbE : (HS0 ++ [(⟨[], true, true⟩ : Blk)])[HS0.length]? = some ⟨[], true, true⟩ := by simp
          have hlY1 : (HS0 ++ [(⟨[], true, true⟩ : Blk)]).length = HS0.length + 1 := by simp
          try simp (maxSteps := 1000000) [go_sem, undef, hlt', hlt2, hw1, hw2, hwk, hsl, hsl', c1, hkA]
          generalize HS0 ++ [(⟨[], true, true⟩ : Blk)] = HS1 at *
          refine andK_intro hkB ?_
          rw [hlY0] at hbE
          replace hcN := hcN.pre hs1
          have hleX2 := ((((List.prefix_refl H').trans hs0).trans hs1)).length_le
          obtain ⟨v4, HS2, hapP, hv4, hs2⟩ := emptyAppend (L := H'.length) (e := 3) (m := now.length) (news := tri now) (by omega) hbE (by omega) (by rw [tri_length])
          obtain ⟨a4, rfl⟩ := hv4.shape
          have hkC : KeepL H'.length HS1 HS2 := KeepL.of_prefix hs2 (by omega)
          have hsrc := tri_src ((hnow.pre hp).pre (((List.prefix_refl H').trans hs0).trans hs1))
          simp only [srcCells, List.length_eq_zero_iff] at hsrc
          simp (maxSteps := 1000000) [go_sem, undef, hlt', hlt2, hw1, hw2, hwk, hsl, hsl', c1, hkA, hkB, hkC, hsrc, hapP]
          refine andK_intro (by omega) ?_
          replace hcN := hcN.pre hs2
          have hleE := (((((List.prefix_refl H').trans hs0).trans hs1).trans hs2)).length_le
          have hc : cellsAt HS2 H'.length 0 3 = some [.int .i64 b.a, .int .i64 b.b, .int .i64 b.c] := by simpa using hcN.cells (n := 3) (o := 0) (by simp)
          obtain ⟨v6, H6, hap, he6, hk6, hl6⟩ := hv4.append (m := 1) (news := [.int .i64 b.a, .int .i64 b.b, .int .i64 b.c]) (by omega) (by omega) rfl
          obtain ⟨a6, rfl⟩ := he6.shape
          have hp6 : H' <+: H6 := KeepL.prefix (((((List.prefix_refl H').trans hs0).trans hs1).trans hs2)) (Nat.le_refl _) hk6 (by omega)
          have hk6' : KeepL H'.length HS2 H6 := hk6
          have et : tri now ++ [.int .i64 b.a, .int .i64 b.b, .int .i64 b.c] = tri (now ++ [b]) := by rw [tri_append]; rfl
          rw [et] at he6
          obtain ⟨w6, hup6, hw6⟩ := (show OE 3 _ H6 _ (tri (now ++ [b])) (now ++ [b]).length by rw [List.length_append]; exact he6).blocks (by simp; omega)
          simp (maxSteps := 1000000) [go_sem, undef, hlt', hlt2, hw1, hw2, hwk, hsl, hsl', c1, hkA, hkB, hkC, hc, hap, hk6']
          refine andK_intro (by omega) ?_
          have hpp := hp.trans hp6
          have hle6 := hp6.length_le
          refine ACalls.up (args' := [lv 3 i o list.length, w6, .int .i64 ((g + 1 : Nat) : Int), .int .i64 (k : Nat)]) ⟨Up.refl _ _, hup6, by simpa using Up.refl _ _, Up.refl _ _, trivial⟩ ?_
          obtain ⟨i6, ⟨ew6, hb6, hn6⟩, hs6⟩ := hw6
          have hat6 : At H6 i6 0 (tri (now ++ [b])) := by
            rcases hb6 with e | e
            · left; rw [e]; rfl
            · exact Holds.at ⟨true, e⟩
          refine ih (list := list) (now := now ++ [b]) (L := H'.length) (fr := g + 1) ⟨i, o, rfl, h1.pre hpp, h2⟩ ⟨i6, 0, ew6, hat6, hn6, fun hne => (hs6 hne).1⟩ hle6 (by omega) (by simp; omega) hll (by omega) _ ?_
          intro H7 cid crows hp7 hcid hcol hcs hcr
          have hple7 := hp7.length_le
          have hol7 : OL 1 H7 oid (rows.map (·.1)) rows.length := hol.keep (S := fun _ => False) (Same.of_prefix (hp6.trans hp7)) (fun h => h)
          have holt := hol.lt
          have hsrcC : srcCells H7 1 (lv 1 cid 0 crows.length) = some (crows.map (·.1)) := hcol.at.src (by rw [List.length_map, Nat.mul_one]) (by omega) _
          simp only [srcCells, List.length_eq_zero_iff] at hsrcC
          have hcb := subs_len k (list.drop (g + 1)) (now ++ [b])
          rw [← hcs, List.length_map] at hcb
          have hb12 : ∀ m, m ≤ 12 → 2 ^ m ≤ 4096 := fun m hm => Nat.le_trans (Nat.pow_le_pow_right (by omega) hm) (by decide)
          have hcb2 := hb12 (list.drop (g + 1)).length (by rw [List.length_drop]; omega)
          have hrows2 : (rows ++ crows).map (·.2) = ((List.range (s + 1)).flatMap fun j => subs k ((list.drop fr).drop (j + 1)) (now ++ ((list.drop fr)[j]?).toList)) := by
            rw [List.range_succ, List.flatMap_append, List.map_append, hrows, hcs]
            simp only [List.flatMap_cons, List.flatMap_nil, List.append_nil, hres, Option.toList, List.drop_drop, hg2]
          have hrcnt : rows.length ≤ 4096 := by
            have := congrArg List.length hrows
            rw [List.length_map] at this
            rw [this]; exact Nat.le_trans (subs_pre k (list.drop fr) now s (by rw [List.length_drop]; omega)) (hb12 _ (by rw [List.length_drop]; omega))
          have oldr : ∀ {H8 : Heap} {oid8 : Nat}, Same (fun j => j = oid) H7 H8 → H7.length ≤ oid8 → ∀ r ∈ rows, RowIn H8 L oid8 r.1 r.2 := by
            intro H8 oid8 hs8 ho8 r hr
            obtain ⟨x, y, e1, e2, e3, e4⟩ := hrd r hr
            refine ⟨x, y, e1, At.keepS hs8 (e2.pre (hp6.trans hp7)) (fun hne => ?_), e3, fun hne => ?_⟩
            · have hne' : r.2 ≠ [] := by intro e; rw [e] at hne; exact hne rfl
              exact (e4 hne').2.2
            · have := e4 hne
              exact ⟨this.1, by have := hs8.1; omega, by omega⟩
          have newr : ∀ {H8 : Heap} {oid8 : Nat}, Same (fun j => j = oid) H7 H8 → H7.length ≤ oid8 → ∀ r ∈ crows, RowIn H8 L oid8 r.1 r.2 := by
            intro H8 oid8 hs8 ho8 r hr
            obtain ⟨x, y, e1, e2, e3, e4⟩ := hcr r hr
            refine ⟨x, y, e1, At.keepS hs8 e2 (fun hne => ?_), e3, fun hne => ?_⟩
            · have hne' : r.2 ≠ [] := by intro e; rw [e] at hne; exact hne rfl
              have := (e4 hne').1
              omega
            · have := e4 hne
              exact ⟨by omega, by have := hs8.1; omega, by omega⟩
          by_cases hm : crows = []
          · subst hm
            have hz : appendH H7 1 (lv 1 oid 0 rows.length) 0 [] = some (lv 1 oid 0 rows.length, H7) := by simp [appendH]
            simp only [List.append_nil] at hrows2
            simp (maxSteps := 1000000) [go_sem, undef, KeepL.of_prefix hp7, hz, hw1, hw2, hwi]
            refine andK_intro (by omega) (hK (s + 1, oid, rows) _ _ (by simp only; omega) (by simp [upF, Fr.get, Up.refl, hg2]) ⟨by simp only; omega, hpp.trans hp7, hoid, hol7, hrows2, fun r hr => ?_⟩)
            obtain ⟨x, y, e1, e2, e3, e4⟩ := hrd r hr
            exact ⟨x, y, e1, e2.pre (hp6.trans hp7), e3, fun hne => ⟨(e4 hne).1, by have := (e4 hne).2.1; omega, (e4 hne).2.2⟩⟩
          · have hm0 : 0 < crows.length := List.length_pos_iff.2 hm
            obtain ⟨H8, hap8, hol8, hsame8, hlen8⟩ := hol7.append (m := crows.length) (by omega) hm0 (news := crows.map (·.1)) (by simp)
            rw [← List.map_append, ← List.length_append] at hol8
            have hp8 : H <+: H8 := ((Same.of_prefix (hpp.trans hp7)).trans hsame8).prefix (by intro j hj e; omega)
            have hcc : cellsAt H7 cid 0 crows.length = some (crows.map (·.1)) := by
              have := hsrcC
              simp only [hm, if_false, Nat.mul_one] at this
              exact this
            simp (maxSteps := 1000000) [go_sem, undef, KeepL.of_prefix hp7, hcc, hm, hap8, hw1, hw2, hwi]
            refine andK_intro (by omega) (hK (s + 1, H7.length, rows ++ crows) _ _ (by simp only; omega) (by simp [upF, Fr.get, Up.refl, hg2]) ⟨by simp only; omega, hp8, by simp only; omega, hol8, hrows2, fun r hr => ?_⟩)
            rcases List.mem_append.1 hr with hr | hr
            · exact oldr hsame8 (Nat.le_refl _) r hr
            · exact newr hsame8 (Nat.le_refl _) r hr
      · have : s = list.length - fr - k := by omega
        subst this
        have hlt' : ¬ ((g : Int) + ((k : Int) + 1) ≤ list.length) := by omega
        have hlt2 : ¬ (g + (k + 1) ≤ list.length) := by omega
        have fin := h H' oid rows hp hoid hol (by rw [hrows]; simp only [subs, List.length_drop]) hrd
        simp (maxSteps := 1000000) [go_sem, hw1, hlt', hlt2]
        exact ⟨_, Up.refl _ _, fin⟩

end Go.Proofs.Ytdfeoccjllljiaa
end

section
/- The first part of a trade: the specification's l04Part, IsMinimalTrade. -/
set_option linter.all false
set_option maxRecDepth 20000
set_option maxHeartbeats 8000000
namespace Go.Proofs.Ytdfeoccjllljiaa
open Go.Ab Go.Sort

theorem find_at {α : Type} {l : List α} {p : α → Bool} {t : Nat} (ht : t < l.length) (hb : ∀ j (hj : j < l.length), j < t → p l[j] = false) (h : p l[t] = true) : l.find? p = some l[t] := by
  rw [List.find?_eq_some_iff_getElem]
  exact ⟨h, t, ht, rfl, fun j hj => by simp [hb j (by omega) hj]⟩
theorem sub_sorted {p : Int} {x s : List Bk} (h : IsSys p x) (hs : s.Sublist x) : sortB s = s := by
  have hp : x.Pairwise (fun a b => before b a = false) := by have := sortB_sorted _ x rfl; rwa [sys_sort h] at this
  exact (sort_uniq (List.Perm.refl _) (hp.sublist hs)).symm

theorem l04Part_ok {H : Heap} {u w : Value} {p q : Int} {o i : List Bk} (hu : BlocksAt H u o) (hw : BlocksAt H w i) (hS : IsSys q o) (hT : IsSys q i) (hl : o.length ≤ 12) (Post : Value → Heap → Prop)
    (h : ∀ H' a b, H <+: H' → BlocksAt H' a (partP o i).1 → BlocksAt H' b (partP o i).2 → Post (tradeV p a b) H') : ACalls Try.prog 73 [tradeV p u w] H Post := by
  have ou := hu.one
  have ow := hw.one
  have hi35 := hT.2.1
  refine acalls_vc (rs := [.cell 2 30]) Try.func73 rfl rfl Try.ntmps73 rfl rfl ?_
  simp (maxSteps := 1000000) [go_sem, tradeV, ou, ow]
  have hp0 : H <+: H ++ [⟨[.int .i64 p, u, w], true, true⟩, ⟨[.int .i64 0, .slice none 0 0, .slice none 0 0], true, true⟩] := List.prefix_append _ _
  have hx0 : Holds (H ++ [(⟨[.int .i64 p, u, w], true, true⟩ : Blk), ⟨[.int .i64 0, .slice none 0 0, .slice none 0 0], true, true⟩]) H.length [.int .i64 p, u, w] := ⟨true, by simp⟩
  have hb0 : (H ++ [(⟨[.int .i64 p, u, w], true, true⟩ : Blk), ⟨[.int .i64 0, .slice none 0 0, .slice none 0 0], true, true⟩])[H.length + 1]? = some ⟨[.int .i64 0, .slice none 0 0, .slice none 0 0], true, true⟩ := by simp
  have hlen : (H ++ [(⟨[.int .i64 p, u, w], true, true⟩ : Blk), ⟨[.int .i64 0, .slice none 0 0, .slice none 0 0], true, true⟩]).length = H.length + 2 := by simp
  generalize H ++ [(⟨[.int .i64 p, u, w], true, true⟩ : Blk), ⟨[.int .i64 0, .slice none 0 0, .slice none 0 0], true, true⟩] = H0 at hp0 hx0 hb0 hlen ⊢
  obtain ⟨uj, uq, eu, hu1, hu2⟩ : ∃ j q, u = lv 3 j q o.length ∧ At H j q (tri o) ∧ o.length ≤ 140737488355328 := hu
  subst eu
  have hu : BlocksAt H (lv 3 uj uq o.length) o := ⟨uj, uq, rfl, hu1, hu2⟩
  refine AWp.loopVc (St := Nat) (fun s => [(1, .pointer (some ⟨H.length, 0, none⟩)), (2, .pointer (some ⟨H.length + 1, 0, none⟩)), (3, .int .i64 ((s : Int) + 1))])
    (fun s H' => s ≤ o.length ∧ H0 <+: H' ∧ ∀ k, k < s → findP i (k + 1) o [] = none) (fun s => o.length - s) 0 ?_ ?_ ?_
  · simp [upF, Fr.get, Up.refl]
  · exact ⟨by omega, List.prefix_refl _, fun k hk => by omega⟩
  · rintro K s H' ⟨hs, hp, hbef⟩ hK
    obtain ⟨d0, d1, d2, d3⟩ := (hx0.pre hp).tr
    by_cases hlt : s + 1 < o.length
    · have hlt' : (s : Int) + 1 < o.length := by omega
      have ws : IntKind.i64.wrap ((s : Int) + 1 + 1) = (s : Int) + 1 + 1 := i64w (by omega) (by omega)
      simp (maxSteps := 1000000) [go_sem, hlt, hlt', d0, d1, d2, d3]
      have hpE : H' <+: H' ++ [⟨[], true, true⟩] := List.prefix_append _ _
      generalize H' ++ [(⟨[], true, true⟩ : Blk)] = HE at hpE ⊢
      have hpE0 := hp.trans hpE
      have hleE := hpE.length_le
      refine ACalls.up (args' := [lv 3 uj uq o.length, lv 3 H'.length 0 0, .int .i64 ((0 : Nat) : Int), .int .i64 ((s + 1 : Nat) : Int)]) ⟨Up.refl _ _, Up.ex0 _ _ _ _ _ _, by simpa using Up.refl _ _, by simpa using Up.refl _ _, trivial⟩ ?_
      refine subsets_ok (s + 1) (list := o) (now := []) (L := H'.length) (fr := 0) (hu.pre (hp0.trans hpE0)) ⟨H'.length, 0, rfl, .inl rfl, by simp, fun h => absurd rfl h⟩ hleE (by omega) (by simp; omega) hl (by omega) _ ?_
      intro H2 rid rows hp2 hrid hrol hrs hrr
      rw [List.drop_zero] at hrs
      have hp02 := hpE0.trans hp2
      have hrl : rows.length = (subs (s + 1) o []).length := by rw [← hrs, List.length_map]
      have hrb : rows.length ≤ 4096 := by
        rw [hrl]; exact Nat.le_trans (subs_len _ _ _) (Nat.le_trans (Nat.pow_le_pow_right (by omega) hl) (by decide))
      simp (maxSteps := 1000000) [go_sem]
      refine AWp.loopVc (St := Nat) (fun t => [(1, .pointer (some ⟨H.length, 0, none⟩)), (2, .pointer (some ⟨H.length + 1, 0, none⟩)), (3, .int .i64 ((s : Int) + 1)), (4, lv 1 rid 0 rows.length), (5, .int .i64 t)])
        (fun t H3 => t ≤ rows.length ∧ H2 <+: H3 ∧ ∀ j (hj : j < (subs (s + 1) o []).length), j < t → okS i (subs (s + 1) o [])[j] = false) (fun t => rows.length - t) 0 ?_ ?_ ?_
      · simp [upF, Fr.get, Up.refl]
      · exact ⟨by omega, List.prefix_refl _, fun j hj h => by omega⟩
      · rintro K2 t H3 ⟨ht, hp3, hno⟩ hK2
        have hp03 := hp02.trans hp3
        obtain ⟨d0, d1, d2, d3⟩ := (hx0.pre hp03).tr
        by_cases hlt2 : t < rows.length
        · have hw_t : IntKind.i64.wrap ((t : Int) + 1) = (t : Int) + 1 := i64w (by omega) (by omega)
          have hlt2' : (t : Int) < rows.length := by omega
          have hlt3 : t < (subs (s + 1) o []).length := by omega
          have es : (subs (s + 1) o [])[t] = rows[t].2 := by simp only [← hrs, List.getElem_map]
          obtain ⟨ri, ro, er, hrat, hrlen, _⟩ := hrr _ (List.getElem_mem hlt2)
          have c1 : cellsAt H3 rid t 1 = some [lv 3 ri ro rows[t].2.length] := by
            have := (hrol.at.pre hp3).cell (k := t) (v := rows[t].1) (by simp [hlt2])
            rw [er] at this
            simpa using this
          have hfs := fun (h : okS i (subs (s + 1) o [])[t] = true) => find_at (p := okS i) hlt3 hno h
          obtain ⟨st, hst1, hst2, hst3⟩ := subs_sub (s + 1) o [] _ (List.getElem_mem hlt3)
          rw [es] at hfs hst1
          rw [List.nil_append] at hst1
          have hrs3 : BlocksAt H3 (lv 3 ri ro rows[t].2.length) rows[t].2 := ⟨ri, ro, rfl, hrat.pre hp3, hrlen⟩
          have hno2 : okS i rows[t].2 = false → ∀ j (hj : j < (subs (s + 1) o []).length), j < t + 1 → okS i (subs (s + 1) o [])[j] = false := by
            intro he j hj hjt
            by_cases e : j = t
            · subst e; rw [es]; exact he
            · exact hno j hj (by omega)
          generalize rows[t].2 = sx at *
          have hst4 := hst1.symm
          subst hst4
          have hsg : ∀ x ∈ st, good 15 x = true := fun x hx => hS.good15 x (hst2.subset hx)
          simp (maxSteps := 1000000) [go_sem, hlt2]
          refine AWp.draw mixed [(0, false), (1, false), (2, false), (3, false), (4, false), (5, false), (6, false), (7, false)] (by kernel_rfl) ?_
          simp (maxSteps := 1000000) [go_sem, hlt2, hlt2', d0, d1, d2, d3, c1]
          refine l04Inner_ok hrs3 (hw.pre (hp0.trans hp03)) hsg hT.good15 (by omega) (by omega) _ ?_
          intro H4 v4 hp4 hv4
          have hp04 := hp03.trans hp4
          obtain ⟨d0, d1, d2, d3⟩ := (hx0.pre hp04).tr
          have c2 := cellsAt_mono hp4 c1
          have hv4r := hv4.read
          obtain ⟨vj, vq, ev, _, _⟩ : ∃ j q, v4 = lv 3 j q (innerB i st).length ∧ At H4 j q (tri (innerB i st)) ∧ (innerB i st).length ≤ 140737488355328 := hv4r
          subst ev
          have eok : okS i st = decide ((innerB i st).length = s + 1) := by unfold okS; rw [hst3]
          have hil : (innerB i st).length ≤ i.length := innerB_le _ _
          by_cases hin : (innerB i st).length = s + 1
          · have hin' : (((innerB i st).length : Int) == (s : Int) + 1) = true := by rw [hin]; simp
            have hin2 : ((innerB i st).length : Int) = (s : Int) + 1 := by omega
            have ee : partP o i = (st, innerB i st) := by
              unfold partP
              rw [findS_some hbef (hfs (by rw [eok]; exact decide_eq_true hin)) (by omega)]
            simp (maxSteps := 1000000) [go_sem, hin', hin2]
            refine AWp.draw mixed [(0, false), (1, false), (2, false), (3, false), (4, false), (5, false), (6, false), (7, false), (8, false)] (by kernel_rfl) ?_
            simp (maxSteps := 1000000) [go_sem, hlt2, hlt2', d0, d1, d2, d3, c2]
            refine l04Made_ok (hrs3.pre hp4) hv4.read (by have := hst2.length_le; omega) (by omega) _ ?_
            intro H5 a b hp5 hab
            rw [sub_sorted hS hst2, sub_sorted hT (show (innerB i st).Sublist i from List.filter_sublist)] at hab
            obtain ⟨a1, a2⟩ := hab.read.one
            obtain ⟨q1, q2, q3, q4⟩ := put3 (cs := [.int .i64 p, a, b]) hp0 (show H.length ≤ H.length + 1 by omega) hb0 rfl (hp04.trans hp5) rfl (by simp [a1, a2, one_int])
            have hle04 := hp04.length_le
            have hab2 := hab.keep q4 (fun j hj e => by have := hj.1; omega)
            have fin := h _ a b q3 (by rw [ee]; exact hab2.read.1) (by rw [ee]; exact hab2.read.2)
            simp (maxSteps := 1000000) [go_sem, tradeV, hp5, q1, q2]
            exact fin
          · have hin' : (((innerB i st).length : Int) == (s : Int) + 1) = false := by rw [beq_eq_false_iff_ne]; omega
            have hin2 : ¬ ((innerB i st).length : Int) = (s : Int) + 1 := by omega
            simp (maxSteps := 1000000) [go_sem, hin', hin2, hw_t]
            exact hK2 (t + 1) _ _ (by omega) (by simp [upF, Fr.get, Up.refl]) ⟨by omega, hp3.trans hp4, hno2 (by rw [eok]; exact decide_eq_false hin)⟩
        · have : t = rows.length := by omega
          have fnone : findP i (s + 1) o [] = none := by
            unfold findP
            rw [List.find?_eq_none]
            intro x hx
            obtain ⟨j, hj, rfl⟩ := List.mem_iff_getElem.1 hx
            rw [hno j hj (by omega)]; simp
          have hlt2' : ¬ (t : Int) < rows.length := by omega
          simp (maxSteps := 1000000) [go_sem, hlt2, hlt2', ws]
          refine hK (s + 1) _ _ (by omega) (by simp [upF, Fr.get, Up.refl]) ⟨by omega, hp03, fun k hk => ?_⟩
          by_cases hks : k = s
          · subst hks; exact fnone
          · exact hbef k (by omega)
    · have hlt' : ¬ ((s : Int) + 1 < o.length) := by omega
      have e : partP o i = (o, i) := by
        unfold partP
        rw [findS_none fun k hk => hbef k (by omega)]
      obtain ⟨q1, q2, q3, q4⟩ := put3 (cs := [.int .i64 p, lv 3 uj uq o.length, w]) hp0 (show H.length ≤ H.length + 1 by omega) hb0 rfl hp rfl (by simp [ow, one_int]; rfl)
      have fin := h _ (lv 3 uj uq o.length) w q3 (by rw [e]; exact hu.pre q3) (by rw [e]; exact hw.pre q3)
      simp (maxSteps := 1000000) [go_sem, hlt, hlt', tradeV, d0, d1, d2, d3, q1, q2]
      exact fin

theorem specIsMinimal_ok {H : Heap} {u w : Value} {p : Int} {o i : List Bk} (ht : TradeAt H u w o i) (hl : o.length ≤ 1048576 ∧ i.length ≤ 1048576) (Post : Value → Heap → Prop)
    (h : ∀ H', H <+: H' → Post (.tuple #[.bool (rMin p o i).1, .int .i64 (rMin p o i).2]) H') : ACalls Try.prog 18 [tradeV p u w] H Post := by
  obtain ⟨ou, ow⟩ := ht.one
  refine acalls_vc (rs := [.tmp 2, .tmp 3]) Try.func18 rfl rfl Try.ntmps18 rfl rfl ?_
  simp (maxSteps := 1000000) [go_sem, tradeV, ou, ow]
  have hp0 : H <+: H ++ [⟨[.int .i64 p, u, w], true, true⟩] := List.prefix_append _ _
  have hx0 := Holds.last H [.int .i64 p, u, w]
  generalize H ++ [(⟨[.int .i64 p, u, w], true, true⟩ : Blk)] = H0 at hp0 hx0 ⊢
  refine l04Is_ok (ht.1.pre hp0) (ht.2.pre hp0) hl.1 hl.2 _ ?_
  intro H1 hp1
  obtain ⟨d0, d1, d2, d3⟩ := (hx0.pre hp1).tr
  cases hs : tradeB p o i with
  | false =>
    have fin := h H1 (hp0.trans hp1)
    simp only [rMin, hs, Bool.false_eq_true, if_false] at fin
    simp (maxSteps := 1000000) [go_sem]
    exact fin
  | true =>
    obtain ⟨hS1, hS2⟩ := tradeB_sys hs
    have hu1 := ht.1.pre (hp0.trans hp1)
    have hw1 := ht.2.pre (hp0.trans hp1)
    obtain ⟨j, q, rfl, h1, h2⟩ := hu1
    by_cases hlen : o.length ≤ 12
    · have hlen' : ¬ ((12 : Int) < o.length) := by omega
      have hlen2 : ¬ (12 < o.length) := by omega
      simp (maxSteps := 1000000) [go_sem, d1, d2, d3, hlen', hlen2]
      refine AWp.draw mixed [(0, false), (1, false), (2, false), (3, false), (4, false), (5, false), (9, false), (10, false), (11, false), (6, true), (7, false), (8, false), (12, false), (13, false), (14, false), (15, false)] (by kernel_rfl) ?_
      by_cases h0 : 0 < o.length
      · have h0' : (0 : Int) < o.length := by omega
        have hne : o ≠ [] := by rintro rfl; simp at h0
        simp (maxSteps := 1000000) [go_sem, undef, d0, d1, d2, d3, h0, h0', hne]
        refine l04Part_ok ⟨j, q, rfl, h1, h2⟩ hw1 hS1 hS2 hlen _ ?_
        intro H2 a b hp2 ha hb
        obtain ⟨d0, d1, d2, d3⟩ := (hx0.pre (hp1.trans hp2)).tr
        obtain ⟨ja, qa, rfl, _, _⟩ := ha
        have fin := h H2 (hp0.trans (hp1.trans hp2))
        simp only [rMin, hs, if_true, if_pos hlen] at fin
        generalize (partP o i).1.length = n at *
        have ed : ((n : Int) == (o.length : Int)) = decide (n = o.length) := by
          by_cases e : n = o.length <;> simp [e]; omega
        rw [decide_eq_true h0, Bool.true_and] at fin
        simp (maxSteps := 1000000) [go_sem, undef, partV, tradeV, hp2, d0, d1, d2, d3, h0, h0', hne, ed]
        first | exact fin | (rw [ed]; exact fin)
      · have hne : o = [] := by cases o <;> simp_all
        subst hne
        have fin := h H1 (hp0.trans hp1)
        simp only [rMin, hs, if_true] at fin
        simp (maxSteps := 1000000) [go_sem, undef, d0, d1, d2, d3]
        simpa using fin
    · have hlen' : ((12 : Int) < o.length) := by omega
      have hlen2 : (12 < o.length) := by omega
      have fin := h H1 (hp0.trans hp1)
      simp only [rMin, hs, if_true, if_neg hlen] at fin
      simp (maxSteps := 1000000) [go_sem, d1, d2, d3, hlen', hlen2]
      exact fin

end Go.Proofs.Ytdfeoccjllljiaa
end

section
/- The law on IsMinimalTrade, in abstract terms: its code returns true, for every input. -/
set_option linter.all false
set_option maxRecDepth 20000
set_option maxHeartbeats 8000000
namespace Go.Proofs.Ytdfeoccjllljiaa
open Go.Ab

theorem lawFnExactIsMinimalTrade (H : Heap) (avs : List Value) (h : argsSay [shTrade] H avs) : ACalls Try.prog 3 avs H fun v _ => v = .bool true := by
  obtain ⟨_, _, rfl, a0, rfl⟩ := h
  obtain ⟨p0, u0, y0, o0, i0, rfl, hp00, hz0⟩ := says_shTrade a0
  have one0 : u0.oneCell' = true := by obtain ⟨⟨i, o, rfl, _⟩, _⟩ := hz0; rfl
  have two0 : y0.oneCell' = true := by obtain ⟨_, ⟨i, o, rfl, _⟩⟩ := hz0; rfl
  refine acalls_vc (rs := [.tmp 2]) Try.func3 rfl rfl Try.ntmps3 rfl rfl ?_
  try simp (maxSteps := 1000000) [go_sem, one0, sysV, tradeV, two0]
  have hp1 : H <+: H ++ [(⟨[.int .i64 p0, u0, y0], true, true⟩ : Blk)] := List.prefix_append _ _
  have bx0 : Holds (H ++ [(⟨[.int .i64 p0, u0, y0], true, true⟩ : Blk)]) (H.length) [.int .i64 p0, u0, y0] := ⟨true, by simp⟩
  have hbH1 : (H ++ [(⟨[.int .i64 p0, u0, y0], true, true⟩ : Blk)]).length = H.length + 1 := by simp
  generalize H ++ [(⟨[.int .i64 p0, u0, y0], true, true⟩ : Blk)] = H1 at hp1 hbH1 bx0 ⊢
  have hlH1 := hp1.length_le
  have qz0 := hp1
  obtain ⟨d0a, d0b, d0c, d0d⟩ := bx0.tr
  refine szTrade0_ok (hz0.pre qz0) (by omega) (by omega) _ ?_
  intro H2 hp2
  replace bx0 := bx0.pre hp2
  replace qz0 := qz0.trans hp2
  have hlH2 := hp2.length_le
  obtain ⟨d0a, d0b, d0c, d0d⟩ := bx0.tr
  by_cases hbig0 : (1048576 : Int) < o0.length
  · simp (maxSteps := 1000000) [go_sem, hbig0, one0, sysV, tradeV, two0]
  by_cases hbih0 : (1048576 : Int) - o0.length < i0.length
  · simp (maxSteps := 1000000) [go_sem, hbig0, hbih0, one0, sysV, tradeV, two0]
  have hneg0 : decide ((1048576 : Int) - o0.length - i0.length < 0) = false := by simp; omega
  have hl0 : o0.length ≤ 1048576 ∧ i0.length ≤ 1048576 := by omega
  have hq0 := hz0.at hl0
  try simp (maxSteps := 1000000) [go_sem, hbig0, hbih0, hneg0, one0, sysV, tradeV, two0, d0a, d0b, d0c, d0d]
  refine toTr_ok (hq0.pre qz0) hl0 _ ?_
  intro H3 wo3 yo3 hp3 hoo3
  replace bx0 := bx0.pre hp3
  replace qz0 := qz0.trans hp3
  have hlH3 := hp3.length_le
  obtain ⟨d0a, d0b, d0c, d0d⟩ := bx0.tr
  try simp (maxSteps := 1000000) [go_sem, hbig0, hbih0, hneg0, one0, sysV, tradeV, two0, d0a, d0b, d0c, d0d]
  refine specIsMinimal_ok hoo3.read hl0 _ ?_
  intro H4  hp4 
  replace bx0 := bx0.pre hp4
  replace hoo3 := hoo3.pre hp4
  replace qz0 := qz0.trans hp4
  have hlH4 := hp4.length_le
  obtain ⟨d0a, d0b, d0c, d0d⟩ := bx0.tr
  try simp (maxSteps := 1000000) [go_sem, hbig0, hbih0, hneg0, one0, sysV, tradeV, two0, d0a, d0b, d0c, d0d]
  refine toTr_ok (hq0.pre qz0) hl0 _ ?_
  intro H5 wo5 yo5 hp5 hoo5
  replace bx0 := bx0.pre hp5
  replace hoo3 := hoo3.pre hp5
  replace qz0 := qz0.trans hp5
  have hlH5 := hp5.length_le
  obtain ⟨d0a, d0b, d0c, d0d⟩ := bx0.tr
  have one_o5 : wo5.oneCell' = true := hoo5.read.one.1
  have two_o5 : yo5.oneCell' = true := hoo5.read.one.2
  try simp (maxSteps := 1000000) [go_sem, hbig0, hbih0, hneg0, one0, one_o5, sysV, tradeV, two0, two_o5, d0a, d0b, d0c, d0d]
  have bxo5 := Holds.last H5 [.int .i64 p0, wo5, yo5]
  have hp6 : H5 <+: H5 ++ [(⟨[.int .i64 p0, wo5, yo5], true, true⟩ : Blk)] := List.prefix_append _ _
  have hbH6 : (H5 ++ [(⟨[.int .i64 p0, wo5, yo5], true, true⟩ : Blk)]).length = H5.length + 1 := by simp
  generalize H5 ++ [(⟨[.int .i64 p0, wo5, yo5], true, true⟩ : Blk)] = H6 at bxo5 hp6 hbH6 ⊢
  replace bx0 := bx0.pre hp6
  replace hoo3 := hoo3.pre hp6
  replace hoo5 := hoo5.pre hp6
  replace qz0 := qz0.trans hp6
  have hlH6 := hp6.length_le
  obtain ⟨d0a, d0b, d0c, d0d⟩ := bx0.tr
  obtain ⟨eo5a, eo5b, eo5c, eo5d⟩ := bxo5.tr
  try simp (maxSteps := 1000000) [go_sem, hbig0, hbih0, hneg0, one0, one_o5, sysV, tradeV, two0, two_o5, d0a, d0b, d0c, d0d, eo5a, eo5b, eo5c, eo5d]
  refine implIsMinimal_ok hoo5.read hl0 _ ?_
  intro H7  hp7 
  replace bx0 := bx0.pre hp7
  replace bxo5 := bxo5.pre hp7
  replace hoo3 := hoo3.pre hp7
  replace hoo5 := hoo5.pre hp7
  replace qz0 := qz0.trans hp7
  have hlH7 := hp7.length_le
  obtain ⟨d0a, d0b, d0c, d0d⟩ := bx0.tr
  obtain ⟨eo5a, eo5b, eo5c, eo5d⟩ := bxo5.tr
  try simp (maxSteps := 1000000) [go_sem, hbig0, hbih0, hneg0, one0, one_o5, sysV, tradeV, two0, two_o5, d0a, d0b, d0c, d0d, eo5a, eo5b, eo5c, eo5d]
  refine AWp.draw mixed [(0, false), (1, false), (2, true), (3, false), (4, false)] (by kernel_rfl) ?_
  try simp (maxSteps := 1000000) [go_sem, hbig0, hbih0, hneg0, one0, one_o5, sysV, tradeV, two0, two_o5, d0a, d0b, d0c, d0d, eo5a, eo5b, eo5c, eo5d]
  refine toTr_ok (hq0.pre qz0) hl0 _ ?_
  intro H8 wo8 yo8 hp8 hoo8
  replace bx0 := bx0.pre hp8
  replace bxo5 := bxo5.pre hp8
  replace hoo3 := hoo3.pre hp8
  replace hoo5 := hoo5.pre hp8
  replace qz0 := qz0.trans hp8
  have hlH8 := hp8.length_le
  obtain ⟨d0a, d0b, d0c, d0d⟩ := bx0.tr
  obtain ⟨eo5a, eo5b, eo5c, eo5d⟩ := bxo5.tr
  try simp (maxSteps := 1000000) [go_sem, hbig0, hbih0, hneg0, hp8, one0, one_o5, sysV, tradeV, two0, two_o5, d0a, d0b, d0c, d0d, eo5a, eo5b, eo5c, eo5d]
  refine eqTrade_ok hoo5.read hoo8.read _ ?_
  intro H9 hp9
  replace bx0 := bx0.pre hp9
  replace bxo5 := bxo5.pre hp9
  replace hoo3 := hoo3.pre hp9
  replace hoo5 := hoo5.pre hp9
  replace hoo8 := hoo8.pre hp9
  replace qz0 := qz0.trans hp9
  have hlH9 := hp9.length_le
  obtain ⟨d0a, d0b, d0c, d0d⟩ := bx0.tr
  obtain ⟨eo5a, eo5b, eo5c, eo5d⟩ := bxo5.tr
  try simp (maxSteps := 1000000) [go_sem, hbig0, hbih0, hneg0, hp8, one0, one_o5, sysV, tradeV, two0, two_o5, d0a, d0b, d0c, d0d, eo5a, eo5b, eo5c, eo5d]

end Go.Proofs.Ytdfeoccjllljiaa
end
