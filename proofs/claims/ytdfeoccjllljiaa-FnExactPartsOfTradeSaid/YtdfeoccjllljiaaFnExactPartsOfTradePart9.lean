/- Part 9 of what the proof of the law FnExactPartsOfTrade rests on: contracts of functions of the program, for every argument that each names; no statement of the seat is proved here. -/
import Derived.Test.YtdfeoccjllljiaaFnExactPartsOfTradePart8

section
/- The first part of a trade: impl.partOf, by recursion. -/
set_option linter.all false
set_option maxRecDepth 20000
set_option maxHeartbeats 8000000
namespace Go.Proofs.Ytdfeoccjllljiaa
open Go.Ab Go.Sort

theorem oe_lower {e L L' : Nat} {H : Heap} {v : Value} {cs : List Value} {n : Nat} (h : OE e L H v cs n) (hL : L' ≤ L) : OE e L' H v cs n := by
  refine ⟨h.1, ?_⟩
  rcases h.2 with h | ⟨id, h1, h2, h3, h4⟩ | ⟨id, h1, h2, h3⟩
  · exact .inl h
  · exact .inr (.inl ⟨id, h1, by omega, h3, h4⟩)
  · exact .inr (.inr ⟨id, by omega, h2, h3⟩)

theorem partOf_ok : ∀ (k : Nat) {H : Heap} {u w v : Value} {rest ins now : List Bk} (hu : BlocksAt H u rest) (hw : BlocksAt H w ins) (hv : BlocksAt H v now) (hg : ∀ x ∈ now ++ rest, good 15 x = true) (hF : Fits (now ++ rest)) (hgi : ∀ x ∈ ins, good 15 x = true)
    (hl : ins.length ≤ 1048576) (hlr : now.length + rest.length ≤ 1048576) (hk : k ≤ 1000) (Post : Value → Heap → Prop)
    (hs : ∀ H' a b s, H <+: H' → findP ins k rest now = some s → BlocksAt H' a s → BlocksAt H' b (innerB ins s) → Post (.tuple #[a, b, .bool true]) H')
    (hn : ∀ H' a b, H <+: H' → findP ins k rest now = none → Post (.tuple #[a, b, .bool false]) H'),
    ACalls Try.prog 138 [u, w, v, .int .i64 (k : Nat)] H Post
  | 0, H, u, w, v, rest, ins, now, hu, hw, hv, hg, hF, hgi, hl, hlr, hk, Post, hs, hn => by
    refine acalls_vc (rs := [.tmp 8, .tmp 9, .tmp 10]) Try.func138 rfl rfl Try.ntmps138 rfl rfl ?_
    simp (maxSteps := 1000000) [go_sem]
    refine partner_ok hv hw (fun x hx => hg x (List.mem_append_left _ hx)) (Fits.sub hF (List.sublist_append_left _ _)) hgi hl (by omega) _ ?_
    intro H1 b hp1 hb
    have e : findP ins 0 rest now = if okS ins now then some now else none := by unfold findP subs; simp only [List.find?]; cases okS ins now <;> rfl
    cases ho : okS ins now with
    | true =>
      rw [show decide ((innerB ins now).length = now.length) = true from ho]
      simp (maxSteps := 1000000) [go_sem]
      exact hs H1 v b now hp1 (by rw [e, ho]; rfl) (hv.pre hp1) hb.read
    | false =>
      rw [show decide ((innerB ins now).length = now.length) = false from ho]
      simp (maxSteps := 1000000) [go_sem]
      exact hn H1 v b hp1 (by rw [e, ho]; rfl)
  | k + 1, H, u, w, v, rest, ins, now, hu, hw, hv, hg, hF, hgi, hl, hlr, hk, Post, hs, hn => by
    obtain ⟨i, o, rfl, h1, h2⟩ := hu
    refine acalls_vc (rs := [.tmp 8, .tmp 9, .tmp 10]) Try.func138 rfl rfl Try.ntmps138 rfl rfl ?_
    have w1 : IntKind.i64.wrap ((rest.length : Int) - ((k : Int) + 1)) = (rest.length : Int) - ((k : Int) + 1) := i64w (by omega) (by omega)
    obtain ⟨n, hnn⟩ : ∃ n, n = rest.length - k := ⟨_, rfl⟩
    have hn1 : n ≤ rest.length := by omega
    have hn1' : (n : Int) ≤ rest.length := by omega
    have hif : (if IntKind.i64.wrap ((rest.length : Int) - (k : Int)) < 0 then 0 else IntKind.i64.wrap ((rest.length : Int) - (k : Int))) = (n : Int) := by
      rw [i64w (by omega) (by omega)]; split <;> omega
    have hm2 : (rest.length : Int) - ((k : Int) + 1) + 1 = (rest.length : Int) - k := by omega
    have hk1 : ¬ ((k : Int) + 1 = 0) := by omega
    have hk2 : (((k : Int) + 1) == 0) = false := by simpa using hk1
    simp (maxSteps := 1000000) [go_sem, undef, hk1, hk2, w1, hm2, hif, hn1, hn1', sliceV, boundV, lenV]
    have hfind : findP ins (k + 1) rest now = ((List.range n).flatMap fun i => subs k (rest.drop (i + 1)) (now ++ (rest[i]?).toList)).find? (okS ins) := by rw [hnn]; rfl
    refine AWp.loopVc (St := Nat) (fun s => [(0, lv 3 i o rest.length), (1, w), (2, v), (3, .int .i64 ((k : Int) + 1)), (36, .int .i64 n), (37, .int .i64 s)])
      (fun s H' => s ≤ n ∧ H <+: H' ∧ ∀ j, j < s → (subs k (rest.drop (j + 1)) (now ++ (rest[j]?).toList)).find? (okS ins) = none) (fun s => n - s) 0 ?_ ?_ ?_
    · simp [upF, Fr.get, Up.refl]
    · exact ⟨by omega, List.prefix_refl _, fun j hj => by omega⟩
    · rintro K s H' ⟨hsn, hp, hbef⟩ hK
      by_cases hlt : s < n
      · have hw_s : IntKind.i64.wrap ((s : Int) + 1) = (s : Int) + 1 := i64w (by omega) (by omega)
        have hlt' : (s : Int) < n := by omega
        have hsl : s < rest.length := by omega
        have hsl' : (s : Int) < rest.length := by omega
        have hs1 : s + 1 ≤ rest.length := by omega
        have hs1' : (s : Int) + 1 ≤ rest.length := by omega
        have wk : IntKind.i64.wrap (k : Int) = (k : Int) := i64w (by omega) (by omega)
        have hres : rest[s]? = some rest[s] := List.getElem?_eq_getElem hsl
        have ih := @partOf_ok k
        have c1 := (h1.pre hp).bk hres
        have hiH : i < H'.length := by
          rcases h1 with e | e
          · have := tri_length rest; rw [e] at this; simp at this; omega
          · obtain ⟨blk, hb, _⟩ := cellsAt_inv e
            have := (List.getElem?_eq_some_iff.1 hb).1
            have := hp.length_le
            omega
        have hsubl : (now ++ [rest[s]] ++ rest.drop (s + 1)).Sublist (now ++ rest) := by
          rw [List.append_assoc]
          refine List.Sublist.append (List.Sublist.refl _) ?_
          have e : rest.drop s = rest[s] :: rest.drop (s + 1) := List.drop_eq_getElem_cons hsl
          show (rest[s] :: rest.drop (s + 1)).Sublist rest
          rw [← e]; exact List.drop_sublist s rest
        have hmem : rest[s] ∈ rest := List.getElem_mem hsl
        have hdrop : rest.drop s = rest[s] :: rest.drop (s + 1) := List.drop_eq_getElem_cons hsl
        have esub : (subs k (rest.drop (s + 1)) (now ++ (rest[s]?).toList)) = subs k (rest.drop (s + 1)) (now ++ [rest[s]]) := by rw [hres]; rfl
        generalize rest[s] = b at *
        simp only [Bk.cells] at c1
        simp (maxSteps := 1000000) [go_sem, hlt, hlt']
        refine AWp.drawFX (H'.length) mixed [11] [(0, false), (1, false), (2, false), (3, false), (4, false), (5, false), (7, false), (8, false), (9, false), (10, false), (13, false), (14, false), (6, true), (11, true), (12, true), (15, false), (16, false), (17, false), (18, false), (19, false), (20, false), (21, false), (22, false)] (.one 0 false (.one 1 false (.one 2 false (.one 3 false (.one 4 false (.one 5 false (.one 7 false (.one 8 false (.one 9 false (.one 10 false (.one 13 false (.one 14 false (.two 6 true (.one 11 true (.one 12 true (.one 15 false (.one 16 false (.one 17 false (.one 18 false (.one 19 false (.one 20 false (.one 21 false (.one 22 false .nil)))))))))) 11 (.one 6 true (.one 12 true (.one 15 false (.one 16 false (.one 17 false (.one 18 false (.one 19 false (.one 20 false (.one 21 false (.one 22 false .nil))))))))))))))))))))))) (by kernel_rfl) ?_
        simp (maxSteps := 1000000) [go_sem, undef, hlt, hlt', hw_s, hs1, hs1', hsl, hsl', c1, wk, sliceV, boundV, lenV]
        refine andK_intro hiH (andK_intro (by omega) (andK_intro hiH ?_))
        refine vTX_two ?_ ?_
        · simp (maxSteps := 1000000) [go_sem, undef, hlt, hlt', hw_s, hs1, hs1', hsl, hsl', c1, wk, sliceV, boundV, lenV]
          refine cloneB_oe (hv.pre hp) (by omega) _ ?_
          intro H4 v4 hp4 hv4
          have hkA : KeepL H'.length H' H4 := KeepL.of_prefix hp4 (Nat.le_refl _)
          have hp5 : H4 <+: H4 ++ [⟨[.int .i64 b.a, .int .i64 b.b, .int .i64 b.c], true, true⟩] := List.prefix_append _ _
          have hkB : KeepL H'.length H4 (H4 ++ [⟨[.int .i64 b.a, .int .i64 b.b, .int .i64 b.c], true, true⟩]) := KeepL.of_prefix hp5 hp4.length_le
          have hle4 := hp4.length_le
          have hl5 : (H4 ++ [(⟨[.int .i64 b.a, .int .i64 b.b, .int .i64 b.c], true, true⟩ : Blk)]).length = H4.length + 1 := by simp
          have hc : cellsAt (H4 ++ [⟨[.int .i64 b.a, .int .i64 b.b, .int .i64 b.c], true, true⟩]) H4.length 0 3 = some [.int .i64 b.a, .int .i64 b.b, .int .i64 b.c] := by simpa using (Holds.last H4 [.int .i64 b.a, .int .i64 b.b, .int .i64 b.c]).cells (n := 3) (o := 0) (by simp)
          obtain ⟨a4, rfl⟩ := hv4.shape
          replace hv4 := hv4.pre hp5
          obtain ⟨v6, H6, hap, he6, hk6, hl6⟩ := hv4.append (m := 1) (news := [.int .i64 b.a, .int .i64 b.b, .int .i64 b.c]) (by omega) (by omega) rfl
          obtain ⟨a6, rfl⟩ := he6.shape
          have hp6 : H' <+: H6 := KeepL.prefix (hp4.trans hp5) (Nat.le_refl _) hk6 (by omega)
          have hk6' : KeepL H'.length (H4 ++ [⟨[.int .i64 b.a, .int .i64 b.b, .int .i64 b.c], true, true⟩]) H6 := hk6
          have et : tri now ++ [.int .i64 b.a, .int .i64 b.b, .int .i64 b.c] = tri (now ++ [b]) := by rw [tri_append]; rfl
          rw [et] at he6
          obtain ⟨w6, hup6, hw6⟩ := (show OE 3 _ H6 _ (tri (now ++ [b])) (now ++ [b]).length by rw [List.length_append]; exact he6).blocks (by simp; omega)
          simp (maxSteps := 1000000) [go_sem, undef, hlt, hlt', hw_s, hs1, hs1', hsl, hsl', c1, wk, sliceV, boundV, lenV, hkA, hkB, hc, hap, hk6']
          refine andK_intro (by omega) ?_
          have hpp := hp.trans hp6
          refine ACalls.up (args' := [lv 3 i (o + (s + 1) * 3) (rest.length - (s + 1)), w, w6, .int .i64 (k : Nat)]) ⟨Up.refl _ _, Up.refl _ _, hup6, Up.refl _ _, trivial⟩ ?_
          refine ih (rest := rest.drop (s + 1)) (ins := ins) (now := now ++ [b]) ⟨i, o + (s + 1) * 3, by rw [List.length_drop], (h1.drop_tri (s + 1) hs1).pre hpp, by rw [List.length_drop]; omega⟩ (hw.pre hpp) hw6.read (fun x hx => hg x (hsubl.subset hx)) (Fits.sub hF hsubl) hgi hl (by rw [List.length_append, List.length_drop]; simp; omega) (by omega) _ ?_ ?_
          · intro H7 a b' s' hp7 hf ha hb'
            have hk7 : KeepL H'.length H6 H7 := KeepL.of_prefix hp7 (by have := hp6.length_le; omega)
            have ff : findP ins (k + 1) rest now = some s' := by rw [hfind]; exact find_some hbef (by rw [esub]; exact hf) hlt
            simp (maxSteps := 1000000) [go_sem, undef, hk7]
            exact hs H7 a b' s' (hpp.trans hp7) ff ha hb'
          · intro H7 a b' hp7 hf
            have hk7 : KeepL H'.length H6 H7 := KeepL.of_prefix hp7 (by have := hp6.length_le; omega)
            simp (maxSteps := 1000000) [go_sem, undef, hk7, hw_s]
            refine hK (s + 1) _ _ (by omega) (by simp [upF, Fr.get, Up.refl]) ⟨by omega, hpp.trans hp7, fun j hj => ?_⟩
            by_cases hjs : j = s
            · subst hjs; rw [esub]; exact hf
            · exact hbef j (by omega)
        · have hp5 : H' <+: H' ++ [⟨[.int .i64 b.a, .int .i64 b.b, .int .i64 b.c], true, true⟩] := List.prefix_append _ _
          have hkA : KeepL H'.length H' (H' ++ [⟨[.int .i64 b.a, .int .i64 b.b, .int .i64 b.c], true, true⟩]) := KeepL.of_prefix hp5 (Nat.le_refl _)
          have hnw := Holds.last H' [.int .i64 b.a, .int .i64 b.b, .int .i64 b.c]
          have hl5 : (H' ++ [(⟨[.int .i64 b.a, .int .i64 b.b, .int .i64 b.c], true, true⟩ : Blk)]).length = H'.length + 1 := by simp
          simp (maxSteps := 1000000) [go_sem, undef, hlt, hlt', hw_s, hs1, hs1', hsl, hsl', c1, wk, sliceV, boundV, lenV, hkA]
          generalize H' ++ [(⟨[.int .i64 b.a, .int .i64 b.b, .int .i64 b.c], true, true⟩ : Blk)] = HB at *
          refine cloneB_oe (hv.pre (hp.trans hp5)) (by omega) _ ?_
          intro H4 v4 hp4 hv4
          have hkB : KeepL H'.length HB H4 := KeepL.of_prefix hp4 (by omega)
          have hle4 := hp4.length_le
          have hc : cellsAt H4 H'.length 0 3 = some [.int .i64 b.a, .int .i64 b.b, .int .i64 b.c] := by simpa using (hnw.pre hp4).cells (n := 3) (o := 0) (by simp)
          obtain ⟨a4, rfl⟩ := hv4.shape
          replace hv4 := oe_lower (L' := H'.length) hv4 (by omega)
          obtain ⟨v6, H6, hap, he6, hk6, hl6⟩ := hv4.append (m := 1) (news := [.int .i64 b.a, .int .i64 b.b, .int .i64 b.c]) (by omega) (by omega) rfl
          obtain ⟨a6, rfl⟩ := he6.shape
          have hp6 : H' <+: H6 := KeepL.prefix (hp5.trans hp4) (Nat.le_refl _) hk6 (by omega)
          have hk6' : KeepL H'.length H4 H6 := hk6
          have et : tri now ++ [.int .i64 b.a, .int .i64 b.b, .int .i64 b.c] = tri (now ++ [b]) := by rw [tri_append]; rfl
          rw [et] at he6
          obtain ⟨w6, hup6, hw6⟩ := (show OE 3 _ H6 _ (tri (now ++ [b])) (now ++ [b]).length by rw [List.length_append]; exact he6).blocks (by simp; omega)
          simp (maxSteps := 1000000) [go_sem, undef, hlt, hlt', hw_s, hs1, hs1', hsl, hsl', c1, wk, sliceV, boundV, lenV, hkA, hkB, hc, hap, hk6']
          refine andK_intro (by omega) ?_
          have hpp := hp.trans hp6
          refine ACalls.up (args' := [lv 3 i (o + (s + 1) * 3) (rest.length - (s + 1)), w, w6, .int .i64 (k : Nat)]) ⟨Up.refl _ _, Up.refl _ _, hup6, Up.refl _ _, trivial⟩ ?_
          refine ih (rest := rest.drop (s + 1)) (ins := ins) (now := now ++ [b]) ⟨i, o + (s + 1) * 3, by rw [List.length_drop], (h1.drop_tri (s + 1) hs1).pre hpp, by rw [List.length_drop]; omega⟩ (hw.pre hpp) hw6.read (fun x hx => hg x (hsubl.subset hx)) (Fits.sub hF hsubl) hgi hl (by rw [List.length_append, List.length_drop]; simp; omega) (by omega) _ ?_ ?_
          · intro H7 a b' s' hp7 hf ha hb'
            have hk7 : KeepL H'.length H6 H7 := KeepL.of_prefix hp7 (by have := hp6.length_le; omega)
            have ff : findP ins (k + 1) rest now = some s' := by rw [hfind]; exact find_some hbef (by rw [esub]; exact hf) hlt
            simp (maxSteps := 1000000) [go_sem, undef, hk7]
            exact hs H7 a b' s' (hpp.trans hp7) ff ha hb'
          · intro H7 a b' hp7 hf
            have hk7 : KeepL H'.length H6 H7 := KeepL.of_prefix hp7 (by have := hp6.length_le; omega)
            simp (maxSteps := 1000000) [go_sem, undef, hk7, hw_s]
            refine hK (s + 1) _ _ (by omega) (by simp [upF, Fr.get, Up.refl]) ⟨by omega, hpp.trans hp7, fun j hj => ?_⟩
            by_cases hjs : j = s
            · subst hjs; rw [esub]; exact hf
            · exact hbef j (by omega)
      · have : s = n := by omega
        subst this
        have ff : findP ins (k + 1) rest now = none := by rw [hfind]; exact find_none hbef
        simp (maxSteps := 1000000) [go_sem]
        exact hn H' _ _ hp ff

end Go.Proofs.Ytdfeoccjllljiaa
end

section
/- The first part of a trade and IsMinimalTrade: the tested program. -/
set_option linter.all false
set_option maxRecDepth 20000
set_option maxHeartbeats 8000000
namespace Go.Proofs.Ytdfeoccjllljiaa
open Go.Ab Go.Sort

theorem findS_none {α : Type} {F : Nat → Option α} {n : Nat} (h : ∀ i, i < n → F i = none) : (List.range n).findSome? F = none := by
  rw [List.findSome?_eq_none_iff]
  intro i hi
  exact h i (List.mem_range.1 hi)
theorem findS_some {α : Type} {F : Nat → Option α} {x : α} {s : Nat} (h : ∀ i, i < s → F i = none) (hs : F s = some x) : ∀ {n : Nat}, s < n → (List.range n).findSome? F = some x
  | 0, hn => by omega
  | n + 1, hn => by
    rw [List.range_succ, List.findSome?_append]
    by_cases e : s = n
    · subst e
      rw [findS_none h]
      simp [hs]
    · rw [findS_some h hs (n := n) (by omega)]; rfl
/-- The first one of the least parts. -/
def partP (o i : List Bk) : List Bk × List Bk :=
  match (List.range (o.length - 1)).findSome? fun k => findP i (k + 1) o [] with
  | some s => (s, innerB i s)
  | none => (o, i)

theorem firstPart_ok {H : Heap} {u w : Value} {o i : List Bk} (hu : BlocksAt H u o) (hw : BlocksAt H w i) (hg : ∀ x ∈ o, good 15 x = true) (hF : Fits o) (hgi : ∀ x ∈ i, good 15 x = true) (hl : o.length ≤ 12) (hli : i.length ≤ 1048576) (Post : Value → Heap → Prop)
    (h : ∀ H' a b, H <+: H' → BlocksAt H' a (partP o i).1 → BlocksAt H' b (partP o i).2 → Post (.tuple #[a, b]) H') : ACalls Try.prog 75 [u, w] H Post := by
  obtain ⟨j, q, rfl, h1, h2⟩ := hu
  refine acalls_vc (rs := [.tmp 4, .tmp 5]) Try.func75 rfl rfl Try.ntmps75 rfl rfl ?_
  simp (maxSteps := 1000000) [go_sem]
  refine AWp.loopVc (St := Nat) (fun s => [(0, lv 3 j q o.length), (1, w), (6, .int .i64 ((s : Int) + 1))])
    (fun s H' => s ≤ o.length ∧ H <+: H' ∧ ∀ k, k < s → findP i (k + 1) o [] = none) (fun s => o.length - s) 0 ?_ ?_ ?_
  · simp [upF, Fr.get, Up.refl]
  · exact ⟨by omega, List.prefix_refl _, fun k hk => by omega⟩
  · rintro K s H' ⟨hs, hp, hbef⟩ hK
    by_cases hlt : s + 1 < o.length
    · have hlt' : (s : Int) + 1 < o.length := by omega
      have ws : IntKind.i64.wrap ((s : Int) + 1 + 1) = (s : Int) + 1 + 1 := i64w (by omega) (by omega)
      simp (maxSteps := 1000000) [go_sem, hlt, hlt']
      refine ACalls.up (args' := [lv 3 j q o.length, w, lv 3 0 0 0, .int .i64 ((s + 1 : Nat) : Int)]) ⟨Up.refl _ _, Up.refl _ _, Up.nil _ _ _ _, by simpa using Up.refl _ _, trivial⟩ ?_
      refine partOf_ok (s + 1) (rest := o) (ins := i) (now := []) ⟨j, q, rfl, h1.pre hp, h2⟩ (hw.pre hp) ⟨0, 0, rfl, .inl rfl, by simp⟩ (by simpa using hg) (by simpa using hF) hgi hli (by simp; omega) (by omega) _ ?_ ?_
      · intro H2 a b s' hp2 hf ha hb
        have e : partP o i = (s', innerB i s') := by
          unfold partP
          rw [findS_some hbef hf (by omega)]
        have fin := h H2 a b (hp.trans hp2) (by rw [e]; exact ha) (by rw [e]; exact hb)
        simp (maxSteps := 1000000) [go_sem]
        exact fin
      · intro H2 a b hp2 hf
        simp (maxSteps := 1000000) [go_sem, ws]
        refine hK (s + 1) _ _ (by omega) (by simp [upF, Fr.get, Up.refl]) ⟨by omega, hp.trans hp2, fun k hk => ?_⟩
        by_cases hks : k = s
        · subst hks; exact hf
        · exact hbef k (by omega)
    · have hlt' : ¬ ((s : Int) + 1 < o.length) := by omega
      have e : partP o i = (o, i) := by
        unfold partP
        rw [findS_none fun k hk => hbef k (by omega)]
      have fin := h H' (lv 3 j q o.length) w hp (by rw [e]; exact ⟨j, q, rfl, h1.pre hp, h2⟩) (by rw [e]; exact hw.pre hp)
      simp (maxSteps := 1000000) [go_sem, hlt, hlt']
      exact fin

end Go.Proofs.Ytdfeoccjllljiaa
end

section
/- DifferenceTrade on both sides. -/
set_option linter.all false
set_option maxRecDepth 20000
set_option maxHeartbeats 8000000
namespace Go.Proofs.Ytdfeoccjllljiaa
open Go.Ab Go.Sort

theorem less_sort {p : Int} {x : List Bk} (h : IsSys p x) (y : List Bk) : sortB (lessB x y) = lessB x y := by
  have hs : x.Pairwise (fun a b => before b a = false) := by have := sortB_sorted _ x rfl; rwa [sys_sort h] at this
  exact (sort_uniq (List.Perm.refl _) (hs.filter _)).symm

end Go.Proofs.Ytdfeoccjllljiaa
end

section
/- PutBlock: the specification's side. -/
set_option linter.all false
set_option maxRecDepth 20000
set_option maxHeartbeats 8000000
namespace Go.Proofs.Ytdfeoccjllljiaa
open Go.Ab Go.Sort

/-- An append to an empty list of one's own. -/
theorem emptyAppend {e L : Nat} {H : Heap} {id : Nat} (hL : L ≤ id) (hb : H[id]? = some ⟨[], true, true⟩) (he : 0 < e) {m : Nat} {news : List Value} (hn : news.length = m * e) :
    ∃ v' H', appendH H e (.slice (some ⟨id, 0, none⟩) 0 0) m news = some (v', H') ∧ OE e L H' v' news m ∧ H <+: H' := by
  have hid := (List.getElem?_eq_some_iff.1 hb).1
  by_cases hm : m = 0
  · subst hm
    have : news = [] := List.eq_nil_of_length_eq_zero (by simpa using hn)
    subst this
    exact ⟨_, H, by simp [appendH], OE.empty hL hb, List.prefix_refl _⟩
  · have hc : cellsAt H id 0 0 = some [] := by rw [cellsAt_of hb rfl (by simp)]; simp
    exact ⟨lv e H.length 0 m, H ++ [⟨news, true, true⟩], by simp [appendH, hm, hc], ⟨hn, .inr (.inr ⟨H.length, by omega, rfl, .inr (by simp)⟩)⟩, List.prefix_append _ _⟩

end Go.Proofs.Ytdfeoccjllljiaa
end

section
/- All subsets of some size: spec.l04Subsets, by recursion. -/
set_option linter.all false
set_option maxRecDepth 20000
set_option maxHeartbeats 8000000
namespace Go.Proofs.Ytdfeoccjllljiaa
open Go.Ab Go.Sort

theorem flat_pow {α : Type} {F : Nat → List α} {m : Nat} : ∀ (n : Nat), n ≤ m → (∀ i, i < n → (F i).length ≤ 2 ^ (m - (i + 1))) → ((List.range n).flatMap F).length + 2 ^ (m - n) ≤ 2 ^ m
  | 0, _, _ => by simp
  | n + 1, hn, h => by
    have ih := flat_pow n (by omega) fun i hi => h i (by omega)
    have h1 := h n (by omega)
    rw [List.range_succ, List.flatMap_append, List.length_append]
    simp only [List.flatMap_cons, List.flatMap_nil, List.append_nil]
    have e : 2 ^ (m - n) = 2 ^ (m - (n + 1)) + 2 ^ (m - (n + 1)) := by rw [show m - n = (m - (n + 1)) + 1 by omega, Nat.pow_succ]; omega
    omega
theorem subs_len : ∀ (k : Nat) (rest now : List Bk), (subs k rest now).length ≤ 2 ^ rest.length
  | 0, rest, now => by simp [subs]; exact Nat.one_le_two_pow
  | k + 1, rest, now => by
    simp only [subs]
    have := flat_pow (F := fun i => subs k (rest.drop (i + 1)) (now ++ (rest[i]?).toList)) (m := rest.length) (rest.length - k) (by omega) (fun i _ => by have := subs_len k (rest.drop (i + 1)) (now ++ (rest[i]?).toList); rwa [List.length_drop] at this)
    exact Nat.le_trans (Nat.le_add_right _ _) this
theorem subs_pre (k : Nat) (rest now : List Bk) (s : Nat) (hs : s ≤ rest.length) : ((List.range s).flatMap fun j => subs k (rest.drop (j + 1)) (now ++ (rest[j]?).toList)).length ≤ 2 ^ rest.length := by
  have := flat_pow (F := fun i => subs k (rest.drop (i + 1)) (now ++ (rest[i]?).toList)) (m := rest.length) s hs (fun i _ => by have := subs_len k (rest.drop (i + 1)) (now ++ (rest[i]?).toList); rwa [List.length_drop] at this)
  exact Nat.le_trans (Nat.le_add_right _ _) this

/-- A set of blocks in a block of memory from L on, but not this one. -/
def RowIn (H : Heap) (L oid : Nat) (x : Value) (s : List Bk) : Prop := ∃ i o, x = lv 3 i o s.length ∧ At H i o (tri s) ∧ s.length ≤ 140737488355328 ∧ (s ≠ [] → L ≤ i ∧ i < H.length ∧ i ≠ oid)

theorem subsets_ok : ∀ (k : Nat) {H : Heap} {u v : Value} {list now : List Bk} {L fr : Nat} (hu : BlocksAt H u list) (hv : ∃ i o, v = lv 3 i o now.length ∧ At H i o (tri now) ∧ now.length ≤ 140737488355328 ∧ (now ≠ [] → L ≤ i)) (hL : L ≤ H.length) (hfr : fr ≤ list.length)
    (hnl : now.length + k ≤ 1000) (hll : list.length ≤ 12) (hk : k ≤ 12) (Post : Value → Heap → Prop)
    (h : ∀ (H' : Heap) (id : Nat) (rows : List (Value × List Bk)), H <+: H' → H.length ≤ id → OL 1 H' id (rows.map (·.1)) rows.length → rows.map (·.2) = subs k (list.drop fr) now → (∀ r ∈ rows, RowIn H' L id r.1 r.2) → Post (lv 1 id 0 rows.length) H'),
    ACalls Try.prog 133 [u, v, .int .i64 (fr : Nat), .int .i64 (k : Nat)] H Post
  | 0, H, u, v, list, now, L, fr, hu, hv, hL, hfr, hnl, hll, hk, Post, h => by
    obtain ⟨i0, o0, rfl, hnow, hn2, hn3⟩ := hv
    refine ACalls.res ?_
    refine acalls_vc (rs := [.tmp 8]) Try.func133 rfl rfl Try.ntmps133 rfl rfl ?_
    simp (maxSteps := 1000000) [go_sem]
    have fin := h (H ++ [⟨[lv 3 i0 o0 now.length], true, true⟩]) H.length [(lv 3 i0 o0 now.length, now)] (List.prefix_append _ _) (Nat.le_refl _) ⟨by simp, .inr (by simp)⟩ rfl (by
      intro r hr
      simp at hr; subst hr
      refine ⟨i0, o0, rfl, hnow.pre (List.prefix_append _ _), hn2, fun hne => ?_⟩
      have : i0 < H.length := by
        rcases hnow with e | e
        · have := tri_length now; rw [e] at this; simp at this; exact absurd (List.eq_nil_of_length_eq_zero (show now.length = 0 by omega)) hne
        · obtain ⟨blk, hb, _⟩ := cellsAt_inv e
          exact (List.getElem?_eq_some_iff.1 hb).1
      exact ⟨hn3 hne, by simp; omega, by omega⟩)
    exact ⟨_, Up.ex (by omega) (.inr (by simp [go_sem])), fin⟩
  | k + 1, H, u, v, list, now, L, fr, hu, hv, hL, hfr, hnl, hll, hk, Post, h => by
    obtain ⟨i0, o0, rfl, hnow, hn2, hn3⟩ := hv
    obtain ⟨i, o, rfl, h1, h2⟩ := hu
    have ih := @subsets_ok k
    refine ACalls.res ?_
    refine acalls_vc (rs := [.tmp 8]) Try.func133 rfl rfl Try.ntmps133 rfl rfl ?_
    have hk1 : ¬ ((k : Int) + 1 = 0) := by omega
    have hk2 : (((k : Int) + 1) == 0) = false := by simpa using hk1
    simp (maxSteps := 1000000) [go_sem, hk1, hk2]
    have bl0 := Bl.nil 1 H
    generalize H ++ [(⟨[], true, true⟩ : Blk)] = HX at bl0 ⊢
    refine AWp.loopVc (St := Nat × Nat × List (Value × List Bk)) (fun s => [(0, lv 3 i o list.length), (1, lv 3 i0 o0 now.length), (3, .int .i64 ((k : Int) + 1)), (9, lv 1 s.2.1 0 s.2.2.length), (10, .int .i64 ((fr + s.1 : Nat) : Int))])
      (fun s H' => s.1 ≤ list.length - fr - k ∧ H <+: H' ∧ H.length ≤ s.2.1 ∧ OL 1 H' s.2.1 (s.2.2.map (·.1)) s.2.2.length ∧ s.2.2.map (·.2) = ((List.range s.1).flatMap fun j => subs k ((list.drop fr).drop (j + 1)) (now ++ ((list.drop fr)[j]?).toList)) ∧ ∀ r ∈ s.2.2, RowIn H' L s.2.1 r.1 r.2)
      (fun s => list.length - fr - k - s.1) (0, H.length, []) ?_ ?_ ?_
    · simp [upF, Fr.get, Up.refl, Up.ex0]
    · exact ⟨by simp, bl0.1, Nat.le_refl _, bl0.2.1, by simp, by simp⟩
    · rintro K ⟨s, oid, rows⟩ H' ⟨hsn, hp, hoid, hol, hrows, hrd⟩ hK
      simp only at hsn hp hoid hol hrows hrd
      have hle := hp.length_le
      obtain ⟨g, hg⟩ : ∃ g, g = fr + s := ⟨_, rfl⟩
      have hg2 : fr + (s + 1) = g + 1 := by omega
      rw [← hg]
      have hw1 : IntKind.i64.wrap ((g : Int) + ((k : Int) + 1)) = (g : Int) + ((k : Int) + 1) := i64w (by omega) (by omega)
      by_cases hlt : s < list.length - fr - k
      · have hlt' : (g : Int) + ((k : Int) + 1) ≤ list.length := by omega
        have hlt2 : g + (k + 1) ≤ list.length := by omega
        have hw2 : IntKind.i64.wrap ((g : Int) + 1) = (g : Int) + 1 := i64w (by omega) (by omega)
        have hwi := hw2
        have hwk : IntKind.i64.wrap (k : Int) = (k : Int) := i64w (by omega) (by omega)
        have hsl : g < list.length := by omega
        have hsl' : (g : Int) < list.length := by omega
        have hres0 : list[g]? = some list[g] := List.getElem?_eq_getElem hsl
        have hres : (list.drop fr)[s]? = some list[g] := by rw [List.getElem?_drop, ← hg]; exact hres0
        have c1 := (h1.pre hp).bk hres0
        have hiH : i < H'.length := by
          rcases h1 with e | e
          · have := tri_length list; rw [e] at this; simp at this; omega
          · obtain ⟨blk, hb, _⟩ := cellsAt_inv e
            have := (List.getElem?_eq_some_iff.1 hb).1
            omega
        generalize list[g] = b at *
        simp only [Bk.cells] at c1
        simp (maxSteps := 1000000) [go_sem, hw1, hlt', hlt2]
        refine AWp.drawFX (H'.length) mixed [9] [(0, false), (1, false), (3, false), (5, false), (6, false), (7, false), (8, false), (11, false), (12, false), (13, false), (14, false), (2, true), (4, true), (9, true), (10, false), (15, false), (16, false), (17, false)] (.one 0 false (.one 1 false (.one 3 false (.one 5 false (.one 6 false (.one 7 false (.one 8 false (.one 11 false (.one 12 false (.one 13 false (.one 14 false (.two 2 true (.two 4 true (.one 9 true (.one 10 false (.one 15 false (.one 16 false (.one 17 false .nil))))) 9 (.one 4 true (.one 10 false (.one 15 false (.one 16 false (.one 17 false .nil)))))) 9 (.one 2 true (.one 4 true (.one 10 false (.one 15 false (.one 16 false (.one 17 false .nil)))))))))))))))))) (by kernel_rfl) ?_
        simp (maxSteps := 1000000) [go_sem, undef, hlt', hlt2, hw1, hw2, hwk, hsl, hsl', c1]
        refine andK_intro hiH ?_
        refine vTX_two ?_ ?_
        · have hleX0 := ((List.prefix_refl H')).length_le
          have hs0 : H' <+: H' ++ [⟨[], true, true⟩] := List.prefix_append _ _
          have hkA : KeepL H'.length H' (H' ++ [⟨[], true, true⟩]) := KeepL.of_prefix hs0 (by omega)
          have hbE : (H' ++ [(⟨[], true, true⟩ : Blk)])[H'.length]? = some ⟨[], true, true⟩ := by simp
          have hlY0 : (H' ++ [(⟨[], true, true⟩ : Blk)]).length = H'.length + 1 := by simp
          try simp (maxSteps := 1000000) [go_sem, undef, hlt', hlt2, hw1, hw2, hwk, hsl, hsl', c1]
          generalize H' ++ [(⟨[], true, true⟩ : Blk)] = HS0 at *
          refine andK_intro hkA ?_
          have hleX1 := (((List.prefix_refl H').trans hs0)).length_le
          refine vTX_two ?_ ?_
          · obtain ⟨v4, HS1, hapP, hv4, hs1⟩ := emptyAppend (L := H'.length) (e := 3) (m := now.length) (news := tri now) (by omega) hbE (by omega) (by rw [tri_length])
            obtain ⟨a4, rfl⟩ := hv4.shape
            have hkB : KeepL H'.length HS0 HS1 := KeepL.of_prefix hs1 (by omega)
            have hsrc := tri_src ((hnow.pre hp).pre ((List.prefix_refl H').trans hs0))
            simp only [srcCells, List.length_eq_zero_iff] at hsrc
            simp (maxSteps := 1000000) [go_sem, undef, hlt', hlt2, hw1, hw2, hwk, hsl, hsl', c1, hkA, hkB, hsrc, hapP]
            refine andK_intro (by omega) ?_
            have hleX2 := ((((List.prefix_refl H').trans hs0).trans hs1)).length_le
            have hs2 : HS1 <+: HS1 ++ [⟨[.int .i64 b.a, .int .i64 b.b, .int .i64 b.c], true, true⟩] := List.prefix_append _ _
            have hkC : KeepL H'.length HS1 (HS1 ++ [⟨[.int .i64 b.a, .int .i64 b.b, .int .i64 b.c], true, true⟩]) := KeepL.of_prefix hs2 (by omega)
            have hcN := Holds.last HS1 [.int .i64 b.a, .int .i64 b.b, .int .i64 b.c]
            have hlY2 : (HS1 ++ [(⟨[.int .i64 b.a, .int .i64 b.b, .int .i64 b.c], true, true⟩ : Blk)]).length = HS1.length + 1 := by simp
            try simp (maxSteps := 1000000) [go_sem, undef, hlt', hlt2, hw1, hw2, hwk, hsl, hsl', c1, hkA, hkB]
            generalize HS1 ++ [(⟨[.int .i64 b.a, .int .i64 b.b, .int .i64 b.c], true, true⟩ : Blk)] = HS2 at *
            refine andK_intro hkC ?_
            replace hv4 := hv4.pre hs2
            have hleE := (((((List.prefix_refl H').trans hs0).trans hs1).trans hs2)).length_le
            have hc : cellsAt HS2 HS1.length 0 3 = some [.int .i64 b.a, .int .i64 b.b, .int .i64 b.c] := by simpa using hcN.cells (n := 3) (o := 0) (by simp)
            obtain ⟨v6, H6, hap, he6, hk6, hl6⟩ := hv4.append (m := 1) (news := [.int .i64 b.a, .int .i64 b.b, .int .i64 b.c]) (by omega) (by omega) rfl
            obtain ⟨a6, rfl⟩ := he6.shape
            have hp6 : H' <+: H6 := KeepL.prefix (((((List.prefix_refl H').trans hs0).trans hs1).trans hs2)) (Nat.le_refl _) hk6 (by omega)
            have hk6' : KeepL H'.length HS2 H6 := hk6
            have et : tri now ++ [.int .i64 b.a, .int .i64 b.b, .int .i64 b.c] = tri (now ++ [b]) := by rw [tri_append]; rfl
            rw [et] at he6
            obtain ⟨w6, hup6, hw6⟩ := (show OE 3 _ H6 _ (tri (now ++ [b])) (now ++ [b]).length by rw [List.length_append]; exact he6).blocks (by simp; omega)
            simp (maxSteps := 1000000) [go_sem, undef, hlt', hlt2, hw1, hw2, hwk, hsl, hsl', c1, hkA, hkB, hkC, hc, hap, hk6']
            refine andK_intro (by omega) ?_
            have hpp := hp.trans hp6
            have hle6 := hp6.length_le
            refine ACalls.up (args' := [lv 3 i o list.length, w6, .int .i64 ((g + 1 : Nat) : Int), .int .i64 (k : Nat)]) ⟨Up.refl _ _, hup6, by simpa using Up.refl _ _, Up.refl _ _, trivial⟩ ?_
            obtain ⟨i6, ⟨ew6, hb6, hn6⟩, hs6⟩ := hw6
            have hat6 : At H6 i6 0 (tri (now ++ [b])) := by
              rcases hb6 with e | e
              · left; rw [e]; rfl
              · exact Holds.at ⟨true, e⟩
            refine ih (list := list) (now := now ++ [b]) (L := H'.length) (fr := g + 1) ⟨i, o, rfl, h1.pre hpp, h2⟩ ⟨i6, 0, ew6, hat6, hn6, fun hne => (hs6 hne).1⟩ hle6 (by omega) (by simp; omega) hll (by omega) _ ?_
            intro H7 cid crows hp7 hcid hcol hcs hcr
            have hple7 := hp7.length_le
            have hol7 : OL 1 H7 oid (rows.map (·.1)) rows.length := hol.keep (S := fun _ => False) (Same.of_prefix (hp6.trans hp7)) (fun h => h)
            have holt := hol.lt
            have hsrcC : srcCells H7 1 (lv 1 cid 0 crows.length) = some (crows.map (·.1)) := hcol.at.src (by rw [List.length_map, Nat.mul_one]) (by omega) _
            simp only [srcCells, List.length_eq_zero_iff] at hsrcC
            have hcb := subs_len k (list.drop (g + 1)) (now ++ [b])
            rw [← hcs, List.length_map] at hcb
            have hb12 : ∀ m, m ≤ 12 → 2 ^ m ≤ 4096 := fun m hm => Nat.le_trans (Nat.pow_le_pow_right (by omega) hm) (by decide)
            have hcb2 := hb12 (list.drop (g + 1)).length (by rw [List.length_drop]; omega)
            have hrows2 : (rows ++ crows).map (·.2) = ((List.range (s + 1)).flatMap fun j => subs k ((list.drop fr).drop (j + 1)) (now ++ ((list.drop fr)[j]?).toList)) := by
              rw [List.range_succ, List.flatMap_append, List.map_append, hrows, hcs]
              simp only [List.flatMap_cons, List.flatMap_nil, List.append_nil, hres, Option.toList, List.drop_drop, hg2]
            have hrcnt : rows.length ≤ 4096 := by
              have := congrArg List.length hrows
              rw [List.length_map] at this
              rw [this]; exact Nat.le_trans (subs_pre k (list.drop fr) now s (by rw [List.length_drop]; omega)) (hb12 _ (by rw [List.length_drop]; omega))
            have oldr : ∀ {H8 : Heap} {oid8 : Nat}, Same (fun j => j = oid) H7 H8 → H7.length ≤ oid8 → ∀ r ∈ rows, RowIn H8 L oid8 r.1 r.2 := by
              intro H8 oid8 hs8 ho8 r hr
              obtain ⟨x, y, e1, e2, e3, e4⟩ := hrd r hr
              refine ⟨x, y, e1, At.keepS hs8 (e2.pre (hp6.trans hp7)) (fun hne => ?_), e3, fun hne => ?_⟩
              · have hne' : r.2 ≠ [] := by intro e; rw [e] at hne; exact hne rfl
                exact (e4 hne').2.2
              · have := e4 hne
                exact ⟨this.1, by have := hs8.1; omega, by omega⟩
            have newr : ∀ {H8 : Heap} {oid8 : Nat}, Same (fun j => j = oid) H7 H8 → H7.length ≤ oid8 → ∀ r ∈ crows, RowIn H8 L oid8 r.1 r.2 := by
              intro H8 oid8 hs8 ho8 r hr
              obtain ⟨x, y, e1, e2, e3, e4⟩ := hcr r hr
              refine ⟨x, y, e1, At.keepS hs8 e2 (fun hne => ?_), e3, fun hne => ?_⟩
              · have hne' : r.2 ≠ [] := by intro e; rw [e] at hne; exact hne rfl
                have := (e4 hne').1
                omega
              · have := e4 hne
                exact ⟨by omega, by have := hs8.1; omega, by omega⟩
            by_cases hm : crows = []
            · subst hm
              have hz : appendH H7 1 (lv 1 oid 0 rows.length) 0 [] = some (lv 1 oid 0 rows.length, H7) := by simp [appendH]
              simp only [List.append_nil] at hrows2
              simp (maxSteps := 1000000) [go_sem, undef, KeepL.of_prefix hp7, hz, hw1, hw2, hwi]
              refine andK_intro (by omega) (hK (s + 1, oid, rows) _ _ (by simp only; omega) (by simp [upF, Fr.get, Up.refl, hg2]) ⟨by simp only; omega, hpp.trans hp7, hoid, hol7, hrows2, fun r hr => ?_⟩)
              obtain ⟨x, y, e1, e2, e3, e4⟩ := hrd r hr
              exact ⟨x, y, e1, e2.pre (hp6.trans hp7), e3, fun hne => ⟨(e4 hne).1, by have := (e4 hne).2.1; omega, (e4 hne).2.2⟩⟩
            · have hm0 : 0 < crows.length := List.length_pos_iff.2 hm
              obtain ⟨H8, hap8, hol8, hsame8, hlen8⟩ := hol7.append (m := crows.length) (by omega) hm0 (news := crows.map (·.1)) (by simp)
              rw [← List.map_append, ← List.length_append] at hol8
              have hp8 : H <+: H8 := ((Same.of_prefix (hpp.trans hp7)).trans hsame8).prefix (by intro j hj e; omega)
              have hcc : cellsAt H7 cid 0 crows.length = some (crows.map (·.1)) := by
                have := hsrcC
                simp only [hm, if_false, Nat.mul_one] at this
                exact this
              simp (maxSteps := 1000000) [go_sem, undef, KeepL.of_prefix hp7, hcc, hm, hap8, hw1, hw2, hwi]
              refine andK_intro (by omega) (hK (s + 1, H7.length, rows ++ crows) _ _ (by simp only; omega) (by simp [upF, Fr.get, Up.refl, hg2]) ⟨by simp only; omega, hp8, by simp only; omega, hol8, hrows2, fun r hr => ?_⟩)
              rcases List.mem_append.1 hr with hr | hr
              · exact oldr hsame8 (Nat.le_refl _) r hr
              · exact newr hsame8 (Nat.le_refl _) r hr
          · have hs1 : HS0 <+: HS0 ++ [⟨[.int .i64 b.a, .int .i64 b.b, .int .i64 b.c], true, true⟩] := List.prefix_append _ _
            have hkB : KeepL H'.length HS0 (HS0 ++ [⟨[.int .i64 b.a, .int .i64 b.b, .int .i64 b.c], true, true⟩]) := KeepL.of_prefix hs1 (by omega)
            have hcN := Holds.last HS0 [.int .i64 b.a, .int .i64 b.b, .int .i64 b.c]
            have hlY1 : (HS0 ++ [(⟨[.int .i64 b.a, .int .i64 b.b, .int .i64 b.c], true, true⟩ : Blk)]).length = HS0.length + 1 := by simp
            try simp (maxSteps := 1000000) [go_sem, undef, hlt', hlt2, hw1, hw2, hwk, hsl, hsl', c1, hkA]
            generalize HS0 ++ [(⟨[.int .i64 b.a, .int .i64 b.b, .int .i64 b.c], true, true⟩ : Blk)] = HS1 at *
            refine andK_intro hkB ?_
            replace hbE := Same.get (S := fun _ => False) (Same.of_prefix hs1) hbE (fun h => h)
            have hleX2 := ((((List.prefix_refl H').trans hs0).trans hs1)).length_le
            obtain ⟨v4, HS2, hapP, hv4, hs2⟩ := emptyAppend (L := H'.length) (e := 3) (m := now.length) (news := tri now) (by omega) hbE (by omega) (by rw [tri_length])
            obtain ⟨a4, rfl⟩ := hv4.shape
            have hkC : KeepL H'.length HS1 HS2 := KeepL.of_prefix hs2 (by omega)
            have hsrc := tri_src ((hnow.pre hp).pre (((List.prefix_refl H').trans hs0).trans hs1))
            simp only [srcCells, List.length_eq_zero_iff] at hsrc
            simp (maxSteps := 1000000) [go_sem, undef, hlt', hlt2, hw1, hw2, hwk, hsl, hsl', c1, hkA, hkB, hkC, hsrc, hapP]
            refine andK_intro (by omega) ?_
            replace hcN := hcN.pre hs2
            have hleE := (((((List.prefix_refl H').trans hs0).trans hs1).trans hs2)).length_le
            have hc : cellsAt HS2 HS0.length 0 3 = some [.int .i64 b.a, .int .i64 b.b, .int .i64 b.c] := by simpa using hcN.cells (n := 3) (o := 0) (by simp)
            obtain ⟨v6, H6, hap, he6, hk6, hl6⟩ := hv4.append (m := 1) (news := [.int .i64 b.a, .int .i64 b.b, .int .i64 b.c]) (by omega) (by omega) rfl
            obtain ⟨a6, rfl⟩ := he6.shape
            have hp6 : H' <+: H6 := KeepL.prefix (((((List.prefix_refl H').trans hs0).trans hs1).trans hs2)) (Nat.le_refl _) hk6 (by omega)
            have hk6' : KeepL H'.length HS2 H6 := hk6
            have et : tri now ++ [.int .i64 b.a, .int .i64 b.b, .int .i64 b.c] = tri (now ++ [b]) := by rw [tri_append]; rfl
            rw [et] at he6
            obtain ⟨w6, hup6, hw6⟩ := (show OE 3 _ H6 _ (tri (now ++ [b])) (now ++ [b]).length by rw [List.length_append]; exact he6).blocks (by simp; omega)
            simp (maxSteps := 1000000) [go_sem, undef, hlt', hlt2, hw1, hw2, hwk, hsl, hsl', c1, hkA, hkB, hkC, hc, hap, hk6']
            refine andK_intro (by omega) ?_
            have hpp := hp.trans hp6
            have hle6 := hp6.length_le
            refine ACalls.up (args' := [lv 3 i o list.length, w6, .int .i64 ((g + 1 : Nat) : Int), .int .i64 (k : Nat)]) ⟨Up.refl _ _, hup6, by simpa using Up.refl _ _, Up.refl _ _, trivial⟩ ?_
            obtain ⟨i6, ⟨ew6, hb6, hn6⟩, hs6⟩ := hw6
            have hat6 : At H6 i6 0 (tri (now ++ [b])) := by
              rcases hb6 with e | e
              · left; rw [e]; rfl
              · exact Holds.at ⟨true, e⟩
            refine ih (list := list) (now := now ++ [b]) (L := H'.length) (fr := g + 1) ⟨i, o, rfl, h1.pre hpp, h2⟩ ⟨i6, 0, ew6, hat6, hn6, fun hne => (hs6 hne).1⟩ hle6 (by omega) (by simp; omega) hll (by omega) _ ?_
            intro H7 cid crows hp7 hcid hcol hcs hcr
            have hple7 := hp7.length_le
            have hol7 : OL 1 H7 oid (rows.map (·.1)) rows.length := hol.keep (S := fun _ => False) (Same.of_prefix (hp6.trans hp7)) (fun h => h)
            have holt := hol.lt
            have hsrcC : srcCells H7 1 (lv 1 cid 0 crows.length) = some (crows.map (·.1)) := hcol.at.src (by rw [List.length_map, Nat.mul_one]) (by omega) _
            simp only [srcCells, List.length_eq_zero_iff] at hsrcC
            have hcb := subs_len k (list.drop (g + 1)) (now ++ [b])
            rw [← hcs, List.length_map] at hcb
            have hb12 : ∀ m, m ≤ 12 → 2 ^ m ≤ 4096 := fun m hm => Nat.le_trans (Nat.pow_le_pow_right (by omega) hm) (by decide)
            have hcb2 := hb12 (list.drop (g + 1)).length (by rw [List.length_drop]; omega)
            have hrows2 : (rows ++ crows).map (·.2) = ((List.range (s + 1)).flatMap fun j => subs k ((list.drop fr).drop (j + 1)) (now ++ ((list.drop fr)[j]?).toList)) := by
              rw [List.range_succ, List.flatMap_append, List.map_append, hrows, hcs]
              simp only [List.flatMap_cons, List.flatMap_nil, List.append_nil, hres, Option.toList, List.drop_drop, hg2]
            have hrcnt : rows.length ≤ 4096 := by
              have := congrArg List.length hrows
              rw [List.length_map] at this
              rw [this]; exact Nat.le_trans (subs_pre k (list.drop fr) now s (by rw [List.length_drop]; omega)) (hb12 _ (by rw [List.length_drop]; omega))
            have oldr : ∀ {H8 : Heap} {oid8 : Nat}, Same (fun j => j = oid) H7 H8 → H7.length ≤ oid8 → ∀ r ∈ rows, RowIn H8 L oid8 r.1 r.2 := by
              intro H8 oid8 hs8 ho8 r hr
              obtain ⟨x, y, e1, e2, e3, e4⟩ := hrd r hr
              refine ⟨x, y, e1, At.keepS hs8 (e2.pre (hp6.trans hp7)) (fun hne => ?_), e3, fun hne => ?_⟩
              · have hne' : r.2 ≠ [] := by intro e; rw [e] at hne; exact hne rfl
                exact (e4 hne').2.2
              · have := e4 hne
                exact ⟨this.1, by have := hs8.1; omega, by omega⟩
            have newr : ∀ {H8 : Heap} {oid8 : Nat}, Same (fun j => j = oid) H7 H8 → H7.length ≤ oid8 → ∀ r ∈ crows, RowIn H8 L oid8 r.1 r.2 := by
              intro H8 oid8 hs8 ho8 r hr
              obtain ⟨x, y, e1, e2, e3, e4⟩ := hcr r hr
              refine ⟨x, y, e1, At.keepS hs8 e2 (fun hne => ?_), e3, fun hne => ?_⟩
              · have hne' : r.2 ≠ [] := by intro e; rw [e] at hne; exact hne rfl
                have := (e4 hne').1
                omega
              · have := e4 hne
                exact ⟨by omega, by have := hs8.1; omega, by omega⟩
            by_cases hm : crows = []
            · subst hm
              have hz : appendH H7 1 (lv 1 oid 0 rows.length) 0 [] = some (lv 1 oid 0 rows.length, H7) := by simp [appendH]
              simp only [List.append_nil] at hrows2
              simp (maxSteps := 1000000) [go_sem, undef, KeepL.of_prefix hp7, hz, hw1, hw2, hwi]
              refine andK_intro (by omega) (hK (s + 1, oid, rows) _ _ (by simp only; omega) (by simp [upF, Fr.get, Up.refl, hg2]) ⟨by simp only; omega, hpp.trans hp7, hoid, hol7, hrows2, fun r hr => ?_⟩)
              obtain ⟨x, y, e1, e2, e3, e4⟩ := hrd r hr
              exact ⟨x, y, e1, e2.pre (hp6.trans hp7), e3, fun hne => ⟨(e4 hne).1, by have := (e4 hne).2.1; omega, (e4 hne).2.2⟩⟩
            · have hm0 : 0 < crows.length := List.length_pos_iff.2 hm
              obtain ⟨H8, hap8, hol8, hsame8, hlen8⟩ := hol7.append (m := crows.length) (by omega) hm0 (news := crows.map (·.1)) (by simp)
              rw [← List.map_append, ← List.length_append] at hol8
              have hp8 : H <+: H8 := ((Same.of_prefix (hpp.trans hp7)).trans hsame8).prefix (by intro j hj e; omega)
              have hcc : cellsAt H7 cid 0 crows.length = some (crows.map (·.1)) := by
                have := hsrcC
                simp only [hm, if_false, Nat.mul_one] at this
                exact this
              simp (maxSteps := 1000000) [go_sem, undef, KeepL.of_prefix hp7, hcc, hm, hap8, hw1, hw2, hwi]
              refine andK_intro (by omega) (hK (s + 1, H7.length, rows ++ crows) _ _ (by simp only; omega) (by simp [upF, Fr.get, Up.refl, hg2]) ⟨by simp only; omega, hp8, by simp only; omega, hol8, hrows2, fun r hr => ?_⟩)
              rcases List.mem_append.1 hr with hr | hr
              · exact oldr hsame8 (Nat.le_refl _) r hr
              · exact newr hsame8 (Nat.le_refl _) r hr
        · have hleX0 := ((List.prefix_refl H')).length_le
          have hs0 : H' <+: H' ++ [⟨[.int .i64 b.a, .int .i64 b.b, .int .i64 b.c], true, true⟩] := List.prefix_append _ _
          have hkA : KeepL H'.length H' (H' ++ [⟨[.int .i64 b.a, .int .i64 b.b, .int .i64 b.c], true, true⟩]) := KeepL.of_prefix hs0 (by omega)
          have hcN := Holds.last H' [.int .i64 b.a, .int .i64 b.b, .int .i64 b.c]
          have hlY0 : (H' ++ [(⟨[.int .i64 b.a, .int .i64 b.b, .int .i64 b.c], true, true⟩ : Blk)]).length = H'.length + 1 := by simp
          try simp (maxSteps := 1000000) [go_sem, undef, hlt', hlt2, hw1, hw2, hwk, hsl, hsl', c1]
          rw [show H' ++ [(⟨[.int .i64 b.a, .int .i64 b.b, .int .i64 b.c], true, true⟩ : Blk), ⟨[], true, true⟩] = (H' ++ [⟨[.int .i64 b.a, .int .i64 b.b, .int .i64 b.c], true, true⟩]) ++ [⟨[], true, true⟩] by simp]
          generalize H' ++ [(⟨[.int .i64 b.a, .int .i64 b.b, .int .i64 b.c], true, true⟩ : Blk)] = HS0 at *
          refine andK_intro hkA ?_
          have hleX1 := (((List.prefix_refl H').trans hs0)).length_le
          have hs1 : HS0 <+: HS0 ++ [⟨[], true, true⟩] := List.prefix_append _ _
          have hkB : KeepL H'.length HS0 (HS0 ++ [⟨[], true, true⟩]) := KeepL.of_prefix hs1 (by omega)
          have hbE : (HS0 ++ [(⟨[], true, true⟩ : Blk)])[HS0.length]? = some ⟨[], true, true⟩ := by simp
          have hlY1 : (HS0 ++ [(⟨[], true, true⟩ : Blk)]).length = HS0.length + 1 := by simp
          try simp (maxSteps := 1000000) [go_sem, undef, hlt', hlt2, hw1, hw2, hwk, hsl, hsl', c1, hkA]
          generalize HS0 ++ [(⟨[], true, true⟩ : Blk)] = HS1 at *
          refine andK_intro hkB ?_
          rw [hlY0] at hbE
          replace hcN := hcN.pre hs1
          have hleX2 := ((((List.prefix_refl H').trans hs0).trans hs1)).length_le
          obtain ⟨v4, HS2, hapP, hv4, hs2⟩ := emptyAppend (L := H'.length) (e := 3) (m := now.length) (news := tri now) (by omega) hbE (by omega) (by rw [tri_length])
          obtain ⟨a4, rfl⟩ := hv4.shape
          have hkC : KeepL H'.length HS1 HS2 := KeepL.of_prefix hs2 (by omega)
          have hsrc := tri_src ((hnow.pre hp).pre (((List.prefix_refl H').trans hs0).trans hs1))
          simp only [srcCells, List.length_eq_zero_iff] at hsrc
          simp (maxSteps := 1000000) [go_sem, undef, hlt', hlt2, hw1, hw2, hwk, hsl, hsl', c1, hkA, hkB, hkC, hsrc, hapP]
          refine andK_intro (by omega) ?_
          replace hcN := hcN.pre hs2
          have hleE := (((((List.prefix_refl H').trans hs0).trans hs1).trans hs2)).length_le
          have hc : cellsAt HS2 H'.length 0 3 = some [.int .i64 b.a, .int .i64 b.b, .int .i64 b.c] := by simpa using hcN.cells (n := 3) (o := 0) (by simp)
          obtain ⟨v6, H6, hap, he6, hk6, hl6⟩ := hv4.append (m := 1) (news := [.int .i64 b.a, .int .i64 b.b, .int .i64 b.c]) (by omega) (by omega) rfl
          obtain ⟨a6, rfl⟩ := he6.shape
          have hp6 : H' <+: H6 := KeepL.prefix (((((List.prefix_refl H').trans hs0).trans hs1).trans hs2)) (Nat.le_refl _) hk6 (by omega)
          have hk6' : KeepL H'.length HS2 H6 := hk6
          have et : tri now ++ [.int .i64 b.a, .int .i64 b.b, .int .i64 b.c] = tri (now ++ [b]) := by rw [tri_append]; rfl
          rw [et] at he6
          obtain ⟨w6, hup6, hw6⟩ := (show OE 3 _ H6 _ (tri (now ++ [b])) (now ++ [b]).length by rw [List.length_append]; exact he6).blocks (by simp; omega)
          simp (maxSteps := 1000000) [go_sem, undef, hlt', hlt2, hw1, hw2, hwk, hsl, hsl', c1, hkA, hkB, hkC, hc, hap, hk6']
          refine andK_intro (by omega) ?_
          have hpp := hp.trans hp6
          have hle6 := hp6.length_le
          refine ACalls.up (args' := [lv 3 i o list.length, w6, .int .i64 ((g + 1 : Nat) : Int), .int .i64 (k : Nat)]) ⟨Up.refl _ _, hup6, by simpa using Up.refl _ _, Up.refl _ _, trivial⟩ ?_
          obtain ⟨i6, ⟨ew6, hb6, hn6⟩, hs6⟩ := hw6
          have hat6 : At H6 i6 0 (tri (now ++ [b])) := by
            rcases hb6 with e | e
            · left; rw [e]; rfl
            · exact Holds.at ⟨true, e⟩
          refine ih (list := list) (now := now ++ [b]) (L := H'.length) (fr := g + 1) ⟨i, o, rfl, h1.pre hpp, h2⟩ ⟨i6, 0, ew6, hat6, hn6, fun hne => (hs6 hne).1⟩ hle6 (by omega) (by simp; omega) hll (by omega) _ ?_
          intro H7 cid crows hp7 hcid hcol hcs hcr
          have hple7 := hp7.length_le
          have hol7 : OL 1 H7 oid (rows.map (·.1)) rows.length := hol.keep (S := fun _ => False) (Same.of_prefix (hp6.trans hp7)) (fun h => h)
          have holt := hol.lt
          have hsrcC : srcCells H7 1 (lv 1 cid 0 crows.length) = some (crows.map (·.1)) := hcol.at.src (by rw [List.length_map, Nat.mul_one]) (by omega) _
          simp only [srcCells, List.length_eq_zero_iff] at hsrcC
          have hcb := subs_len k (list.drop (g + 1)) (now ++ [b])
          rw [← hcs, List.length_map] at hcb
          have hb12 : ∀ m, m ≤ 12 → 2 ^ m ≤ 4096 := fun m hm => Nat.le_trans (Nat.pow_le_pow_right (by omega) hm) (by decide)
          have hcb2 := hb12 (list.drop (g + 1)).length (by rw [List.length_drop]; omega)
          have hrows2 : (rows ++ crows).map (·.2) = ((List.range (s + 1)).flatMap fun j => subs k ((list.drop fr).drop (j + 1)) (now ++ ((list.drop fr)[j]?).toList)) := by
            rw [List.range_succ, List.flatMap_append, List.map_append, hrows, hcs]
            simp only [List.flatMap_cons, List.flatMap_nil, List.append_nil, hres, Option.toList, List.drop_drop, hg2]
          have hrcnt : rows.length ≤ 4096 := by
            have := congrArg List.length hrows
            rw [List.length_map] at this
            rw [this]; exact Nat.le_trans (subs_pre k (list.drop fr) now s (by rw [List.length_drop]; omega)) (hb12 _ (by rw [List.length_drop]; omega))
          have oldr : ∀ {H8 : Heap} {oid8 : Nat}, Same (fun j => j = oid) H7 H8 → H7.length ≤ oid8 → ∀ r ∈ rows, RowIn H8 L oid8 r.1 r.2 := by
            intro H8 oid8 hs8 ho8 r hr
            obtain ⟨x, y, e1, e2, e3, e4⟩ := hrd r hr
            refine ⟨x, y, e1, At.keepS hs8 (e2.pre (hp6.trans hp7)) (fun hne => ?_), e3, fun hne => ?_⟩
            · have hne' : r.2 ≠ [] := by intro e; rw [e] at hne; exact hne rfl
              exact (e4 hne').2.2
            · have := e4 hne
              exact ⟨this.1, by have := hs8.1; omega, by omega⟩
          have newr : ∀ {H8 : Heap} {oid8 : Nat}, Same (fun j => j = oid) H7 H8 → H7.length ≤ oid8 → ∀ r ∈ crows, RowIn H8 L oid8 r.1 r.2 := by
            intro H8 oid8 hs8 ho8 r hr
            obtain ⟨x, y, e1, e2, e3, e4⟩ := hcr r hr
            refine ⟨x, y, e1, At.keepS hs8 e2 (fun hne => ?_), e3, fun hne => ?_⟩
            · have hne' : r.2 ≠ [] := by intro e; rw [e] at hne; exact hne rfl
              have := (e4 hne').1
              omega
            · have := e4 hne
              exact ⟨by omega, by have := hs8.1; omega, by omega⟩
          by_cases hm : crows = []
          · subst hm
            have hz : appendH H7 1 (lv 1 oid 0 rows.length) 0 [] = some (lv 1 oid 0 rows.length, H7) := by simp [appendH]
            simp only [List.append_nil] at hrows2
            simp (maxSteps := 1000000) [go_sem, undef, KeepL.of_prefix hp7, hz, hw1, hw2, hwi]
            refine andK_intro (by omega) (hK (s + 1, oid, rows) _ _ (by simp only; omega) (by simp [upF, Fr.get, Up.refl, hg2]) ⟨by simp only; omega, hpp.trans hp7, hoid, hol7, hrows2, fun r hr => ?_⟩)
            obtain ⟨x, y, e1, e2, e3, e4⟩ := hrd r hr
            exact ⟨x, y, e1, e2.pre (hp6.trans hp7), e3, fun hne => ⟨(e4 hne).1, by have := (e4 hne).2.1; omega, (e4 hne).2.2⟩⟩
          · have hm0 : 0 < crows.length := List.length_pos_iff.2 hm
            obtain ⟨H8, hap8, hol8, hsame8, hlen8⟩ := hol7.append (m := crows.length) (by omega) hm0 (news := crows.map (·.1)) (by simp)
            rw [← List.map_append, ← List.length_append] at hol8
            have hp8 : H <+: H8 := ((Same.of_prefix (hpp.trans hp7)).trans hsame8).prefix (by intro j hj e; omega)
            have hcc : cellsAt H7 cid 0 crows.length = some (crows.map (·.1)) := by
              have := hsrcC
              simp only [hm, if_false, Nat.mul_one] at this
              exact this
            simp (maxSteps := 1000000) [go_sem, undef, KeepL.of_prefix hp7, hcc, hm, hap8, hw1, hw2, hwi]
            refine andK_intro (by omega) (hK (s + 1, H7.length, rows ++ crows) _ _ (by simp only; omega) (by simp [upF, Fr.get, Up.refl, hg2]) ⟨by simp only; omega, hp8, by simp only; omega, hol8, hrows2, fun r hr => ?_⟩)
            rcases List.mem_append.1 hr with hr | hr
            · exact oldr hsame8 (Nat.le_refl _) r hr
            · exact newr hsame8 (Nat.le_refl _) r hr
      · have : s = list.length - fr - k := by omega
        subst this
        have hlt' : ¬ ((g : Int) + ((k : Int) + 1) ≤ list.length) := by omega
        have hlt2 : ¬ (g + (k + 1) ≤ list.length) := by omega
        have fin := h H' oid rows hp hoid hol (by rw [hrows]; simp only [subs, List.length_drop]) hrd
        simp (maxSteps := 1000000) [go_sem, hw1, hlt', hlt2]
        exact ⟨_, Up.refl _ _, fin⟩

end Go.Proofs.Ytdfeoccjllljiaa
end

section
/- The first part of a trade: the specification's l04Part, IsMinimalTrade. -/
set_option linter.all false
set_option maxRecDepth 20000
set_option maxHeartbeats 8000000
namespace Go.Proofs.Ytdfeoccjllljiaa
open Go.Ab Go.Sort

theorem find_at {α : Type} {l : List α} {p : α → Bool} {t : Nat} (ht : t < l.length) (hb : ∀ j (hj : j < l.length), j < t → p l[j] = false) (h : p l[t] = true) : l.find? p = some l[t] := by
  rw [List.find?_eq_some_iff_getElem]
  exact ⟨h, t, ht, rfl, fun j hj => by simp [hb j (by omega) hj]⟩
theorem sub_sorted {p : Int} {x s : List Bk} (h : IsSys p x) (hs : s.Sublist x) : sortB s = s := by
  have hp : x.Pairwise (fun a b => before b a = false) := by have := sortB_sorted _ x rfl; rwa [sys_sort h] at this
  exact (sort_uniq (List.Perm.refl _) (hp.sublist hs)).symm

theorem l04Part_ok {H : Heap} {u w : Value} {p q : Int} {o i : List Bk} (hu : BlocksAt H u o) (hw : BlocksAt H w i) (hS : IsSys q o) (hT : IsSys q i) (hl : o.length ≤ 12) (Post : Value → Heap → Prop)
    (h : ∀ H' a b, H <+: H' → BlocksAt H' a (partP o i).1 → BlocksAt H' b (partP o i).2 → Post (tradeV p a b) H') : ACalls Try.prog 73 [tradeV p u w] H Post := by
  have ou := hu.one
  have ow := hw.one
  have hi35 := hT.2.1
  refine acalls_vc (rs := [.cell 2 30]) Try.func73 rfl rfl Try.ntmps73 rfl rfl ?_
  simp (maxSteps := 1000000) [go_sem, tradeV, ou, ow]
  have hp0 : H <+: H ++ [⟨[.int .i64 p, u, w], true, true⟩, ⟨[.int .i64 0, .slice none 0 0, .slice none 0 0], true, true⟩] := List.prefix_append _ _
  have hx0 : Holds (H ++ [(⟨[.int .i64 p, u, w], true, true⟩ : Blk), ⟨[.int .i64 0, .slice none 0 0, .slice none 0 0], true, true⟩]) H.length [.int .i64 p, u, w] := ⟨true, by simp⟩
  have hb0 : (H ++ [(⟨[.int .i64 p, u, w], true, true⟩ : Blk), ⟨[.int .i64 0, .slice none 0 0, .slice none 0 0], true, true⟩])[H.length + 1]? = some ⟨[.int .i64 0, .slice none 0 0, .slice none 0 0], true, true⟩ := by simp
  have hlen : (H ++ [(⟨[.int .i64 p, u, w], true, true⟩ : Blk), ⟨[.int .i64 0, .slice none 0 0, .slice none 0 0], true, true⟩]).length = H.length + 2 := by simp
  generalize H ++ [(⟨[.int .i64 p, u, w], true, true⟩ : Blk), ⟨[.int .i64 0, .slice none 0 0, .slice none 0 0], true, true⟩] = H0 at hp0 hx0 hb0 hlen ⊢
  obtain ⟨uj, uq, eu, hu1, hu2⟩ : ∃ j q, u = lv 3 j q o.length ∧ At H j q (tri o) ∧ o.length ≤ 140737488355328 := hu
  subst eu
  have hu : BlocksAt H (lv 3 uj uq o.length) o := ⟨uj, uq, rfl, hu1, hu2⟩
  refine AWp.loopVc (St := Nat) (fun s => [(1, .pointer (some ⟨H.length, 0, none⟩)), (2, .pointer (some ⟨H.length + 1, 0, none⟩)), (3, .int .i64 ((s : Int) + 1))])
    (fun s H' => s ≤ o.length ∧ H0 <+: H' ∧ ∀ k, k < s → findP i (k + 1) o [] = none) (fun s => o.length - s) 0 ?_ ?_ ?_
  · simp [upF, Fr.get, Up.refl]
  · exact ⟨by omega, List.prefix_refl _, fun k hk => by omega⟩
  · rintro K s H' ⟨hs, hp, hbef⟩ hK
    obtain ⟨d0, d1, d2, d3⟩ := (hx0.pre hp).tr
    by_cases hlt : s + 1 < o.length
    · have hlt' : (s : Int) + 1 < o.length := by omega
      have ws : IntKind.i64.wrap ((s : Int) + 1 + 1) = (s : Int) + 1 + 1 := i64w (by omega) (by omega)
      simp (maxSteps := 1000000) [go_sem, hlt, hlt', d0, d1, d2, d3]
      have hpE : H' <+: H' ++ [⟨[], true, true⟩] := List.prefix_append _ _
      generalize H' ++ [(⟨[], true, true⟩ : Blk)] = HE at hpE ⊢
      have hpE0 := hp.trans hpE
      have hleE := hpE.length_le
      refine ACalls.up (args' := [lv 3 uj uq o.length, lv 3 H'.length 0 0, .int .i64 ((0 : Nat) : Int), .int .i64 ((s + 1 : Nat) : Int)]) ⟨Up.refl _ _, Up.ex0 _ _ _ _ _ _, by simpa using Up.refl _ _, by simpa using Up.refl _ _, trivial⟩ ?_
      refine subsets_ok (s + 1) (list := o) (now := []) (L := H'.length) (fr := 0) (hu.pre (hp0.trans hpE0)) ⟨H'.length, 0, rfl, .inl rfl, by simp, fun h => absurd rfl h⟩ hleE (by omega) (by simp; omega) hl (by omega) _ ?_
      intro H2 rid rows hp2 hrid hrol hrs hrr
      rw [List.drop_zero] at hrs
      have hp02 := hpE0.trans hp2
      have hrl : rows.length = (subs (s + 1) o []).length := by rw [← hrs, List.length_map]
      have hrb : rows.length ≤ 4096 := by
        rw [hrl]; exact Nat.le_trans (subs_len _ _ _) (Nat.le_trans (Nat.pow_le_pow_right (by omega) hl) (by decide))
      simp (maxSteps := 1000000) [go_sem]
      refine AWp.loopVc (St := Nat) (fun t => [(1, .pointer (some ⟨H.length, 0, none⟩)), (2, .pointer (some ⟨H.length + 1, 0, none⟩)), (3, .int .i64 ((s : Int) + 1)), (4, lv 1 rid 0 rows.length), (5, .int .i64 t)])
        (fun t H3 => t ≤ rows.length ∧ H2 <+: H3 ∧ ∀ j (hj : j < (subs (s + 1) o []).length), j < t → okS i (subs (s + 1) o [])[j] = false) (fun t => rows.length - t) 0 ?_ ?_ ?_
      · simp [upF, Fr.get, Up.refl]
      · exact ⟨by omega, List.prefix_refl _, fun j hj h => by omega⟩
      · rintro K2 t H3 ⟨ht, hp3, hno⟩ hK2
        have hp03 := hp02.trans hp3
        obtain ⟨d0, d1, d2, d3⟩ := (hx0.pre hp03).tr
        by_cases hlt2 : t < rows.length
        · have hw_t : IntKind.i64.wrap ((t : Int) + 1) = (t : Int) + 1 := i64w (by omega) (by omega)
          have hlt2' : (t : Int) < rows.length := by omega
          have hlt3 : t < (subs (s + 1) o []).length := by omega
          have es : (subs (s + 1) o [])[t] = rows[t].2 := by simp only [← hrs, List.getElem_map]
          obtain ⟨ri, ro, er, hrat, hrlen, _⟩ := hrr _ (List.getElem_mem hlt2)
          have c1 : cellsAt H3 rid t 1 = some [lv 3 ri ro rows[t].2.length] := by
            have := (hrol.at.pre hp3).cell (k := t) (v := rows[t].1) (by simp [hlt2])
            rw [er] at this
            simpa using this
          have hfs := fun (h : okS i (subs (s + 1) o [])[t] = true) => find_at (p := okS i) hlt3 hno h
          obtain ⟨st, hst1, hst2, hst3⟩ := subs_sub (s + 1) o [] _ (List.getElem_mem hlt3)
          rw [es] at hfs hst1
          rw [List.nil_append] at hst1
          have hrs3 : BlocksAt H3 (lv 3 ri ro rows[t].2.length) rows[t].2 := ⟨ri, ro, rfl, hrat.pre hp3, hrlen⟩
          have hno2 : okS i rows[t].2 = false → ∀ j (hj : j < (subs (s + 1) o []).length), j < t + 1 → okS i (subs (s + 1) o [])[j] = false := by
            intro he j hj hjt
            by_cases e : j = t
            · subst e; rw [es]; exact he
            · exact hno j hj (by omega)
          generalize rows[t].2 = sx at *
          have hst4 := hst1.symm
          subst hst4
          have hsg : ∀ x ∈ st, good 15 x = true := fun x hx => hS.good15 x (hst2.subset hx)
          simp (maxSteps := 1000000) [go_sem, hlt2]
          refine AWp.draw mixed [(0, false), (1, false), (2, false), (3, false), (4, false), (5, false), (6, false), (7, false)] (by kernel_rfl) ?_
          simp (maxSteps := 1000000) [go_sem, hlt2, hlt2', d0, d1, d2, d3, c1]
          refine l04Inner_ok hrs3 (hw.pre (hp0.trans hp03)) hsg hT.good15 (by omega) (by omega) _ ?_
          intro H4 v4 hp4 hv4
          have hp04 := hp03.trans hp4
          obtain ⟨d0, d1, d2, d3⟩ := (hx0.pre hp04).tr
          have c2 := cellsAt_mono hp4 c1
          have hv4r := hv4.read
          obtain ⟨vj, vq, ev, _, _⟩ : ∃ j q, v4 = lv 3 j q (innerB i st).length ∧ At H4 j q (tri (innerB i st)) ∧ (innerB i st).length ≤ 140737488355328 := hv4r
          subst ev
          have eok : okS i st = decide ((innerB i st).length = s + 1) := by unfold okS; rw [hst3]
          have hil : (innerB i st).length ≤ i.length := innerB_le _ _
          by_cases hin : (innerB i st).length = s + 1
          · have hin' : (((innerB i st).length : Int) == (s : Int) + 1) = true := by rw [hin]; simp
            have hin2 : ((innerB i st).length : Int) = (s : Int) + 1 := by omega
            have ee : partP o i = (st, innerB i st) := by
              unfold partP
              rw [findS_some hbef (hfs (by rw [eok]; exact decide_eq_true hin)) (by omega)]
            simp (maxSteps := 1000000) [go_sem, hin', hin2]
            refine AWp.draw mixed [(0, false), (1, false), (2, false), (3, false), (4, false), (5, false), (6, false), (7, false), (8, false)] (by kernel_rfl) ?_
            simp (maxSteps := 1000000) [go_sem, hlt2, hlt2', d0, d1, d2, d3, c2]
            refine l04Made_ok (hrs3.pre hp4) hv4.read (by have := hst2.length_le; omega) (by omega) _ ?_
            intro H5 a b hp5 hab
            rw [sub_sorted hS hst2, sub_sorted hT (show (innerB i st).Sublist i from List.filter_sublist)] at hab
            obtain ⟨a1, a2⟩ := hab.read.one
            obtain ⟨q1, q2, q3, q4⟩ := put3 (cs := [.int .i64 p, a, b]) hp0 (show H.length ≤ H.length + 1 by omega) hb0 rfl (hp04.trans hp5) rfl (by simp [a1, a2, one_int])
            have hle04 := hp04.length_le
            have hab2 := hab.keep q4 (fun j hj e => by have := hj.1; omega)
            have fin := h _ a b q3 (by rw [ee]; exact hab2.read.1) (by rw [ee]; exact hab2.read.2)
            simp (maxSteps := 1000000) [go_sem, tradeV, hp5, q1, q2]
            exact fin
          · have hin' : (((innerB i st).length : Int) == (s : Int) + 1) = false := by rw [beq_eq_false_iff_ne]; omega
            have hin2 : ¬ ((innerB i st).length : Int) = (s : Int) + 1 := by omega
            simp (maxSteps := 1000000) [go_sem, hin', hin2, hw_t]
            exact hK2 (t + 1) _ _ (by omega) (by simp [upF, Fr.get, Up.refl]) ⟨by omega, hp3.trans hp4, hno2 (by rw [eok]; exact decide_eq_false hin)⟩
        · have : t = rows.length := by omega
          have fnone : findP i (s + 1) o [] = none := by
            unfold findP
            rw [List.find?_eq_none]
            intro x hx
            obtain ⟨j, hj, rfl⟩ := List.mem_iff_getElem.1 hx
            rw [hno j hj (by omega)]; simp
          have hlt2' : ¬ (t : Int) < rows.length := by omega
          simp (maxSteps := 1000000) [go_sem, hlt2, hlt2', ws]
          refine hK (s + 1) _ _ (by omega) (by simp [upF, Fr.get, Up.refl]) ⟨by omega, hp03, fun k hk => ?_⟩
          by_cases hks : k = s
          · subst hks; exact fnone
          · exact hbef k (by omega)
    · have hlt' : ¬ ((s : Int) + 1 < o.length) := by omega
      have e : partP o i = (o, i) := by
        unfold partP
        rw [findS_none fun k hk => hbef k (by omega)]
      obtain ⟨q1, q2, q3, q4⟩ := put3 (cs := [.int .i64 p, lv 3 uj uq o.length, w]) hp0 (show H.length ≤ H.length + 1 by omega) hb0 rfl hp rfl (by simp [ow, one_int]; rfl)
      have fin := h _ (lv 3 uj uq o.length) w q3 (by rw [e]; exact hu.pre q3) (by rw [e]; exact hw.pre q3)
      simp (maxSteps := 1000000) [go_sem, hlt, hlt', tradeV, d0, d1, d2, d3, q1, q2]
      exact fin

end Go.Proofs.Ytdfeoccjllljiaa
end

section
/- PartsOfTrade: the plain parts; the implementation's side. -/
set_option linter.all false
set_option maxRecDepth 20000
set_option maxHeartbeats 8000000
namespace Go.Proofs.Ytdfeoccjllljiaa
open Go.Ab Go.Sort

/-- All parts, one behind the other. -/
def partsF : Nat → List Bk → List Bk → List (List Bk × List Bk)
  | 0, _, _ => []
  | n + 1, o, i => if o.isEmpty then [] else partP o i :: partsF n (lessB o (partP o i).1) (lessB i (partP o i).2)
noncomputable def rParts (p : Int) (o i : List Bk) : List (List Bk × List Bk) × Int :=
  if tradeB p o i then (if o.length ≤ 12 then (partsF o.length o i, 0) else ([], 3)) else ([], 1)
theorem partsF_nil (n : Nat) (i : List Bk) : partsF n [] i = [] := by cases n <;> rfl
theorem partsF_succ {n : Nat} {o i : List Bk} (h : o ≠ []) : partsF (n + 1) o i = partP o i :: partsF n (lessB o (partP o i).1) (lessB i (partP o i).2) := by
  rw [partsF, if_neg (by simpa using h)]
theorem partP_sub {o i : List Bk} (h : o ≠ []) : (partP o i).1 ≠ [] ∧ (partP o i).1.Sublist o ∧ (partP o i).2.Sublist i := by
  unfold partP
  split
  · rename_i s hs
    obtain ⟨k, _, hk⟩ := List.exists_of_findSome?_eq_some hs
    obtain ⟨t, e, h2, h3⟩ := subs_sub _ _ _ _ (List.mem_of_find?_eq_some hk)
    rw [List.nil_append] at e
    subst e
    refine ⟨?_, h2, List.filter_sublist⟩
    intro e
    have e : s = [] := e
    rw [e] at h3; simp at h3
  · exact ⟨h, List.Sublist.refl _, List.Sublist.refl _⟩
theorem less_lt {o a : List Bk} (hn : a ≠ []) (hs : a.Sublist o) : (lessB o a).length < o.length := by
  obtain ⟨x, hx⟩ : ∃ x, x ∈ a := by cases a with | nil => exact absurd rfl hn | cons x l => exact ⟨x, by simp⟩
  unfold lessB
  rw [List.length_filter_lt_length_iff_exists]
  exact ⟨x, hs.subset hx, by simp [memB, hx]⟩
theorem less_sub (o a : List Bk) : (lessB o a).Sublist o := List.filter_sublist
theorem sys_sub {p : Int} {x s : List Bk} (h : IsSys p x) (hs : s.Sublist x) : IsSys p s := by
  have ha : Asc x := asc_of _ rfl h.2.2.1
  have hg : ∀ b ∈ x, good p b = true := fun b hb => by
    obtain ⟨i, hi⟩ := List.mem_iff_getElem?.1 hb
    exact (h.2.2.1 i b hi).1
  have hs' : Asc s := List.Pairwise.sublist hs ha
  refine ⟨h.1, Nat.le_trans hs.length_le h.2.1, ?_, Fits.sub h.2.2.2 hs⟩
  intro i b hb
  refine ⟨hg b (hs.subset (List.mem_of_getElem? hb)), fun y hi hy => ?_⟩
  obtain ⟨h1, rfl⟩ := List.getElem?_eq_some_iff.1 hb
  obtain ⟨h2, rfl⟩ := List.getElem?_eq_some_iff.1 hy
  exact List.pairwise_iff_getElem.1 hs' (i - 1) i h2 h1 (by omega)

/-- No two numbers stand beside each other. -/
def NoInts (cs : List Value) : Prop := ∀ (o : Nat) (x y : Int), cs[o]? = some (.int .i64 x) → cs[o + 1]? = some (.int .i64 y) → False
theorem BlocksAt.past {H H' : Heap} {v : Value} {bs : List Bk} {k : Nat} (h : BlocksAt H v bs) (hk : ∀ b : Blk, H[k]? = some b → b.live = true → NoInts b.cells) (hs : Same (fun j => j = k) H H') : BlocksAt H' v bs := by
  obtain ⟨i, o, rfl, h1, h2⟩ := h
  refine ⟨i, o, rfl, ?_, h2⟩
  cases bs with
  | nil => exact .inl rfl
  | cons b bs =>
    refine atS hs h1 (fun _ e => ?_)
    subst e
    rcases h1 with h1 | h1
    · simp [tri_cons, Bk.cells] at h1
    · obtain ⟨c, hc, hl, hn, e⟩ := cellsAt_inv h1
      have e0 : (tri (b :: bs))[0]? = some (.int .i64 b.a) := by simp [tri_cons, Bk.cells]
      have e1 : (tri (b :: bs))[1]? = some (.int .i64 b.b) := by simp [tri_cons, Bk.cells]
      rw [e, List.getElem?_take, if_pos (by simp [tri_cons, Bk.cells]), List.getElem?_drop] at e0
      rw [e, List.getElem?_take, if_pos (by simp [tri_cons, Bk.cells]), List.getElem?_drop] at e1
      exact hk c hc hl o _ _ (by simpa using e0) (by simpa using e1)
theorem noInts_rows {rows : List Rw} (h : ∀ r ∈ rows, ∃ i n j m, r.u = lv 3 i 0 n ∧ r.w = lv 3 j 0 m) : NoInts (cellsT rows) := by
  intro o x y h0 h1
  have hlt := (List.getElem?_eq_some_iff.1 h0).1
  rw [cellsT_len] at hlt
  have hr : rows[o / 3]? = some (rows[o / 3]'(by omega)) := List.getElem?_eq_getElem (by omega)
  obtain ⟨i, n, j, m, hu, hw⟩ := h _ (List.getElem_mem (show o / 3 < rows.length by omega))
  obtain ⟨r, hre⟩ : ∃ r, rows[o / 3]'(by omega) = r := ⟨_, rfl⟩
  rw [hre] at hr hu hw
  have key : o % 3 = 0 ∨ o % 3 = 1 ∨ o % 3 = 2 := by omega
  rcases key with e | e | e
  · have hh := cellsT_get hr (j := 1) (by omega)
    rw [show o / 3 * 3 + 1 = o + 1 by omega, h1] at hh
    simp [Rw.cells, hu] at hh
  · have hh := cellsT_get hr (j := 1) (by omega)
    rw [show o / 3 * 3 + 1 = o by omega, h0] at hh
    simp [Rw.cells, hu] at hh
  · have hh := cellsT_get hr (j := 2) (by omega)
    rw [show o / 3 * 3 + 2 = o by omega, h0] at hh
    simp [Rw.cells, hw] at hh
theorem BuildT.noInts {H0 H : Heap} {oid : Nat} {rows : List Rw} (h : BuildT H0 H oid rows) : ∀ b : Blk, H[oid]? = some b → b.live = true → NoInts b.cells := by
  intro b hb hl
  rcases h.ol.2 with ⟨_, e⟩ | e
  · obtain ⟨c, hc, hc2, _⟩ := ghostAt_inv e
    rw [hb] at hc; cases hc; rw [hl] at hc2; cases hc2
  · rw [hb] at e; cases e
    refine noInts_rows fun r hr => ?_
    obtain ⟨_, _, _, m, _, _, ⟨i, ⟨x1, _, _⟩, _⟩, ⟨j, ⟨x2, _, _⟩, _⟩⟩ := h.spans r hr
    exact ⟨i, _, j, _, x1, x2⟩
theorem BlocksIn.tr {a b c : Nat} {H : Heap} {u w : Value} {o i : List Bk} (h1 : BlocksIn a b H u o) (h2 : BlocksIn b c H w i) (hab : a ≤ b) (hbc : b ≤ c) : TradeIn a c H u w o i := ⟨b, hab, hbc, h1, h2⟩

theorem implParts_ok {H : Heap} {u w : Value} {p : Int} {o i : List Bk} (ht : TradeAt H u w o i) (hl : o.length ≤ 1048576 ∧ i.length ≤ 1048576) (Post : Value → Heap → Prop)
    (h : ∀ H' v, H <+: H' → TrIn H.length H'.length H' v p (rParts p o i).1 → Post (.tuple #[v, .int .i64 (rParts p o i).2]) H') : ACalls Try.prog 30 [tradeV p u w] H Post := by
  obtain ⟨ou, ow⟩ := ht.one
  refine ACalls.res ?_
  refine acalls_vc (rs := [.tmp 2, .tmp 3]) Try.func30 rfl rfl Try.ntmps30 rfl rfl ?_
  simp (maxSteps := 1000000) [go_sem, tradeV, ou, ow]
  have hp0 : H <+: H ++ [⟨[.int .i64 p, u, w], true, true⟩] := List.prefix_append _ _
  have hx0 := Holds.last H [.int .i64 p, u, w]
  generalize H ++ [(⟨[.int .i64 p, u, w], true, true⟩ : Blk)] = H0 at hp0 hx0 ⊢
  have bad : ∀ H' (c : Int), H <+: H' → rParts p o i = ([], c) → ∃ v', Up H' (.tuple #[.slice none 0 0, .int .i64 c]) v' ∧ Post v' H' := by
    intro H' c hp hr
    refine ⟨_, Up.tuple (ys := #[lv 3 0 0 0, .int .i64 c]) ⟨Up.nil _ _ _ _, Up.refl _ _, trivial⟩, ?_⟩
    have := h H' (lv 3 0 0 0) hp (by rw [hr]; exact TrIn.nil _ _ _ _)
    rwa [hr] at this
  refine implIsTrade (ht.1.pre hp0) (ht.2.pre hp0) _ ?_
  intro H1 hp1
  obtain ⟨d0, d1, d2, d3⟩ := (hx0.pre hp1).tr
  cases hs : tradeB p o i with
  | false =>
    simp (maxSteps := 1000000) [go_sem]
    exact bad H1 1 (hp0.trans hp1) (by rw [rParts, hs]; rfl)
  | true =>
    obtain ⟨hS1, hS2⟩ := tradeB_sys hs
    have hu1 := ht.1.pre (hp0.trans hp1)
    have hw1 := ht.2.pre (hp0.trans hp1)
    obtain ⟨j, q, rfl, h1, h2⟩ := hu1
    obtain ⟨j', q', rfl, h1', h2'⟩ := hw1
    by_cases hlen : o.length ≤ 12
    · have hlen' : ¬ ((12 : Int) < o.length) := by omega
      have hlen2 : ¬ (12 < o.length) := by omega
      have hr : rParts p o i = (partsF o.length o i, 0) := by rw [rParts, hs, if_pos rfl, if_pos hlen]
      simp (maxSteps := 1000000) [go_sem, d1, d2, d3, hlen', hlen2]
      refine AWp.draw mixed [(0, false), (1, false), (2, false), (3, false), (4, false), (5, false)] (by kernel_rfl) ?_
      simp (maxSteps := 1000000) [go_sem, d2, d3]
      refine AWp.addGhost ?_
      have hb0 : BuildT H0 (H1 ++ [(⟨[], false, false⟩ : Blk)]) H1.length [] := (BuildT.start H1).lower hp1
      have hpg : H1 <+: H1 ++ [(⟨[], false, false⟩ : Blk)] := List.prefix_append _ _
      generalize H1 ++ [(⟨[], false, false⟩ : Blk)] = HG at hb0 hpg ⊢
      refine AWp.loopVc (St := Nat × List Rw × (Nat × Nat × List Bk) × (Nat × Nat × List Bk) × Nat)
        (fun s => [(1, .pointer (some ⟨H.length, 0, none⟩)), (4, lv 3 s.1 0 s.2.1.length), (5, lv 3 s.2.2.1.1 s.2.2.1.2.1 s.2.2.1.2.2.length), (6, lv 3 s.2.2.2.1.1 s.2.2.2.1.2.1 s.2.2.2.1.2.2.length)])
        (fun s H' => BuildT H0 H' s.1 s.2.1 ∧ (∀ r ∈ s.2.1, r.p = p ∧ r.o.length ≤ 100 ∧ r.i.length ≤ 100) ∧ BlocksAt H' (lv 3 s.2.2.1.1 s.2.2.1.2.1 s.2.2.1.2.2.length) s.2.2.1.2.2 ∧ BlocksAt H' (lv 3 s.2.2.2.1.1 s.2.2.2.1.2.1 s.2.2.2.1.2.2.length) s.2.2.2.1.2.2 ∧
          IsSys p s.2.2.1.2.2 ∧ IsSys p s.2.2.2.1.2.2 ∧ s.2.1.length + s.2.2.1.2.2.length ≤ 12 ∧ s.2.2.1.2.2.length ≤ s.2.2.2.2 ∧ s.2.1.map Rw.t ++ partsF s.2.2.2.2 s.2.2.1.2.2 s.2.2.2.1.2.2 = partsF o.length o i) (fun s => s.2.2.1.2.2.length)
        (H1.length, [], (j, q, o), (j', q', i), o.length) ?_ ?_ ?_
      · simp [upF, Fr.get, Up.refl, Up.nil]
      · exact ⟨hb0, by simp, ⟨j, q, rfl, h1.pre hpg, h2⟩, ⟨j', q', rfl, h1'.pre hpg, h2'⟩, hS1, hS2, by simpa using hlen, Nat.le_refl _, by simp⟩
      · rintro K ⟨oid, rows, ⟨ju, qu, o'⟩, ⟨jw, qw, i'⟩, fuel⟩ H' ⟨hb, hrw, hbu, hbw, hSo, hSi, hsum, hfu, heq⟩ hK
        simp only at hb hrw hbu hbw hSo hSi hsum hfu heq
        obtain ⟨d0, d1, d2, d3⟩ := (hx0.pre hb.pre).tr
        by_cases hne : o' = []
        · subst hne
          rw [partsF_nil, List.append_nil] at heq
          have fin := h H' (lv 3 oid 0 rows.length) (hp0.trans hb.pre) (by
            rw [hr]; simp only; rw [← heq]
            exact (hb.inn (by omega) hrw).wider hp0.length_le)
          rw [hr] at fin
          simp (maxSteps := 1000000) [go_sem]
          exact ⟨_, Up.refl _ _, fin⟩
        · have hpos : 0 < o'.length := List.length_pos_iff.2 hne
          have hposi : (0 : Int) < o'.length := by omega
          obtain ⟨f, rfl⟩ : ∃ f, fuel = f + 1 := ⟨fuel - 1, by omega⟩
          rw [partsF_succ hne] at heq
          obtain ⟨pn, ps1, ps2⟩ := partP_sub (i := i') hne
          have hlt := less_lt pn ps1
          have hi35 := hSi.2.1
          have hl2 := ps1.length_le
          have hl3 := ps2.length_le
          have hno := (less_sub o' (partP o' i').1).length_le
          have hnl := (less_sub i' (partP o' i').2).length_le
          have hSo' := sys_sub hSo (less_sub o' (partP o' i').1)
          have hSi' := sys_sub hSi (less_sub i' (partP o' i').2)
          simp (maxSteps := 1000000) [go_sem, hpos, hposi, hne]
          refine firstPart_ok hbu hbw hSo.good15 hSo.2.2.2 hSi.good15 (by omega) (by omega) _ ?_
          intro H2 a b hp2 ha hbb
          obtain ⟨ja, qa, rfl, xa, xa2⟩ := ha
          obtain ⟨jb, qb, rfl, xb, xb2⟩ := hbb
          have hxx2 := hx0.pre (hb.pre.trans hp2)
          obtain ⟨d0, d1, d2, d3⟩ := hxx2.tr
          obtain ⟨⟨A, B⟩, hAB⟩ : ∃ r, partP o' i' = r := ⟨_, rfl⟩
          rw [hAB] at xa xa2 xb xb2 heq ps1 ps2 pn hlt hl2 hl3 hno hnl hSo' hSi' ⊢
          simp only at xa xa2 xb xb2 heq ps1 ps2 pn hlt hl2 hl3 hno hnl hSo' hSi' ⊢
          simp (maxSteps := 1000000) [go_sem]
          refine AWp.draw mixed [(0, false), (1, false), (2, false), (3, false), (5, false), (4, true), (6, true), (7, false), (8, false), (9, false), (10, false)] (by kernel_rfl) ?_
          simp (maxSteps := 1000000) [go_sem, d1]
          refine cloneB_ok ⟨ja, qa, rfl, xa, xa2⟩ (by omega) _ ?_
          intro H3 ca hp3 hca
          simp (maxSteps := 1000000) [go_sem, d1, hp3]
          refine cloneB_ok ⟨jb, qb, rfl, xb.pre hp3, xb2⟩ (by omega) _ ?_
          intro H4 cb hp4 hcb
          have hp24 := hp3.trans hp4
          have hrow : TradeIn H2.length H4.length H4 ca cb A B := BlocksIn.tr (hca.pre hp4) hcb hp3.length_le hp4.length_le
          obtain ⟨hsrc, H5, hap, hb5, hs5⟩ := (hb.keep hp2).push (r := ⟨p, ca, cb, H2.length, H4.length, A, B⟩) hp24 hrow (Nat.le_refl _) (Nat.le_refl _) hp24.length_le
          obtain ⟨idc, ⟨rfl, _, _⟩, _⟩ := id hca
          obtain ⟨idd, ⟨rfl, _, _⟩, _⟩ := id hcb
          simp only [Rw.cells] at hsrc hap
          have hni := (hb.keep (hp2.trans hp24)).noInts
          have hrl : rows.length ≤ 12 := by omega
          simp (maxSteps := 1000000) [go_sem, hp4, hsrc, hap]
          refine andK_intro (by omega) ?_
          have ha5 : BlocksAt H5 (lv 3 ja qa A.length) A := BlocksAt.past ⟨ja, qa, rfl, xa.pre hp24, xa2⟩ hni hs5
          have hb5' : BlocksAt H5 (lv 3 jb qb B.length) B := BlocksAt.past ⟨jb, qb, rfl, xb.pre hp24, xb2⟩ hni hs5
          have ho5 : BlocksAt H5 (lv 3 ju qu o'.length) o' := BlocksAt.past (hbu.pre (hp2.trans hp24)) hni hs5
          have hi5 : BlocksAt H5 (lv 3 jw qw i'.length) i' := BlocksAt.past (hbw.pre (hp2.trans hp24)) hni hs5
          refine less_ok ho5 ha5 (by omega) _ ?_
          intro H6 v6 hp6 h6
          obtain ⟨id6, ⟨rfl, _, _⟩, _⟩ := id h6
          simp (maxSteps := 1000000) [go_sem]
          refine less_ok (hi5.pre hp6) (hb5'.pre hp6) (by omega) _ ?_
          intro H7 v7 hp7 h7
          obtain ⟨id7, ⟨rfl, _, _⟩, _⟩ := id h7
          simp (maxSteps := 1000000) [go_sem]
          refine hK (H4.length + 1, rows ++ [⟨p, lv 3 idc 0 A.length, lv 3 idd 0 B.length, H2.length, H4.length, A, B⟩], (id6, 0, lessB o' A), (id7, 0, lessB i' B), f) _ _ (by simp only; omega) (by simp [upF, Fr.get, Up.refl]) ⟨hb5.keep (hp6.trans hp7), ?_, (h6.pre hp7).read, h7.read, hSo', hSi', by simp only [List.length_append, List.length_singleton]; omega, by simp only; omega, ?_⟩
          · intro r hr
            rcases List.mem_append.1 hr with hr | hr
            · exact hrw r hr
            · simp at hr; subst hr; exact ⟨rfl, by simp only; omega, by simp only; omega⟩
          · simp only [List.map_append, List.map_cons, List.map_nil, List.append_assoc]
            exact heq
    · have hlen' : ((12 : Int) < o.length) := by omega
      have hlen2 : (12 < o.length) := by omega
      simp (maxSteps := 1000000) [go_sem, d1, d2, d3, hlen', hlen2]
      exact bad H1 3 (hp0.trans hp1) (by rw [rParts, hs, if_pos rfl, if_neg hlen])

end Go.Proofs.Ytdfeoccjllljiaa
end

section
/- A region's end told once; a cell made early and filled late. It holds for every program. -/
set_option linter.all false
namespace Go.Ab

theorem boxLate {Hz Hn : Heap} {id : Nat} {zs cs : List Value} (hz : Hz[id]? = some ⟨zs, true, true⟩) (hp : Hz <+: Hn) (hl : zs.length = cs.length) (ho : cs.all Value.oneCell' = true) :
    storeAt Hn id 0 cs = some (Hn.set id ⟨cs, true, true⟩) ∧ Holds (Hn.set id ⟨cs, true, true⟩) id cs ∧ Same (fun j => j = id) Hn (Hn.set id ⟨cs, true, true⟩) ∧ (Hn.set id ⟨cs, true, true⟩).length = Hn.length := by
  have hb := Same.get (S := fun _ => False) (Same.of_prefix hp) hz (fun h => h)
  refine ⟨?_, ⟨true, List.getElem?_set_self (List.getElem?_eq_some_iff.1 hb).1⟩, same_set, by simp⟩
  rw [storeAt_of hb rfl rfl (by simp [hl]) ho]
  congr 3
  simp [over, hl]

end Go.Ab
end

section
/- PartsOfTrade: the specification's side. -/
set_option linter.all false
set_option maxRecDepth 20000
set_option maxHeartbeats 8000000
namespace Go.Proofs.Ytdfeoccjllljiaa
open Go.Ab Go.Sort

theorem BuildT.same {H0 H H' : Heap} {oid k : Nat} {rows : List Rw} (h : BuildT H0 H oid rows) (hs : Same (fun j => j = k) H H') (hk : H0.length ≤ k) (hne : k ≠ oid) (hr : ∀ r ∈ rows, k < r.lo) : BuildT H0 H' oid rows :=
  ⟨((Same.of_prefix h.pre).trans hs).prefix (by rintro j hj rfl; omega), h.ol.keep hs (fun e => hne e.symm), h.ge, fun r hm => by
    obtain ⟨a, b, c, d⟩ := h.spans r hm
    have := hr r hm
    exact ⟨a, Nat.le_trans b hs.1, c, d.keep hs (by rintro j ⟨e1, e2⟩ rfl; omega)⟩, h.asc⟩
theorem noInts3 (p : Int) (i n j m : Nat) (q q' : Nat) : NoInts [.int .i64 p, lv 3 i q n, lv 3 j q' m] := by
  intro o x y h0 h1
  match o, h0, h1 with
  | 0, h0, h1 => simp at h1
  | 1, h0, h1 => simp at h0
  | 2, h0, h1 => simp at h0
  | o + 3, h0, h1 => simp at h0

theorem specParts_ok {H : Heap} {u w : Value} {p : Int} {o i : List Bk} (ht : TradeAt H u w o i) (hl : o.length ≤ 1048576 ∧ i.length ≤ 1048576) (Post : Value → Heap → Prop)
    (h : ∀ H' v, H <+: H' → TrIn H.length H'.length H' v p (rParts p o i).1 → Post (.tuple #[v, .int .i64 (rParts p o i).2]) H') : ACalls Try.prog 29 [tradeV p u w] H Post := by
  obtain ⟨ou, ow⟩ := ht.one
  refine ACalls.res ?_
  refine acalls_vc (rs := [.tmp 2, .tmp 3]) Try.func29 rfl rfl Try.ntmps29 rfl rfl ?_
  simp (maxSteps := 1000000) [go_sem, tradeV, ou, ow]
  have hp0 : H <+: H ++ [⟨[.int .i64 p, u, w], true, true⟩] := List.prefix_append _ _
  have hx0 := Holds.last H [.int .i64 p, u, w]
  have hbx0 : (H ++ [(⟨[.int .i64 p, u, w], true, true⟩ : Blk)])[H.length]? = some ⟨[.int .i64 p, u, w], true, true⟩ := by simp
  have hlen0 : (H ++ [(⟨[.int .i64 p, u, w], true, true⟩ : Blk)]).length = H.length + 1 := by simp
  generalize H ++ [(⟨[.int .i64 p, u, w], true, true⟩ : Blk)] = H0 at hp0 hx0 hbx0 hlen0 ⊢
  have bad : ∀ H' (c : Int), H <+: H' → rParts p o i = ([], c) → ∃ v', Up H' (.tuple #[.slice none 0 0, .int .i64 c]) v' ∧ Post v' H' := by
    intro H' c hp hr
    refine ⟨_, Up.tuple (ys := #[lv 3 0 0 0, .int .i64 c]) ⟨Up.nil _ _ _ _, Up.refl _ _, trivial⟩, ?_⟩
    have := h H' (lv 3 0 0 0) hp (by rw [hr]; exact TrIn.nil _ _ _ _)
    rwa [hr] at this
  refine l04Is_ok (ht.1.pre hp0) (ht.2.pre hp0) hl.1 hl.2 _ ?_
  intro H1 hp1
  obtain ⟨d0, d1, d2, d3⟩ := (hx0.pre hp1).tr
  cases hs : tradeB p o i with
  | false =>
    simp (maxSteps := 1000000) [go_sem]
    exact bad H1 1 (hp0.trans hp1) (by rw [rParts, hs]; rfl)
  | true =>
    obtain ⟨hS1, hS2⟩ := tradeB_sys hs
    have hu1 := ht.1.pre (hp0.trans hp1)
    have hw1 := ht.2.pre (hp0.trans hp1)
    obtain ⟨j, q, rfl, h1, h2⟩ := hu1
    obtain ⟨j', q', rfl, h1', h2'⟩ := hw1
    by_cases hlen : o.length ≤ 12
    · have hlen' : ¬ ((12 : Int) < o.length) := by omega
      have hlen2 : ¬ (12 < o.length) := by omega
      have hr : rParts p o i = (partsF o.length o i, 0) := by rw [rParts, hs, if_pos rfl, if_pos hlen]
      have hl1 := hp1.length_le
      simp (maxSteps := 1000000) [go_sem, d1, d2, d3, hlen', hlen2]
      have hb0 : BuildT H (H1 ++ [(⟨[], true, true⟩ : Blk)]) H1.length [] := (BuildT.nil H1).lower (hp0.trans hp1)
      have hpg : H1 <+: H1 ++ [(⟨[], true, true⟩ : Blk)] := List.prefix_append _ _
      have hbx1 := Same.get (S := fun _ => False) (Same.of_prefix (hp1.trans hpg)) hbx0 (fun h => h)
      generalize H1 ++ [(⟨[], true, true⟩ : Blk)] = HG at hb0 hpg hbx1 ⊢
      refine AWp.loopVc (St := Nat × List Rw × (Nat × Nat × List Bk) × (Nat × Nat × List Bk) × Nat)
        (fun s => [(1, .pointer (some ⟨H.length, 0, none⟩)), (4, lv 3 s.1 0 s.2.1.length)])
        (fun s H' => BuildT H H' s.1 s.2.1 ∧ (∀ r ∈ s.2.1, r.p = p ∧ r.o.length ≤ 100 ∧ r.i.length ≤ 100) ∧ BlocksAt H' (lv 3 s.2.2.1.1 s.2.2.1.2.1 s.2.2.1.2.2.length) s.2.2.1.2.2 ∧ BlocksAt H' (lv 3 s.2.2.2.1.1 s.2.2.2.1.2.1 s.2.2.2.1.2.2.length) s.2.2.2.1.2.2 ∧
          IsSys p s.2.2.1.2.2 ∧ IsSys p s.2.2.2.1.2.2 ∧ s.2.1.length + s.2.2.1.2.2.length ≤ 12 ∧ s.2.2.1.2.2.length ≤ s.2.2.2.2 ∧ s.2.1.map Rw.t ++ partsF s.2.2.2.2 s.2.2.1.2.2 s.2.2.2.1.2.2 = partsF o.length o i ∧
          H.length < s.1 ∧ (∀ r ∈ s.2.1, H.length < r.lo) ∧ H'[H.length]? = some ⟨[.int .i64 p, lv 3 s.2.2.1.1 s.2.2.1.2.1 s.2.2.1.2.2.length, lv 3 s.2.2.2.1.1 s.2.2.2.1.2.1 s.2.2.2.1.2.2.length], true, true⟩) (fun s => s.2.2.1.2.2.length)
        (H1.length, [], (j, q, o), (j', q', i), o.length) ?_ ?_ ?_
      · simp [upF, Fr.get, Up.refl, Up.ex0]
      · exact ⟨hb0, by simp, ⟨j, q, rfl, h1.pre hpg, h2⟩, ⟨j', q', rfl, h1'.pre hpg, h2'⟩, hS1, hS2, by simpa using hlen, Nat.le_refl _, by simp, by simp only; omega, by simp, hbx1⟩
      · rintro K ⟨oid, rows, ⟨ju, qu, o'⟩, ⟨jw, qw, i'⟩, fuel⟩ H' ⟨hb, hrw, hbu, hbw, hSo, hSi, hsum, hfu, heq, hoid, hlos, hbx⟩ hK
        simp only at hb hrw hbu hbw hSo hSi hsum hfu heq hoid hlos hbx
        have hxx : Holds H' H.length [.int .i64 p, lv 3 ju qu o'.length, lv 3 jw qw i'.length] := ⟨true, hbx⟩
        obtain ⟨d0, d1, d2, d3⟩ := hxx.tr
        by_cases hne : o' = []
        · subst hne
          rw [partsF_nil, List.append_nil] at heq
          have fin := h H' (lv 3 oid 0 rows.length) hb.pre (by
            rw [hr]; simp only; rw [← heq]
            exact hb.inn (by omega) hrw)
          rw [hr] at fin
          simp (maxSteps := 1000000) [go_sem, d2]
          exact ⟨_, Up.refl _ _, fin⟩
        · have hpos : 0 < o'.length := List.length_pos_iff.2 hne
          have hposi : (0 : Int) < o'.length := by omega
          obtain ⟨f, rfl⟩ : ∃ f, fuel = f + 1 := ⟨fuel - 1, by omega⟩
          rw [partsF_succ hne] at heq
          obtain ⟨pn, ps1, ps2⟩ := partP_sub (i := i') hne
          have hlt := less_lt pn ps1
          have hi35 := hSi.2.1
          have hl2 := ps1.length_le
          have hl3 := ps2.length_le
          have hno := (less_sub o' (partP o' i').1).length_le
          have hnl := (less_sub i' (partP o' i').2).length_le
          have hSo' := sys_sub hSo (less_sub o' (partP o' i').1)
          have hSi' := sys_sub hSi (less_sub i' (partP o' i').2)
          have hsA := sub_sorted hSo ps1
          have hsB := sub_sorted hSi ps2
          have hsC := less_sort hSo (partP o' i').1
          have hsD := less_sort hSi (partP o' i').2
          simp (maxSteps := 1000000) [go_sem, d0, d2, hpos, hposi, hne]
          refine l04Part_ok (p := p) (q := p) hbu hbw hSo hSi (by omega) _ ?_
          intro H2 a b hp2 ha hbb
          have oa := ha.one
          have ob := hbb.one
          have hbx2 := Same.get (S := fun _ => False) (Same.of_prefix hp2) hbx (fun h => h)
          obtain ⟨⟨A, B⟩, hAB⟩ : ∃ r, partP o' i' = r := ⟨_, rfl⟩
          rw [hAB] at ha hbb heq ps1 ps2 pn hlt hl2 hl3 hno hnl hSo' hSi' hsA hsB hsC hsD
          simp only at ha hbb heq ps1 ps2 pn hlt hl2 hl3 hno hnl hSo' hSi' hsA hsB hsC hsD
          simp (maxSteps := 1000000) [go_sem, tradeV, oa, ob]
          have hpt : H2 <+: H2 ++ [⟨[.int .i64 p, a, b], true, true⟩] := List.prefix_append _ _
          have hy0 := Holds.last H2 [.int .i64 p, a, b]
          have hlt2 : (H2 ++ [(⟨[.int .i64 p, a, b], true, true⟩ : Blk)]).length = H2.length + 1 := by simp
          generalize H2 ++ [(⟨[.int .i64 p, a, b], true, true⟩ : Blk)] = HT at hpt hy0 hlt2 ⊢
          have hbxT := Same.get (S := fun _ => False) (Same.of_prefix hpt) hbx2 (fun h => h)
          have hxT : Holds HT H.length [.int .i64 p, lv 3 ju qu o'.length, lv 3 jw qw i'.length] := ⟨true, hbxT⟩
          obtain ⟨d0, d1, d2, d3⟩ := hxT.tr
          obtain ⟨e0, e1, e2, e3⟩ := hy0.tr
          have hbT := hb.keep (hp2.trans hpt)
          have hoT := hbT.ol.lt
          have hlo0 := hb.ol.lt
          have hle2 := hp2.length_le
          simp (maxSteps := 1000000) [go_sem, d1, e2, e3]
          refine l04Made_ok (ha.pre hpt) (hbb.pre hpt) (by omega) (by omega) _ ?_
          intro H4 ca cb hp4 hrow
          rw [hsA, hsB] at hrow
          obtain ⟨hsrc, H5, hap, hb5, hs5⟩ := hbT.push (r := ⟨p, ca, cb, HT.length, H4.length, A, B⟩) hp4 hrow (Nat.le_refl _) (Nat.le_refl _) hp4.length_le
          obtain ⟨mm, _, _, hca, hcb⟩ := id hrow
          obtain ⟨idc, ⟨rfl, _, _⟩, _⟩ := id hca
          obtain ⟨idd, ⟨rfl, _, _⟩, _⟩ := id hcb
          simp only [Rw.cells] at hsrc hap
          have hni := (hb.keep (hp2.trans (hpt.trans hp4))).noInts
          have hrl : rows.length ≤ 12 := by omega
          simp (maxSteps := 1000000) [go_sem, tradeV, hsrc, hap]
          refine andK_intro (by omega) ?_
          have hle4 := hp4.length_le
          have hbx5 := hs5.get (Same.get (S := fun _ => False) (Same.of_prefix hp4) hbxT (fun h => h)) (by omega)
          have hx5 : Holds H5 H.length [.int .i64 p, lv 3 ju qu o'.length, lv 3 jw qw i'.length] := ⟨true, hbx5⟩
          have hy5 : Holds H5 H2.length [.int .i64 p, a, b] := (hy0.pre hp4).keepS hs5 (by omega)
          have ha5 : BlocksAt H5 a A := BlocksAt.past (ha.pre (hpt.trans hp4)) hni hs5
          have hb5' : BlocksAt H5 b B := BlocksAt.past (hbb.pre (hpt.trans hp4)) hni hs5
          have ho5 : BlocksAt H5 (lv 3 ju qu o'.length) o' := BlocksAt.past (hbu.pre (hp2.trans (hpt.trans hp4))) hni hs5
          have hi5 : BlocksAt H5 (lv 3 jw qw i'.length) i' := BlocksAt.past (hbw.pre (hp2.trans (hpt.trans hp4))) hni hs5
          obtain ⟨d0, d1, d2, d3⟩ := hx5.tr
          obtain ⟨e0, e1, e2, e3⟩ := hy5.tr
          refine AWp.draw mixed [(0, false), (1, false), (2, false), (3, false), (4, false), (5, false), (7, false), (8, false), (9, false), (10, false), (6, true), (11, true), (12, false), (13, false)] (by kernel_rfl) ?_
          simp (maxSteps := 1000000) [go_sem, d1, d2, d3, e2, e3]
          refine l04Less_ok ho5 ha5 (by omega) _ ?_
          intro H6 v6 hp6 h6
          obtain ⟨d0, d1, d2, d3⟩ := (hx5.pre hp6).tr
          obtain ⟨e0, e1, e2, e3⟩ := (hy5.pre hp6).tr
          simp (maxSteps := 1000000) [go_sem, hp6, d1, d2, d3, e2, e3]
          refine l04Less_ok (hi5.pre hp6) (hb5'.pre hp6) (by omega) _ ?_
          intro H7 v7 hp7 h7
          obtain ⟨d0, d1, d2, d3⟩ := (hx5.pre (hp6.trans hp7)).tr
          simp (maxSteps := 1000000) [go_sem, hp7, d1, d2, d3]
          refine l04Made_ok (h6.pre hp7).read h7.read (by omega) (by omega) _ ?_
          intro H8 u8 w8 hp8 h8
          rw [hsC, hsD] at h8
          obtain ⟨m8, hm1, hm2, h8u, h8w⟩ := id h8
          obtain ⟨iu, ⟨rfl, _, _⟩, hspu⟩ := id h8u
          obtain ⟨iw, ⟨rfl, _, _⟩, hspw⟩ := id h8w
          have hp58 := hp6.trans (hp7.trans hp8)
          have hbx8 := Same.get (S := fun _ => False) (Same.of_prefix hp58) hbx5 (fun h => h)
          obtain ⟨st, hld, hS9, hl9⟩ := boxLate (cs := [.int .i64 p, lv 3 iu 0 (lessB o' A).length, lv 3 iw 0 (lessB i' B).length]) hbx8 (List.prefix_refl _) rfl rfl
          have hb9 : (H8.set H.length ⟨[.int .i64 p, lv 3 iu 0 (lessB o' A).length, lv 3 iw 0 (lessB i' B).length], true, true⟩)[H.length]? = some ⟨[.int .i64 p, lv 3 iu 0 (lessB o' A).length, lv 3 iw 0 (lessB i' B).length], true, true⟩ := List.getElem?_set_self (List.getElem?_eq_some_iff.1 hbx8).1
          generalize H8.set H.length ⟨[.int .i64 p, lv 3 iu 0 (lessB o' A).length, lv 3 iw 0 (lessB i' B).length], true, true⟩ = H9 at st hld hS9 hl9 hb9
          simp (maxSteps := 1000000) [go_sem, tradeV, hp8, st]
          have hni8 : ∀ b : Blk, H8[H.length]? = some b → b.live = true → NoInts b.cells := by
            intro b hb' _
            rw [hbx8] at hb'; cases hb'
            exact noInts3 _ _ _ _ _ _ _
          have hlos' : ∀ r ∈ rows ++ [(⟨p, lv 3 idc 0 A.length, lv 3 idd 0 B.length, HT.length, H4.length, A, B⟩ : Rw)], H.length < r.lo := by
            intro r hr
            rcases List.mem_append.1 hr with hr | hr
            · exact hlos r hr
            · simp at hr; subst hr; simp only; omega
          refine hK (H4.length + 1, rows ++ [⟨p, lv 3 idc 0 A.length, lv 3 idd 0 B.length, HT.length, H4.length, A, B⟩], (iu, 0, lessB o' A), (iw, 0, lessB i' B), f) _ _ (by simp only; omega) (by simp [upF, Fr.get, Up.refl])
            ⟨(hb5.keep hp58).same hS9 (Nat.le_refl _) (by omega) hlos', ?_, BlocksAt.past h8u.read hni8 hS9, BlocksAt.past h8w.read hni8 hS9, hSo', hSi', by simp only [List.length_append, List.length_singleton]; omega, by simp only; omega, ?_, by simp only; omega, hlos', hb9⟩
          · intro r hr
            rcases List.mem_append.1 hr with hr | hr
            · exact hrw r hr
            · simp at hr; subst hr; exact ⟨rfl, by simp only; omega, by simp only; omega⟩
          · simp only [List.map_append, List.map_cons, List.map_nil, List.append_assoc]
            exact heq
    · have hlen' : ((12 : Int) < o.length) := by omega
      have hlen2 : (12 < o.length) := by omega
      simp (maxSteps := 1000000) [go_sem, d1, d2, d3, hlen', hlen2]
      exact bad H1 3 (hp0.trans hp1) (by rw [rParts, hs, if_pos rfl, if_neg hlen])

end Go.Proofs.Ytdfeoccjllljiaa
end

section
/- The law on PartsOfTrade, in abstract terms: its code returns true, for every input. -/
set_option linter.all false
set_option maxRecDepth 20000
set_option maxHeartbeats 8000000
namespace Go.Proofs.Ytdfeoccjllljiaa
open Go.Ab

theorem lawFnExactPartsOfTrade (H : Heap) (avs : List Value) (h : argsSay [shTrade] H avs) : ACalls Try.prog 5 avs H fun v _ => v = .bool true := by
  obtain ⟨_, _, rfl, a0, rfl⟩ := h
  obtain ⟨p0, u0, y0, o0, i0, rfl, hp00, hz0⟩ := says_shTrade a0
  have one0 : u0.oneCell' = true := by obtain ⟨⟨i, o, rfl, _⟩, _⟩ := hz0; rfl
  have two0 : y0.oneCell' = true := by obtain ⟨_, ⟨i, o, rfl, _⟩⟩ := hz0; rfl
  refine acalls_vc (rs := [.tmp 2]) Try.func5 rfl rfl Try.ntmps5 rfl rfl ?_
  try simp (maxSteps := 1000000) [go_sem, one0, sysV, tradeV, two0]
  have hp1 : H <+: H ++ [(⟨[.int .i64 p0, u0, y0], true, true⟩ : Blk)] := List.prefix_append _ _
  have bx0 : Holds (H ++ [(⟨[.int .i64 p0, u0, y0], true, true⟩ : Blk)]) (H.length) [.int .i64 p0, u0, y0] := ⟨true, by simp⟩
  have hbH1 : (H ++ [(⟨[.int .i64 p0, u0, y0], true, true⟩ : Blk)]).length = H.length + 1 := by simp
  generalize H ++ [(⟨[.int .i64 p0, u0, y0], true, true⟩ : Blk)] = H1 at hp1 hbH1 bx0 ⊢
  have hlH1 := hp1.length_le
  have qz0 := hp1
  obtain ⟨d0a, d0b, d0c, d0d⟩ := bx0.tr
  refine szTrade0_ok (hz0.pre qz0) (by omega) (by omega) _ ?_
  intro H2 hp2
  replace bx0 := bx0.pre hp2
  replace qz0 := qz0.trans hp2
  have hlH2 := hp2.length_le
  obtain ⟨d0a, d0b, d0c, d0d⟩ := bx0.tr
  by_cases hbig0 : (1048576 : Int) < o0.length
  · simp (maxSteps := 1000000) [go_sem, hbig0, one0, sysV, tradeV, two0]
  by_cases hbih0 : (1048576 : Int) - o0.length < i0.length
  · simp (maxSteps := 1000000) [go_sem, hbig0, hbih0, one0, sysV, tradeV, two0]
  have hneg0 : decide ((1048576 : Int) - o0.length - i0.length < 0) = false := by simp; omega
  have hl0 : o0.length ≤ 1048576 ∧ i0.length ≤ 1048576 := by omega
  have hq0 := hz0.at hl0
  try simp (maxSteps := 1000000) [go_sem, hbig0, hbih0, hneg0, one0, sysV, tradeV, two0, d0a, d0b, d0c, d0d]
  refine toTr_ok (hq0.pre qz0) hl0 _ ?_
  intro H3 wo3 yo3 hp3 hoo3
  replace bx0 := bx0.pre hp3
  replace qz0 := qz0.trans hp3
  have hlH3 := hp3.length_le
  obtain ⟨d0a, d0b, d0c, d0d⟩ := bx0.tr
  try simp (maxSteps := 1000000) [go_sem, hbig0, hbih0, hneg0, one0, sysV, tradeV, two0, d0a, d0b, d0c, d0d]
  refine specParts_ok hoo3.read hl0 _ ?_
  intro H4 wH4_0 hp4 hoH4_0
  replace bx0 := bx0.pre hp4
  replace hoo3 := hoo3.pre hp4
  replace qz0 := qz0.trans hp4
  have hlH4 := hp4.length_le
  obtain ⟨d0a, d0b, d0c, d0d⟩ := bx0.tr
  try simp (maxSteps := 1000000) [go_sem, hbig0, hbih0, hneg0, one0, sysV, tradeV, two0, d0a, d0b, d0c, d0d]
  refine toTr_ok (hq0.pre qz0) hl0 _ ?_
  intro H5 wo5 yo5 hp5 hoo5
  replace bx0 := bx0.pre hp5
  replace hoo3 := hoo3.pre hp5
  replace hoH4_0 := hoH4_0.pre hp5
  replace qz0 := qz0.trans hp5
  have hlH5 := hp5.length_le
  obtain ⟨d0a, d0b, d0c, d0d⟩ := bx0.tr
  have one_o5 : wo5.oneCell' = true := hoo5.read.one.1
  have two_o5 : yo5.oneCell' = true := hoo5.read.one.2
  try simp (maxSteps := 1000000) [go_sem, hbig0, hbih0, hneg0, one0, one_o5, sysV, tradeV, two0, two_o5, d0a, d0b, d0c, d0d]
  have bxo5 := Holds.last H5 [.int .i64 p0, wo5, yo5]
  have hp6 : H5 <+: H5 ++ [(⟨[.int .i64 p0, wo5, yo5], true, true⟩ : Blk)] := List.prefix_append _ _
  have hbH6 : (H5 ++ [(⟨[.int .i64 p0, wo5, yo5], true, true⟩ : Blk)]).length = H5.length + 1 := by simp
  generalize H5 ++ [(⟨[.int .i64 p0, wo5, yo5], true, true⟩ : Blk)] = H6 at bxo5 hp6 hbH6 ⊢
  replace bx0 := bx0.pre hp6
  replace hoo3 := hoo3.pre hp6
  replace hoH4_0 := hoH4_0.pre hp6
  replace hoo5 := hoo5.pre hp6
  replace qz0 := qz0.trans hp6
  have hlH6 := hp6.length_le
  obtain ⟨d0a, d0b, d0c, d0d⟩ := bx0.tr
  obtain ⟨eo5a, eo5b, eo5c, eo5d⟩ := bxo5.tr
  try simp (maxSteps := 1000000) [go_sem, hbig0, hbih0, hneg0, one0, one_o5, sysV, tradeV, two0, two_o5, d0a, d0b, d0c, d0d, eo5a, eo5b, eo5c, eo5d]
  refine implParts_ok hoo5.read hl0 _ ?_
  intro H7 wH7_0 hp7 hoH7_0
  replace bx0 := bx0.pre hp7
  replace bxo5 := bxo5.pre hp7
  replace hoo3 := hoo3.pre hp7
  replace hoH4_0 := hoH4_0.pre hp7
  replace hoo5 := hoo5.pre hp7
  replace qz0 := qz0.trans hp7
  have hlH7 := hp7.length_le
  obtain ⟨d0a, d0b, d0c, d0d⟩ := bx0.tr
  obtain ⟨eo5a, eo5b, eo5c, eo5d⟩ := bxo5.tr
  try simp (maxSteps := 1000000) [go_sem, hbig0, hbih0, hneg0, one0, one_o5, sysV, tradeV, two0, two_o5, d0a, d0b, d0c, d0d, eo5a, eo5b, eo5c, eo5d]
  refine eqTs_ok hoH7_0.read hoH4_0.read _ ?_
  intro H8 hp8
  replace bx0 := bx0.pre hp8
  replace bxo5 := bxo5.pre hp8
  replace hoo3 := hoo3.pre hp8
  replace hoH4_0 := hoH4_0.pre hp8
  replace hoo5 := hoo5.pre hp8
  replace hoH7_0 := hoH7_0.pre hp8
  replace qz0 := qz0.trans hp8
  have hlH8 := hp8.length_le
  obtain ⟨d0a, d0b, d0c, d0d⟩ := bx0.tr
  obtain ⟨eo5a, eo5b, eo5c, eo5d⟩ := bxo5.tr
  try simp (maxSteps := 1000000) [go_sem, hbig0, hbih0, hneg0, one0, one_o5, sysV, tradeV, two0, two_o5, d0a, d0b, d0c, d0d, eo5a, eo5b, eo5c, eo5d]
  refine AWp.draw mixed [(0, false), (1, false), (2, true), (3, false), (4, false)] (by kernel_rfl) ?_
  try simp (maxSteps := 1000000) [go_sem, hbig0, hbih0, hneg0, one0, one_o5, sysV, tradeV, two0, two_o5, d0a, d0b, d0c, d0d, eo5a, eo5b, eo5c, eo5d]
  refine toTr_ok (hq0.pre qz0) hl0 _ ?_
  intro H9 wo9 yo9 hp9 hoo9
  replace bx0 := bx0.pre hp9
  replace bxo5 := bxo5.pre hp9
  replace hoo3 := hoo3.pre hp9
  replace hoH4_0 := hoH4_0.pre hp9
  replace hoo5 := hoo5.pre hp9
  replace hoH7_0 := hoH7_0.pre hp9
  replace qz0 := qz0.trans hp9
  have hlH9 := hp9.length_le
  obtain ⟨d0a, d0b, d0c, d0d⟩ := bx0.tr
  obtain ⟨eo5a, eo5b, eo5c, eo5d⟩ := bxo5.tr
  try simp (maxSteps := 1000000) [go_sem, hbig0, hbih0, hneg0, hp9, one0, one_o5, sysV, tradeV, two0, two_o5, d0a, d0b, d0c, d0d, eo5a, eo5b, eo5c, eo5d]
  refine eqTrade_ok hoo5.read hoo9.read _ ?_
  intro H10 hp10
  replace bx0 := bx0.pre hp10
  replace bxo5 := bxo5.pre hp10
  replace hoo3 := hoo3.pre hp10
  replace hoH4_0 := hoH4_0.pre hp10
  replace hoo5 := hoo5.pre hp10
  replace hoH7_0 := hoH7_0.pre hp10
  replace hoo9 := hoo9.pre hp10
  replace qz0 := qz0.trans hp10
  have hlH10 := hp10.length_le
  obtain ⟨d0a, d0b, d0c, d0d⟩ := bx0.tr
  obtain ⟨eo5a, eo5b, eo5c, eo5d⟩ := bxo5.tr
  try simp (maxSteps := 1000000) [go_sem, hbig0, hbih0, hneg0, hp9, one0, one_o5, sysV, tradeV, two0, two_o5, d0a, d0b, d0c, d0d, eo5a, eo5b, eo5c, eo5d]
  have hmlo5 : (o0).length ≤ 1048576 ∧ (i0).length ≤ 1048576 := by omega
  refine markTr_ok hoo5 (by omega) hmlo5 (by omega) (by omega) _ ?_
  intro H11 hs11 mk11
  replace bx0 := bx0.keepS hs11 (by rintro ⟨h1, h2⟩; omega)
  replace bxo5 := bxo5.keepS hs11 (by rintro ⟨h1, h2⟩; omega)
  replace hoo3 := hoo3.keep hs11 (by rintro j ⟨h1, h2⟩ ⟨h3, h4⟩; omega)
  replace hoH4_0 := hoH4_0.keep hs11 (by rintro j ⟨h1, h2⟩ ⟨h3, h4⟩; omega)
  replace hoH7_0 := hoH7_0.keep hs11 (by rintro j ⟨h1, h2⟩ ⟨h3, h4⟩; omega)
  replace hoo9 := hoo9.keep hs11 (by rintro j ⟨h1, h2⟩ ⟨h3, h4⟩; omega)
  replace qz0 := ((Same.of_prefix qz0).trans hs11).prefix (by rintro j hj ⟨h1, h2⟩; omega)
  have hlH11 := hs11.1
  obtain ⟨d0a, d0b, d0c, d0d⟩ := bx0.tr
  obtain ⟨eo5a, eo5b, eo5c, eo5d⟩ := bxo5.tr
  have hng11 : decide ((1 : Int) + ((((o0).length + (i0).length) * 3 : Nat) : Int) < 0) = false := by simp only [decide_eq_false_iff_not]; omega
  try simp only [Int.natCast_mul, Int.natCast_add, Int.cast_ofNat_Int] at hng11
  try simp (maxSteps := 1000000) [go_sem, hbig0, hbih0, hneg0, hng11, hp9, one0, one_o5, sysV, tradeV, two0, two_o5, d0a, d0b, d0c, d0d, eo5a, eo5b, eo5c, eo5d]
  refine eqTs_ok hoH7_0.read hoH4_0.read _ ?_
  intro H12 hp12
  replace bx0 := bx0.pre hp12
  replace bxo5 := bxo5.pre hp12
  replace hoo3 := hoo3.pre hp12
  replace hoH4_0 := hoH4_0.pre hp12
  replace mk11 := mk11.pre hp12
  replace hoH7_0 := hoH7_0.pre hp12
  replace hoo9 := hoo9.pre hp12
  replace qz0 := qz0.trans hp12
  have hlH12 := hp12.length_le
  obtain ⟨d0a, d0b, d0c, d0d⟩ := bx0.tr
  obtain ⟨eo5a, eo5b, eo5c, eo5d⟩ := bxo5.tr
  try simp (maxSteps := 1000000) [go_sem, hbig0, hbih0, hneg0, hng11, hp9, one0, one_o5, sysV, tradeV, two0, two_o5, d0a, d0b, d0c, d0d, eo5a, eo5b, eo5c, eo5d]
  obtain ⟨TrH7_0, hTrH7_0⟩ : ∃ T : Nat, T = numT ((rParts p0 o0 i0).1) := ⟨_, rfl⟩
  refine markTs_ok hoH7_0 hTrH7_0 (by omega) (by omega) _ ?_
  intro H13 hs13 mk13
  replace bx0 := bx0.keepS hs13 (by rintro ⟨h1, h2⟩; omega)
  replace bxo5 := bxo5.keepS hs13 (by rintro ⟨h1, h2⟩; omega)
  replace hoo3 := hoo3.keep hs13 (by rintro j ⟨h1, h2⟩ ⟨h3, h4⟩; omega)
  replace hoH4_0 := hoH4_0.keep hs13 (by rintro j ⟨h1, h2⟩ ⟨h3, h4⟩; omega)
  replace mk11 := mk11.keep hs13 (by rintro j ⟨h1, h2⟩ ⟨h3, h4⟩; omega)
  replace hoo9 := hoo9.keep hs13 (by rintro j ⟨h1, h2⟩ ⟨h3, h4⟩; omega)
  replace qz0 := ((Same.of_prefix qz0).trans hs13).prefix (by rintro j hj ⟨h1, h2⟩; omega)
  have hlH13 := hs13.1
  obtain ⟨d0a, d0b, d0c, d0d⟩ := bx0.tr
  obtain ⟨eo5a, eo5b, eo5c, eo5d⟩ := bxo5.tr
  have hng13 : decide ((1 : Int) + (TrH7_0 : Int) < 0) = false := by simp only [decide_eq_false_iff_not]; omega
  try simp only [Int.natCast_mul, Int.cast_ofNat_Int] at hng13
  try simp (maxSteps := 1000000) [go_sem, hbig0, hbih0, hneg0, hng11, hng13, hp9, one0, one_o5, sysV, tradeV, two0, two_o5, d0a, d0b, d0c, d0d, eo5a, eo5b, eo5c, eo5d]
  refine heldTs_ok mk13 hTrH7_0 (by omega) (by omega) _ ?_
  try simp (maxSteps := 1000000) [go_sem, hbig0, hbih0, hneg0, hng11, hng13, hp9, one0, one_o5, sysV, tradeV, two0, two_o5, d0a, d0b, d0c, d0d, eo5a, eo5b, eo5c, eo5d]
  refine toTr_ok (hq0.pre qz0) hl0 _ ?_
  intro H14 wo14 yo14 hp14 hoo14
  replace bx0 := bx0.pre hp14
  replace bxo5 := bxo5.pre hp14
  replace hoo3 := hoo3.pre hp14
  replace hoH4_0 := hoH4_0.pre hp14
  replace mk11 := mk11.pre hp14
  replace mk13 := mk13.pre hp14
  replace hoo9 := hoo9.pre hp14
  replace qz0 := qz0.trans hp14
  have hlH14 := hp14.length_le
  obtain ⟨d0a, d0b, d0c, d0d⟩ := bx0.tr
  obtain ⟨eo5a, eo5b, eo5c, eo5d⟩ := bxo5.tr
  try simp (maxSteps := 1000000) [go_sem, hbig0, hbih0, hneg0, hng11, hng13, hp9, one0, one_o5, sysV, tradeV, two0, two_o5, d0a, d0b, d0c, d0d, eo5a, eo5b, eo5c, eo5d]
  refine implParts_ok hoo14.read hl0 _ ?_
  intro H15 wH15_0 hp15 hoH15_0
  replace bx0 := bx0.pre hp15
  replace bxo5 := bxo5.pre hp15
  replace hoo3 := hoo3.pre hp15
  replace hoH4_0 := hoH4_0.pre hp15
  replace mk11 := mk11.pre hp15
  replace mk13 := mk13.pre hp15
  replace hoo9 := hoo9.pre hp15
  replace hoo14 := hoo14.pre hp15
  replace qz0 := qz0.trans hp15
  have hlH15 := hp15.length_le
  obtain ⟨d0a, d0b, d0c, d0d⟩ := bx0.tr
  obtain ⟨eo5a, eo5b, eo5c, eo5d⟩ := bxo5.tr
  try simp (maxSteps := 1000000) [go_sem, hbig0, hbih0, hneg0, hng11, hng13, hp9, one0, one_o5, sysV, tradeV, two0, two_o5, d0a, d0b, d0c, d0d, eo5a, eo5b, eo5c, eo5d]
  refine eqTs_ok hoH15_0.read hoH4_0.read _ ?_
  intro H16 hp16
  replace bx0 := bx0.pre hp16
  replace bxo5 := bxo5.pre hp16
  replace hoo3 := hoo3.pre hp16
  replace hoH4_0 := hoH4_0.pre hp16
  replace mk11 := mk11.pre hp16
  replace mk13 := mk13.pre hp16
  replace hoo9 := hoo9.pre hp16
  replace hoo14 := hoo14.pre hp16
  replace hoH15_0 := hoH15_0.pre hp16
  replace qz0 := qz0.trans hp16
  have hlH16 := hp16.length_le
  obtain ⟨d0a, d0b, d0c, d0d⟩ := bx0.tr
  obtain ⟨eo5a, eo5b, eo5c, eo5d⟩ := bxo5.tr
  try simp (maxSteps := 1000000) [go_sem, hbig0, hbih0, hneg0, hng11, hng13, hp9, one0, one_o5, sysV, tradeV, two0, two_o5, d0a, d0b, d0c, d0d, eo5a, eo5b, eo5c, eo5d]
  refine heldTs_ok mk13 hTrH7_0 (by omega) (by omega) _ ?_
  try simp (maxSteps := 1000000) [go_sem, hbig0, hbih0, hneg0, hng11, hng13, hp9, one0, one_o5, sysV, tradeV, two0, two_o5, d0a, d0b, d0c, d0d, eo5a, eo5b, eo5c, eo5d]

end Go.Proofs.Ytdfeoccjllljiaa
end
