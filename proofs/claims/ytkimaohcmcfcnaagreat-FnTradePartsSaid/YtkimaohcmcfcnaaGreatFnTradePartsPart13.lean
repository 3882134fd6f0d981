/- Part 13 of what the proof of the law FnTradeParts rests on: contracts of functions of the program, for every argument that each names; no statement of the seat is proved here. -/
import Derived.Test.YtkimaohcmcfcnaaGreatFnTradePartsPart12

set_option linter.all false
set_option maxRecDepth 20000
set_option maxHeartbeats 8000000
section
namespace Go.Proofs.YtkimaohcmcfcnaaGreat
open Go.Ab

theorem RIn.past {lo k : Nat} {H H' : Heap} {v : Value} {bs : List Bk} {cs : List Value} (h : RIn lo H v bs) (hb : H[k]? = some ⟨cs, true, true⟩) (hn : NoInts cs) (hs : Same (fun j => j = k) H H') : RIn lo H' v bs := by
  obtain ⟨i, o, rfl, h1, h2, h3⟩ := h
  refine ⟨i, o, rfl, ?_, h2, h3⟩
  cases bs with
  | nil => exact .inl rfl
  | cons b bs =>
    refine atS hs h1 (fun _ e => ?_)
    subst e
    rcases h1 with h1 | h1
    · simp [tri_cons, Bk.cells] at h1
    · obtain ⟨c, hc, hl, hn2, e⟩ := cellsAt_inv h1
      rw [hb] at hc
      obtain rfl := Option.some.inj hc
      have e0 : (tri (b :: bs))[0]? = some (.int .i64 b.a) := by simp [tri_cons, Bk.cells]
      have e1 : (tri (b :: bs))[1]? = some (.int .i64 b.b) := by simp [tri_cons, Bk.cells]
      rw [e, List.getElem?_take, if_pos (by simp [tri_cons, Bk.cells]), List.getElem?_drop] at e0
      rw [e, List.getElem?_take, if_pos (by simp [tri_cons, Bk.cells]), List.getElem?_drop] at e1
      exact hn o _ _ (by simpa using e0) (by simpa using e1)
theorem noIntsT {H H' : Heap} {lo lo' : Nat} {p : Int} {u w : Value} {o i : List Bk} (hu : RIn lo H u o) (hw : RIn lo' H' w i) : NoInts [.int .i64 p, u, w] := by
  obtain ⟨a, b, rfl, _⟩ := hu
  obtain ⟨c, d, rfl, _⟩ := hw
  exact noInts3 _ _ _ _ _ _ _
theorem trb_one {H : Heap} {t : Nat} {p : Int} {u w : Value} (h : H[t]? = some ⟨[.int .i64 p, u, w], true, true⟩) (q : Int) (x : Value) (hx : x.oneCell' = true) :
    (storeAt H t 0 [.int .i64 q] = some (H.set t ⟨[.int .i64 q, u, w], true, true⟩) /\ (H.set t ⟨[.int .i64 q, u, w], true, true⟩)[t]? = some ⟨[.int .i64 q, u, w], true, true⟩ /\ Same (fun j => j = t) H (H.set t ⟨[.int .i64 q, u, w], true, true⟩)) /\
    (storeAt H t 2 [x] = some (H.set t ⟨[.int .i64 p, u, x], true, true⟩) /\ (H.set t ⟨[.int .i64 p, u, x], true, true⟩)[t]? = some ⟨[.int .i64 p, u, x], true, true⟩ /\ Same (fun j => j = t) H (H.set t ⟨[.int .i64 p, u, x], true, true⟩)) := by
  have hl := (List.getElem?_eq_some_iff.1 h).1
  refine ⟨⟨?_, List.getElem?_set_self hl, same_set2⟩, ?_, List.getElem?_set_self hl, same_set2⟩
  · rw [storeAt_of h rfl rfl (by simp) (by simp [one_int]), over_one (by simp)]; rfl
  · rw [storeAt_of h rfl rfl (by simp) (by simp [hx]), over_one (by simp)]; rfl

theorem drawTrade_ok {L s : Nat} {H : Heap} (hs : Src L s H) (Post : Value -> Heap -> Prop)
    (h : ∀ (H' : Heap) (r : Int) (u w : Value) (o i : List Bk), Same (fun j => j = s) H H' -> RIn H.length H' u o -> RIn H.length H' w i -> o.length <= 300 -> i.length <= 300 -> Post (tradeV r u w) H') :
    ACalls Tryz.prog 13 [.pointer (some ⟨s, 0, none⟩)] H Post := by
  have hslt := hs.lt
  have hsL := hs.1
  refine acalls_vc (rs := [.cell 2 26]) Tryz.func13 rfl rfl Tryz.ntmps13 rfl rfl ?_
  simp (maxSteps := 1000000) [go_sem]
  have hp0 : H <+: H ++ [⟨[.int .i64 0, .slice none 0 0, .slice none 0 0], true, true⟩] := List.prefix_append _ _
  have hr0 : (H ++ [(⟨[.int .i64 0, .slice none 0 0, .slice none 0 0], true, true⟩ : Blk)])[H.length]? = some ⟨[.int .i64 0, .slice none 0 0, .slice none 0 0], true, true⟩ := by simp
  have hl0 : (H ++ [(⟨[.int .i64 0, .slice none 0 0, .slice none 0 0], true, true⟩ : Blk)]).length = H.length + 1 := by simp
  generalize H ++ [(⟨[.int .i64 0, .slice none 0 0, .slice none 0 0], true, true⟩ : Blk)] = H0 at hp0 hr0 hl0 ⊢
  have fin : ∀ (HN : Heap) (r : Int) (u w : Value) (o i : List Bk), Same (fun j => j = s) H HN -> HN[H.length]? = some ⟨[.int .i64 0, .slice none 0 0, .slice none 0 0], true, true⟩ -> RIn (H.length + 1) HN u o -> RIn (H.length + 1) HN w i -> o.length <= 300 -> i.length <= 300 ->
      ∃ HZ, storeAt HN H.length 0 [.int .i64 r, u, w] = some HZ /\ cellsAt HZ H.length 0 3 = some [.int .i64 r, u, w] /\ Post (tradeV r u w) HZ := by
    intro HN r u w o i hsm hr hu hw ho hi
    obtain ⟨_, _, _, _, g⟩ := trb_cells hr
    obtain ⟨s1, s2, s3⟩ := g r u w hu.one hw.one
    exact ⟨_, s1, (trb_cells s2).1, h _ r u w o i (sameUp hsm s3 (fun j e => by omega)) ((hu.keep s3 (fun j hj e => by omega)).wider (by omega)) ((hw.keep s3 (fun j hj e => by omega)).wider (by omega)) ho hi⟩
  refine drawTradeOf_ok (hs.pre hp0) _ ?_
  intro H1 r u w o i hs1 hS1 hu hw ho hi
  have oneu := hu.one
  have onew := hw.one
  have hle1 := hs1.1
  simp (maxSteps := 1000000) [go_sem, tradeV, oneu, onew]
  have hb2 : (H1 ++ [(⟨[.int .i64 r, u, w], true, true⟩ : Blk)])[H1.length]? = some ⟨[.int .i64 r, u, w], true, true⟩ := by simp
  have hp2 : H1 <+: H1 ++ [(⟨[.int .i64 r, u, w], true, true⟩ : Blk)] := List.prefix_append _ _
  generalize H1 ++ [(⟨[.int .i64 r, u, w], true, true⟩ : Blk)] = H2 at hb2 hp2 ⊢
  refine next_ok (hS1.pre hp2) _ ?_
  intro H3 k hs3 hl3 hS3 hk0 hk1
  have hb3 := hs3.get hb2 (by omega)
  have hr3 := hs3.get (Same.get (S := fun _ => False) (Same.of_prefix hp2) (hs1.get hr0 (by omega)) (fun e => e)) (by omega)
  have hsm3 := (((Same.of_prefix (S := fun j => j = s) hp0).trans hs1).trans (Same.of_prefix hp2)).trans hs3
  have hu3 := (hu.keep (S := fun _ => False) (Same.of_prefix hp2) (fun _ _ e => e)).keep hs3 (fun j hj e => by omega)
  have hw3 := (hw.keep (S := fun _ => False) (Same.of_prefix hp2) (fun _ _ e => e)).keep hs3 (fun j hj e => by omega)
  obtain ⟨b0, b1, b2, b3, g⟩ := trb_cells hb3
  have hH1 : H0.length <= H1.length := hle1
  have key : ∀ (HN : Heap) (r : Int) (u w : Value) (o i : List Bk), Same (fun j => j = s) H HN -> HN[H1.length]? = some ⟨[.int .i64 r, u, w], true, true⟩ -> HN[H.length]? = some ⟨[.int .i64 0, .slice none 0 0, .slice none 0 0], true, true⟩ -> RIn (H.length + 1) HN u o -> RIn (H.length + 1) HN w i -> o.length <= 300 -> i.length <= 300 ->
      cellsAt HN H1.length 0 3 = some [.int .i64 r, u, w] /\ ∃ HZ, storeAt HN H.length 0 [.int .i64 r, u, w] = some HZ /\ cellsAt HZ H.length 0 3 = some [.int .i64 r, u, w] /\ Post (tradeV r u w) HZ :=
    fun HN r u w o i e1 e2 e3 e4 e5 e6 e7 => ⟨(trb_cells e2).1, fin HN r u w o i e1 e3 e4 e5 e6 e7⟩
  by_cases c0 : k = 0
  · subst c0
    obtain ⟨wi, wo, rfl, wat, wl, wlo⟩ := id hw3
    by_cases hn : 0 < i.length
    · have hw' : RIn H0.length H3 (lv 3 wi (wo + 3) (i.length - 1)) (i.drop 1) := ⟨wi, wo + 3, by rw [List.length_drop], by simpa using At.drop_tri wat 1 (by omega), by rw [List.length_drop]; omega, fun hne => wlo (by intro e; rw [e] at hn; simp at hn)⟩
      obtain ⟨_, st, hN, hsN⟩ := trb_one hb3 0 (lv 3 wi (wo + 3) (i.length - 1)) rfl
      have nob := noIntsT (p := r) hu3 hw3
      obtain ⟨q0, HZ, q1, q2, q3⟩ := key _ r u _ o (i.drop 1) (sameUp hsm3 hsN (fun j e => by omega)) hN (hsN.get hr3 (by omega)) ((hu3.past hb3 nob hsN).wider (by omega)) ((hw'.past hb3 nob hsN).wider (by omega)) ho (by rw [List.length_drop]; omega)
      have hn1 : 1 <= i.length := hn
      have hn1' : (1 : Int) <= i.length := by omega
      simp (maxSteps := 1000000) [go_sem, b3, hn, hn1, hn1', sliceV, boundV, lenV]
      try simp (maxSteps := 1000000) [go_sem, st, q0, q1, q2]
      exact q3
    · obtain ⟨q0, HZ, q1, q2, q3⟩ := key H3 r u _ o i hsm3 hb3 hr3 (hu3.wider (by omega)) (hw3.wider (by omega)) ho hi
      simp (maxSteps := 1000000) [go_sem, b3, hn, q0, q1, q2]
      exact q3
  have f0 : (k == 0) = false := by simpa using c0
  by_cases c1 : k = 1
  · subst c1
    simp (maxSteps := 1000000) [go_sem]
    have hp4 : H3 <+: H3 ++ [(⟨[.int .i64 2, .int .i64 16, .int .i64 5], true, true⟩ : Blk)] := List.prefix_append _ _
    have hi4 : (H3 ++ [(⟨[.int .i64 2, .int .i64 16, .int .i64 5], true, true⟩ : Blk)])[H3.length]? = some ⟨ints [2, 16, 5], true, true⟩ := by simp [ints]
    generalize H3 ++ [(⟨[.int .i64 2, .int .i64 16, .int .i64 5], true, true⟩ : Blk)] = H4 at hp4 hi4 ⊢
    refine pick_ok (hS3.pre hp4) (xs := [2, 16, 5]) hi4 (by have := hs3.1; have := hp2.length_le; omega) (by simp) (by simp) _ ?_
    intro H5 y hs5 hl5 hS5 hy
    have hs35 : Same (fun j => j = s) H3 H5 := (Same.of_prefix hp4).trans hs5
    have hb5 := hs35.get hb3 (by omega)
    have hu5 := hu3.keep hs35 (fun j hj e => by omega)
    have hw5 := hw3.keep hs35 (fun j hj e => by omega)
    obtain ⟨⟨st, hN, hsN⟩, _⟩ := trb_one hb5 y (.int .i64 0) rfl
    have nob := noIntsT (p := r) hu5 hw5
    obtain ⟨q0, HZ, q1, q2, q3⟩ := key _ y u w o i (sameUp (hsm3.trans hs35) hsN (fun j e => by omega)) hN (hsN.get (hs35.get hr3 (by omega)) (by omega)) ((hu5.past hb5 nob hsN).wider (by omega)) ((hw5.past hb5 nob hsN).wider (by omega)) ho hi
    simp (maxSteps := 1000000) [go_sem, st, q0, q1, q2]
    exact q3
  have f1 : (k == 1) = false := by simpa using c1
  by_cases c2 : k = 2
  · subst c2
    obtain ⟨_, st, hN, hsN⟩ := trb_one hb3 0 u oneu
    have nob := noIntsT (p := r) hu3 hw3
    obtain ⟨q0, HZ, q1, q2, q3⟩ := key _ r u u o o (sameUp hsm3 hsN (fun j e => by omega)) hN (hsN.get hr3 (by omega)) ((hu3.past hb3 nob hsN).wider (by omega)) ((hu3.past hb3 nob hsN).wider (by omega)) ho ho
    obtain ⟨ui, uo, rfl, _⟩ := id hu3
    simp (maxSteps := 1000000) [go_sem, b2, st, q0, q1, q2]
    exact q3
  have f2 : (k == 2) = false := by simpa using c2
  obtain ⟨q0, HZ, q1, q2, q3⟩ := key H3 r u w o i hsm3 hb3 hr3 (hu3.wider (by omega)) (hw3.wider (by omega)) ho hi
  simp (maxSteps := 1000000) [go_sem, f0, f1, f2, q0, q1, q2]
  exact q3

theorem drawParts_ok {H : Heap} {c : Value} {xs : List Int} (hc : BytesAt H c xs) (Post : Value -> Heap -> Prop)
    (h : ∀ (H' : Heap) (r : Int) (u w : Value) (o i : List Bk), H <+: H' -> RIn H.length H' u o -> RIn H.length H' w i -> o.length <= 300 -> i.length <= 300 -> Post (tradeV r u w) H') :
    ACalls Tryz.prog 5 [c] H Post := by
  refine acalls_vc (rs := [.cell 2 26]) Tryz.func5 rfl rfl Tryz.ntmps5 rfl rfl ?_
  simp (maxSteps := 1000000) [go_sem]
  have hp0 : H <+: H ++ [⟨[.int .i64 0, .slice none 0 0, .slice none 0 0], true, true⟩] := List.prefix_append _ _
  have hr0 : (H ++ [(⟨[.int .i64 0, .slice none 0 0, .slice none 0 0], true, true⟩ : Blk)])[H.length]? = some ⟨[.int .i64 0, .slice none 0 0, .slice none 0 0], true, true⟩ := by simp
  have hl0 : (H ++ [(⟨[.int .i64 0, .slice none 0 0, .slice none 0 0], true, true⟩ : Blk)]).length = H.length + 1 := by simp
  generalize H ++ [(⟨[.int .i64 0, .slice none 0 0, .slice none 0 0], true, true⟩ : Blk)] = H0 at hp0 hr0 hl0 ⊢
  refine from_ok (hc.pre hp0) _ ?_
  intro H1 hp1 hl1 hS1
  try simp (maxSteps := 1000000) [go_sem]
  refine drawTrade_ok hS1 _ ?_
  intro H2 r u w o i hs2 hu hw ho hi
  have hr2 := hs2.get (pget hp1 hr0) (by omega)
  obtain ⟨_, _, _, _, g⟩ := trb_cells hr2
  obtain ⟨s1, s2, s3⟩ := g r u w hu.one hw.one
  have c0 := (trb_cells s2).1
  have hsm : Same (fun j => j = H0.length) H0 H2 := (Same.of_prefix hp1).trans hs2
  have fin := h _ r u w o i (Same.prefix (S := fun j => H.length <= j) (((Same.of_prefix hp0).trans (hsm.mono fun j _ e => by omega)).trans (s3.mono fun j _ e => by omega)) (fun j hj e => by omega)) ((hu.keep s3 (fun j hj e => by omega)).wider (by omega)) ((hw.keep s3 (fun j hj e => by omega)).wider (by omega)) ho hi
  have o1 := hu.one
  have o2 := hw.one
  simp (maxSteps := 1000000) [go_sem, tradeV, s1, c0, o1, o2]
  exact fin

theorem drawIsMin_ok {H : Heap} {c : Value} {xs : List Int} (hc : BytesAt H c xs) (Post : Value -> Heap -> Prop)
    (h : ∀ (H' : Heap) (r : Int) (u w : Value) (o i : List Bk), H <+: H' -> RIn H.length H' u o -> RIn H.length H' w i -> o.length <= 300 -> i.length <= 300 -> Post (tradeV r u w) H') :
    ACalls Tryz.prog 9 [c] H Post := by
  refine acalls_vc (rs := [.cell 2 26]) Tryz.func9 rfl rfl Tryz.ntmps9 rfl rfl ?_
  simp (maxSteps := 1000000) [go_sem]
  have hp0 : H <+: H ++ [⟨[.int .i64 0, .slice none 0 0, .slice none 0 0], true, true⟩] := List.prefix_append _ _
  have hr0 : (H ++ [(⟨[.int .i64 0, .slice none 0 0, .slice none 0 0], true, true⟩ : Blk)])[H.length]? = some ⟨[.int .i64 0, .slice none 0 0, .slice none 0 0], true, true⟩ := by simp
  have hl0 : (H ++ [(⟨[.int .i64 0, .slice none 0 0, .slice none 0 0], true, true⟩ : Blk)]).length = H.length + 1 := by simp
  generalize H ++ [(⟨[.int .i64 0, .slice none 0 0, .slice none 0 0], true, true⟩ : Blk)] = H0 at hp0 hr0 hl0 ⊢
  refine from_ok (hc.pre hp0) _ ?_
  intro H1 hp1 hl1 hS1
  try simp (maxSteps := 1000000) [go_sem]
  refine drawTrade_ok hS1 _ ?_
  intro H2 r u w o i hs2 hu hw ho hi
  have hr2 := hs2.get (pget hp1 hr0) (by omega)
  obtain ⟨_, _, _, _, g⟩ := trb_cells hr2
  obtain ⟨s1, s2, s3⟩ := g r u w hu.one hw.one
  have c0 := (trb_cells s2).1
  have hsm : Same (fun j => j = H0.length) H0 H2 := (Same.of_prefix hp1).trans hs2
  have fin := h _ r u w o i (Same.prefix (S := fun j => H.length <= j) (((Same.of_prefix hp0).trans (hsm.mono fun j _ e => by omega)).trans (s3.mono fun j _ e => by omega)) (fun j hj e => by omega)) ((hu.keep s3 (fun j hj e => by omega)).wider (by omega)) ((hw.keep s3 (fun j hj e => by omega)).wider (by omega)) ho hi
  have o1 := hu.one
  have o2 := hw.one
  simp (maxSteps := 1000000) [go_sem, tradeV, s1, c0, o1, o2]
  exact fin

end Go.Proofs.YtkimaohcmcfcnaaGreat
end

section
namespace Go.Proofs.YtkimaohcmcfcnaaGreat
open Go.Ab

def shBytes : Shape := ⟨22, false, cSl 1 (cInt .u8)⟩
theorem fits_shBytes {D : Type} {enc : TypeId × Value -> D} (W : World) : shBytes.fits enc Tryz.prog W :=
  ⟨cSl_stable (cInt_stable _), open_cSl Tryz.underlying22 (by kernel_rfl) (by omega) (cInt_stable _) (open_cInt Tryz.underlying5), by show (match Tryz.prog.underlying 22 with | _ => _); rw [Tryz.underlying22]; rfl⟩
def BytesAt0 (H : Heap) (v : Value) (xs : List Int) : Prop := ∃ i o, v = lv 1 i o xs.length /\ At H i o (u8s xs) /\ xs.length <= 9223372036854775807 /\ ∀ x ∈ xs, 0 <= x /\ x < 256
theorem BytesAt0.short {H : Heap} {v : Value} {xs : List Int} (h : BytesAt0 H v xs) (hl : xs.length <= 4096) : BytesAt H v xs := by
  obtain ⟨i, o, h1, h2, h3, h4⟩ := h
  exact ⟨i, o, h1, h2, by omega, h4⟩
theorem u8s_of {H : Heap} : ∀ {es : List (List Value)}, (∀ e ∈ es, cInt .u8 H e /\ e.length = 1) -> ∃ xs : List Int, es.flatten = u8s xs /\ xs.length = es.length /\ ∀ x ∈ xs, 0 <= x /\ x < 256
  | [], _ => ⟨[], rfl, rfl, by simp⟩
  | e :: es, h => by
    obtain ⟨xs, h1, h2, h3⟩ := u8s_of (es := es) fun e he => h e (List.mem_cons_of_mem _ he)
    obtain ⟨⟨n, rfl, hw⟩, _⟩ := h e List.mem_cons_self
    have hn : 0 <= n /\ n < 256 := by
      simp only [Lit.wf, Bool.and_eq_true, decide_eq_true_eq] at hw
      have e1 : IntKind.u8.min = 0 := rfl
      have e2 : IntKind.u8.max = 255 := rfl
      rw [e1, e2] at hw
      omega
    refine ⟨n :: xs, by simp [u8s, h1], by simp [h2], fun x hx => ?_⟩
    rcases List.mem_cons.1 hx with rfl | hx
    · exact hn
    · exact h3 x hx
theorem says_shBytes {H : Heap} {v : Value} (h : shBytes.says H v) : ∃ xs, BytesAt0 H v xs := by
  obtain ⟨id, es, h1, h2, h3, h4⟩ := h
  simp only [List.cons.injEq, and_true] at h1
  obtain ⟨xs, h5, h6, h7⟩ := u8s_of h3
  refine ⟨xs, id, 0, by rw [h1, h6], ?_, by rw [h6]; exact h4, h7⟩
  rcases h2 with rfl | h2
  · left; rw [<- h5]; rfl
  · right; rw [<- h5, show es.flatten.length = es.length * 1 by rw [h5, u8s_len, h6]; omega]; exact h2
theorem big_ok {H : Heap} {u : Value} {xs : List Int} (hu : BytesAt0 H u xs) (Post : Value -> Heap -> Prop) (h : Post (.bool (decide (4096 < xs.length))) H) : ACalls Tryz.prog 4 [u] H Post := by
  obtain ⟨i, o, rfl, h1, h2, h3⟩ := hu
  refine acalls_vc (rs := [.tmp 2]) Tryz.func4 rfl rfl Tryz.ntmps4 rfl rfl ?_
  simp (maxSteps := 1000000) [go_sem]
  have e : decide ((4096 : Int) < xs.length) = decide (4096 < xs.length) := by
    apply Bool.eq_iff_iff.2
    simp; omega
  try rw [e]
  exact h

theorem blocks9_ok {H : Heap} {u v : Value} {xs : List Bk} (hu : BlocksAt H u xs) (hv : BlocksAt H v xs) (Post : Value -> Heap -> Prop) (h : Post (.bool true) H) : ACalls Tryz.prog 39 [u, v] H Post := by
  obtain ⟨i, o, rfl, h1, h2⟩ := hu
  obtain ⟨j, q, rfl, h3, h4⟩ := hv
  refine acalls_vc (rs := [.tmp 4]) Tryz.func39 rfl rfl Tryz.ntmps39 rfl rfl ?_
  simp (maxSteps := 1000000) [go_sem]
  refine AWp.loopVc (fun s : Nat => [(0, lv 3 i o xs.length), (1, lv 3 j q xs.length), (5, .int .i64 s)]) (fun s H' => H' = H /\ s <= xs.length) (fun s => xs.length - s) 0 ?_ ?_ ?_
  · simp [upF, Fr.get, Up.refl]
  · simp
  · rintro K s H' ⟨rfl, hs⟩ hK
    by_cases hlt : s < xs.length
    · have c1 := h1.bk (s := s) (List.getElem?_eq_getElem hlt)
      have c2 := h3.bk (s := s) (List.getElem?_eq_getElem hlt)
      simp only [Bk.cells] at c1 c2
      have hw_s : IntKind.i64.wrap ((s : Int) + 1) = (s : Int) + 1 := i64w (by omega) (by omega)
      simp (maxSteps := 1000000) [go_sem, hlt]
      refine AWp.draw mixed [(0, false), (1, false), (2, false), (3, false), (4, false), (5, false), (6, false), (7, false), (8, false)] (by kernel_rfl) ?_
      simp (maxSteps := 1000000) [go_sem, hlt, c1, c2, hw_s]
      exact hK (s + 1) _ _ (by omega) (by simp [upF, Fr.get, Up.refl]) ⟨rfl, by omega⟩
    · simp (maxSteps := 1000000) [go_sem, hlt]
      exact h

end Go.Proofs.YtkimaohcmcfcnaaGreat
end

section
namespace Go.Proofs.YtkimaohcmcfcnaaGreat
open Go.Ab

theorem trade9_ok {H : Heap} {u w v x : Value} {p : Int} {o i : List Bk} (h1 : TradeAt H u w o i) (h2 : TradeAt H v x o i) (Post : Value -> Heap -> Prop) (h : ∀ H', H <+: H' -> Post (.bool true) H') : ACalls Tryz.prog 22 [tradeV p u w, tradeV p v x] H Post := by
  have o1 := h1.1.one
  have o2 := h1.2.one
  have o3 := h2.1.one
  have o4 := h2.2.one
  refine acalls_vc (rs := [.tmp 4]) Tryz.func22 rfl rfl Tryz.ntmps22 rfl rfl ?_
  simp (maxSteps := 1000000) [go_sem, tradeV, o1, o2, o3, o4]
  have hp : H <+: H ++ [⟨[.int .i64 p, u, w], true, true⟩, ⟨[.int .i64 p, v, x], true, true⟩] := List.prefix_append _ _
  have ha : Holds (H ++ [(⟨[.int .i64 p, u, w], true, true⟩ : Blk), ⟨[.int .i64 p, v, x], true, true⟩]) H.length [.int .i64 p, u, w] := ⟨true, by simp⟩
  have hb : Holds (H ++ [(⟨[.int .i64 p, u, w], true, true⟩ : Blk), ⟨[.int .i64 p, v, x], true, true⟩]) (H.length + 1) [.int .i64 p, v, x] := ⟨true, by simp⟩
  generalize H ++ [(⟨[.int .i64 p, u, w], true, true⟩ : Blk), ⟨[.int .i64 p, v, x], true, true⟩] = H0 at hp ha hb ⊢
  have a0 : cellsAt H0 H.length 0 1 = some [.int .i64 p] := ha.cell rfl
  have a1 : cellsAt H0 H.length 1 1 = some [u] := ha.cell rfl
  have a2 : cellsAt H0 H.length 2 1 = some [w] := ha.cell rfl
  have b0 : cellsAt H0 (H.length + 1) 0 1 = some [.int .i64 p] := hb.cell rfl
  have b1 : cellsAt H0 (H.length + 1) 1 1 = some [v] := hb.cell rfl
  have b2 : cellsAt H0 (H.length + 1) 2 1 = some [x] := hb.cell rfl
  try simp (maxSteps := 1000000) [go_sem, a0, a1, b0, b1]
  refine blocks9_ok (h1.1.pre hp) (h2.1.pre hp) _ ?_
  simp (maxSteps := 1000000) [go_sem, a2, b2]
  refine blocks9_ok (h1.2.pre hp) (h2.2.pre hp) _ ?_
  simp (maxSteps := 1000000) [go_sem]
  exact h _ hp

theorem trades9_ok {H : Heap} {v v' : Value} {p : Int} {ts : List (List Bk × List Bk)} (h1 : TrAt H v p ts) (h2 : TrAt H v' p ts) (Post : Value -> Heap -> Prop) (h : ∀ H', H <+: H' -> Post (.bool true) H') : ACalls Tryz.prog 8 [v, v'] H Post := by
  obtain ⟨i, xs, rfl, x1, x2, x3, x4⟩ := h1
  obtain ⟨j, ys, rfl, y1, y2, y3, y4⟩ := h2
  have hl : xs.length = ys.length := by have := congrArg List.length (x3.trans y3.symm); simpa using this
  refine acalls_vc (rs := [.tmp 4]) Tryz.func8 rfl rfl Tryz.ntmps8 rfl rfl ?_
  simp (maxSteps := 1000000) [go_sem, hl]
  refine AWp.loopVc (fun s : Nat => [(0, lv 3 i 0 xs.length), (1, lv 3 j 0 ys.length), (5, .int .i64 s)]) (fun s H' => H <+: H' /\ s <= xs.length) (fun s => xs.length - s) 0 ?_ ?_ ?_
  · simp [upF, Fr.get, Up.refl, hl]
  · exact ⟨List.prefix_refl _, Nat.zero_le _⟩
  · rintro K s H' ⟨hp, hs⟩ hK
    by_cases hlt : s < xs.length
    · have hlt2 : s < ys.length := by omega
      have hx : xs[s]? = some xs[s] := List.getElem?_eq_getElem hlt
      have hy : ys[s]? = some ys[s] := List.getElem?_eq_getElem hlt2
      have c1 := (row3 (x1.pre hp) hx).1
      have c2 := (row3 (y1.pre hp) hy).1
      have r1 := x2 _ (List.getElem_mem hlt)
      have r2 := y2 _ (List.getElem_mem hlt2)
      have e : (xs[s]).t = (ys[s]).t := by
        have h1 := congrArg (·[s]?) (x3.trans y3.symm)
        simpa [hx, hy] using h1
      generalize xs[s] = r at *
      generalize ys[s] = q at *
      obtain ⟨rp, ru, rw', rlo, rhi, ro, ri⟩ := r
      obtain ⟨qp, qu, qw, qlo, qhi, qo, qi⟩ := q
      simp only [Rw.t, Prod.mk.injEq] at e r1 r2
      obtain ⟨rfl, rfl⟩ := e
      obtain ⟨r1, rfl⟩ := r1
      obtain ⟨r2, rfl⟩ := r2
      simp only [Rw.cells] at c1 c2
      have hw_s : IntKind.i64.wrap ((s : Int) + 1) = (s : Int) + 1 := i64w (by omega) (by omega)
      simp (maxSteps := 1000000) [go_sem, hlt, hlt2]
      refine AWp.draw mixed [(0, false), (1, false), (2, false), (3, false), (4, false), (5, false), (6, false), (7, false), (8, false), (9, false)] (by kernel_rfl) ?_
      simp (maxSteps := 1000000) [go_sem, hlt, hlt2, c1, c2]
      refine trade9_ok ⟨r1.1.pre hp, r1.2.pre hp⟩ ⟨r2.1.pre hp, r2.2.pre hp⟩ _ ?_
      intro H2 hp2
      simp (maxSteps := 1000000) [go_sem, hw_s]
      exact hK (s + 1) _ _ (by omega) (by simp [upF, Fr.get, Up.refl]) ⟨hp.trans hp2, by omega⟩
    · simp (maxSteps := 1000000) [go_sem, hlt]
      exact h _ hp

end Go.Proofs.YtkimaohcmcfcnaaGreat
end

section
namespace Go.Proofs.YtkimaohcmcfcnaaGreat
open Go.Ab

structure IsTr (v : Int) (o i : List Bk) : Prop where
  out : IsSys v o
  inn : IsSys v i
  apart : ∀ b ∈ o, b ∉ i
  same : ∀ p, p ∈ pairsB o ↔ p ∈ pairsB i
theorem isTr_iff {v : Int} {o i : List Bk} : tradeB v o i = true ↔ IsTr v o i := by
  unfold tradeB
  rw [Bool.and_eq_true, Bool.and_eq_true, Bool.and_eq_true, sysB_iff, sysB_iff, decide_eq_true_eq, samePairs_iff]
  constructor
  · rintro ⟨h1, h2, h3, h4⟩
    refine ⟨h1, h2, fun b hb hi => ?_, h4⟩
    have : b ∈ bothB o i := List.mem_filter.2 ⟨hb, by simp [memB, hi]⟩
    rw [h3] at this
    simp at this
  · rintro ⟨h1, h2, h3, h4⟩
    refine ⟨h1, h2, ?_, h4⟩
    rw [bothB, List.filter_eq_nil_iff]
    intro b hb hm
    exact h3 b hb (by simpa [memB] using hm)
theorem nd_len {α : Type} [BEq α] [LawfulBEq α] : ∀ (l m : List α), l.Nodup -> (∀ x ∈ l, x ∈ m) -> l.length <= m.length
  | [], m, _, _ => by simp
  | x :: l, m, hn, h => by
    obtain ⟨h1, h2⟩ := List.nodup_cons.1 hn
    have hx := h x (by simp)
    have ih := nd_len l (m.erase x) h2 fun y hy => (List.mem_erase_of_ne (fun e => by subst e; exact h1 hy)).2 (h y (by simp [hy]))
    rw [List.length_erase_of_mem hx] at ih
    have := List.length_pos_of_mem hx
    simp only [List.length_cons]
    omega
theorem nd_full {α : Type} [BEq α] [LawfulBEq α] {l m : List α} (hn : l.Nodup) (h : ∀ x ∈ l, x ∈ m) (hl : m.length <= l.length) {p : α} (hp : p ∈ m) : p ∈ l := by
  by_cases hpl : p ∈ l
  · exact hpl
  · have := nd_len (p :: l) m (List.nodup_cons.2 ⟨hpl, hn⟩) fun y hy => by
      rcases List.mem_cons.1 hy with rfl | hy
      · exact hp
      · exact h y hy
    simp only [List.length_cons] at this
    omega
theorem pairs_sub {s o : List Bk} (h : s.Sublist o) {p : Int × Int} (hp : p ∈ pairsB s) : p ∈ pairsB o := by
  obtain ⟨b, hb, hp⟩ := mem_pairsB.1 hp
  exact mem_pairsB.2 ⟨b, h.subset hb, hp⟩
theorem coverB_iff {o : List Bk} {b : Bk} : coverB o b = true ↔ ∀ p ∈ prs b, p ∈ pairsB o := by
  simp [coverB, prs]
theorem inner_pairs {i s : List Bk} {p : Int × Int} (hp : p ∈ pairsB (innerB i s)) : p ∈ pairsB s := by
  obtain ⟨b, hb, hp⟩ := mem_pairsB.1 hp
  exact coverB_iff.1 (List.mem_filter.1 hb).2 p hp
theorem inner_len {v : Int} {i s : List Bk} (hi : IsSys v i) : (innerB i s).length <= s.length := by
  have hn := pairs_nodup (sys_sub hi (List.filter_sublist (p := coverB s)))
  have := nd_len _ _ hn fun p hp => inner_pairs (i := i) (s := s) hp
  rw [pairsB_length, pairsB_length] at this
  exact Nat.le_of_mul_le_mul_right this (by omega)
theorem inner_same {v : Int} {i s : List Bk} (hi : IsSys v i) (hl : (innerB i s).length = s.length) (p : Int × Int) : p ∈ pairsB s ↔ p ∈ pairsB (innerB i s) := by
  refine ⟨fun hp => ?_, inner_pairs⟩
  have hn := pairs_nodup (sys_sub hi (List.filter_sublist (p := coverB s)))
  exact nd_full hn (fun p hp => inner_pairs (i := i) (s := s) hp) (by rw [pairsB_length, pairsB_length, show (i.filter (coverB s)).length = s.length from hl]; exact Nat.le_refl _) hp
theorem subs_all : ∀ (k : Nat) (rest now t : List Bk), t.Sublist rest -> t.length = k -> now ++ t ∈ subs k rest now
  | 0, rest, now, t, _, hl => by
    have : t = [] := List.eq_nil_of_length_eq_zero hl
    subst this
    simp [subs]
  | k + 1, rest, now, [], _, hl => by simp at hl
  | k + 1, rest, now, x :: t, hs, hl => by
    obtain ⟨r1, r2, rfl, hx, ht⟩ := List.cons_sublist_iff.1 hs
    obtain ⟨i, hi, e⟩ := List.mem_iff_getElem.1 hx
    have htl := ht.length_le
    simp only [List.length_cons] at hl
    simp only [subs, List.mem_flatMap, List.mem_range, List.length_append]
    refine ⟨i, by omega, ?_⟩
    have e1 : (r1 ++ r2)[i]? = some x := by rw [List.getElem?_append_left hi, List.getElem?_eq_getElem hi, e]
    have := subs_all k ((r1 ++ r2).drop (i + 1)) (now ++ [x]) t (by
      rw [List.drop_append]
      have e2 : i + 1 - r1.length = 0 := by omega
      rw [e2, List.drop_zero]
      exact ht.trans (List.sublist_append_right _ _)) (by omega)
    rw [e1]
    simpa using this
theorem findP_some {i o t : List Bk} {k : Nat} (hs : t.Sublist o) (hl : t.length = k) (hk : okS i t = true) : findP i k o [] ≠ none := by
  intro h
  have := List.find?_eq_none.1 h t (by simpa using subs_all k o [] t hs hl)
  exact this hk
theorem findP_is {i o s : List Bk} {k : Nat} (h : findP i k o [] = some s) : s.Sublist o /\ s.length = k /\ (innerB i s).length = s.length := by
  obtain ⟨t, e, h2, h3⟩ := subs_sub _ _ _ _ (List.mem_of_find?_eq_some h)
  rw [List.nil_append] at e
  subst e
  exact ⟨h2, h3, by simpa [okS] using List.find?_some h⟩
theorem findS_is {α : Type} {F : Nat -> Option α} {x : α} {n : Nat} (h : (List.range n).findSome? F = some x) : ∃ k, k < n /\ F k = some x /\ ∀ j, j < k -> F j = none := by
  induction n with
  | zero => simp at h
  | succ n ih =>
    rw [List.range_succ, List.findSome?_append] at h
    cases hn : (List.range n).findSome? F with
    | some y =>
      rw [hn] at h
      simp at h
      subst h
      obtain ⟨k, h1, h2, h3⟩ := ih hn
      exact ⟨k, by omega, h2, h3⟩
    | none =>
      rw [hn] at h
      refine ⟨n, by omega, by simpa using h, fun j hj => ?_⟩
      exact List.findSome?_eq_none_iff.1 hn j (List.mem_range.2 hj)
theorem partP_tr {v : Int} {o i : List Bk} (h : IsTr v o i) : IsTr v (partP o i).1 (partP o i).2 /\ (partP o i).1.Sublist o /\ (partP o i).2.Sublist i /\ partP (partP o i).1 (partP o i).2 = partP o i := by
  cases hf : (List.range (o.length - 1)).findSome? fun k => findP i (k + 1) o [] with
  | none =>
    have e : partP o i = (o, i) := by unfold partP; rw [hf]
    rw [e]
    exact ⟨h, List.Sublist.refl _, List.Sublist.refl _, e⟩
  | some s =>
    have e : partP o i = (s, innerB i s) := by unfold partP; rw [hf]
    rw [e]
    obtain ⟨k, hk, hks, hkb⟩ := findS_is hf
    obtain ⟨h1, h2, h3⟩ := findP_is hks
    have hsub : (innerB i s).Sublist i := List.filter_sublist
    have hS := sys_sub h.out h1
    have hI := sys_sub h.inn hsub
    refine ⟨⟨hS, hI, fun b hb hi => h.apart b (h1.subset hb) (hsub.subset hi), inner_same h.inn h3⟩, h1, hsub, ?_⟩
    have hn : (List.range (s.length - 1)).findSome? (fun k => findP (innerB i s) (k + 1) s []) = none := by
      rw [List.findSome?_eq_none_iff]
      intro j hj
      have hj := List.mem_range.1 hj
      cases hc : findP (innerB i s) (j + 1) s [] with
      | none => rfl
      | some t =>
        exfalso
        obtain ⟨t1, t2, t3⟩ := findP_is hc
        have hle : (innerB (innerB i s) t).length <= (innerB i t).length := (List.Sublist.filter (coverB t) hsub).length_le
        have hge := inner_len (s := t) h.inn
        exact findP_some (t1.trans h1) t2 (i := i) (by simp [okS]; omega) (hkb j (by omega))
    unfold partP
    rw [hn]
theorem less_pairs {v : Int} {o a : List Bk} (ho : IsSys v o) (ha : a.Sublist o) (p : Int × Int) : p ∈ pairsB (lessB o a) ↔ p ∈ pairsB o /\ p ∉ pairsB a := by
  have hn := pairs_nodup ho
  constructor
  · intro hp
    refine ⟨pairs_sub (less_sub o a) hp, fun hq => ?_⟩
    obtain ⟨b, hb, hp⟩ := mem_pairsB.1 hp
    obtain ⟨c, hc, hq⟩ := mem_pairsB.1 hq
    obtain ⟨hb1, hb2⟩ := List.mem_filter.1 hb
    have hbc : b ≠ c := fun e => by subst e; simp [memB, hc] at hb2
    unfold pairsB List.Nodup at hn
    rw [List.pairwise_flatMap] at hn
    obtain ⟨x, hx, hxe⟩ := List.mem_iff_getElem.1 hb1
    obtain ⟨y, hy, hye⟩ := List.mem_iff_getElem.1 (ha.subset hc)
    have h2 := List.pairwise_iff_getElem.1 hn.2
    rcases Nat.lt_trichotomy x y with hlt | heq | hlt
    · exact h2 x y hx hy hlt p (by rw [hxe]; exact hp) p (by rw [hye]; exact hq) rfl
    · subst heq; exact hbc (by rw [<- hxe, <- hye])
    · exact h2 y x hy hx hlt p (by rw [hye]; exact hq) p (by rw [hxe]; exact hp) rfl
  · rintro ⟨hp, hq⟩
    obtain ⟨b, hb, hp⟩ := mem_pairsB.1 hp
    refine mem_pairsB.2 ⟨b, List.mem_filter.2 ⟨hb, ?_⟩, hp⟩
    by_cases hba : b ∈ a
    · exact absurd (mem_pairsB.2 ⟨b, hba, hp⟩) hq
    · simp [memB, hba]
theorem less_tr {v : Int} {o i a b : List Bk} (h : IsTr v o i) (hab : IsTr v a b) (ha : a.Sublist o) (hb : b.Sublist i) : IsTr v (lessB o a) (lessB i b) := by
  refine ⟨sys_sub h.out (less_sub _ _), sys_sub h.inn (less_sub _ _), fun x hx hi => h.apart x ((less_sub _ _).subset hx) ((less_sub _ _).subset hi), fun p => ?_⟩
  rw [less_pairs h.out ha, less_pairs h.inn hb, h.same p, hab.same p]
theorem sys_nodup {v : Int} {o : List Bk} (h : IsSys v o) : o.Nodup := asc_nodup (asc_of _ rfl h.2.2.1)
theorem filter_both {α : Type} (p : α -> Bool) : ∀ l : List α, (l.filter p).length + (l.filter fun x => !p x).length = l.length
  | [] => rfl
  | x :: l => by
    have ih := filter_both p l
    cases h : p x <;> simp [h] <;> omega
theorem less_len {v : Int} {o a : List Bk} (h : IsSys v o) (ha : a.Sublist o) : a.length + (lessB o a).length = o.length := by
  have e : (bothB o a).length = a.length := by
    have hn := sys_nodup (sys_sub h ha)
    have hn2 := sys_nodup (sys_sub h (List.filter_sublist (p := memB a)))
    have h1 := nd_len a (bothB o a) hn fun x hx => List.mem_filter.2 ⟨ha.subset hx, by simp [memB, hx]⟩
    have h2 := nd_len (bothB o a) a hn2 fun x hx => by simpa [memB] using (List.mem_filter.1 hx).2
    omega
  have := filter_both (memB a) o
  unfold bothB at e
  unfold lessB
  omega
theorem partsF_all {v : Int} : ∀ (n : Nat) {o i : List Bk}, IsTr v o i -> o.length <= n ->
    (∀ t ∈ partsF n o i, IsTr v t.1 t.2 /\ t.1 ≠ [] /\ t.1.Sublist o /\ t.2.Sublist i /\ partP t.1 t.2 = t) /\ ((partsF n o i).map fun t => t.1.length).sum = o.length
  | 0, o, i, h, hl => by
    have : o = [] := List.eq_nil_of_length_eq_zero (by omega)
    subst this
    simp [partsF]
  | n + 1, o, i, h, hl => by
    by_cases ho : o = []
    · subst ho
      simp [partsF]
    · obtain ⟨h1, h2, h3, h4⟩ := partP_tr h
      have hne := (partP_sub (i := i) ho).1
      have hlt := less_lt hne h2
      have hlen := less_len h.out h2
      obtain ⟨k1, k2⟩ := partsF_all n (less_tr h h1 h2 h3) (by omega)
      rw [partsF_succ ho]
      refine ⟨fun t ht => ?_, ?_⟩
      · rcases List.mem_cons.1 ht with rfl | ht
        · exact ⟨h1, hne, h2, h3, h4⟩
        · obtain ⟨g1, g2, g3, g4, g5⟩ := k1 t ht
          exact ⟨g1, g2, g3.trans (less_sub _ _), g4.trans (less_sub _ _), g5⟩
      · rw [List.map_cons, List.sum_cons, k2]
        exact hlen
theorem parts_len {v : Int} {o i : List Bk} (h : IsTr v o i) : ∀ {n : Nat}, o.length <= n -> ((partsF n o i).length = 1 ↔ 0 < o.length /\ (partP o i).1.length = o.length)
  | 0, hl => by
    have : o = [] := List.eq_nil_of_length_eq_zero (by omega)
    subst this
    simp [partsF]
  | n + 1, hl => by
    by_cases ho : o = []
    · subst ho
      simp [partsF]
    · obtain ⟨h1, h2, h3, h4⟩ := partP_tr h
      have hlt := less_lt (partP_sub (i := i) ho).1 h2
      have hlen := less_len h.out h2
      have hpos := List.length_pos_iff.2 ho
      rw [partsF_succ ho, List.length_cons]
      have key : (partsF n (lessB o (partP o i).1) (lessB i (partP o i).2)).length = 0 ↔ (lessB o (partP o i).1).length = 0 := by
        constructor
        · intro e
          by_cases hn : lessB o (partP o i).1 = []
          · simp [hn]
          · have hp := List.length_pos_iff.2 hn
            obtain ⟨m, rfl⟩ : ∃ m, n = m + 1 := ⟨n - 1, by omega⟩
            rw [partsF_succ hn] at e
            simp at e
        · intro e
          rw [List.eq_nil_of_length_eq_zero e, partsF_nil]
          rfl
      constructor
      · intro e
        have := key.1 (by omega)
        omega
      · intro e
        have := key.2 (by omega)
        omega
theorem part_min {v : Int} {a b : List Bk} (h : IsTr v a b) (hne : a ≠ []) (hl : a.length <= 12) (hp : partP a b = (a, b)) : tradeB v a b = true /\ rMin v a b = (true, 0) := by
  have ht := isTr_iff.2 h
  have hpos := List.length_pos_iff.2 hne
  exact ⟨ht, by rw [rMin, ht, hp]; simp [hl, hpos]⟩
theorem min_parts {v : Int} {o i : List Bk} (h : (rMin v o i).2 = 0) : (rParts v o i).2 = 0 /\ ((rMin v o i).1 = true ↔ (rParts v o i).1.length = 1) := by
  unfold rMin rParts at *
  cases ht : tradeB v o i with
  | false => rw [ht] at h; simp at h
  | true =>
    rw [ht] at h
    by_cases hl : o.length <= 12
    · simp only [if_true, hl]
      refine ⟨trivial, ?_⟩
      rw [parts_len (isTr_iff.1 ht) (Nat.le_refl _), Bool.and_eq_true, decide_eq_true_eq, decide_eq_true_eq]
    · simp [hl] at h
theorem parts_bad {v : Int} {o i : List Bk} (h : (rParts v o i).2 ≠ 0) : (rParts v o i).1 = [] := by
  unfold rParts at *
  split
  · rename_i h1
    rw [if_pos h1] at h
    split
    · rename_i h2; rw [if_pos h2] at h; exact absurd rfl h
    · rfl
  · rfl
theorem parts_good {v : Int} {o i : List Bk} (h : (rParts v o i).2 = 0) :
    (∀ t ∈ (rParts v o i).1, tradeB v t.1 t.2 = true /\ rMin v t.1 t.2 = (true, 0) /\ t.1.length <= 12 /\ t.2.length <= i.length /\ ∀ b ∈ t.1, b ∈ o) /\ ((rParts v o i).1.map fun t => t.1.length).sum = o.length /\ o.length <= 12 := by
  unfold rParts at *
  cases ht : tradeB v o i with
  | false => rw [ht] at h; simp at h
  | true =>
    rw [ht] at h
    by_cases hl : o.length <= 12
    · simp only [if_true, hl]
      obtain ⟨h1, h2⟩ := partsF_all o.length (isTr_iff.1 ht) (Nat.le_refl _)
      refine ⟨fun t htm => ?_, h2, trivial⟩
      obtain ⟨g1, g2, g3, g4, g5⟩ := h1 t htm
      have hl2 := g3.length_le
      obtain ⟨k1, k2⟩ := part_min g1 g2 (by omega) g5
      exact ⟨k1, k2, by omega, g4.length_le, fun b hb => g3.subset hb⟩
    · simp [hl] at h

end Go.Proofs.YtkimaohcmcfcnaaGreat
end

section
namespace Go.Proofs.YtkimaohcmcfcnaaGreat
open Go.Ab

noncomputable def seenB (xs : List Bk) (b : Bk) (i : Nat) : Bool := decide (b ∈ xs.take i)
theorem seenB_zero (xs : List Bk) (b : Bk) : seenB xs b 0 = false := by simp [seenB]
theorem seenB_yes {xs : List Bk} {b : Bk} {i : Nat} (hi : i < xs.length) (h : xs[i] = b) : seenB xs b (i + 1) = true := by
  rw [seenB, List.take_succ_eq_append_getElem hi, decide_eq_true_eq, List.mem_append]
  exact .inr (by rw [h]; exact List.mem_singleton.2 rfl)
theorem seenB_no {xs : List Bk} {b : Bk} {i : Nat} (hi : i < xs.length) (h : xs[i] ≠ b) : seenB xs b (i + 1) = seenB xs b i := by
  rw [seenB, seenB, List.take_succ_eq_append_getElem hi]
  apply Bool.eq_iff_iff.2
  rw [decide_eq_true_eq, decide_eq_true_eq, List.mem_append, List.mem_singleton]
  exact ⟨fun e => e.resolve_right (fun e => h e.symm), .inl⟩
theorem seenB_old {xs : List Bk} {b : Bk} {i : Nat} (hi : i < xs.length) (h : seenB xs b i = true) : seenB xs b (i + 1) = true := by
  rw [seenB, decide_eq_true_eq] at h ⊢
  rw [List.take_succ_eq_append_getElem hi, List.mem_append]
  exact .inl h
theorem seenB_all {xs : List Bk} {b : Bk} (h : b ∈ xs) : seenB xs b xs.length = true := by simp [seenB, h]
theorem lawFnTradeParts (H : Heap) (avs : List Value) (h : argsSay [shBytes] H avs) : ACalls Tryz.prog 3 avs H fun v _ => v = .bool true := by
  obtain ⟨c, _, rfl, a0, rfl⟩ := h
  obtain ⟨xs, hu0⟩ := says_shBytes a0
  refine acalls_vc (rs := [.tmp 2]) Tryz.func3 rfl rfl Tryz.ntmps3 rfl rfl ?_
  simp (maxSteps := 1000000) [go_sem]
  refine big_ok hu0 _ ?_
  by_cases hbig : 4096 < xs.length
  · simp (maxSteps := 1000000) [go_sem, hbig]
  have hc := hu0.short (by omega)
  clear a0 hu0
  simp (maxSteps := 1000000) [go_sem, hbig]
  refine drawParts_ok hc _ ?_
  intro H1 p u w o i hp1 hu hw ho hi
  have oneu := hu.one
  have onew := hw.one
  simp (maxSteps := 1000000) [go_sem, tradeV, oneu, onew]
  have bxA : Holds (H1 ++ [(⟨[.int .i64 p, u, w], true, true⟩ : Blk)]) H1.length [.int .i64 p, u, w] := Holds.last _ _
  have hp2 : H1 <+: H1 ++ [(⟨[.int .i64 p, u, w], true, true⟩ : Blk)] := List.prefix_append _ _
  generalize H1 ++ [(⟨[.int .i64 p, u, w], true, true⟩ : Blk)] = H2 at bxA hp2 ⊢
  have tA : TradeAt H2 u w o i := ⟨hu.read.pre hp2, hw.read.pre hp2⟩
  have a0 : cellsAt H2 H1.length 0 3 = some [.int .i64 p, u, w] := by simpa using bxA.cells (n := 3) (o := 0) (by simp)
  try simp (maxSteps := 1000000) [go_sem, a0]
  refine implParts_ok tA ⟨by omega, by omega⟩ _ ?_
  intro H3 v hp3 hv
  obtain ⟨ts, hts⟩ : ∃ ts, (rParts p o i).1 = ts := ⟨_, rfl⟩
  obtain ⟨e3, he3⟩ : ∃ e, (rParts p o i).2 = e := ⟨_, rfl⟩
  have hgood := @parts_good p o i
  have hbad := @parts_bad p o i
  rw [he3, hts] at hgood hbad
  rw [hts] at hv
  rw [he3]
  have hvr := hv
  obtain ⟨vid, rws, rfl, hvb, hvr2, _, hvt, _, hvl⟩ := hv
  have a1 : cellsAt H3 H1.length 0 3 = some [.int .i64 p, u, w] := cellsAt_pre hp3 a0
  simp (maxSteps := 1000000) [go_sem, a1]
  refine specParts_ok ⟨tA.1.pre hp3, tA.2.pre hp3⟩ ⟨by omega, by omega⟩ _ ?_
  rw [hts, he3]
  intro H4 v' hp4 hv'
  have rd4 := (hvr.pre hp4).read
  simp (maxSteps := 1000000) [go_sem, undef]
  refine trades9_ok rd4 hv'.read _ ?_
  intro H5 hp5
  have q25 := (hp3.trans hp4).trans hp5
  simp (maxSteps := 1000000) [go_sem, undef]
  refine drawIsMin_ok (hc.pre ((hp1.trans hp2).trans q25)) _ ?_
  intro H6 p6 u6 w6 o6 i6 hp6 hu6 hw6 ho6 hi6
  have one6 := hu6.one
  have onew6 := hw6.one
  simp (maxSteps := 1000000) [go_sem, undef, tradeV, one6, onew6]
  have bxB : Holds (H6 ++ [(⟨[.int .i64 p6, u6, w6], true, true⟩ : Blk)]) H6.length [.int .i64 p6, u6, w6] := Holds.last _ _
  have hp7 : H6 <+: H6 ++ [(⟨[.int .i64 p6, u6, w6], true, true⟩ : Blk)] := List.prefix_append _ _
  generalize H6 ++ [(⟨[.int .i64 p6, u6, w6], true, true⟩ : Blk)] = H7 at bxB hp7 ⊢
  have tB : TradeAt H7 u6 w6 o6 i6 := ⟨hu6.read.pre hp7, hw6.read.pre hp7⟩
  have b0 : cellsAt H7 H6.length 0 3 = some [.int .i64 p6, u6, w6] := by simpa using bxB.cells (n := 3) (o := 0) (by simp)
  try simp (maxSteps := 1000000) [go_sem, undef, b0]
  refine implIsMinimal_ok tB ⟨by omega, by omega⟩ _ ?_
  intro H8 hp8
  have b1 := cellsAt_pre hp8 b0
  simp (maxSteps := 1000000) [go_sem, undef, b1]
  refine specIsMinimal_ok ⟨tB.1.pre hp8, tB.2.pre hp8⟩ ⟨by omega, by omega⟩ _ ?_
  intro H9 hp9
  have q79 := hp8.trans hp9
  have b2 := cellsAt_pre q79 b0
  have hmin := @min_parts p6 o6 i6
  obtain ⟨m6, hm6⟩ : ∃ m, (rMin p6 o6 i6).1 = m := ⟨_, rfl⟩
  obtain ⟨f6, hf6⟩ : ∃ m, (rMin p6 o6 i6).2 = m := ⟨_, rfl⟩
  rw [hm6, hf6] at hmin
  rw [hm6, hf6]
  simp (maxSteps := 1000000) [go_sem, undef]
  rcases Decidable.em (f6 = 0) with hz6 | hz6
  case' inl =>
    subst hz6
    obtain ⟨hk1, hk2⟩ := hmin rfl
    simp (maxSteps := 1000000) [go_sem, undef, b2]
    refine implParts_ok ⟨tB.1.pre q79, tB.2.pre q79⟩ ⟨by omega, by omega⟩ _ ?_
    rw [hk1]
    intro H10 v10 hp10 hv10
    obtain ⟨n10, hn10⟩ : ∃ n, (rParts p6 o6 i6).1 = n := ⟨_, rfl⟩
    rw [hn10] at hv10 hk2
    obtain ⟨id10, rw10, rfl, _, _, _, e10, _⟩ := hv10
    have l10 : rw10.length = n10.length := by rw [<- e10, List.length_map]
    have hb10 : ((rw10.length : Int) == 1) = m6 := by
      apply Bool.eq_iff_iff.2
      rw [hk2, beq_iff_eq]
      omega
    have hb11 : (m6 != m6) = false := by cases m6 <;> rfl
    simp (maxSteps := 1000000) [go_sem, undef, hb10, hb11]
    have q310 : H3 <+: H10 := ((hp4.trans hp5).trans hp6).trans ((hp7.trans q79).trans hp10)
    clear hp10
    generalize H10 = HT at *
  case' inr =>
    have f6' : (f6 == 0) = false := by simpa using hz6
    simp (maxSteps := 1000000) [go_sem, undef, f6']
    have q310 : H3 <+: H9 := ((hp4.trans hp5).trans hp6).trans (hp7.trans q79)
    generalize H9 = HT at *
  all_goals
    rcases Decidable.em (e3 = 0) with hz3 | hz3
    · subst hz3
      obtain ⟨g1, g2, g3⟩ := hgood rfl
      simp (maxSteps := 1000000) [go_sem, undef]
      have hvat : At HT vid 0 (cellsT rws) := by
        rcases hvb with rfl | hvb
        · exact .inl rfl
        · exact Holds.at ⟨true, pget q310 hvb⟩
      have tAT : TradeAt HT u w o i := ⟨tA.1.pre (hp3.trans q310), tA.2.pre (hp3.trans q310)⟩
      have aT := (bxA.pre (hp3.trans q310))
      refine AWp.loopVc (St := Nat × Nat) (fun q => [(3, .pointer (some ⟨H1.length, 0, none⟩)), (4, lv 3 vid 0 rws.length), (15, .int .i64 q.2), (16, .int .i64 q.1)])
        (fun q H' => q.1 <= rws.length /\ q.2 = ((rws.take q.1).map fun r => r.o.length).sum /\ q.2 <= q.1 * 12 /\ HT <+: H') (fun q => rws.length - q.1) (0, 0) ?_ ?_ ?_
      · simp [upF, Fr.get, Up.refl]
      · exact ⟨Nat.zero_le _, rfl, Nat.le_refl _, List.prefix_refl _⟩
      rintro K ⟨q, tot⟩ H11 ⟨hq, htot, htl, hp11⟩ hK
      simp only at hq htot htl
      rcases Nat.lt_or_ge q rws.length with hlt | hge
      · have hm := List.getElem_mem hlt
        have htm : (rws[q]).t ∈ ts := by rw [<- hvt]; exact List.mem_map.2 ⟨_, hm, rfl⟩
        obtain ⟨t1, t2, t3, t4, t5⟩ := g1 _ htm
        obtain ⟨_, _, _, r1, r2, _, _⟩ := hvr2 _ hm
        have r1 : TradeAt H11 (rws[q]).u (rws[q]).w (rws[q]).o (rws[q]).i := ⟨(r1.read.1.pre q310).pre hp11, (r1.read.2.pre q310).pre hp11⟩
        obtain ⟨c1, c2, c3, c4⟩ := row3 (hvat.pre hp11) (List.getElem?_eq_getElem hlt)
        have estep : ((rws.take (q + 1)).map fun r => r.o.length).sum = ((rws.take q).map fun r => r.o.length).sum + (rws[q]).o.length := by
          rw [List.take_succ_eq_append_getElem hlt, List.map_append, List.sum_append]; simp
        rw [<- htot] at estep
        generalize rws[q] = r at *
        obtain ⟨rp, ru, rw', rlo, rhi, ro, ri⟩ := r
        simp only [Rw.t, Rw.cells] at t1 t2 t3 t4 t5 r1 r2 c1 c2 c3 c4 estep
        subst r2
        obtain ⟨rui, ruo, hrue, ru1, ru2⟩ := r1.1
        subst hrue
        have hw_q : IntKind.i64.wrap ((q : Int) + 1) = (q : Int) + 1 := i64w (by omega) (by omega)
        simp (maxSteps := 1000000) [go_sem, undef, hlt, c1]
        refine implIsMinimal_ok r1 ⟨by omega, by omega⟩ _ ?_
        rw [t2]
        intro H12 hp12
        have c1' := cellsAt_pre hp12 c1
        simp (maxSteps := 1000000) [go_sem, undef, hlt, c1']
        refine implIsTradeT ⟨r1.1.pre hp12, r1.2.pre hp12⟩ ⟨by omega, by omega⟩ _ ?_
        rw [t1]
        intro H13 hp13
        have hp1113 := hp12.trans hp13
        have c3' := cellsAt_pre hp1113 c3
        have wt : IntKind.i64.wrap ((tot : Int) + ro.length) = ((tot + ro.length : Nat) : Int) := by rw [i64w (by omega) (by omega)]; omega
        simp (maxSteps := 1000000) [go_sem, undef, hlt, c3', wt]
        have hp13T := hp11.trans hp1113
        have a2 : cellsAt H13 H1.length 1 1 = some [u] := (aT.pre hp13T).cell rfl
        obtain ⟨ui, uo, hue, u1, u2⟩ := tAT.1
        subst hue
        have cO : ∀ m (hm : m < o.length), cellsAt H13 ui (uo + m * 3) 3 = some [.int .i64 o[m].a, .int .i64 o[m].b, .int .i64 o[m].c] := fun m hm => by
          have := (u1.pre hp13T).bk (List.getElem?_eq_getElem hm)
          simpa only [Bk.cells] using this
        have cR : ∀ k (hk : k < ro.length), cellsAt H13 rui (ruo + k * 3) 3 = some [.int .i64 ro[k].a, .int .i64 ro[k].b, .int .i64 ro[k].c] := fun k hk => by
          have := (ru1.pre hp1113).bk (List.getElem?_eq_getElem hk)
          simpa only [Bk.cells] using this
        refine AWp.loopVc (St := Nat) (fun k => [(3, .pointer (some ⟨H1.length, 0, none⟩)), (4, lv 3 vid 0 rws.length), (15, .int .i64 ((tot + ro.length : Nat) : Int)), (16, .int .i64 q), (19, .int .i64 k)])
          (fun k H' => k <= ro.length /\ H' = H13) (fun k => ro.length - k) 0 ?_ ?_ ?_
        · simp [upF, Fr.get, Up.refl]
        · exact ⟨Nat.zero_le _, rfl⟩
        rintro K2 k H14 ⟨hk, rfl⟩ hK2
        rcases Nat.lt_or_ge k ro.length with hkl | hkg
        · have hw_k : IntKind.i64.wrap ((k : Int) + 1) = (k : Int) + 1 := i64w (by omega) (by omega)
          have hmem := t5 _ (List.getElem_mem hkl)
          have cRk := cR k hkl
          generalize ro[k] = B at hmem cRk
          simp (maxSteps := 1000000) [go_sem, undef, hlt, c3', hkl]
          refine AWp.loopVc (St := Nat) (fun m => [(3, .pointer (some ⟨H1.length, 0, none⟩)), (4, lv 3 vid 0 rws.length), (15, .int .i64 ((tot + ro.length : Nat) : Int)), (16, .int .i64 q), (19, .int .i64 k), (20, .bool (seenB o B m)), (21, .int .i64 m)])
            (fun m H' => m <= o.length /\ H' = H14) (fun m => o.length - m) 0 ?_ ?_ ?_
          · simp [upF, Fr.get, Up.refl, seenB_zero]
          · exact ⟨Nat.zero_le _, rfl⟩
          rintro K3 m H15 ⟨hm, rfl⟩ hK3
          rcases Nat.lt_or_ge m o.length with hml | hmg
          · have hw_m : IntKind.i64.wrap ((m : Int) + 1) = (m : Int) + 1 := i64w (by omega) (by omega)
            have cOm := cO m hml
            simp (maxSteps := 1000000) [go_sem, undef, a2, hml]
            cases hsn : seenB o B m with
            | true =>
              refine AWp.draw mixed [(0, false), (1, false), (2, false), (3, false), (4, false), (5, false), (6, false), (7, false), (8, false), (9, false), (10, false), (11, false), (12, false), (13, false), (14, false), (15, false), (16, false), (17, false)] (by kernel_rfl) ?_
              simp (maxSteps := 1000000) [go_sem, undef, hw_m]
              exact hK3 (m + 1) _ _ (by omega) (by simp [upF, Fr.get, Up.refl, seenB_old hml hsn]) ⟨hml, rfl⟩
            | false =>
              refine AWp.draw mixed [(0, false), (1, false), (2, false), (3, false), (4, false), (5, false), (6, false), (7, false), (8, false), (9, false), (10, false), (11, false), (12, false), (13, false), (14, false), (15, false), (16, false), (17, false)] (by kernel_rfl) ?_
              simp (maxSteps := 1000000) [go_sem, undef, a2, hml, hlt, hkl, c3', cOm, cRk, hw_m]
              refine hK3 (m + 1) _ _ (by omega) ?_ ⟨hml, rfl⟩
              have e : (decide (o[m].a = B.a) && (decide (o[m].b = B.b) && decide (o[m].c = B.c))) = seenB o B (m + 1) := by
                by_cases he : o[m] = B
                · rw [seenB_yes hml he]
                  simp [he]
                · have he' : ¬ (o[m].a = B.a /\ o[m].b = B.b /\ o[m].c = B.c) := fun hh => he ((Bk.eq3 _ _).2 hh)
                  rw [seenB_no hml he, hsn]
                  simpa using he'
              simp [upF, Fr.get, Up.refl, e]
          have hme : m = o.length := by omega
          subst hme
          rw [seenB_all hmem]
          simp (maxSteps := 1000000) [go_sem, undef, a2, hw_k]
          exact hK2 (k + 1) _ _ (by omega) (by simp [upF, Fr.get, Up.refl]) ⟨hkl, rfl⟩
        have hke : k = ro.length := by omega
        subst hke
        simp (maxSteps := 1000000) [go_sem, undef, hlt, c3', hw_q]
        exact hK (q + 1, tot + ro.length) _ _ (by simp only; omega) (by simp [upF, Fr.get, Up.refl]) ⟨hlt, estep.symm, by simp only; omega, hp13T⟩
      have hqe : q = rws.length := by omega
      subst hqe
      have a2 : cellsAt H11 H1.length 1 1 = some [u] := (aT.pre hp11).cell rfl
      have esum : ((rws.take rws.length).map fun r => r.o.length).sum = o.length := by
        rw [List.take_length, <- g2, <- hvt, List.map_map]
        rfl
      rw [esum] at htot
      subst htot
      obtain ⟨ui, uo, hue, u1, u2⟩ := tAT.1
      subst hue
      simp (maxSteps := 1000000) [go_sem, undef, a2]
    · have hnil := hbad hz3
      have hr0 : rws = [] := by rw [hnil] at hvt; simpa using hvt
      subst hr0
      have e3' : (e3 != 0) = true := by simpa using hz3
      simp (maxSteps := 1000000) [go_sem, undef, e3']

end Go.Proofs.YtkimaohcmcfcnaaGreat
end
