/- Part 14 of what the proof of the law FnBlocks rests on: contracts of functions of the program, for every argument that each names; no statement of the seat is proved here. -/
import Derived.Test.YtfnegaedkomcgaaGreatFnBlocksPart13

set_option linter.all false
set_option maxRecDepth 20000
set_option maxHeartbeats 8000000
section
namespace Go.Proofs.YtfnegaedkomcgaaGreat
open Go.Ab

theorem good64 {p : Int} {b : Bk} (hp : 3 <= p /\ p <= 15) (h : good p b = true) : In64 b.a /\ In64 b.b /\ In64 b.c := by
  have := good_iff.1 h
  exact ⟨by unfold In64; omega, by unfold In64; omega, by unfold In64; omega⟩
theorem box_cells {H : Heap} {t : Nat} {a b c : Int} (h : H[t]? = some ⟨[.int .i64 a, .int .i64 b, .int .i64 c], true, true⟩) :
    cellsAt H t 0 3 = some [.int .i64 a, .int .i64 b, .int .i64 c] /\ cellsAt H t 0 1 = some [.int .i64 a] /\ cellsAt H t 1 1 = some [.int .i64 b] /\ cellsAt H t 2 1 = some [.int .i64 c] /\
      ∀ x y z : Int, storeAt H t 0 [.int .i64 x, .int .i64 y, .int .i64 z] = some (H.set t ⟨[.int .i64 x, .int .i64 y, .int .i64 z], true, true⟩) /\ (H.set t ⟨[.int .i64 x, .int .i64 y, .int .i64 z], true, true⟩)[t]? = some ⟨[.int .i64 x, .int .i64 y, .int .i64 z], true, true⟩ /\
        Same (fun j => j = t) H (H.set t ⟨[.int .i64 x, .int .i64 y, .int .i64 z], true, true⟩) := by
  obtain ⟨e0, e1, e2, e3⟩ := Holds.bk ⟨true, h⟩
  refine ⟨e0, e1, e2, e3, fun x y z => ?_⟩
  obtain ⟨z1, z2, z3, z4⟩ := boxLate (cs := [.int .i64 x, .int .i64 y, .int .i64 z]) h (List.prefix_refl _) rfl (by simp [one_int])
  exact ⟨z1, List.getElem?_set_self (List.getElem?_eq_some_iff.1 h).1, z3⟩
theorem box_one {H : Heap} {t : Nat} {a b c : Int} (h : H[t]? = some ⟨[.int .i64 a, .int .i64 b, .int .i64 c], true, true⟩) {k : Nat} (hk : k < 3) (x : Int) :
    ∃ H' : Heap, ∃ a' b' c' : Int, storeAt H t k [.int .i64 x] = some H' /\ H'[t]? = some ⟨[.int .i64 a', .int .i64 b', .int .i64 c'], true, true⟩ /\ Same (fun j => j = t) H H' /\ (In64 a -> In64 b -> In64 c -> In64 x -> In64 a' /\ In64 b' /\ In64 c') := by
  have hl := (List.getElem?_eq_some_iff.1 h).1
  have st : storeAt H t k [.int .i64 x] = some (H.set t ⟨ints ([a, b, c].set k x), true, true⟩) := by
    rw [storeAt_of (h : H[t]? = some ⟨ints [a, b, c], true, true⟩) rfl rfl (by simp [ints]; omega) (by simp [one_int]), over_one (by simp [ints]; omega)]
    exact congrArg (fun l => some (H.set t ⟨l, true, true⟩)) (ints_set [a, b, c] k x)
  obtain rfl | rfl | rfl : k = 0 \/ k = 1 \/ k = 2 := by omega
  · exact ⟨_, x, b, c, st, List.getElem?_set_self hl, same_set2, fun _ h2 h3 h4 => ⟨h4, h2, h3⟩⟩
  · exact ⟨_, a, x, c, st, List.getElem?_set_self hl, same_set2, fun h1 _ h3 h4 => ⟨h1, h4, h3⟩⟩
  · exact ⟨_, a, b, x, st, List.getElem?_set_self hl, same_set2, fun h1 h2 _ h4 => ⟨h1, h2, h4⟩⟩
theorem res_put {H H0 Hn : Heap} {lo : Nat} {q : Int} {z : Value} {cs : List Bk} {a b c : Int} (hp0 : H <+: H0) (hsm : Same (fun j => H.length <= j) H0 Hn) (hr : Hn[H.length]? = some ⟨[.int .i64 0, .slice none 0 0], true, true⟩) (ht : Hn[H.length + 1]? = some ⟨[.int .i64 0, .int .i64 0, .int .i64 0], true, true⟩) (hl0 : H0.length = H.length + 2) (hz : BIn lo Hn z cs) (hlo : H0.length <= lo) :
    ∃ A B, storeAt Hn H.length 0 [.int .i64 q, z] = some A /\ storeAt A (H.length + 1) 0 [.int .i64 a, .int .i64 b, .int .i64 c] = some B /\ cellsAt B H.length 0 2 = some [.int .i64 q, z] /\ cellsAt B (H.length + 1) 0 3 = some [.int .i64 a, .int .i64 b, .int .i64 c] /\ H <+: B /\ BIn H.length B z cs /\ (∀ k, k ≠ H.length -> A[k]? = Hn[k]?) := by
  have hs6 : Same (fun j => j = H.length) Hn (Hn.set H.length ⟨[.int .i64 q, z], true, true⟩) := same_set2
  have hr6 : (Hn.set H.length ⟨[.int .i64 q, z], true, true⟩)[H.length]? = some ⟨[.int .i64 q, z], true, true⟩ := List.getElem?_set_self (List.getElem?_eq_some_iff.1 hr).1
  have ht6 := hs6.get ht (by omega)
  have f1 := (sys_cells hr rfl).2.2.2 q z hz.one
  have fk : ∀ k, k ≠ H.length -> (Hn.set H.length ⟨[.int .i64 q, z], true, true⟩)[k]? = Hn[k]? := fun k hk => List.getElem?_set_ne (fun e => hk e.symm)
  generalize Hn.set H.length ⟨[.int .i64 q, z], true, true⟩ = H6 at *
  obtain ⟨_, _, _, _, g⟩ := box_cells ht6
  obtain ⟨g1, g2, hs7⟩ := g a b c
  have hr7 := hs7.get hr6 (by omega)
  have hs57 : Same (fun j => j = H.length \/ j = H.length + 1) Hn (H6.set (H.length + 1) ⟨[.int .i64 a, .int .i64 b, .int .i64 c], true, true⟩) := (hs6.mono fun j _ e => .inl e).trans (hs7.mono fun j _ e => .inr e)
  refine ⟨H6, _, f1, g1, (sys_cells hr7 hz.one).1, (box_cells g2).1, ?_, (hz.keep hs57 (fun j hj e => by omega)).wider (by omega), fk⟩
  exact Same.prefix (S := fun j => H.length <= j) (((Same.of_prefix hp0).trans hsm).trans (hs57.mono fun j _ e => by omega)) (fun j hj e => by omega)

theorem drawPut_ok {H : Heap} {u : Value} {xs : List Int} (hu : BytesAt H u xs) (Post : Value -> Heap -> Prop)
    (h : ∀ (H' : Heap) (q : Int) (w : Value) (cs : List Bk) (b : Bk), H <+: H' -> BIn H.length H' w cs -> Wild q cs -> In64 b.a -> In64 b.b -> In64 b.c -> Post (.tuple #[sysV q w, b.val]) H') :
    ACalls Tryz.prog 16 [u] H Post := by
  refine acalls_vc (rs := [.cell 2 26, .cell 3 39]) Tryz.func16 rfl rfl Tryz.ntmps16 rfl rfl ?_
  simp (maxSteps := 1000000) [go_sem]
  have hp0 : H <+: H ++ [⟨[.int .i64 0, .slice none 0 0], true, true⟩, ⟨[.int .i64 0, .int .i64 0, .int .i64 0], true, true⟩] := List.prefix_append _ _
  have hr00 : (H ++ [(⟨[.int .i64 0, .slice none 0 0], true, true⟩ : Blk), ⟨[.int .i64 0, .int .i64 0, .int .i64 0], true, true⟩])[H.length]? = some ⟨[.int .i64 0, .slice none 0 0], true, true⟩ := by simp
  have hr01 : (H ++ [(⟨[.int .i64 0, .slice none 0 0], true, true⟩ : Blk), ⟨[.int .i64 0, .int .i64 0, .int .i64 0], true, true⟩])[H.length + 1]? = some ⟨[.int .i64 0, .int .i64 0, .int .i64 0], true, true⟩ := by simp
  have hl0 : (H ++ [(⟨[.int .i64 0, .slice none 0 0], true, true⟩ : Blk), ⟨[.int .i64 0, .int .i64 0, .int .i64 0], true, true⟩]).length = H.length + 2 := by simp
  generalize H ++ [(⟨[.int .i64 0, .slice none 0 0], true, true⟩ : Blk), ⟨[.int .i64 0, .int .i64 0, .int .i64 0], true, true⟩] = H0 at hp0 hr00 hr01 hl0 ⊢
  refine from_ok (hu.pre hp0) _ ?_
  intro H1 hp1 hl1 hS1
  simp (maxSteps := 1000000) [go_sem]
  refine draw_ok hS1 _ ?_
  intro H2 p w bs hs2 hS2 hw hd hlb
  have onew := hw.one
  have hpp := hd.pts
  have hle2 := hs2.1
  have hx3 : (H2 ++ [(⟨[.int .i64 p, w], true, true⟩ : Blk)])[H2.length]? = some ⟨[.int .i64 p, w], true, true⟩ := by simp
  have hp3 : H2 <+: H2 ++ [⟨[.int .i64 p, w], true, true⟩] := List.prefix_append _ _
  have hl3 : (H2 ++ [(⟨[.int .i64 p, w], true, true⟩ : Blk)]).length = H2.length + 1 := by simp
  simp (maxSteps := 1000000) [go_sem, sysV, onew]
  generalize H2 ++ [(⟨[.int .i64 p, w], true, true⟩ : Blk)] = H3 at hx3 hp3 hl3 ⊢
  have hw3 := hw.pre hp3
  have hS3 := hS2.pre hp3
  have hsm3 : Same (fun j => j = H0.length) H0 H3 := ((Same.of_prefix hp1).trans hs2).trans (Same.of_prefix hp3)
  have hr30 := hsm3.get hr00 (by omega)
  have hr31 := hsm3.get hr01 (by omega)
  obtain ⟨a0, a1, a2, a3⟩ := sys_cells hx3 onew
  try simp (maxSteps := 1000000) [go_sem, a1]
  refine drawOrder_ok hS3 (by omega) _ ?_
  intro H4 ov ord hs4 hS4 hI4 hO4
  obtain ⟨a, b, c, o0, o1, o2, ha, hb, hc, n1, n2, n3⟩ := ord3 hO4 (by omega)
  obtain ⟨oid, ⟨rfl, hoat, hosz⟩, _⟩ := hI4
  have hol : ord.length = p := by have := hO4.1; omega
  have hoh : Holds H4 oid (ints ord) := ⟨true, hoat.resolve_left (by intro e; rw [e] at hol; simp at hol; omega)⟩
  have l0 := hoh.cell (o := 0) (v := .int .i64 a) (by simp only [ints_get, o0]; rfl)
  have l1 := hoh.cell (o := 1) (v := .int .i64 b) (by simp only [ints_get, o1]; rfl)
  have l2 := hoh.cell (o := 2) (v := .int .i64 c) (by simp only [ints_get, o2]; rfl)
  have q0 : 0 < ord.length := by omega
  have q1 : 1 < ord.length := by omega
  have q2 : 2 < ord.length := by omega
  have hle4 := hs4.1
  have hx4 := hs4.get hx3 (by omega)
  have hr4 := hs4.get hr30 (by omega)
  have ht4 := hs4.get hr31 (by omega)
  have hw4 := (hw.upTo.pre hp3).keep hs4 (fun j hj e => by have := hj.1; omega)
  simp (maxSteps := 1000000) [go_sem]
  have hgb : good (p : Int) (blk (a : Int) b c) = true := blk_good.2 ⟨by omega, by omega, by omega, by omega, by omega, by omega⟩
  obtain ⟨B, hB⟩ : ∃ B, blk (a : Int) b c = B := ⟨_, rfl⟩
  rw [hB] at hgb
  refine AWp.regCut (St := Nat) (fun q => [(7, .pointer (some ⟨q, 0, none⟩))]) (fun q H5 => H4 <+: H5 /\ H5[q]? = some ⟨[.int .i64 B.a, .int .i64 B.b, .int .i64 B.c], true, true⟩ /\ H4.length <= q) ?_ ?_
  · intro Q' hQ'
    refine AWp.drawF mixed [10] [(0, false), (1, false), (2, false), (3, false), (4, false), (5, false), (6, false), (7, false), (8, false), (9, false), (10, true), (11, false)] (.one 0 false (.one 1 false (.one 2 false (.one 3 false (.one 4 false (.one 5 false (.one 6 false (.one 7 false (.one 8 false (.two 9 false (.one 10 true (.one 11 false .nil)) 10 (.one 9 false (.one 11 false .nil)))))))))))) (by kernel_rfl) ?_
    simp (maxSteps := 1000000) [go_sem, l0, l1, l2, q0, q1, q2]
    refine andK_intro (by omega) (andK_intro (by omega) (vT_two ?_ ?_))
    · simp (maxSteps := 1000000) [go_sem]
      refine l01Block_ok (a := (a : Int)) (b := (b : Int)) (c := (c : Int)) ⟨by omega, by omega⟩ ⟨by omega, by omega⟩ ⟨by omega, by omega⟩ _ ?_
      intro H5 hp5
      rw [hB]
      simp (maxSteps := 1000000) [go_sem, Bk.val]
      exact hQ' H5.length _ _ (by simp [upF, Fr.get, Up.refl]) ⟨hp5.trans (List.prefix_append _ _), by simp, hp5.length_le⟩
    · have hz : (H4 ++ [(⟨[.int .i64 0, .int .i64 0, .int .i64 0], true, true⟩ : Blk)])[H4.length]? = some ⟨[.int .i64 0, .int .i64 0, .int .i64 0], true, true⟩ := by simp
      have hpz : H4 <+: H4 ++ [⟨[.int .i64 0, .int .i64 0, .int .i64 0], true, true⟩] := List.prefix_append _ _
      simp (maxSteps := 1000000) [go_sem]
      generalize H4 ++ [(⟨[.int .i64 0, .int .i64 0, .int .i64 0], true, true⟩ : Blk)] = HZ at *
      refine l01Block_ok (a := (a : Int)) (b := (b : Int)) (c := (c : Int)) ⟨by omega, by omega⟩ ⟨by omega, by omega⟩ ⟨by omega, by omega⟩ _ ?_
      intro H5 hp5
      rw [hB]
      obtain ⟨z1, z2, z3, z4⟩ := boxLate (cs := [.int .i64 B.a, .int .i64 B.b, .int .i64 B.c]) hz hp5 rfl (by simp [one_int])
      simp (maxSteps := 1000000) [go_sem, Bk.val, z1]
      exact hQ' H4.length _ _ (by simp [upF, Fr.get, Up.refl]) ⟨((Same.of_prefix (hpz.trans hp5)).trans z3).prefix (by omega), List.getElem?_set_self (List.getElem?_eq_some_iff.1 (pget hp5 hz)).1, Nat.le_refl _⟩
  rintro t H5 ⟨hp45, hb5, htl⟩
  have hle5 := hp45.length_le
  have hx5 := pget hp45 hx4
  obtain ⟨x0, x1, x2, x3⟩ := sys_cells hx5 onew
  simp (maxSteps := 1000000) [go_sem, x0]
  refine l01RestG_ok (hw4.pre hp45).read ⟨by omega, by omega⟩ hd.good15 _ ?_
  intro H6 rv hp6 hrv
  obtain ⟨R, hR⟩ : ∃ R, (triples (p : Int).toNat).filter (leftB bs) = R := ⟨_, rfl⟩
  rw [hR] at hrv
  have hRg : ∀ x ∈ R, good (p : Int) x = true := fun x hx => by
    rw [<- hR] at hx
    have := (mem_triples (List.mem_filter.1 hx).1).1
    simpa using this
  obtain ⟨rid, ⟨rfl, rat, rsz⟩, hrsp⟩ := hrv
  have hp46 := hp45.trans hp6
  have hle6 := hp6.length_le
  have hS6 := hS4.pre hp46
  have hx6 := pget hp46 hx4
  have hr6 := pget hp46 hr4
  have ht6 := pget hp46 ht4
  have hw6 := hw4.pre hp46
  have hsm6 := (hsm3.trans hs4).trans (Same.of_prefix hp46)
  have hb6 := pget hp6 hb5
  obtain ⟨gB1, gB2, gB3⟩ := good64 hpp hgb
  clear hx5 x0 x1 x2 x3 hb5
  simp (maxSteps := 1000000) [go_sem]
  refine condK_intro (fun hpos => ?pos) (fun hneg => ?neg)
  case' pos =>
    have hpos : 0 < R.length := by simpa using hpos
    have hrb : H6[rid]? = some ⟨tri R, true, true⟩ := rat.resolve_left (by intro e; rw [e] at hpos; simp at hpos)
    refine next_ok hS6 _ ?_
    intro H7 k hs7 hl7 hS7 hk0 hk1
    refine (Decidable.em (k = 0)).elim (fun c => ?k0) (fun c => ?k1)
  case' k0 =>
    subst c
    simp (maxSteps := 1000000) [go_sem]
    refine next_ok hS7 _ ?_
    intro H8 i hs8 hl8 hS8 hi0 hi1
    obtain ⟨i, rfl⟩ : ∃ n : Nat, i = n := ⟨i.toNat, by omega⟩
    have hil : i < R.length := by omega
    have hrs := (hrsp (by intro e; rw [e] at hpos; simp at hpos)).1
    have hr8 := hs8.get (hs7.get hrb (by omega)) (by omega)
    have rat8 : At H8 rid 0 (tri R) := .inr (by simpa using (show Holds H8 rid (tri R) from ⟨true, hr8⟩).cells (o := 0) (n := (tri R).length) (by simp))
    have c8 := rat8.bk (List.getElem?_eq_getElem hil)
    have gi := hRg R[i] (List.getElem_mem hil)
    generalize R[i] = M at *
    have hb8 := hs8.get (hs7.get hb6 (by omega)) (by omega)
    obtain ⟨_, _, _, _, gst⟩ := box_cells hb8
    obtain ⟨st, hbM, hs9⟩ := gst M.a M.b M.c
    have hxM := hs9.get (hs8.get (hs7.get hx6 (by omega)) (by omega)) (by omega)
    have hrM := hs9.get (hs8.get (hs7.get hr6 (by omega)) (by omega)) (by omega)
    have htM := hs9.get (hs8.get (hs7.get ht6 (by omega)) (by omega)) (by omega)
    have hwM := ((hw6.keep hs7 (fun j hj e => by have := hj.1; omega)).keep hs8 (fun j hj e => by have := hj.1; omega)).keep hs9 (fun j hj e => by have := hj.2; omega)
    have hSM := hS8.keep hs9 (fun j e => ⟨by omega, by omega⟩)
    have hsmM := sameUp ((hsm6.trans hs7).trans hs8) hs9 (fun j e => by omega)
    have hleM : H4.length <= (H8.set t ⟨[.int .i64 M.a, .int .i64 M.b, .int .i64 M.c], true, true⟩).length := by have := hs9.1; have := hs8.1; have := hs7.1; omega
    obtain ⟨gM1, gM2, gM3⟩ := good64 hpp gi
    simp only [Int.toNat_natCast, Nat.zero_add, Bk.cells] at c8
    simp (maxSteps := 1000000) [go_sem, hil, c8, st]
    try simp (maxSteps := 1000000) [go_sem]
    generalize H8.set t ⟨[.int .i64 M.a, .int .i64 M.b, .int .i64 M.c], true, true⟩ = HM at *
  case' k1 =>
    have b0 : (k == 0) = false := by simpa using c
    have hbM := hs7.get hb6 (by omega)
    have hxM := hs7.get hx6 (by omega)
    have hrM := hs7.get hr6 (by omega)
    have htM := hs7.get ht6 (by omega)
    have hwM := hw6.keep hs7 (fun j hj e => by have := hj.1; omega)
    have hSM := hS7
    have hsmM := hsm6.trans hs7
    have hleM : H4.length <= H7.length := by have := hs7.1; omega
    obtain ⟨M, hM⟩ : ∃ M, B = M := ⟨_, rfl⟩
    rw [hM] at hbM gB1 gB2 gB3
    have gM1 := gB1
    have gM2 := gB2
    have gM3 := gB3
    simp (maxSteps := 1000000) [go_sem, b0]
    generalize H7 = HM at *
  case' neg =>
    have hbM := hb6
    have hxM := hx6
    have hrM := hr6
    have htM := ht6
    have hwM := hw6
    have hSM := hS6
    have hsmM := hsm6
    have hleM : H4.length <= H6.length := by omega
    obtain ⟨M, hM⟩ : ∃ M, B = M := ⟨_, rfl⟩
    rw [hM] at hbM gB1 gB2 gB3
    have gM1 := gB1
    have gM2 := gB2
    have gM3 := gB3
    try simp (maxSteps := 1000000) [go_sem]
    generalize H6 = HM at *
  all_goals
    clear hs4 hS4 hp45 hp6 hrsp rat hR hRg hb6 hx6 hr6 ht6 hw6 hS6 hsm6
    refine next_ok hSM _ ?_
    intro J1 m js1 jl1 hSJ hm0 hm1
    have hxJ := js1.get hxM (by omega)
    have hrJ := js1.get hrM (by omega)
    have htJ := js1.get htM (by omega)
    have hbJ := js1.get hbM (by omega)
    have hwJ := hwM.keep js1 (fun j hj e => by have := hj.1; omega)
    have hsmJ := hsmM.trans js1
    have hleJ : H4.length <= J1.length := by omega
    obtain ⟨e0, e1, e2, e3, gst⟩ := box_cells hbJ
    rcases Decidable.em (m = 0) with c | c
    case' inl =>
      subst c
      obtain ⟨st, hbN, hsN⟩ := gst M.b M.a M.c
      have hxN := hsN.get hxJ (by omega)
      have hrN := hsN.get hrJ (by omega)
      have htN := hsN.get htJ (by omega)
      have hwN := hwJ.keep hsN (fun j hj e => by have := hj.2; omega)
      have hSN := hSJ.keep hsN (fun j e => ⟨by omega, by omega⟩)
      have hsmN := sameUp hsmJ hsN (fun j e => by omega)
      have hleN : H4.length <= (J1.set t ⟨[.int .i64 M.b, .int .i64 M.a, .int .i64 M.c], true, true⟩).length := by have := hsN.1; omega
      have gN1 := gM2
      have gN2 := gM1
      have gN3 := gM3
      simp (maxSteps := 1000000) [go_sem, e0, e1, e2, e3, st]
      obtain ⟨N, hN⟩ : ∃ N : Bk, (⟨M.b, M.a, M.c⟩ : Bk) = N := ⟨_, rfl⟩
      have n1 : M.b = N.a := by rw [<- hN]
      have n2 : M.a = N.b := by rw [<- hN]
      have n3 : M.c = N.c := by rw [<- hN]
      rw [n1] at gN1
      rw [n2] at gN2
      rw [n3] at gN3
      generalize J1.set t ⟨[.int .i64 M.b, .int .i64 M.a, .int .i64 M.c], true, true⟩ = HN at *
      rw [n1, n2, n3] at hbN
    case' inr =>
      have f0 : (m == 0) = false := by simpa using c
      rcases Decidable.em (m = 1) with c1 | c1
    case' inr.inl =>
      subst c1
      obtain ⟨x0, x1, x2, x3⟩ := sys_cells hxJ onew
      simp (maxSteps := 1000000) [go_sem]
      refine AWp.regCut (St := Bk) (fun _ => []) (fun N HN => Same (fun j => j = H0.length \/ j = t) J1 HN /\ Src H0.length H0.length HN /\ HN[t]? = some ⟨[.int .i64 N.a, .int .i64 N.b, .int .i64 N.c], true, true⟩ /\ In64 N.a /\ In64 N.b /\ In64 N.c) ?_ ?_
      · intro Q' hQ'
        refine AWp.drawFS (fun i => i = H2.length) mixed [5] [(0, false), (2, false), (3, false), (4, false), (1, true), (5, true), (6, false), (7, false), (8, false)] (.one 0 false (.one 2 false (.one 3 false (.one 4 false (.two 1 true (.one 5 true (.one 6 false (.one 7 false (.one 8 false .nil)))) 5 (.one 1 true (.one 6 false (.one 7 false (.one 8 false .nil))))))))) (by kernel_rfl) ?_
        simp (maxSteps := 1000000) [go_sem, x0, x1]
        have hi3 : 3 <= p := by omega
        have alc : ∀ J : Heap, J <+: J ++ [(⟨[.int .i64 (-1), .int .i64 p, .int .i64 0], true, true⟩ : Blk)] /\ (J ++ [(⟨[.int .i64 (-1), .int .i64 p, .int .i64 0], true, true⟩ : Blk)])[J.length]? = some ⟨ints [-1, (p : Int), 0], true, true⟩ := fun J => ⟨List.prefix_append _ _, by simp [ints]⟩
        refine vTS_two ?_ ?_
        · simp (maxSteps := 1000000) [go_sem]
          refine next_ok hSJ _ ?_
          intro J2 r js2 jl2 hSJ2 hr0 hr1
          have hk2 : KeepS (fun i => i = H2.length) J1 J2 := fun i hi => js2.2 i (by omega) (by omega)
          try simp (maxSteps := 1000000) [go_sem]
          refine andK_intro hk2 ?_
          obtain ⟨hp3', hi3'⟩ := alc J2
          have hk3 : KeepS (fun i => i = H2.length) J2 (J2 ++ [⟨[.int .i64 (-1), .int .i64 p, .int .i64 0], true, true⟩]) := fun i hi => (Same.of_prefix (S := fun _ => False) hp3').2 i (by omega) (fun e => e)
          try simp (maxSteps := 1000000) [go_sem]
          generalize J2 ++ [(⟨[.int .i64 (-1), .int .i64 p, .int .i64 0], true, true⟩ : Blk)] = J3 at *
          try refine andK_intro hk3 ?_
          try simp (maxSteps := 1000000) [go_sem]
          refine pick_ok (hSJ2.pre hp3') (xs := [-1, (p : Int), 0]) hi3' (by omega) (by simp) (by simp) _ ?_
          intro J4 x js4 jl4 hSJ4 hx
          have hx64 : In64 x := by simp at hx; unfold In64; omega
          have hk4 : KeepS (fun i => i = H2.length) J3 J4 := fun i hi => js4.2 i (by have := hp3'.length_le; omega) (by omega)
          have js14 := (js2.trans (Same.of_prefix hp3')).trans js4
          obtain ⟨r, rfl⟩ : ∃ n : Nat, r = n := ⟨r.toNat, by omega⟩
          have hrl : r < 3 := by omega
          obtain ⟨J5, a', b', c', st, hb', hs5, h64⟩ := box_one (js14.get hbJ (by omega)) hrl x
          try simp (maxSteps := 1000000) [go_sem]
          try refine andK_intro hk4 ?_
          simp (maxSteps := 1000000) [go_sem, hrl, st]
          try refine andK_intro (by omega) ?_
          try simp (maxSteps := 1000000) [go_sem, hrl, st]
          refine hQ' ⟨a', b', c'⟩ _ _ ?_ ⟨(js14.mono fun j _ e => .inl e).trans (hs5.mono fun j _ e => .inr e), hSJ4.keep hs5 (fun j e => ⟨by omega, by omega⟩), hb', h64 gM1 gM2 gM3 hx64⟩
          simp [upF, Fr.get, Up.refl]
        · obtain ⟨hp3', hi3'⟩ := alc J1
          have hk3 : KeepS (fun i => i = H2.length) J1 (J1 ++ [⟨[.int .i64 (-1), .int .i64 p, .int .i64 0], true, true⟩]) := fun i hi => (Same.of_prefix (S := fun _ => False) hp3').2 i (by omega) (fun e => e)
          simp (maxSteps := 1000000) [go_sem]
          generalize J1 ++ [(⟨[.int .i64 (-1), .int .i64 p, .int .i64 0], true, true⟩ : Blk)] = J3 at *
          try refine andK_intro hk3 ?_
          try simp (maxSteps := 1000000) [go_sem]
          refine next_ok (hSJ.pre hp3') _ ?_
          intro J2 r js2 jl2 hSJ2 hr0 hr1
          have hk2 : KeepS (fun i => i = H2.length) J3 J2 := fun i hi => js2.2 i (by have := hp3'.length_le; omega) (by omega)
          try simp (maxSteps := 1000000) [go_sem]
          try refine andK_intro hk2 ?_
          try simp (maxSteps := 1000000) [go_sem]
          refine pick_ok hSJ2 (xs := [-1, (p : Int), 0]) (js2.get hi3' (by omega)) (by omega) (by simp) (by simp) _ ?_
          intro J4 x js4 jl4 hSJ4 hx
          have hx64 : In64 x := by simp at hx; unfold In64; omega
          have hk4 : KeepS (fun i => i = H2.length) J2 J4 := fun i hi => js4.2 i (by have := hp3'.length_le; omega) (by omega)
          have js14 := ((Same.of_prefix hp3').trans js2).trans js4
          obtain ⟨r, rfl⟩ : ∃ n : Nat, r = n := ⟨r.toNat, by omega⟩
          have hrl : r < 3 := by omega
          obtain ⟨J5, a', b', c', st, hb', hs5, h64⟩ := box_one (js14.get hbJ (by omega)) hrl x
          try simp (maxSteps := 1000000) [go_sem]
          try refine andK_intro hk4 ?_
          simp (maxSteps := 1000000) [go_sem, hrl, st]
          try refine andK_intro (by omega) ?_
          try simp (maxSteps := 1000000) [go_sem, hrl, st]
          refine hQ' ⟨a', b', c'⟩ _ _ ?_ ⟨(js14.mono fun j _ e => .inl e).trans (hs5.mono fun j _ e => .inr e), hSJ4.keep hs5 (fun j e => ⟨by omega, by omega⟩), hb', h64 gM1 gM2 gM3 hx64⟩
          simp [upF, Fr.get, Up.refl]
      rintro N HN ⟨js2, hSN, hbN, gN1, gN2, gN3⟩
      have hxN := js2.get hxJ (by omega)
      have hrN := js2.get hrJ (by omega)
      have htN := js2.get htJ (by omega)
      have hwN := hwJ.keep js2 (fun j hj e => by have := hj.1; have := hj.2; omega)
      have hsmN := sameUp hsmJ js2 (fun j e => by omega)
      have hleN : H4.length <= HN.length := by have := js2.1; omega
      try simp (maxSteps := 1000000) [go_sem]
    case' inr.inr =>
      have f1 : (m == 1) = false := by simpa using c1
      obtain ⟨N, hN⟩ : ∃ N : Bk, M = N := ⟨_, rfl⟩
      rw [hN] at hbJ gM1 gM2 gM3
      have gN1 := gM1
      have gN2 := gM2
      have gN3 := gM3
      have hxN := hxJ
      have hrN := hrJ
      have htN := htJ
      have hwN := hwJ
      have hbN := hbJ
      have hSN := hSJ
      have hsmN := hsmJ
      have hleN := hleJ
      simp (maxSteps := 1000000) [go_sem, f0, f1]
      generalize J1 = HN at *
    all_goals
      have hxl := (List.getElem?_eq_some_iff.1 hxN).1
      have htl2 := (List.getElem?_eq_some_iff.1 hbN).1
      have b0 := (sys_cells hxN onew).1
      have d0 := (box_cells hbN).1
      refine AWp.drawS (fun i => i = H2.length \/ i = t) mixed [(0, false), (1, false), (3, false), (2, true), (4, true), (5, false)] (by kernel_rfl) ?_
      simp (maxSteps := 1000000) [go_sem, b0, d0]
      refine bad_ok hSN ⟨_, hwN⟩ (by omega) (by omega) hd _ ?_
      intro L1 q z8 cs8 ls hSL hz8 hwd8
      have hk8 : KeepS (fun i => i = H2.length \/ i = t) HN L1 := fun i hi => ls.2 i (by omega) (by omega)
      try simp (maxSteps := 1000000) [go_sem, sysV]
      try refine andK_intro hk8 ?_
      have dl := (box_cells (ls.get hbN (by omega))).1
      have hsmL := hsmN.trans ls
      obtain ⟨A, B9, g1, g2, g3, g4, g5, g6, gk⟩ := res_put (q := q) (a := N.a) (b := N.b) (c := N.c) hp0 (hsmL.mono fun j _ e => by omega) (ls.get hrN (by omega)) (ls.get htN (by omega)) hl0 hz8 (by omega)
      have hkA : KeepS (fun i => i = H2.length \/ i = t) L1 A := fun i hi => gk i (by omega)
      try simp (maxSteps := 1000000) [go_sem, dl, g1, g2, g3, g4]
      try refine andK_intro hkA ?_
      try simp (maxSteps := 1000000) [go_sem, dl, g1, g2, g3, g4]
      exact h _ _ _ _ N g5 g6 hwd8 gN1 gN2 gN3

end Go.Proofs.YtfnegaedkomcgaaGreat
end

section
namespace Go.Proofs.YtfnegaedkomcgaaGreat
open Go.Ab

def zk (pa pb pc : Int) (k : Nat) : List Value := [.int .i64 (if 0 < k then pa else 0), .int .i64 (if 1 < k then pb else 0), .int .i64 (if 2 < k then pc else 0)]
def okk (pa pb pc : Int) (k : Nat) : Bool := (decide (k < 1) || decide (0 <= pa)) && ((decide (k < 2) || decide (0 <= pb)) && (decide (k < 3) || decide (0 <= pc)))

theorem implBlocksOn_ok {H : Heap} {u v : Value} {p : Int} {bs : List Bk} {xs : List Int} (hu : BlocksAt H u bs) (hl : bs.length <= 1048576) (hv : IntsAt H v xs) (hl' : xs.length <= 1048576) (hw : ∀ x ∈ xs, In64 x) (Post : Value -> Heap -> Prop)
    (h : ∀ H' w, H <+: H' -> BlocksIn H.length H'.length H' w (rOn p bs xs).1.2 -> Post (.tuple #[sysV (rOn p bs xs).1.1 w, .int .i64 (rOn p bs xs).2]) H') :
    ACalls Tryz.prog 15 [sysV p u, v] H Post := by
  have hvo := hv
  have huo := hu
  obtain ⟨j, q, rfl, h3, h4⟩ := hv
  obtain ⟨i, o, rfl, h1, h2⟩ := hu
  refine ACalls.res ?_
  refine acalls_vc (rs := [.cell 4 26, .tmp 5]) Tryz.func15 rfl rfl Tryz.ntmps15 rfl rfl ?_
  simp (maxSteps := 1000000) [go_sem, sysV]
  have hp0 : H <+: H ++ [⟨[.int .i64 p, lv 3 i o bs.length], true, true⟩, ⟨[.int .i64 0, .slice none 0 0], true, true⟩] := List.prefix_append _ _
  have hx0 : Holds (H ++ [⟨[.int .i64 p, lv 3 i o bs.length], true, true⟩, ⟨[.int .i64 0, .slice none 0 0], true, true⟩]) H.length [.int .i64 p, lv 3 i o bs.length] := ⟨true, by simp⟩
  have hb0 : (H ++ [(⟨[.int .i64 p, lv 3 i o bs.length], true, true⟩ : Blk), ⟨[.int .i64 0, .slice none 0 0], true, true⟩])[H.length + 1]? = some ⟨[.int .i64 0, .slice none 0 0], true, true⟩ := by simp
  have hlen0 : (H ++ [(⟨[.int .i64 p, lv 3 i o bs.length], true, true⟩ : Blk), ⟨[.int .i64 0, .slice none 0 0], true, true⟩]).length = H.length + 2 := by simp
  generalize H ++ [(⟨[.int .i64 p, lv 3 i o bs.length], true, true⟩ : Blk), ⟨[.int .i64 0, .slice none 0 0], true, true⟩] = H0 at hp0 hx0 hb0 hlen0 ⊢
  have bad : ∀ (H' : Heap) (c : Int), H <+: H' -> rOn p bs xs = ((0, []), c) -> ∃ v', Up H' (.tuple #[.agg #[.int .i64 0, .slice none 0 0], .int .i64 c]) v' /\ Post v' H' := by
    intro H' c hp hr
    refine ⟨_, Up.tuple (ys := #[sysV 0 (lv 3 0 0 0), .int .i64 c]) ⟨zeroSys, Up.refl _ _, trivial⟩, ?_⟩
    have := h H' (lv 3 0 0 0) hp (by rw [hr]; exact BlocksIn.nil _ _ _)
    rwa [hr] at this
  refine implIsSys (huo.pre hp0) _ ?_
  intro H1 hp1
  obtain ⟨d0, d1, d2⟩ := (hx0.pre hp1).sys
  obtain ⟨q1, q2, q3, _⟩ := put2 (cs := [.int .i64 0, .slice none 0 0]) hp0 (by omega) hb0 rfl hp1 rfl rfl
  cases hs : sysB p bs with
  | false =>
    simp (maxSteps := 1000000) [go_sem, q1, q2]
    exact bad _ 1 q3 (by simp [rOn, setCode_none hs])
  | true =>
    have hS := sysB_of hs
    have hp := hS.1
    by_cases h3l : 3 <= xs.length
    · have hlt3 : ¬ ((xs.length : Int) < 3) := by omega
      have hlt3' : ¬ (xs.length < 3) := by omega
      simp (maxSteps := 1000000) [go_sem, hlt3, hlt3', d1]
      refine rises_ok (hvo.pre (hp0.trans hp1)) (by omega) (by omega) _ ?_
      intro b hb
      cases b with
      | false =>
        simp (maxSteps := 1000000) [go_sem, q1, q2]
        exact bad _ 2 q3 (by simp [rOn, setCode_bad hs (fun hr => by have := hb.2 hr; cases this)])
      | true =>
        have hrise := hb.1 rfl
        have hr : rOn p bs xs = (((xs.length : Int), onB xs bs), 0) := by simp [rOn, setCode_good hs hrise, h3l]
        obtain ⟨d0', d1', d2'⟩ := ((hx0.pre hp1).pre (List.prefix_append H1 [⟨[.int .i64 xs.length, .slice none 0 0], true, true⟩])).sys
        simp (maxSteps := 1000000) [go_sem, d2']
        have hp2 : H1 <+: H1 ++ [⟨[.int .i64 xs.length, .slice none 0 0], true, true⟩] := List.prefix_append _ _
        have hout0 : (H1 ++ [(⟨[.int .i64 xs.length, .slice none 0 0], true, true⟩ : Blk)])[H1.length]? = some ⟨[.int .i64 xs.length, .slice none 0 0], true, true⟩ := by simp
        have hlen2 : (H1 ++ [(⟨[.int .i64 xs.length, .slice none 0 0], true, true⟩ : Blk)]).length = H1.length + 1 := by simp
        generalize H1 ++ [(⟨[.int .i64 xs.length, .slice none 0 0], true, true⟩ : Blk)] = H2 at hp2 hout0 hlen2 ⊢
        refine AWp.loopVc (St := Nat × List Bk × Value) (fun s => [(1, lv 1 j q xs.length), (4, .pointer (some ⟨H.length + 1, 0, none⟩)), (6, .pointer (some ⟨H1.length, 0, none⟩)), (33, lv 3 i o bs.length), (34, .int .i64 bs.length), (35, .int .i64 s.1)])
          (fun s H' => s.1 <= bs.length /\ s.2.1 = onB xs (bs.take s.1) /\ H1 <+: H' /\ H'[H1.length]? = some ⟨[.int .i64 xs.length, s.2.2], true, true⟩ /\ OE 3 (H1.length + 1) H' s.2.2 (tri s.2.1) s.2.1.length) (fun s => bs.length - s.1) (0, [], .slice none 0 0) ?_ ?_ ?_
        · simp [upF, Fr.get, Up.refl]
        · exact ⟨by simp, by simp [onB], hp2, hout0, by simpa [tri] using OE.nil 3 (H1.length + 1) H2⟩
        · rintro K ⟨s, acc, vO⟩ H' ⟨hs', hacc, hp', hout, hoe⟩ hK
          simp only at hs' hacc hp' hout hoe
          have hltO := (List.getElem?_eq_some_iff.1 hout).1
          by_cases hlt : s < bs.length
          · have hbs : bs[s]? = some bs[s] := List.getElem?_eq_getElem hlt
            have c1 := (h1.pre (hp0.trans (hp1.trans hp'))).bk hbs
            simp only [Bk.cells] at c1
            have hw_s : IntKind.i64.wrap ((s : Int) + 1) = (s : Int) + 1 := i64w (by omega) (by omega)
            have hsn := onB_snoc xs (bs.take s) bs[s]
            rw [<- List.take_succ_eq_append_getElem hlt] at hsn
            have hlen : acc.length <= s := by rw [hacc]; exact Nat.le_trans (onB_length _ _) (by simp; omega)
            have hv2 := fun (H2 : Heap) (hp2 : H' <+: H2) => hvo.pre (hp0.trans (hp1.trans (hp'.trans hp2)))
            simp (maxSteps := 1000000) [go_sem, hlt, c1]
            generalize hb_ : bs[s] = b at *
            obtain ⟨pa, hpa⟩ : ∃ x, x = plc xs b.a := ⟨_, rfl⟩
            obtain ⟨pb, hpb⟩ : ∃ x, x = plc xs b.b := ⟨_, rfl⟩
            obtain ⟨pc, hpc⟩ : ∃ x, x = plc xs b.c := ⟨_, rfl⟩
            refine AWp.loopVc (St := Nat) (fun k => [(1, lv 1 j q xs.length), (4, .pointer (some ⟨H.length + 1, 0, none⟩)), (6, .pointer (some ⟨H1.length, 0, none⟩)), (9, .pointer (some ⟨H'.length + 1, 0, none⟩)), (10, .bool (okk pa pb pc k)), (33, lv 3 i o bs.length), (34, .int .i64 bs.length), (35, .int .i64 s), (39, .agg #[.int .i64 b.a, .int .i64 b.b, .int .i64 b.c]), (40, .int .i64 k)])
              (fun k H2 => k <= 3 /\ H' <+: H2 /\ H2[H'.length + 1]? = some ⟨zk pa pb pc k, true, true⟩) (fun k => 3 - k) 0 ?_ ?_ ?_
            · simp [upF, Fr.get, Up.refl, okk]
            · exact ⟨by omega, List.prefix_append _ _, by simp [zk]⟩
            · rintro K2 k H3 ⟨hk, hp3, hz⟩ hK2
              have hltz := (List.getElem?_eq_some_iff.1 hz).1
              have hst : ∀ (x : Int), k < 3 -> storeAt H3 (H'.length + 1) k [.int .i64 x] = some (H3.set (H'.length + 1) ⟨over (zk pa pb pc k) k [.int .i64 x], true, true⟩) := by
                intro x hk3
                exact storeAt_of hz rfl rfl (by simp [zk]; omega) (by simp [Value.oneCell'])
              have next : ∀ (fr : Fr) (cs : List Value), k < 3 -> cs = zk pa pb pc (k + 1) -> upF (H3.set (H'.length + 1) ⟨cs, true, true⟩) [(1, lv 1 j q xs.length), (4, .pointer (some ⟨H.length + 1, 0, none⟩)), (6, .pointer (some ⟨H1.length, 0, none⟩)), (9, .pointer (some ⟨H'.length + 1, 0, none⟩)), (10, .bool (okk pa pb pc (k + 1))), (33, lv 3 i o bs.length), (34, .int .i64 bs.length), (35, .int .i64 s), (39, .agg #[.int .i64 b.a, .int .i64 b.b, .int .i64 b.c]), (40, .int .i64 ((k + 1 : Nat) : Int))] fr -> K2 fr (H3.set (H'.length + 1) ⟨cs, true, true⟩) := by
                intro fr cs hk3 hcs hfr
                refine hK2 (k + 1) fr _ (by omega) hfr ⟨by omega, ?_, by rw [List.getElem?_set_self hltz, hcs]⟩
                exact ((Same.of_prefix (S := fun j => j = H'.length + 1) hp3).trans ⟨by simp, fun j hj hS => List.getElem?_set_ne (fun e => hS e.symm)⟩).prefix (by intro j hj e; omega)
              have w1 : IntKind.i64.wrap 1 = 1 := i64w (by omega) (by omega)
              have w2 : IntKind.i64.wrap 2 = 2 := i64w (by omega) (by omega)
              have w3 : IntKind.i64.wrap 3 = 3 := i64w (by omega) (by omega)
              have hk4 : k = 0 \/ k = 1 \/ k = 2 \/ k = 3 := by omega
              rcases hk4 with rfl | rfl | rfl | rfl
              · have hst := hst pa (by omega)
                have hpv : partV Tryz.prog 2 [.int .i64 b.a, .int .i64 b.b, .int .i64 b.c] 0 = some (.int .i64 b.a) := by simp [partV, go_sem, aggT]
                simp (maxSteps := 1000000) [go_sem, okk, hpv]
                refine indexI_ok (hv2 H3 hp3) _ ?_
                rw [<- hpa]
                by_cases ha : 0 <= pa
                · simp (maxSteps := 1000000) [go_sem, w1, w2, w3, hst, ha]
                  exact next _ _ (by omega) (by simp [zk, over]) (by simp [upF, Fr.get, Up.refl, okk, ha])
                · simp (maxSteps := 1000000) [go_sem, w1, w2, w3, hst, ha]
                  exact next _ _ (by omega) (by simp [zk, over]) (by simp [upF, Fr.get, Up.refl, okk, ha])
              · have hst := hst pb (by omega)
                have hpv : partV Tryz.prog 2 [.int .i64 b.a, .int .i64 b.b, .int .i64 b.c] 1 = some (.int .i64 b.b) := by simp [partV, go_sem, aggT]
                simp (maxSteps := 1000000) [go_sem, okk, hpv]
                refine indexI_ok (hv2 H3 hp3) _ ?_
                rw [<- hpb]
                by_cases ha : 0 <= pa
                · by_cases hb : 0 <= pb
                  · simp (maxSteps := 1000000) [go_sem, w1, w2, w3, hst, ha, hb]
                    exact next _ _ (by omega) (by simp [zk, over]) (by simp [upF, Fr.get, Up.refl, okk, ha, hb])
                  · simp (maxSteps := 1000000) [go_sem, w1, w2, w3, hst, ha, hb]
                    exact next _ _ (by omega) (by simp [zk, over]) (by simp [upF, Fr.get, Up.refl, okk, ha, hb])
                · simp (maxSteps := 1000000) [go_sem, undef, w1, w2, w3, hst, ha]
                  exact next _ _ (by omega) (by simp [zk, over]) (by simp [upF, Fr.get, Up.refl, okk, ha])
              · have hst := hst pc (by omega)
                have hpv : partV Tryz.prog 2 [.int .i64 b.a, .int .i64 b.b, .int .i64 b.c] 2 = some (.int .i64 b.c) := by simp [partV, go_sem, aggT]
                simp (maxSteps := 1000000) [go_sem, okk, hpv]
                refine indexI_ok (hv2 H3 hp3) _ ?_
                rw [<- hpc]
                by_cases hab : 0 <= pa /\ 0 <= pb
                · obtain ⟨ha, hb⟩ := hab
                  by_cases hc : 0 <= pc
                  · simp (maxSteps := 1000000) [go_sem, w1, w2, w3, hst, ha, hb, hc]
                    exact next _ _ (by omega) (by simp [zk, over]) (by simp [upF, Fr.get, Up.refl, okk, ha, hb, hc])
                  · simp (maxSteps := 1000000) [go_sem, w1, w2, w3, hst, ha, hb, hc]
                    exact next _ _ (by omega) (by simp [zk, over]) (by simp [upF, Fr.get, Up.refl, okk, ha, hb, hc])
                · have e : (decide (0 <= pa) && decide (0 <= pb)) = false := by
                    rw [<- Bool.decide_and]; exact decide_eq_false hab
                  simp (maxSteps := 1000000) [go_sem, undef, w1, w2, w3, hst, e]
                  exact next _ _ (by omega) (by simp [zk, over]) (by simp [upF, Fr.get, Up.refl, okk, e, <- Bool.and_assoc])
              · have hz3 : cellsAt H3 (H'.length + 1) 0 3 = some [.int .i64 pa, .int .i64 pb, .int .i64 pc] := by
                  rw [cellsAt_of hz rfl (by simp [zk])]; simp [zk]
                have hout3 : H3[H1.length]? = some ⟨[.int .i64 xs.length, vO], true, true⟩ := pget hp3 hout
                have hoe3 := hoe.pre hp3
                by_cases hall : (decide (0 <= pa) && (decide (0 <= pb) && decide (0 <= pc))) = true
                · have e : okk pa pb pc 3 = true := by simpa [okk] using hall
                  have hle1 := hp'.length_le
                  obtain ⟨aO, rfl⟩ := hoe3.shape
                  have l1 : cellsAt H3 H1.length 1 1 = some [.slice aO acc.length acc.length] := by rw [cellsAt_of hout3 rfl (by simp)]; rfl
                  have hp4 : H3 <+: H3 ++ [⟨[.int .i64 pa, .int .i64 pb, .int .i64 pc], true, true⟩] := List.prefix_append _ _
                  have hsrc : cellsAt (H3 ++ [⟨[.int .i64 pa, .int .i64 pb, .int .i64 pc], true, true⟩]) H3.length 0 3 = some [.int .i64 pa, .int .i64 pb, .int .i64 pc] := by simp [go_sem]
                  have hle3 := hp3.length_le
                  obtain ⟨v5, H5, hap, hoe5, hk5, hlen5⟩ := (hoe3.pre hp4).append (m := 1) (news := [.int .i64 pa, .int .i64 pb, .int .i64 pc]) (by omega) (by simp; omega) rfl
                  obtain ⟨a5, rfl⟩ := hoe5.shape
                  have hout5 : H5[H1.length]? = some ⟨[.int .i64 xs.length, .slice aO acc.length acc.length], true, true⟩ := by
                    rw [hk5 _ (by omega)]; exact pget hp4 hout3
                  have hp15 : H1 <+: H5 := KeepL.prefix ((hp'.trans hp3).trans hp4) (by omega) hk5 (by simp at hlen5 ⊢; omega)
                  have hst5 : storeAt H5 H1.length 1 [.slice a5 (acc.length + 1) (acc.length + 1)] = some (H5.set H1.length ⟨[.int .i64 xs.length, .slice a5 (acc.length + 1) (acc.length + 1)], true, true⟩) := by
                    rw [storeAt_of hout5 rfl rfl (by simp) (by simp [Value.oneCell'])]; simp [over]
                  have hsame5 : Same (fun j => j = H1.length) H5 (H5.set H1.length ⟨[.int .i64 xs.length, .slice a5 (acc.length + 1) (acc.length + 1)], true, true⟩) := ⟨by simp, fun j hj hS => List.getElem?_set_ne (fun e => hS e.symm)⟩
                  simp (maxSteps := 1000000) [go_sem, e, l1, hz3, hsrc, hap, hst5, hw_s]
                  rw [<- hpa, <- hpb, <- hpc, hall] at hsn
                  refine andK_intro (by omega) (hK (s + 1, acc ++ [⟨pa, pb, pc⟩], .slice a5 (acc.length + 1) (acc.length + 1)) _ _ (by simp only; omega) (by simp [upF, Fr.get, Up.refl]) ⟨by simp only; omega, by simp only [hsn, hacc]; simp, ?_, ?_, ?_⟩)
                  · exact ((Same.of_prefix hp15).trans hsame5).prefix (by intro j hj e; omega)
                  · simp only; rw [List.getElem?_set_self (List.getElem?_eq_some_iff.1 hout5).1]
                  · simp only [List.length_append, List.length_singleton, tri_append, tri_one, Bk.cells]
                    exact hoe5.keep hsame5 (by intro j hj e; omega)
                · have hall : (decide (0 <= pa) && (decide (0 <= pb) && decide (0 <= pc))) = false := by simpa using hall
                  have e : okk pa pb pc 3 = false := by simpa [okk] using hall
                  rw [<- hpa, <- hpb, <- hpc, hall] at hsn
                  simp (maxSteps := 1000000) [go_sem, e, hw_s]
                  exact hK (s + 1, acc, vO) _ _ (by simp only; omega) (by simp [upF, Fr.get, Up.refl]) ⟨by simp only; omega, by simp only [hsn, hacc]; simp, hp'.trans hp3, hout3, hoe3⟩
          · have : s = bs.length := by omega
            subst this
            rw [List.take_length] at hacc
            have hal : acc.length <= 1048576 := by rw [hacc]; exact Nat.le_trans (onB_length _ _) hl
            have hle1 := hp'.length_le
            have hle2 := hp1.length_le
            obtain ⟨aO, rfl⟩ := hoe.shape
            have l2 : cellsAt H' H1.length 0 2 = some [.int .i64 xs.length, .slice aO acc.length acc.length] := by rw [cellsAt_of hout rfl (by simp)]; rfl
            obtain ⟨r1, r2, r3, r4⟩ := put2 (cs := [.int .i64 xs.length, .slice aO acc.length acc.length]) hp0 (by omega) hb0 rfl (hp1.trans hp') rfl rfl
            simp (maxSteps := 1000000) [go_sem, l2, r1, r2]
            obtain ⟨w, hup, hww⟩ := (hoe.keep r4 (by intro j hj e; omega)).blocks (by omega)
            have hle0 := hp0.length_le
            have fin := h _ w r3 (by
              rw [hr, <- hacc]
              exact hww.wider (by omega))
            rw [hr] at fin
            exact ⟨_, Up.tuple (ys := #[sysV xs.length w, .int .i64 0]) ⟨Up.agg ⟨Up.refl _ _, hup, trivial⟩, Up.refl _ _, trivial⟩, fin⟩
    · have hlt3 : ((xs.length : Int) < 3) := by omega
      have hlt3' : (xs.length < 3) := by omega
      simp (maxSteps := 1000000) [go_sem, undef, hlt3, hlt3', q1, q2]
      refine bad _ 2 q3 ?_
      by_cases hr : Rises p xs
      · simp [rOn, setCode_good hs hr, h3l]
      · simp [rOn, setCode_bad hs hr]

end Go.Proofs.YtfnegaedkomcgaaGreat
end

section
namespace Go.Proofs.YtfnegaedkomcgaaGreat
open Go.Ab

theorem blocks5_ok {H : Heap} {u v : Value} {xs : List Bk} (hu : BlocksAt H u xs) (hv : BlocksAt H v xs) (Post : Value -> Heap -> Prop) (h : Post (.bool true) H) : ACalls Tryz.prog 27 [u, v] H Post := by
  obtain ⟨i, o, rfl, h1, h2⟩ := hu
  obtain ⟨j, q, rfl, h3, h4⟩ := hv
  refine acalls_vc (rs := [.tmp 4]) Tryz.func27 rfl rfl Tryz.ntmps27 rfl rfl ?_
  simp (maxSteps := 1000000) [go_sem]
  refine AWp.loopVc (fun s : Nat => [(0, lv 3 i o xs.length), (1, lv 3 j q xs.length), (5, .int .i64 s)]) (fun s H' => H' = H /\ s <= xs.length) (fun s => xs.length - s) 0 ?_ ?_ ?_
  · simp [upF, Fr.get, Up.refl]
  · simp
  · rintro K s H' ⟨rfl, hs⟩ hK
    by_cases hlt : s < xs.length
    · have c1 := h1.bk (s := s) (List.getElem?_eq_getElem hlt)
      have c2 := h3.bk (s := s) (List.getElem?_eq_getElem hlt)
      simp only [Bk.cells] at c1 c2
      have hw_s : IntKind.i64.wrap ((s : Int) + 1) = (s : Int) + 1 := i64w (by omega) (by omega)
      simp (maxSteps := 1000000) [go_sem, hlt]
      refine AWp.draw mixed [(0, false), (1, false), (2, false), (3, false), (4, false), (5, false), (6, false), (7, false), (8, false)] (by kernel_rfl) ?_
      simp (maxSteps := 1000000) [go_sem, hlt, c1, c2, hw_s]
      exact hK (s + 1) _ _ (by omega) (by simp [upF, Fr.get, Up.refl]) ⟨rfl, by omega⟩
    · simp (maxSteps := 1000000) [go_sem, hlt]
      exact h

theorem systems5_ok {H : Heap} {u v : Value} {p : Int} {xs : List Bk} (hu : BlocksAt H u xs) (hv : BlocksAt H v xs) (Post : Value -> Heap -> Prop) (h : ∀ H', H <+: H' -> Post (.bool true) H') : ACalls Tryz.prog 19 [sysV p u, sysV p v] H Post := by
  obtain ⟨i, o, rfl, h1, h2⟩ := hu
  obtain ⟨j, r, rfl, h3, h4⟩ := hv
  refine acalls_vc (rs := [.tmp 4]) Tryz.func19 rfl rfl Tryz.ntmps19 rfl rfl ?_
  simp (maxSteps := 1000000) [go_sem, sysV, Value.oneCell']
  have hp : H <+: H ++ [⟨[.int .i64 p, lv 3 i o xs.length], true, true⟩, ⟨[.int .i64 p, lv 3 j r xs.length], true, true⟩] := List.prefix_append _ _
  have fin := h _ hp
  have b1 : BlocksAt (H ++ [⟨[.int .i64 p, lv 3 i o xs.length], true, true⟩, ⟨[.int .i64 p, lv 3 j r xs.length], true, true⟩]) (lv 3 i o xs.length) xs := BlocksAt.pre hp ⟨i, o, rfl, h1, h2⟩
  have b2 : BlocksAt (H ++ [⟨[.int .i64 p, lv 3 i o xs.length], true, true⟩, ⟨[.int .i64 p, lv 3 j r xs.length], true, true⟩]) (lv 3 j r xs.length) xs := BlocksAt.pre hp ⟨j, r, rfl, h3, h4⟩
  refine blocks5_ok b1 b2 _ ?_
  simp (maxSteps := 1000000) [go_sem]
  exact fin

theorem ol_ints {H : Heap} {id n : Nat} {xs : List Int} (h : OL 1 H id (ints xs) n) (hn : xs.length = n) (hl : n <= 140737488355328) : IntsAt H (lv 1 id 0 n) xs := ⟨id, 0, by rw [hn], h.at, by omega⟩
noncomputable def seenB (xs : List Bk) (b : Bk) (i : Nat) : Bool := decide (b ∈ xs.take i)
theorem seenB_zero (xs : List Bk) (b : Bk) : seenB xs b 0 = false := by simp [seenB]
theorem seenB_yes {xs : List Bk} {b : Bk} {i : Nat} (hi : i < xs.length) (h : xs[i] = b) : seenB xs b (i + 1) = true := by
  rw [seenB, List.take_succ_eq_append_getElem hi, decide_eq_true_eq, List.mem_append]
  exact .inr (by rw [h]; exact List.mem_singleton.2 rfl)
theorem seenB_no {xs : List Bk} {b : Bk} {i : Nat} (hi : i < xs.length) (h : xs[i] ≠ b) : seenB xs b (i + 1) = seenB xs b i := by
  rw [seenB, seenB, List.take_succ_eq_append_getElem hi]
  apply Bool.eq_iff_iff.2
  rw [decide_eq_true_eq, decide_eq_true_eq, List.mem_append, List.mem_singleton]
  exact ⟨fun e => e.resolve_right (fun e => h e.symm), .inl⟩
theorem seenB_old {xs : List Bk} {b : Bk} {i : Nat} (hi : i < xs.length) (h : seenB xs b i = true) : seenB xs b (i + 1) = true := by
  rw [seenB, decide_eq_true_eq] at h ⊢
  rw [List.take_succ_eq_append_getElem hi, List.mem_append]
  exact .inl h
theorem seenB_all {xs : List Bk} {b : Bk} (h : b ∈ xs) : seenB xs b xs.length = true := by simp [seenB, h]
theorem lawFnBlocks (H : Heap) (avs : List Value) (h : argsSay [shBytes] H avs) : ACalls Tryz.prog 4 avs H fun v _ => v = .bool true := by
  obtain ⟨u, _, rfl, a0, rfl⟩ := h
  obtain ⟨xs, hu0⟩ := says_shBytes a0
  refine acalls_vc (rs := [.tmp 2]) Tryz.func4 rfl rfl Tryz.ntmps4 rfl rfl ?_
  simp (maxSteps := 1000000) [go_sem]
  refine big_ok hu0 _ ?_
  by_cases hbig : 4096 < xs.length
  · simp (maxSteps := 1000000) [go_sem, hbig]
  have hu := hu0.short (by omega)
  clear a0 hu0
  simp (maxSteps := 1000000) [go_sem, hbig]
  refine drawPut_ok hu _ ?_
  intro H1 p x bs B hp1 hx hwx hB1 hB2 hB3
  have hlb := hwx.len
  have onex := hx.one
  simp (maxSteps := 1000000) [go_sem, sysV, Bk.val, onex]
  have bxA : Holds (H1 ++ [(⟨[.int .i64 p, x], true, true⟩ : Blk), ⟨[.int .i64 B.a, .int .i64 B.b, .int .i64 B.c], true, true⟩]) H1.length [.int .i64 p, x] := ⟨true, by simp⟩
  have bxB : Holds (H1 ++ [(⟨[.int .i64 p, x], true, true⟩ : Blk), ⟨[.int .i64 B.a, .int .i64 B.b, .int .i64 B.c], true, true⟩]) (H1.length + 1) [.int .i64 B.a, .int .i64 B.b, .int .i64 B.c] := ⟨true, by simp⟩
  have hp2 : H1 <+: H1 ++ [(⟨[.int .i64 p, x], true, true⟩ : Blk), ⟨[.int .i64 B.a, .int .i64 B.b, .int .i64 B.c], true, true⟩] := List.prefix_append _ _
  generalize H1 ++ [(⟨[.int .i64 p, x], true, true⟩ : Blk), ⟨[.int .i64 B.a, .int .i64 B.b, .int .i64 B.c], true, true⟩] = H2 at bxA bxB hp2 ⊢
  obtain ⟨a0, a1, a2⟩ := bxA.sys
  obtain ⟨b0, b1, b2, b3⟩ := bxB.bk
  try simp (maxSteps := 1000000) [go_sem, a0, b0]
  refine implPut_ok (hx.read.pre hp2) (by omega) ⟨hB1, hB2, hB3⟩ _ ?_
  intro H3 y hp3 hy
  have hput := @rPut_done p bs B
  have htak := @put_take p bs B
  have hfre := @put_free p bs B
  have hpat := @put_at p bs B
  have hpl := rPut_len p bs B
  obtain ⟨p3, hp3'⟩ : ∃ q, (rPut p bs B).1.1 = q := ⟨_, rfl⟩
  obtain ⟨b3', hb3⟩ : ∃ b, (rPut p bs B).1.2 = b := ⟨_, rfl⟩
  obtain ⟨e3, he3⟩ : ∃ e, (rPut p bs B).2 = e := ⟨_, rfl⟩
  have hrx : (rPut p bs B).1 = (p3, b3') := by rw [<- hp3', <- hb3]
  rw [he3, hrx] at hput
  rw [he3, hb3] at htak hpat
  rw [he3] at hfre
  rw [hb3] at hy hpl
  rw [hp3', he3]
  have oney := hy.one
  simp (maxSteps := 1000000) [go_sem, sysV, oney]
  have bxC := Holds.last H3 [.int .i64 p3, y]
  have hp4 : H3 <+: H3 ++ [(⟨[.int .i64 p3, y], true, true⟩ : Blk)] := List.prefix_append _ _
  generalize H3 ++ [(⟨[.int .i64 p3, y], true, true⟩ : Blk)] = H4 at bxC hp4 ⊢
  have q24 := hp3.trans hp4
  obtain ⟨a0, a1, a2⟩ := (bxA.pre q24).sys
  obtain ⟨b0, b1, b2, b3⟩ := (bxB.pre q24).bk
  try simp (maxSteps := 1000000) [go_sem, a0, b0]
  refine specPut_ok (hx.read.pre (hp2.trans q24)) (by omega) ⟨hB1, hB2, hB3⟩ _ ?_
  rw [hp3', he3, hb3]
  intro H5 z hp5 hz
  have onez := hz.one
  simp (maxSteps := 1000000) [go_sem, sysV, onez]
  have bxD := Holds.last H5 [.int .i64 p3, z]
  have hp6 : H5 <+: H5 ++ [(⟨[.int .i64 p3, z], true, true⟩ : Blk)] := List.prefix_append _ _
  generalize H5 ++ [(⟨[.int .i64 p3, z], true, true⟩ : Blk)] = H6 at bxD hp6 ⊢
  have q46 := hp5.trans hp6
  obtain ⟨c0, c1, c2⟩ := (bxC.pre q46).sys
  obtain ⟨d0, d1, d2⟩ := bxD.sys
  try simp (maxSteps := 1000000) [go_sem, undef, c0, d0]
  refine systems5_ok (hy.read.pre (hp4.trans q46)) (hz.read.pre hp6) _ ?_
  intro H7 hp7
  have q27 := (q24.trans q46).trans hp7
  have q47 := q46.trans hp7
  clear a0 a1 a2 b0 b1 b2 b3 c0 c1 c2 d0 d1 d2
  simp (maxSteps := 1000000) [go_sem, undef]
  rcases Decidable.em (e3 = 0) with hz3 | hz3
  case' inl =>
    subst hz3
    obtain ⟨hS, hg, hl, hr⟩ := hput rfl
    have hil := hpat rfl
    obtain ⟨hf0, hfB⟩ := hfre rfl
    replace htak := fun i hi => @htak rfl i hi
    have hpp : p3 = p := congrArg Prod.fst hr
    subst hpp
    have hmem : B ∈ b3' := by obtain ⟨i, hi⟩ := hil; exact List.mem_of_getElem? hi
    have yat := hy.read.pre (hp4.trans q47)
    obtain ⟨yi, yo, rfl, y1, y2⟩ := yat
    obtain ⟨c0, c1, c2⟩ := (bxC.pre q47).sys
    simp (maxSteps := 1000000) [go_sem, undef]
    refine AWp.loopVc (St := Nat) (fun i => [(0, u), (3, .pointer (some ⟨H1.length, 0, none⟩)), (4, .pointer (some ⟨H1.length + 1, 0, none⟩)), (5, .pointer (some ⟨H3.length, 0, none⟩)), (9, .bool (seenB b3' B i)), (10, .int .i64 i)])
      (fun i H' => i <= b3'.length /\ H7 <+: H') (fun i => b3'.length - i) 0 ?_ ?_ ?_
    · simp [upF, Fr.get, Up.refl, seenB_zero]
    · exact ⟨Nat.zero_le _, List.prefix_refl _⟩
    rintro K i H8 ⟨hi, hp8⟩ hK
    obtain ⟨c0, c1, c2⟩ := (bxC.pre (q47.trans hp8)).sys
    rcases Nat.lt_or_ge i b3'.length with hlt | hge
    · have k1 := (y1.pre hp8).bk (s := i) (List.getElem?_eq_getElem hlt)
      simp only [Bk.cells] at k1
      obtain ⟨b0, b1, b2, b3⟩ := (bxB.pre (q27.trans hp8)).bk
      have hw_i : IntKind.i64.wrap ((i : Int) + 1) = (i : Int) + 1 := i64w (by omega) (by omega)
      simp (maxSteps := 1000000) [go_sem, undef, c2, hlt]
      refine AWp.draw mixed [(0, false), (1, false), (2, false), (3, false), (4, false), (5, false), (6, false)] (by kernel_rfl) ?_
      by_cases he : b3'[i] = B
      · have he' := (Bk.eq3 _ _).1 he
        simp (maxSteps := 1000000) [go_sem, undef, c2, hlt, k1, b0, he'.1, he'.2.1, he'.2.2]
        try simp (maxSteps := 1000000) [go_sem, undef, c0]
        refine implTakeBlock_ok (BlocksAt.pre hp8 ⟨yi, yo, rfl, y1, y2⟩) hpl (by unfold In64; omega) _ ?_
        rw [htak i (by rw [List.getElem?_eq_getElem hlt, he])]
        intro H9 t hp9 ht
        have onet := ht.one
        simp (maxSteps := 1000000) [go_sem, undef, sysV, onet]
        have bxT := Holds.last H9 [.int .i64 p3, t]
        have hpt : H9 <+: H9 ++ [(⟨[.int .i64 p3, t], true, true⟩ : Blk)] := List.prefix_append _ _
        generalize H9 ++ [(⟨[.int .i64 p3, t], true, true⟩ : Blk)] = HT at bxT hpt ⊢
        have q8t := hp9.trans hpt
        obtain ⟨t0, t1, t2⟩ := bxT.sys
        obtain ⟨a0, a1, a2⟩ := (bxA.pre (q27.trans (hp8.trans q8t))).sys
        try simp (maxSteps := 1000000) [go_sem, undef, t0, a0]
        refine systems5_ok (ht.read.pre hpt) (hx.read.pre (hp2.trans (q27.trans (hp8.trans q8t)))) _ ?_
        intro H10 hp10
        simp (maxSteps := 1000000) [go_sem, undef, hw_i]
        exact hK (i + 1) _ _ (by omega) (by simp [upF, Fr.get, Up.refl, seenB_yes hlt he]) ⟨hlt, hp8.trans (q8t.trans hp10)⟩
      · have he' : ¬ (b3'[i].a = B.a /\ b3'[i].b = B.b /\ b3'[i].c = B.c) := fun hh => he ((Bk.eq3 _ _).2 hh)
        simp (maxSteps := 1000000) [go_sem, undef, c2, hlt, k1, b0]
        refine condK_intro (fun hh => absurd (by simpa using hh) he') (fun _ => ?_)
        try simp (maxSteps := 1000000) [go_sem, undef, hw_i]
        exact hK (i + 1) _ _ (by omega) (by simp [upF, Fr.get, Up.refl, seenB_no hlt he]) ⟨hlt, hp8⟩
    have hie : i = b3'.length := by omega
    subst hie
    rw [seenB_all hmem]
    obtain ⟨a0, a1, a2⟩ := (bxA.pre (q27.trans hp8)).sys
    simp (maxSteps := 1000000) [go_sem, undef, c2, a0]
    refine implFreeBlocks_ok (hx.read.pre (hp2.trans (q27.trans hp8))) (by omega) _ ?_
    rw [hf0]
    obtain ⟨fr, hfr⟩ : ∃ l, (rFree p3 bs).1 = l := ⟨_, rfl⟩
    rw [hfr] at hfB ⊢
    intro H9 f hp9 hf
    have frl : fr.length <= 140737488355328 := hf.read.choose_spec.choose_spec.2.2
    obtain ⟨fi, fo, rfl, f1, f2⟩ := hf.read
    simp (maxSteps := 1000000) [go_sem, undef]
    clear hK c0 c1 c2 a0 a1 a2
    refine AWp.loopVc (St := Nat) (fun i => [(0, u), (4, .pointer (some ⟨H1.length + 1, 0, none⟩)), (9, .bool true), (13, lv 3 fi fo fr.length), (14, .int .i64 0), (15, .bool (seenB fr B i)), (16, .int .i64 i)])
      (fun i H' => i <= fr.length /\ H9 <+: H') (fun i => fr.length - i) 0 ?_ ?_ ?_
    · simp [upF, Fr.get, Up.refl, seenB_zero]
    · exact ⟨Nat.zero_le _, List.prefix_refl _⟩
    rintro K i H10 ⟨hi, hp10⟩ hK
    rcases Nat.lt_or_ge i fr.length with hlt | hge
    · have k1 := (f1.pre hp10).bk (s := i) (List.getElem?_eq_getElem hlt)
      simp only [Bk.cells] at k1
      obtain ⟨b0, b1, b2, b3⟩ := (bxB.pre (q27.trans (hp8.trans (hp9.trans hp10)))).bk
      have hw_i : IntKind.i64.wrap ((i : Int) + 1) = (i : Int) + 1 := i64w (by omega) (by omega)
      simp (maxSteps := 1000000) [go_sem, undef, hlt]
      cases hsn : seenB fr B i with
      | true =>
        refine AWp.draw mixed [(0, false), (1, false), (2, false), (3, false), (4, false), (5, false), (6, false), (7, false), (8, false), (9, false)] (by kernel_rfl) ?_
        simp (maxSteps := 1000000) [go_sem, undef, hlt, hw_i]
        exact hK (i + 1) _ _ (by omega) (by simp [upF, Fr.get, Up.refl, seenB_old hlt hsn]) ⟨hlt, hp10⟩
      | false =>
        refine AWp.draw mixed [(0, false), (1, false), (2, false), (3, false), (4, false), (5, false), (6, false), (7, false), (8, false), (9, false)] (by kernel_rfl) ?_
        simp (maxSteps := 1000000) [go_sem, undef, hlt, k1, b0, hw_i]
        refine hK (i + 1) _ _ (by omega) ?_ ⟨hlt, hp10⟩
        have e : (decide (fr[i].a = B.a) && (decide (fr[i].b = B.b) && decide (fr[i].c = B.c))) = seenB fr B (i + 1) := by
          by_cases he : fr[i] = B
          · rw [seenB_yes hlt he]
            simp [he]
          · have he' : ¬ (fr[i].a = B.a /\ fr[i].b = B.b /\ fr[i].c = B.c) := fun hh => he ((Bk.eq3 _ _).2 hh)
            rw [seenB_no hlt he, hsn]
            simpa using he'
        simp [upF, Fr.get, Up.refl, e]
    have hie : i = fr.length := by omega
    subst hie
    rw [seenB_all hfB]
    simp (maxSteps := 1000000) [go_sem, undef]
    have qN : H1 <+: H10 := hp2.trans (q27.trans (hp8.trans (hp9.trans hp10)))
    replace hu := hu.pre (hp1.trans qN)
    clear hK q24 q46 q47 q27 hp1 hp2 hp3 hp4 hp5 hp6 hp7 hp8 hp9 hp10 bxA bxB bxC bxD hx hy hz hf f1 f2 y1 y2 hput htak hfre hpat hpl
    generalize H10 = HA at *
  case' inr =>
    have hz3' : (e3 == 0) = false := by simpa using hz3
    simp (maxSteps := 1000000) [go_sem, undef, hz3']
    have qN := hp2.trans q27
    replace hu := hu.pre (hp1.trans qN)
    clear q24 q46 q47 q27 hp1 hp2 hp3 hp4 hp5 hp6 hp7 bxA bxB bxC bxD hx hy hz hput htak hfre hpat hpl
    generalize H7 = HA at *
  all_goals
    clear qN
    refine drawRenumber_ok hu _ ?_
    intro G1 m xv wv cs ys gp1 gx gwx gw gwl gw64
    have glb := gwx.len
    have onex := gx.one
    obtain ⟨wi, wo, rfl, w1, w2⟩ := gw.read
    simp (maxSteps := 1000000) [go_sem, undef, sysV, onex]
    have bxA := Holds.last G1 [.int .i64 m, xv]
    have gp2 : G1 <+: G1 ++ [(⟨[.int .i64 m, xv], true, true⟩ : Blk)] := List.prefix_append _ _
    generalize G1 ++ [(⟨[.int .i64 m, xv], true, true⟩ : Blk)] = G2 at bxA gp2 ⊢
    obtain ⟨a0, a1, a2⟩ := bxA.sys
    try simp (maxSteps := 1000000) [go_sem, undef, a0]
    refine implRenumber_ok (gx.read.pre gp2) (by omega) (IntsAt.pre gp2 ⟨wi, wo, rfl, w1, w2⟩) (by omega) gw64 _ ?_
    intro G3 yv gp3 gy
    have hren := @rRen_done m cs ys
    obtain ⟨m3, hm3⟩ : ∃ q, (rRen m cs ys).1.1 = q := ⟨_, rfl⟩
    obtain ⟨es, hes⟩ : ∃ b, (rRen m cs ys).1.2 = b := ⟨_, rfl⟩
    obtain ⟨e4, he4⟩ : ∃ e, (rRen m cs ys).2 = e := ⟨_, rfl⟩
    have hrx : (rRen m cs ys).1 = (m3, es) := by rw [<- hm3, <- hes]
    rw [he4, hrx] at hren
    rw [hes] at gy
    rw [hm3, he4]
    have oney := gy.one
    simp (maxSteps := 1000000) [go_sem, undef, sysV, oney]
    have bxB := Holds.last G3 [.int .i64 m3, yv]
    have gp4 : G3 <+: G3 ++ [(⟨[.int .i64 m3, yv], true, true⟩ : Blk)] := List.prefix_append _ _
    generalize G3 ++ [(⟨[.int .i64 m3, yv], true, true⟩ : Blk)] = G4 at bxB gp4 ⊢
    have g24 := gp3.trans gp4
    obtain ⟨a0, a1, a2⟩ := (bxA.pre g24).sys
    try simp (maxSteps := 1000000) [go_sem, undef, a0]
    refine specRenumber_ok (gx.read.pre (gp2.trans g24)) (by omega) (IntsAt.pre (gp2.trans g24) ⟨wi, wo, rfl, w1, w2⟩) (by omega) gw64 _ ?_
    rw [hm3, he4, hes]
    intro G5 zv gp5 gz
    have onez := gz.one
    simp (maxSteps := 1000000) [go_sem, undef, sysV, onez]
    have bxD := Holds.last G5 [.int .i64 m3, zv]
    have gp6 : G5 <+: G5 ++ [(⟨[.int .i64 m3, zv], true, true⟩ : Blk)] := List.prefix_append _ _
    generalize G5 ++ [(⟨[.int .i64 m3, zv], true, true⟩ : Blk)] = G6 at bxD gp6 ⊢
    have g46 := gp5.trans gp6
    obtain ⟨c0, c1, c2⟩ := (bxB.pre g46).sys
    obtain ⟨d0, d1, d2⟩ := bxD.sys
    try simp (maxSteps := 1000000) [go_sem, undef, c0, d0]
    refine systems5_ok (gy.read.pre (gp4.trans g46)) (gz.read.pre gp6) _ ?_
    intro G7 gp7
    have g27 := (g24.trans g46).trans gp7
    have g47 := g46.trans gp7
    clear a0 a1 a2 c0 c1 c2 d0 d1 d2
    simp (maxSteps := 1000000) [go_sem, undef]
    rcases Decidable.em (e4 = 0) with hz4 | hz4
    case' inl =>
      subst hz4
      obtain ⟨hS, hO, hr⟩ := hren rfl
      have hmm : m3 = m := congrArg Prod.fst hr
      have hee : es = sortB (cs.map (renB ys)) := congrArg Prod.snd hr
      subst hmm
      subst hee
      have hmv := hS.1
      obtain ⟨v, rfl⟩ : ∃ v : Nat, m3 = v := ⟨m3.toNat, by omega⟩
      have hS2 := ren_sys hS hO
      have hrd : ∀ {bs : List Bk}, IsSys (v : Int) bs -> rDegrees v bs = (degrees v bs, 0) := fun hS => by rw [rDegrees, sysB_iff.2 hS]; simp
      obtain ⟨a0, a1, a2⟩ := (bxA.pre g27).sys
      simp (maxSteps := 1000000) [go_sem, undef, a0]
      refine implDegreesOf (gx.read.pre (gp2.trans g27)) (by omega) _ ?_
      rw [hrd hS]
      intro G8 dx gp8 gdx
      obtain ⟨xi, xo, rfl, x1, x2⟩ := gdx.read
      obtain ⟨b0, b1, b2⟩ := (bxB.pre (g47.trans gp8)).sys
      simp (maxSteps := 1000000) [go_sem, undef, b0]
      refine implDegreesOf (gy.read.pre (gp4.trans (g47.trans gp8))) (by rw [sortB_len, List.length_map]; omega) _ ?_
      rw [hrd hS2]
      intro G9 dy gp9 gdy
      obtain ⟨yi, yo, rfl, y1, y2⟩ := gdy.read
      have ldx : ∀ bs, (degrees v bs).length = v := fun bs => by simp [degrees]
      rw [ldx, ldx]
      have g29 := g27.trans (gp8.trans gp9)
      simp (maxSteps := 1000000) [go_sem, undef]
      have hbl0 := Bl.nil 1 G9
      generalize G9 ++ [(⟨[], true, true⟩ : Blk)] = G10 at hbl0 ⊢
      refine AWp.loopVc (St := Nat × Nat) (fun q => [(0, u), (17, .pointer (some ⟨G1.length, 0, none⟩)), (18, lv 1 wi wo ys.length), (23, lv 1 xi xo v), (24, .int .i64 0), (25, lv 1 yi yo v), (26, .int .i64 0), (27, lv 1 q.2 0 q.1), (28, .int .i64 q.1)])
        (fun q H' => q.1 <= v /\ Bl 1 G9 H' q.2 (ints (upI q.1)) q.1) (fun q => v - q.1) (0, G9.length) ?_ ?_ ?_
      · simp [upF, Fr.get, Up.refl, Up.ex0]
      · exact ⟨by simp, by simpa [upI, ints] using hbl0⟩
      rintro K ⟨k, id⟩ G11 ⟨hk, hbl⟩ hK
      simp only at hk hbl
      obtain ⟨a0, a1, a2⟩ := (bxA.pre (g29.trans hbl.1)).sys
      rcases Nat.lt_or_ge k v with hlt | hge
      · obtain ⟨hsrc, G12, hap, hbl23⟩ := hbl.push (xs := [.int .i64 (k : Int)]) (by omega) rfl
        have hw_k : IntKind.i64.wrap ((k : Int) + 1) = (k : Int) + 1 := i64w (by omega) (by omega)
        simp (maxSteps := 1000000) [go_sem, undef, a1, hlt, hsrc, hap, hw_k]
        refine andK_intro (by omega) (hK (k + 1, G11.length + 1) _ _ (by simp only; omega) (by simp [upF, Fr.get, Up.refl]) ⟨by simp only; omega, ?_⟩)
        have e : ints (upI (k + 1)) = ints (upI k) ++ [.int .i64 (k : Int)] := by simp [upI, ints, List.range_succ]
        rw [e]
        exact hbl23
      have hkv2 : k = v := by omega
      subst hkv2
      simp (maxSteps := 1000000) [go_sem, undef, a1, a0]
      have hIn := ol_ints hbl.2.1 (upI_length k) (by omega)
      refine implBlocksOn_ok (gx.read.pre (gp2.trans (g29.trans hbl.1))) (by omega) hIn (by rw [upI_length]; omega) (fun x hx => by have := mem_upI.1 hx; unfold In64; omega) _ ?_
      rw [on_whole hS]
      intro G12 ov gp12 gov
      have oneo := gov.one
      simp (maxSteps := 1000000) [go_sem, undef, sysV, oneo]
      have bxO := Holds.last G12 [.int .i64 (k : Int), ov]
      have gp13 : G12 <+: G12 ++ [(⟨[.int .i64 (k : Int), ov], true, true⟩ : Blk)] := List.prefix_append _ _
      generalize G12 ++ [(⟨[.int .i64 (k : Int), ov], true, true⟩ : Blk)] = G13 at bxO gp13 ⊢
      have g213 := (g29.trans hbl.1).trans (gp12.trans gp13)
      obtain ⟨a0, a1, a2⟩ := (bxA.pre g213).sys
      try simp (maxSteps := 1000000) [go_sem, undef, a0]
      have gx13 := gx.read.pre (gp2.trans g213)
      refine implCommonBlocks_ok gx13 (by omega) gx13 (by omega) _ ?_
      rw [common_self_list hS]
      intro G14 cv gp14 gcv
      obtain ⟨o0, o1, o2⟩ := (bxO.pre gp14).sys
      obtain ⟨a0, a1, a2⟩ := (bxA.pre (g213.trans gp14)).sys
      simp (maxSteps := 1000000) [go_sem, undef, o0, a0]
      refine systems5_ok (gov.read.pre (gp13.trans gp14)) (gx13.pre gp14) _ ?_
      intro G15 gp15
      obtain ⟨a0, a1, a2⟩ := (bxA.pre ((g213.trans gp14).trans gp15)).sys
      simp (maxSteps := 1000000) [go_sem, undef, a2]
      refine blocks5_ok (gcv.read.pre gp15) ((gx13.pre gp14).pre gp15) _ ?_
      simp (maxSteps := 1000000) [go_sem, undef]
      have g1515 := (g213.trans gp14).trans gp15
      have g915 : G9 <+: G15 := hbl.1.trans ((gp12.trans gp13).trans (gp14.trans gp15))
      clear hK a0 a1 a2
      refine AWp.loopVc (St := Nat) (fun q => [(0, u), (18, lv 1 wi wo ys.length), (23, lv 1 xi xo k), (25, lv 1 yi yo k), (33, .int .i64 q)])
        (fun q H' => q <= k /\ H' = G15) (fun q => k - q) 0 ?_ ?_ ?_
      · simp [upF, Fr.get, Up.refl]
      · exact ⟨by simp, rfl⟩
      rintro K j G16 ⟨hj, rfl⟩ hK
      rcases Nat.lt_or_ge j k with hlt | hge
      · obtain ⟨y, e1, e2, e3⟩ := ren_degrees hS hO hlt
        have k1 := (w1.pre (gp2.trans g1515)).cell (k := j) (v := .int .i64 y) (by rw [ints_get, e1]; rfl)
        have hdj := degrees_get (bs := cs) hlt
        rw [hdj] at e3
        have k2 := (y1.pre g915).cell (k := y) (v := .int .i64 ((cs.countP (·.has (j : Int)) : Nat) : Int)) (by rw [ints_get, e3]; rfl)
        have k3 := (x1.pre (gp9.trans g915)).cell (k := j) (v := .int .i64 ((cs.countP (·.has (j : Int)) : Nat) : Int)) (by rw [ints_get, hdj]; rfl)
        have hjl : j < ys.length := by have := hO.1; omega
        have e2' : (y : Int) < k := by omega
        have hw_j : IntKind.i64.wrap ((j : Int) + 1) = (j : Int) + 1 := i64w (by omega) (by omega)
        simp (maxSteps := 1000000) [go_sem, undef, hlt]
        refine AWp.draw mixed [(0, false), (1, false), (2, false), (3, false), (4, false), (5, false), (6, false), (7, false), (8, false), (9, false), (10, false), (11, false)] (by kernel_rfl) ?_
        simp (maxSteps := 1000000) [go_sem, undef, hlt, hjl, e2, e2', k1, k2, k3, hw_j]
        try refine andK_intro (by omega) ?_
        try simp (maxSteps := 1000000) [go_sem, undef, hlt, hjl, e2, e2', k1, k2, k3, hw_j]
        exact hK (j + 1) _ _ (by omega) (by simp [upF, Fr.get, Up.refl]) ⟨hlt, rfl⟩
      have hjk : j = k := by omega
      subst hjk
      simp (maxSteps := 1000000) [go_sem, undef]
      have gN := (gp1.trans gp2).trans g1515
      replace hu := hu.pre gN
      clear hK g24 g46 g47 g27 gp1 gp2 gp3 gp4 gp5 gp6 gp7 gp8 gp9 gp12 gp13 gp14 gp15 bxA bxB bxD bxO gx gy gz w1 x1 y1 hren gov gcv gx13 hIn hbl hbl0 gN gw gdx gdy
      generalize G16 = GA at *
    case' inr =>
      have hz4' : (e4 == 0) = false := by simpa using hz4
      simp (maxSteps := 1000000) [go_sem, undef, hz4']
      have gN := gp1.trans (gp2.trans g27)
      replace hu := hu.pre gN
      clear g24 g46 g47 g27 gp1 gp2 gp3 gp4 gp5 gp6 gp7 bxA bxB bxD gx gy gz w1 hren gN gw
      generalize G7 = GA at *
  all_goals
    refine drawTake_ok hu _ ?_
    intro C1 p1 xa bs1 ti cp1 cxa cw1 ci64
    have cl1 := cw1.len
    have one1 := cxa.one
    simp (maxSteps := 1000000) [go_sem, undef, sysV, one1]
    have bx1 := Holds.last C1 [.int .i64 p1, xa]
    have cp2 : C1 <+: C1 ++ [(⟨[.int .i64 p1, xa], true, true⟩ : Blk)] := List.prefix_append _ _
    generalize C1 ++ [(⟨[.int .i64 p1, xa], true, true⟩ : Blk)] = C2 at bx1 cp2 ⊢
    have r0 := bx1.sys.1
    try simp (maxSteps := 1000000) [go_sem, undef, r0]
    refine implTakeBlock_ok (cxa.read.pre cp2) (by omega) ci64 _ ?_
    intro C3 va cp3 cva
    obtain ⟨p2, hp2'⟩ : ∃ q, (rTake p1 bs1 ti).1.1 = q := ⟨_, rfl⟩
    obtain ⟨bs2, hb2'⟩ : ∃ b, (rTake p1 bs1 ti).1.2 = b := ⟨_, rfl⟩
    obtain ⟨f2, hf2'⟩ : ∃ e, (rTake p1 bs1 ti).2 = e := ⟨_, rfl⟩
    rw [hp2', hf2']
    rw [hb2'] at cva
    have one2 := cva.one
    simp (maxSteps := 1000000) [go_sem, undef, sysV, one2]
    have bx2 := Holds.last C3 [.int .i64 p2, va]
    have cp4 : C3 <+: C3 ++ [(⟨[.int .i64 p2, va], true, true⟩ : Blk)] := List.prefix_append _ _
    generalize C3 ++ [(⟨[.int .i64 p2, va], true, true⟩ : Blk)] = C4 at bx2 cp4 ⊢
    have r0 := (bx1.pre (cp3.trans cp4)).sys.1
    try simp (maxSteps := 1000000) [go_sem, undef, r0]
    refine specTakeBlock_ok (cxa.read.pre (cp2.trans (cp3.trans cp4))) (by omega) ci64 _ ?_
    rw [hp2', hf2', hb2']
    intro C5 vb cp5 cvb
    have one3 := cvb.one
    simp (maxSteps := 1000000) [go_sem, undef, sysV, one3]
    have bx3 := Holds.last C5 [.int .i64 p2, vb]
    have cp6 : C5 <+: C5 ++ [(⟨[.int .i64 p2, vb], true, true⟩ : Blk)] := List.prefix_append _ _
    generalize C5 ++ [(⟨[.int .i64 p2, vb], true, true⟩ : Blk)] = C6 at bx3 cp6 ⊢
    refine drawOn_ok (hu.pre (cp1.trans (cp2.trans ((cp3.trans cp4).trans (cp5.trans cp6))))) _ ?_
    intro C7 p3' xb sb bs3 ss cp7 cxb cw3 csb csl cs64
    have cl3 := cw3.len
    have one4 := cxb.one
    simp (maxSteps := 1000000) [go_sem, undef, sysV, one4]
    have bx4 := Holds.last C7 [.int .i64 p3', xb]
    have cp8 : C7 <+: C7 ++ [(⟨[.int .i64 p3', xb], true, true⟩ : Blk)] := List.prefix_append _ _
    generalize C7 ++ [(⟨[.int .i64 p3', xb], true, true⟩ : Blk)] = C8 at bx4 cp8 ⊢
    have r0 := bx4.sys.1
    try simp (maxSteps := 1000000) [go_sem, undef, r0]
    refine implBlocksOn_ok (cxb.read.pre cp8) (by omega) (csb.read.pre cp8) (by omega) cs64 _ ?_
    intro C9 vc cp9 cvc
    obtain ⟨p4, hp4'⟩ : ∃ q, (rOn p3' bs3 ss).1.1 = q := ⟨_, rfl⟩
    obtain ⟨bs4, hb4'⟩ : ∃ b, (rOn p3' bs3 ss).1.2 = b := ⟨_, rfl⟩
    obtain ⟨f4, hf4'⟩ : ∃ e, (rOn p3' bs3 ss).2 = e := ⟨_, rfl⟩
    rw [hp4', hf4']
    rw [hb4'] at cvc
    have one5 := cvc.one
    simp (maxSteps := 1000000) [go_sem, undef, sysV, one5]
    have bx5 := Holds.last C9 [.int .i64 p4, vc]
    have cp10 : C9 <+: C9 ++ [(⟨[.int .i64 p4, vc], true, true⟩ : Blk)] := List.prefix_append _ _
    generalize C9 ++ [(⟨[.int .i64 p4, vc], true, true⟩ : Blk)] = C10 at bx5 cp10 ⊢
    have r0 := (bx4.pre (cp9.trans cp10)).sys.1
    try simp (maxSteps := 1000000) [go_sem, undef, r0]
    refine specBlocksOn_ok (cxb.read.pre (cp8.trans (cp9.trans cp10))) (by omega) (csb.read.pre (cp8.trans (cp9.trans cp10))) (by omega) cs64 _ ?_
    rw [hp4', hf4', hb4']
    intro C11 vd cp11 cvd
    have one6 := cvd.one
    simp (maxSteps := 1000000) [go_sem, undef, sysV, one6]
    have bx6 := Holds.last C11 [.int .i64 p4, vd]
    have cp12 : C11 <+: C11 ++ [(⟨[.int .i64 p4, vd], true, true⟩ : Blk)] := List.prefix_append _ _
    generalize C11 ++ [(⟨[.int .i64 p4, vd], true, true⟩ : Blk)] = C12 at bx6 cp12 ⊢
    have cq6 : C6 <+: C12 := (cp7.trans cp8).trans ((cp9.trans cp10).trans (cp11.trans cp12))
    refine drawCommon_ok (hu.pre ((cp1.trans (cp2.trans ((cp3.trans cp4).trans (cp5.trans cp6)))).trans cq6)) _ ?_
    intro C13 p5 p6 xc xd bs5 bs6 cp13 cxc cw5 cxd cw6
    have cl5 := cw5.len
    have cl6 := cw6.len
    have one7 := cxc.one
    have one8 := cxd.one
    simp (maxSteps := 1000000) [go_sem, undef, sysV, one7, one8]
    have bx7 : Holds (C13 ++ [(⟨[.int .i64 p5, xc], true, true⟩ : Blk), ⟨[.int .i64 p6, xd], true, true⟩]) C13.length [.int .i64 p5, xc] := ⟨true, by simp⟩
    have bx8 : Holds (C13 ++ [(⟨[.int .i64 p5, xc], true, true⟩ : Blk), ⟨[.int .i64 p6, xd], true, true⟩]) (C13.length + 1) [.int .i64 p6, xd] := ⟨true, by simp⟩
    have cp14 : C13 <+: C13 ++ [(⟨[.int .i64 p5, xc], true, true⟩ : Blk), ⟨[.int .i64 p6, xd], true, true⟩] := List.prefix_append _ _
    generalize C13 ++ [(⟨[.int .i64 p5, xc], true, true⟩ : Blk), ⟨[.int .i64 p6, xd], true, true⟩] = C14 at bx7 bx8 cp14 ⊢
    have r0 := bx7.sys.1
    have r1 := bx8.sys.1
    try simp (maxSteps := 1000000) [go_sem, undef, r0, r1]
    refine implCommonBlocks_ok (cxc.read.pre cp14) (by omega) (cxd.read.pre cp14) (by omega) _ ?_
    intro C15 ve cp15 cve
    obtain ⟨bs7, hb7'⟩ : ∃ b, (rCommon p5 bs5 p6 bs6).1 = b := ⟨_, rfl⟩
    obtain ⟨f7, hf7'⟩ : ∃ e, (rCommon p5 bs5 p6 bs6).2 = e := ⟨_, rfl⟩
    rw [hf7']
    rw [hb7'] at cve
    have r0 := (bx7.pre cp15).sys.1
    have r1 := (bx8.pre cp15).sys.1
    simp (maxSteps := 1000000) [go_sem, undef, r0, r1]
    refine specCommonBlocks_ok (cxc.read.pre (cp14.trans cp15)) (by omega) (cxd.read.pre (cp14.trans cp15)) (by omega) _ ?_
    rw [hf7', hb7']
    intro C16 vf cp16 cvf
    simp (maxSteps := 1000000) [go_sem, undef]
    have cq12 : C12 <+: C16 := cp13.trans (cp14.trans (cp15.trans cp16))
    refine drawFree_ok (hu.pre ((cp1.trans (cp2.trans ((cp3.trans cp4).trans (cp5.trans cp6)))).trans (cq6.trans cq12))) _ ?_
    intro C17 p8 xe bs8 cp17 cxe cw8
    have cl8 := cw8.len
    have one9 := cxe.one
    simp (maxSteps := 1000000) [go_sem, undef, sysV, one9]
    have bx9 := Holds.last C17 [.int .i64 p8, xe]
    have cp18 : C17 <+: C17 ++ [(⟨[.int .i64 p8, xe], true, true⟩ : Blk)] := List.prefix_append _ _
    generalize C17 ++ [(⟨[.int .i64 p8, xe], true, true⟩ : Blk)] = C18 at bx9 cp18 ⊢
    have r0 := bx9.sys.1
    try simp (maxSteps := 1000000) [go_sem, undef, r0]
    refine implFreeBlocks_ok (cxe.read.pre cp18) (by omega) _ ?_
    intro C19 vg cp19 cvg
    obtain ⟨bs9, hb9'⟩ : ∃ b, (rFree p8 bs8).1 = b := ⟨_, rfl⟩
    obtain ⟨f9, hf9'⟩ : ∃ e, (rFree p8 bs8).2 = e := ⟨_, rfl⟩
    rw [hf9']
    rw [hb9'] at cvg
    have r0 := (bx9.pre cp19).sys.1
    simp (maxSteps := 1000000) [go_sem, undef, r0]
    refine specFreeBlocks_ok (cxe.read.pre (cp18.trans cp19)) (by omega) _ ?_
    rw [hf9', hb9']
    intro C20 vh cp20 cvh
    have cq16 : C16 <+: C20 := cp17.trans (cp18.trans (cp19.trans cp20))
    have cq1220 := cq12.trans cq16
    have cq620 := cq6.trans cq1220
    have r2 := (bx2.pre ((cp5.trans cp6).trans cq620)).sys.1
    have r3 := (bx3.pre cq620).sys.1
    simp (maxSteps := 1000000) [go_sem, undef, r2, r3]
    refine systems5_ok (cva.read.pre (cp4.trans ((cp5.trans cp6).trans cq620))) (cvb.read.pre (cp6.trans cq620)) _ ?_
    intro C21 cp21
    have r2 := (bx5.pre (((cp11.trans cp12).trans cq1220).trans cp21)).sys.1
    have r3 := (bx6.pre (cq1220.trans cp21)).sys.1
    simp (maxSteps := 1000000) [go_sem, undef, r2, r3]
    refine systems5_ok (cvc.read.pre (cp10.trans (((cp11.trans cp12).trans cq1220).trans cp21))) (cvd.read.pre (cp12.trans (cq1220.trans cp21))) _ ?_
    intro C22 cp22
    have c2122 := cp21.trans cp22
    simp (maxSteps := 1000000) [go_sem, undef]
    refine blocks5_ok (cve.read.pre (cp16.trans (cq16.trans c2122))) (cvf.read.pre (cq16.trans c2122)) _ ?_
    simp (maxSteps := 1000000) [go_sem, undef]
    refine blocks5_ok (cvg.read.pre (cp20.trans c2122)) (cvh.read.pre c2122) _ ?_
    simp (maxSteps := 1000000) [go_sem, undef]

end Go.Proofs.YtfnegaedkomcgaaGreat
end
