/- Part 8 of what the proof of the law FnExactPartsOfTrade rests on: contracts of functions of the program, for every argument that each names; no statement of the seat is proved here. -/
import Derived.Test.YtdfeoccjllljiaaFnExactPartsOfTradePart7

section
/- Lists of trades: equal, marked, held. -/
set_option linter.all false
set_option maxRecDepth 20000
set_option maxHeartbeats 8000000
namespace Go.Proofs.Ytdfeoccjllljiaa
open Go.Ab

def numT (ts : List (List Bk × List Bk)) : Nat := (ts.map fun t => 1 + (t.1.length + t.2.length) * 3).sum
theorem numT_snoc (ts : List (List Bk × List Bk)) (t : List Bk × List Bk) : numT (ts ++ [t]) = numT ts + (1 + (t.1.length + t.2.length) * 3) := by simp [numT]
theorem numT_take_le (ts : List (List Bk × List Bk)) (h : ∀ t ∈ ts, t.1.length ≤ 100 ∧ t.2.length ≤ 100) : ∀ s, s ≤ ts.length → numT (ts.take s) ≤ s * 601 := by
  intro s
  induction s with
  | zero => intro _; simp [numT]
  | succ s ih =>
    intro hs
    rw [List.take_succ_eq_append_getElem (by omega), numT_snoc]
    have := ih (by omega)
    have := h _ (List.getElem_mem (show s < ts.length by omega))
    omega
def MarkTs (a b : Nat) (H : Heap) (v : Value) (k : Int) (ts : List (List Bk × List Bk)) : Prop :=
  ∃ (oid : Nat) (rows : List Rw), v = lv 3 oid 0 rows.length ∧ At H oid 0 (cellsT rows) ∧ (∀ (s : Nat) (r : Rw), rows[s]? = some r → r.p = k + numT (ts.take s) ∧ MarkTr r.lo r.hi H r.u r.w (r.p + 1) r.o.length r.i.length ∧ a ≤ r.lo ∧ r.hi ≤ b ∧ r.o.length ≤ 100 ∧ r.i.length ≤ 100) ∧
    rows.map Rw.t = ts ∧ (rows ≠ [] → Span a b oid) ∧ rows.length ≤ 100
theorem atS {H H' : Heap} {S : Nat → Prop} (hs : Same S H H') {i o : Nat} {cs : List Value} (h : At H i o cs) (hi : cs ≠ [] → ¬ S i) : At H' i o cs := by
  rcases h with h0 | h
  · exact .inl h0
  · by_cases hc : cs = []
    · exact .inl hc
    · right
      obtain ⟨blk, hb, hbl, hbn, he⟩ := cellsAt_inv h
      rw [cellsAt_of (hs.get hb (hi hc)) hbl hbn, ← he]
theorem MarkTs.keep {a b : Nat} {H H' : Heap} {v : Value} {k : Int} {ts : List (List Bk × List Bk)} (h : MarkTs a b H v k ts) {S : Nat → Prop} (hs : Same S H H') (hd : ∀ j, Span a b j → ¬ S j) : MarkTs a b H' v k ts := by
  obtain ⟨oid, rows, h1, h2, h3, h4, h5, h6⟩ := h
  refine ⟨oid, rows, h1, atS hs h2 (fun hn => hd _ (h5 (by rintro rfl; exact hn rfl))), fun s r hr => ?_, h4, h5, h6⟩
  obtain ⟨x1, x2, x3, x4, x5⟩ := h3 s r hr
  exact ⟨x1, x2.keep hs (by rintro j ⟨e1, e2⟩; exact hd j ⟨by omega, by omega⟩), x3, x4, x5⟩
theorem MarkTs.pre {a b : Nat} {H H' : Heap} (hp : H <+: H') {v : Value} {k : Int} {ts : List (List Bk × List Bk)} (h : MarkTs a b H v k ts) : MarkTs a b H' v k ts := h.keep (S := fun _ => False) (Same.of_prefix hp) (fun _ _ h => h)
theorem MarkTs.one {a b : Nat} {H : Heap} {v : Value} {k : Int} {ts : List (List Bk × List Bk)} (h : MarkTs a b H v k ts) : v.oneCell' = true := by obtain ⟨id, rows, rfl, _⟩ := h; rfl

theorem row3 {H : Heap} {oid : Nat} {rows : List Rw} (h : At H oid 0 (cellsT rows)) {s : Nat} {r : Rw} (hr : rows[s]? = some r) :
    cellsAt H oid (s * 3) 3 = some r.cells ∧ cellsAt H oid (s * 3) 1 = some [.int .i64 r.p] ∧ cellsAt H oid (s * 3 + 1) 1 = some [r.u] ∧ cellsAt H oid (s * 3 + 2) 1 = some [r.w] := by
  have hlt := (List.getElem?_eq_some_iff.1 hr).1
  have c0 := h.cell (k := s * 3) (v := .int .i64 r.p) (by have := cellsT_get hr (j := 0) (by omega); simpa [Rw.cells] using this)
  have c1 := h.cell (k := s * 3 + 1) (v := r.u) (by have := cellsT_get hr (j := 1) (by omega); simpa [Rw.cells] using this)
  have c2 := h.cell (k := s * 3 + 2) (v := r.w) (by have := cellsT_get hr (j := 2) (by omega); simpa [Rw.cells] using this)
  refine ⟨?_, by simpa using c0, by simpa using c1, by simpa using c2⟩
  have := h.sub (k := s * 3) (n := 3) (by omega) (by rw [cellsT_len]; omega)
  rw [Nat.zero_add] at this
  rw [this, cellsT_drop hr]
  simp [Rw.cells]

theorem eqTs_ok {H : Heap} {v v' : Value} {p : Int} {xs ys : List (List Bk × List Bk)} (h1 : TrAt H v p xs) (h2 : TrAt H v' p ys) (Post : Value → Heap → Prop)
    (h : ∀ H', H <+: H' → Post (.bool (decide (xs = ys))) H') : ACalls Try.prog 31 [v, v'] H Post := by
  obtain ⟨oid, rows, rfl, a1, a2, rfl, a4⟩ := h1
  obtain ⟨oid', rows', rfl, b1, b2, rfl, b4⟩ := h2
  have t1 : (rows.map Rw.t).length = rows.length := List.length_map _
  have t2 : (rows'.map Rw.t).length = rows'.length := List.length_map _
  refine acalls_vc (rs := [.tmp 4]) Try.func31 rfl rfl Try.ntmps31 rfl rfl ?_
  by_cases hn : rows.length = rows'.length
  · rw [← hn]
    simp (maxSteps := 1000000) [go_sem]
    refine AWp.loopVc (fun s : Nat => [(0, lv 3 oid 0 rows.length), (1, lv 3 oid' 0 rows.length), (5, .int .i64 s)])
      (fun s H' => s ≤ rows.length ∧ H <+: H' ∧ (rows.map Rw.t).take s = (rows'.map Rw.t).take s) (fun s => rows.length - s) 0 ?_ ?_ ?_
    · simp [upF, Fr.get, Up.refl]
    · exact ⟨by omega, List.prefix_refl _, by simp⟩
    · rintro K s H' ⟨hs, hp, hf⟩ hK
      by_cases hlt : s < rows.length
      · have hr : rows[s]? = some rows[s] := List.getElem?_eq_getElem hlt
        have hr' : rows'[s]? = some (rows'[s]'(by omega)) := List.getElem?_eq_getElem (by omega)
        have m1 : (rows.map Rw.t).take (s + 1) = (rows.map Rw.t).take s ++ [rows[s].t] := by rw [List.take_succ_eq_append_getElem (by omega)]; simp
        have m2 : (rows'.map Rw.t).take (s + 1) = (rows'.map Rw.t).take s ++ [(rows'[s]'(by omega)).t] := by rw [List.take_succ_eq_append_getElem (by omega)]; simp
        have n1 : (rows.map Rw.t)[s]? = some rows[s].t := by rw [List.getElem?_map, hr]; rfl
        have n2 : (rows'.map Rw.t)[s]? = some (rows'[s]'(by omega)).t := by rw [List.getElem?_map, hr']; rfl
        have q1 := a2 _ (List.getElem_mem hlt)
        have q2 := b2 _ (List.getElem_mem (show s < rows'.length by omega))
        generalize rows[s] = r at *
        generalize rows'[s]'(by omega) = r' at *
        obtain ⟨c3, _, _, _⟩ := row3 (a1.pre hp) hr
        obtain ⟨c3', _, _, _⟩ := row3 (b1.pre hp) hr'
        simp only [Rw.cells, q1.2, q2.2] at c3 c3'
        have hw_s : IntKind.i64.wrap ((s : Int) + 1) = (s : Int) + 1 := i64w (by omega) (by omega)
        simp (maxSteps := 1000000) [go_sem, hlt]
        refine AWp.draw mixed [(0, false), (1, false), (2, false), (3, false), (4, false), (5, false), (6, false), (7, false), (8, false), (9, false)] (by kernel_rfl) ?_
        simp (maxSteps := 1000000) [go_sem, hlt, c3, c3']
        refine eqTrade_ok (p := p) (q := p) (q1.1.pre hp) (q2.1.pre hp) _ ?_
        intro H2 hp2
        by_cases he : r.o = r'.o ∧ r.i = r'.i
        · have e : decide (p = p ∧ r.o = r'.o ∧ r.i = r'.i) = true := by simp [he]
          rw [e]
          simp (maxSteps := 1000000) [go_sem, hw_s, hp2]
          refine hK (s + 1) _ _ (by omega) (by simp [upF, Fr.get, Up.refl]) ⟨by omega, hp.trans hp2, ?_⟩
          rw [m1, m2, hf]
          simp only [Rw.t, he.1, he.2]
        · have e : decide (p = p ∧ r.o = r'.o ∧ r.i = r'.i) = false := by simpa using he
          rw [e]
          have fin := h H2 (hp.trans hp2)
          rw [decide_eq_false (fun e : rows.map Rw.t = rows'.map Rw.t => by
            rw [e, n2] at n1
            have := Option.some.inj n1
            simp only [Rw.t, Prod.mk.injEq] at this
            exact he ⟨this.1.symm, this.2.symm⟩)] at fin
          simp (maxSteps := 1000000) [go_sem, hp2]
          exact fin
      · have : s = rows.length := by omega
        subst this
        rw [List.take_of_length_le (by omega), List.take_of_length_le (by omega)] at hf
        have fin := h H' hp
        rw [decide_eq_true hf] at fin
        simp (maxSteps := 1000000) [go_sem]
        exact fin
  · have hne : ((rows.length : Int) != rows'.length) = true := by simp; omega
    have fin := h H (List.prefix_refl _)
    rw [decide_eq_false (fun e => hn (by rw [← t1, e, t2]))] at fin
    simp (maxSteps := 1000000) [go_sem, hne]
    exact fin

def mkR (k : Int) (rows : List Rw) (s : Nat) : List Rw := rows.mapIdx fun j r => if j < s then { r with p := k + numT ((rows.map Rw.t).take j) } else r
theorem mkR_zero (k : Int) (rows : List Rw) : mkR k rows 0 = rows := by
  apply List.ext_getElem?
  intro j
  simp [mkR, List.getElem?_mapIdx]
theorem mkR_len (k : Int) (rows : List Rw) (s : Nat) : (mkR k rows s).length = rows.length := by simp [mkR]
theorem mkR_get {k : Int} {rows : List Rw} {s j : Nat} {r : Rw} (h : rows[j]? = some r) : (mkR k rows s)[j]? = some (if j < s then { r with p := k + numT ((rows.map Rw.t).take j) } else r) := by
  simp [mkR, List.getElem?_mapIdx, h]
theorem mkR_t (k : Int) (rows : List Rw) (s : Nat) : (mkR k rows s).map Rw.t = rows.map Rw.t := by
  apply List.ext_getElem?
  intro j
  rw [List.getElem?_map, List.getElem?_map]
  cases hj : rows[j]? with
  | none => rw [List.getElem?_eq_none (by rw [mkR_len]; exact List.getElem?_eq_none_iff.1 hj)]
  | some r => rw [mkR_get hj]; split <;> rfl
theorem mkR_set {k : Int} {rows : List Rw} {s : Nat} {r : Rw} (h : rows[s]? = some r) : (mkR k rows s).set s { r with p := k + numT ((rows.map Rw.t).take s) } = mkR k rows (s + 1) := by
  have hlt := (List.getElem?_eq_some_iff.1 h).1
  apply List.ext_getElem?
  intro j
  rw [List.getElem?_set]
  by_cases hj : s = j
  · subst hj
    rw [if_pos rfl, if_pos (by rw [mkR_len]; exact hlt), mkR_get h, if_pos (by omega)]
  · rw [if_neg hj]
    cases hr : rows[j]? with
    | none => rw [List.getElem?_eq_none (by rw [mkR_len]; exact List.getElem?_eq_none_iff.1 hr), List.getElem?_eq_none (by rw [mkR_len]; exact List.getElem?_eq_none_iff.1 hr)]
    | some x =>
      rw [mkR_get hr, mkR_get hr]
      by_cases h1 : j < s
      · rw [if_pos h1, if_pos (by omega)]
      · rw [if_neg h1, if_neg (by omega)]

theorem markTs_ok {a b T : Nat} {H : Heap} {v : Value} {p k : Int} {ts : List (List Bk × List Bk)} (h : TrIn a b H v p ts) (hT : T = numT ts) (hk0 : 0 ≤ k) (hk : k ≤ 10000000) (Post : Value → Heap → Prop)
    (hP : ∀ H', Same (Span a b) H H' → MarkTs a b H' v k ts → Post (.int .i64 (k + T)) H') : ACalls Try.prog 33 [v, .int .i64 k] H Post := by
  subst hT
  obtain ⟨oid, rows, rfl, h2, h3, h4, rfl, h6, h7⟩ := h
  have hlen : (rows.map Rw.t).length = rows.length := List.length_map _
  have hts : ∀ t ∈ rows.map Rw.t, t.1.length ≤ 100 ∧ t.2.length ≤ 100 := by
    intro t ht
    obtain ⟨r, hr, rfl⟩ := List.mem_map.1 ht
    exact (h3 r hr).2.2.2.2.2
  refine acalls_vc (rs := [.tmp 4]) Try.func33 rfl rfl Try.ntmps33 rfl rfl ?_
  simp (maxSteps := 1000000) [go_sem]
  refine AWp.loopVc (fun s : Nat => [(0, lv 3 oid 0 rows.length), (1, .int .i64 (k + numT ((rows.map Rw.t).take s))), (5, .int .i64 s)])
    (fun s H' => s ≤ rows.length ∧ Same (Span a b) H H' ∧ (rows = [] ∨ H'[oid]? = some ⟨cellsT (mkR k rows s), true, true⟩) ∧ ∀ (j : Nat) (r : Rw), rows[j]? = some r → (j < s → MarkTr r.lo r.hi H' r.u r.w (k + numT ((rows.map Rw.t).take j) + 1) r.o.length r.i.length) ∧ (s ≤ j → TradeIn r.lo r.hi H' r.u r.w r.o r.i)) (fun s => rows.length - s) 0 ?_ ?_ ?_
  · simp [upF, Fr.get, Up.refl, numT]
  · exact ⟨by omega, Same.refl _ _, by rw [mkR_zero]; exact h2, fun j r hr => ⟨fun hj => by omega, fun _ => (h3 r (List.mem_of_getElem? hr)).2.2.2.1⟩⟩
  · rintro K s H' ⟨hs, hS, hb, hrows⟩ hK
    have hn := numT_take_le (rows.map Rw.t) hts s (by omega)
    by_cases hlt : s < rows.length
    · have hr : rows[s]? = some rows[s] := List.getElem?_eq_getElem hlt
      have hmem : rows[s] ∈ rows := List.getElem_mem hlt
      have hrs := h3 _ hmem
      have tsn : (rows.map Rw.t).take (s + 1) = (rows.map Rw.t).take s ++ [rows[s].t] := by rw [List.take_succ_eq_append_getElem (by omega)]; simp
      have hdis : ∀ (j : Nat) (x : Rw), rows[j]? = some x → j ≠ s → x.hi ≤ rows[s].lo ∨ rows[s].hi ≤ x.lo := by
        intro j x hx hne
        obtain ⟨hj, rfl⟩ := List.getElem?_eq_some_iff.1 hx
        rcases Nat.lt_or_gt_of_ne hne with h | h
        · exact .inl (List.pairwise_iff_getElem.1 h4 j s hj hlt h)
        · exact .inr (List.pairwise_iff_getElem.1 h4 s j hlt hj h)
      have hb := hb.resolve_left (by rintro rfl; simp at hlt)
      have hspan := h6 (by rintro rfl; simp at hlt)
      have htr := (hrows s _ hr).2 (Nat.le_refl _)
      have hmk := mkR_get (k := k) (s := s) hr
      rw [if_neg (by omega)] at hmk
      have hset := mkR_set (k := k) hr
      obtain ⟨r, hre⟩ : ∃ r, rows[s] = r := ⟨_, rfl⟩
      rw [hre] at hr hmem hrs tsn hdis htr hmk hset
      obtain ⟨N, hN⟩ : ∃ N, numT ((rows.map Rw.t).take s) = N := ⟨_, rfl⟩
      rw [hN] at hn hset ⊢
      have hnn : numT ((rows.map Rw.t).take (s + 1)) = N + (1 + (r.o.length + r.i.length) * 3) := by rw [tsn, numT_snoc, hN]; rfl
      obtain ⟨s1, s2, s3, s4, s5, s6, s7⟩ := hrs
      -- the number
      have hst : storeAt H' oid (s * 3) [.int .i64 (k + N)] = some (H'.set oid ⟨cellsT (mkR k rows (s + 1)), true, true⟩) := by
        rw [storeAt_of hb rfl rfl (by simp [cellsT_len, mkR_len]; omega) (by simp [Value.oneCell']), ← hset, ← cellsT_over hmk]
      have hS1 : Same (fun j => j = oid) H' (H'.set oid ⟨cellsT (mkR k rows (s + 1)), true, true⟩) := same_set
      have hb1 : (H'.set oid ⟨cellsT (mkR k rows (s + 1)), true, true⟩)[oid]? = some ⟨cellsT (mkR k rows (s + 1)), true, true⟩ := List.getElem?_set_self (List.getElem?_eq_some_iff.1 hb).1
      generalize H'.set oid ⟨cellsT (mkR k rows (s + 1)), true, true⟩ = H1 at hst hS1 hb1
      have hmk1 := mkR_get (k := k) (s := s + 1) hr
      rw [if_pos (by omega), hN] at hmk1
      obtain ⟨m, m1, m2, m3, m4⟩ := htr.keep hS1 (by rintro j ⟨e1, e2⟩ rfl; omega)
      have w1 : IntKind.i64.wrap (k + N + 1) = k + N + 1 := i64w (by omega) (by omega)
      have hw_s : IntKind.i64.wrap ((s : Int) + 1) = (s : Int) + 1 := i64w (by omega) (by omega)
      obtain ⟨c3, c0, cu, cw⟩ := row3 (Holds.at ⟨true, hb1⟩) hmk1
      have hlti : (s : Int) < rows.length := by omega
      simp (maxSteps := 1000000) [go_sem, hlt, hlti, hst, w1, cu]
      refine markBlocks_ok m3 (by omega) (by omega) _ ?_
      intro H2 hS2 mk2
      have hb2 := hS2.get hb1 (by rintro ⟨e1, e2⟩; omega)
      obtain ⟨c3, c0, cu, cw⟩ := row3 (Holds.at ⟨true, hb2⟩) hmk1
      obtain ⟨x, hx⟩ : ∃ x : Nat, r.o.length * 3 = x := ⟨_, rfl⟩
      rw [hx]
      simp (maxSteps := 1000000) [go_sem, hlt, hlti, cw]
      refine markBlocks_ok (m4.keep hS2 (by rintro j ⟨e1, e2⟩ ⟨e3, e4⟩; omega)) (by omega) (by omega) _ ?_
      intro H3 hS3 mk3
      have hb3 := hS3.get hb2 (by rintro ⟨e1, e2⟩; omega)
      have hSS : Same (fun j => j = oid ∨ Span r.lo r.hi j) H' H3 := (hS1.mono fun j _ e => .inl e).trans ((hS2.mono fun j _ ⟨e1, e2⟩ => .inr ⟨e1, by omega⟩).trans (hS3.mono fun j _ ⟨e1, e2⟩ => .inr ⟨by omega, e2⟩))
      obtain ⟨y, hy⟩ : ∃ y : Nat, r.i.length * 3 = y := ⟨_, rfl⟩
      rw [hy]
      simp (maxSteps := 1000000) [go_sem, hw_s]
      refine hK (s + 1) _ _ (by omega) ?_ ⟨by omega, ?_, .inr hb3, ?_⟩
      · have e : k + ((numT ((rows.map Rw.t).take (s + 1)) : Nat) : Int) = k + N + 1 + x + y := by rw [hnn, ← hx, ← hy]; omega
        simp [upF, Fr.get, Up.refl, e]
      · exact hS.trans (hSS.mono fun j _ e => by rcases e with rfl | ⟨e1, e2⟩; exact hspan; exact ⟨by omega, by omega⟩)
      · intro j z hz
        by_cases hjs : j = s
        · subst hjs
          rw [hr] at hz; cases hz
          refine ⟨fun _ => ?_, fun e => by omega⟩
          rw [hN]
          have e : k + (N : Int) + 1 + ((r.o.length * 3 : Nat) : Int) = k + N + 1 + x := by rw [hx]
          exact ⟨m, m1, m2, mk2.keep hS3 (by rintro q ⟨e1, e2⟩ ⟨e3, e4⟩; omega), by rw [e]; exact mk3⟩
        · have hd := hdis j z hz hjs
          have hz3 := h3 z (List.mem_of_getElem? hz)
          have hnot : ∀ q, Span z.lo z.hi q → ¬ (q = oid ∨ Span r.lo r.hi q) := by
            rintro q ⟨e1, e2⟩ (rfl | ⟨e3, e4⟩)
            · have := hz3.2.2.1; omega
            · omega
          exact ⟨fun hj => ((hrows j z hz).1 (by omega)).keep hSS hnot, fun hj => ((hrows j z hz).2 (by omega)).keep hSS hnot⟩
    · have : s = rows.length := by omega
      subst this
      have htk : (rows.map Rw.t).take rows.length = rows.map Rw.t := List.take_of_length_le (by omega)
      rw [htk]
      have fin := hP H' hS ⟨oid, mkR k rows rows.length, by rw [mkR_len], ?_, ?_, mkR_t _ _ _, ?_, by rw [mkR_len]; exact h7⟩
      · simp (maxSteps := 1000000) [go_sem]
        exact fin
      · rcases hb with rfl | hb
        · exact .inl rfl
        · exact Holds.at ⟨true, hb⟩
      · intro s r hr
        have hsl := (List.getElem?_eq_some_iff.1 hr).1
        rw [mkR_len] at hsl
        have hx : rows[s]? = some rows[s] := List.getElem?_eq_getElem hsl
        rw [mkR_get hx, if_pos hsl] at hr
        cases hr
        have h9 := h3 _ (List.getElem_mem hsl)
        exact ⟨rfl, (hrows s _ hx).1 hsl, h9.1, h9.2.1, h9.2.2.2.2.2⟩
      · intro hn0
        exact h6 (by rintro rfl; exact hn0 (by simp [mkR]))

theorem heldTs_ok {a b T : Nat} {H : Heap} {v : Value} {k : Int} {ts : List (List Bk × List Bk)} (h : MarkTs a b H v k ts) (hT : T = numT ts) (hk0 : 0 ≤ k) (hk : k ≤ 10000000) (Post : Value → Heap → Prop)
    (hP : Post (.int .i64 (k + T)) H) : ACalls Try.prog 34 [v, .int .i64 k] H Post := by
  subst hT
  obtain ⟨oid, rows, rfl, h2, h3, rfl, h6, h7⟩ := h
  have hlen : (rows.map Rw.t).length = rows.length := List.length_map _
  have hts : ∀ t ∈ rows.map Rw.t, t.1.length ≤ 100 ∧ t.2.length ≤ 100 := by
    intro t ht
    obtain ⟨r, hr, rfl⟩ := List.mem_map.1 ht
    obtain ⟨s, hs⟩ := List.mem_iff_getElem?.1 hr
    exact (h3 s r hs).2.2.2.2
  refine acalls_vc (rs := [.tmp 4]) Try.func34 rfl rfl Try.ntmps34 rfl rfl ?_
  simp (maxSteps := 1000000) [go_sem]
  refine AWp.loopVc (fun s : Nat => [(0, lv 3 oid 0 rows.length), (1, .int .i64 (k + numT ((rows.map Rw.t).take s))), (5, .int .i64 s)])
    (fun s H' => s ≤ rows.length ∧ H' = H) (fun s => rows.length - s) 0 ?_ ?_ ?_
  · simp [upF, Fr.get, Up.refl, numT]
  · exact ⟨by omega, rfl⟩
  · rintro K s H' ⟨hs, rfl⟩ hK
    have hn := numT_take_le (rows.map Rw.t) hts s (by omega)
    by_cases hlt : s < rows.length
    · have hr : rows[s]? = some rows[s] := List.getElem?_eq_getElem hlt
      have tsn : (rows.map Rw.t).take (s + 1) = (rows.map Rw.t).take s ++ [rows[s].t] := by rw [List.take_succ_eq_append_getElem (by omega)]; simp
      have hrs := h3 s _ hr
      obtain ⟨r, hre⟩ : ∃ r, rows[s] = r := ⟨_, rfl⟩
      rw [hre] at hr tsn hrs
      obtain ⟨N, hN⟩ : ∃ N, numT ((rows.map Rw.t).take s) = N := ⟨_, rfl⟩
      rw [hN] at hn hrs ⊢
      have hnn : numT ((rows.map Rw.t).take (s + 1)) = N + (1 + (r.o.length + r.i.length) * 3) := by rw [tsn, numT_snoc, hN]; rfl
      obtain ⟨s1, ⟨m, m1, m2, m3, m4⟩, s3, s4, s5, s6⟩ := hrs
      obtain ⟨c3, c0, cu, cw⟩ := row3 h2 hr
      rw [s1] at c0 m3 m4
      have hne : ((k + (N : Int)) != (k + N)) = false := by simp
      have w1 : IntKind.i64.wrap (k + N + 1) = k + N + 1 := i64w (by omega) (by omega)
      have hlti : (s : Int) < rows.length := by omega
      have hw_s : IntKind.i64.wrap ((s : Int) + 1) = (s : Int) + 1 := i64w (by omega) (by omega)
      simp (maxSteps := 1000000) [go_sem, hlt, hlti, c0, hne, w1, cu]
      refine heldBlocks_ok m3 (by omega) (by omega) _ ?_
      obtain ⟨x, hx⟩ : ∃ x : Nat, r.o.length * 3 = x := ⟨_, rfl⟩
      rw [hx] at m4 ⊢
      have n1 : ¬ (k + N + 1 + (x : Int) < 0) := by omega
      simp (maxSteps := 1000000) [go_sem, hlt, hlti, n1, cw]
      refine heldBlocks_ok m4 (by omega) (by omega) _ ?_
      obtain ⟨y, hy⟩ : ∃ y : Nat, r.i.length * 3 = y := ⟨_, rfl⟩
      rw [hy]
      have n2 : ¬ (k + N + 1 + (x : Int) + y < 0) := by omega
      simp (maxSteps := 1000000) [go_sem, n2, hw_s]
      refine hK (s + 1) _ _ (by omega) ?_ ⟨by omega, rfl⟩
      have e : k + ((numT ((rows.map Rw.t).take (s + 1)) : Nat) : Int) = k + N + 1 + x + y := by rw [hnn, ← hx, ← hy]; omega
      simp [upF, Fr.get, Up.refl, e]
    · have : s = rows.length := by omega
      subst this
      rw [List.take_of_length_le (by omega)]
      simp (maxSteps := 1000000) [go_sem]
      exact hP

end Go.Proofs.Ytdfeoccjllljiaa
end

section
/- Sorting blocks: there is one ascending list of the same blocks. Plain Lean. -/
set_option linter.all false
namespace Go.Proofs.Ytdfeoccjllljiaa
open Go.Ab Go.Sort

theorem before_false {x y : Bk} : before x y = false ↔ ¬ (x.a < y.a ∨ (x.a = y.a ∧ (x.b < y.b ∨ (x.b = y.b ∧ x.c < y.c)))) := by rw [← before_iff]; simp
theorem swoB : SWO before := by
  refine ⟨fun x => ?_, fun x y z h1 h2 => before_trans h1 h2, fun x y z h1 h2 => ?_⟩
  · rw [before_false]; omega
  · rw [before_false] at *; omega
theorem insRev_perm (x : Bk) : ∀ l : List Bk, (insRev x l).Perm (x :: l)
  | [] => List.Perm.refl _
  | y :: l => by
    simp only [insRev]
    split
    · exact ((insRev_perm x l).cons y).trans (List.Perm.swap x y l)
    · exact List.Perm.refl _
theorem insR_perm (x : Bk) (l : List Bk) : (insR x l).Perm (x :: l) := by
  unfold insR
  exact ((List.reverse_perm _).trans (insRev_perm x _)).trans ((List.reverse_perm l).cons x)
theorem sortB_perm : ∀ (n : Nat) (bs : List Bk), bs.length = n → (sortB bs).Perm bs
  | 0, bs, h => by have := List.eq_nil_of_length_eq_zero h; subst this; exact List.Perm.refl _
  | n + 1, bs, h => by
    have hne : bs ≠ [] := by rintro rfl; simp at h
    have e := List.dropLast_concat_getLast hne
    rw [← e, sortB_snoc]
    refine (insR_perm _ _).trans ?_
    refine ((sortB_perm n _ (by simp [h])).cons _).trans ?_
    exact (List.perm_append_singleton _ _).symm
theorem insRev_sorted (x : Bk) : ∀ {l : List Bk}, l.Pairwise (fun a b => before a b = false) → (insRev x l).Pairwise (fun a b => before a b = false)
  | [], _ => by simp [insRev]
  | y :: l, h => by
    rw [List.pairwise_cons] at h
    simp only [insRev]
    split
    · rename_i hb
      rw [List.pairwise_cons]
      refine ⟨fun z hz => ?_, insRev_sorted x h.2⟩
      rcases List.mem_cons.1 ((insRev_perm x l).mem_iff.1 hz) with rfl | hz
      · exact before_asymm hb
      · exact h.1 z hz
    · rename_i hb
      have hb : before x y = false := by simpa using hb
      rw [List.pairwise_cons]
      refine ⟨fun z hz => ?_, List.pairwise_cons.2 h⟩
      rcases List.mem_cons.1 hz with rfl | hz
      · exact hb
      · exact swoB.ntrans _ _ _ hb (h.1 z hz)
theorem insR_sorted (x : Bk) {l : List Bk} (h : l.Pairwise (fun a b => before b a = false)) : (insR x l).Pairwise (fun a b => before b a = false) := by
  unfold insR
  rw [List.pairwise_reverse]
  exact insRev_sorted x (List.pairwise_reverse.2 h)
theorem sortB_sorted : ∀ (n : Nat) (bs : List Bk), bs.length = n → (sortB bs).Pairwise (fun a b => before b a = false)
  | 0, bs, h => by have := List.eq_nil_of_length_eq_zero h; subst this; exact List.Pairwise.nil
  | n + 1, bs, h => by
    have hne : bs ≠ [] := by rintro rfl; simp at h
    rw [← List.dropLast_concat_getLast hne, sortB_snoc]
    exact insR_sorted _ (sortB_sorted n _ (by simp [h]))
theorem sort_uniq {bs l : List Bk} (hp : l.Perm bs) (hs : l.Pairwise (fun x y => before y x = false)) : l = sortB bs := by
  refine (hp.trans (sortB_perm _ bs rfl).symm).eq_of_pairwise ?_ hs (sortB_sorted _ bs rfl)
  intro x y _ _ h1 h2
  rw [before_false] at h1 h2
  rw [Bk.eq3]; omega

end Go.Proofs.Ytdfeoccjllljiaa
end

section
/- Sorting blocks, the tested program's side: slices.Clone over blocks, sorted, system. -/
set_option linter.all false
set_option maxRecDepth 20000
set_option maxHeartbeats 4000000
namespace Go.Proofs.Ytdfeoccjllljiaa
open Go.Ab Go.Sort

theorem tri_src {H : Heap} {i o : Nat} {bs : List Bk} (h : At H i o (tri bs)) : srcCells H 3 (lv 3 i o bs.length) = some (tri bs) := h.src (by rw [tri_length]) (by omega) _

theorem cloneB_oe {H : Heap} {u : Value} {xs : List Bk} (hu : BlocksAt H u xs) (hl : xs.length ≤ 1048576) (Post : Value → Heap → Prop) (h : ∀ H' w, H <+: H' → OE 3 H.length H' w (tri xs) xs.length → Post w H') :
    ACalls Try.prog 89 [u] H Post := by
  obtain ⟨i, o, rfl, h1, h2⟩ := hu
  by_cases hx : xs = []
  · subst hx
    refine acalls_body Try.func89 rfl rfl (by rw [Try.ntmps89]; exact Nat.le_of_ble_eq_true rfl) ?_
    rw [Try.ntmps89]
    refine AWp.seq (vc_sound _ _ _ _ ?_)
    simp (maxSteps := 1000000) [go_sem]
    refine AWp.seq (AWp.seq (AWp.regionS ?_))
    refine StepOK.of_v ?_
    simp (maxSteps := 1000000) [go_sem]
    refine StepOK.of_op rfl (ok_eqlNil2 rfl Try.underlying28 rfl rfl (by show (4 : Nat) < 8; decide) (fun b => ?_))
    refine AWp.cond (b := b) (by cases b <;> rfl) (fun _ => ?_) (fun _ => ?_)
    · refine vc_sound _ _ _ _ ?_
      simp (maxSteps := 1000000) [go_sem]
      exact h H _ (List.prefix_refl _) (OE.nil _ _ _)
    · refine vc_sound _ _ _ _ ?_
      simp (maxSteps := 1000000) [go_sem]
      refine vc_sound _ _ _ _ ?_
      simp (maxSteps := 1000000) [go_sem, appendH]
      exact h _ _ (List.prefix_append _ _) (OE.empty (Nat.le_refl _) (by simp))
  · have hp0 : H <+: H ++ [⟨[], true, true⟩] := List.prefix_append _ _
    have hsrc := tri_src (h1.pre hp0)
    have hm0 : xs.length ≠ 0 := by simpa using hx
    simp only [srcCells] at hsrc
    have he0 : OE 3 H.length (H ++ [(⟨[], true, true⟩ : Blk)]) (.slice (some ⟨H.length, 0, none⟩) 0 0) [] 0 := OE.empty (Nat.le_refl _) (by simp)
    obtain ⟨v, H2, hap, he2, hk2, hl2⟩ := he0.append (m := xs.length) (news := tri xs) (by omega) (by simp) (by rw [tri_length])
    generalize hm : xs.length = m at *
    refine acalls_vc (rs := [.tmp 2]) Try.func89 rfl rfl Try.ntmps89 rfl rfl ?_
    have hnil : nilOK (some ⟨i, o, some 3⟩) m = true := by simpa [nilOK] using hm0
    simp (maxSteps := 1000000) [go_sem, hnil, hsrc, hap]
    refine andK_intro (by omega) ?_
    simp only [List.nil_append, Nat.zero_add] at he2
    exact h H2 v (KeepL.prefix hp0 (Nat.le_refl _) hk2 hl2) he2
theorem cloneB_ok {H : Heap} {u : Value} {xs : List Bk} (hu : BlocksAt H u xs) (hl : xs.length ≤ 1048576) (Post : Value → Heap → Prop) (h : ∀ H' w, H <+: H' → BlocksIn H.length H'.length H' w xs → Post w H') :
    ACalls Try.prog 89 [u] H Post := by
  refine ACalls.res (cloneB_oe hu hl _ fun H' v hp he => ?_)
  obtain ⟨w, hup, hw⟩ := he.blocks (by omega)
  exact ⟨w, hup, h H' w hp hw⟩

end Go.Proofs.Ytdfeoccjllljiaa
end

section
/- InverseTrade, FitsSystem. -/
set_option linter.all false
set_option maxRecDepth 20000
set_option maxHeartbeats 8000000
namespace Go.Proofs.Ytdfeoccjllljiaa
open Go.Ab Go.Sort

theorem put3 {H H0 H' : Heap} {id : Nat} {cs0 cs : List Value} (hp0 : H <+: H0) (hid : H.length ≤ id) (hb0 : H0[id]? = some ⟨cs0, true, true⟩) (h2 : cs0.length = 3) (hp : H0 <+: H') (hcl : cs.length = 3) (ho : cs.all Value.oneCell' = true) :
    storeAt H' id 0 cs = some (H'.set id ⟨cs, true, true⟩) ∧ cellsAt (H'.set id ⟨cs, true, true⟩) id 0 3 = some cs ∧ H <+: H'.set id ⟨cs, true, true⟩ ∧ Same (fun j => j = id) H' (H'.set id ⟨cs, true, true⟩) := by
  have hb' := Same.get (S := fun _ => False) (Same.of_prefix hp) hb0 (fun h => h)
  have hsame : Same (fun j => j = id) H' (H'.set id ⟨cs, true, true⟩) := ⟨by simp, fun j hj hS => List.getElem?_set_ne (fun e => hS e.symm)⟩
  refine ⟨?_, ?_, ((Same.of_prefix (hp0.trans hp)).trans hsame).prefix (by intro j hj he; omega), hsame⟩
  · rw [storeAt_of hb' rfl rfl (by simp [hcl, h2]) ho]
    match cs, hcl, cs0, h2 with
    | [x, y, z], _, [a, b, c], _ => simp [over]
  · have := Holds.cells (n := 3) (o := 0) (H := H'.set id ⟨cs, true, true⟩) ⟨true, List.getElem?_set_self (List.getElem?_eq_some_iff.1 hb').1⟩ (by omega)
    rw [this, List.drop_zero, List.take_of_length_le (by omega)]

theorem tradeB_sys {p : Int} {o i : List Bk} (h : tradeB p o i = true) : IsSys p o ∧ IsSys p i := by
  unfold tradeB at h
  rw [Bool.and_eq_true, Bool.and_eq_true] at h
  exact ⟨sysB_of h.1, sysB_of h.2.1⟩
theorem sys_sort {p : Int} {bs : List Bk} (h : IsSys p bs) : sortB bs = bs := sortB_asc (asc_of _ rfl h.2.2.1)

theorem l04Made_ok {H : Heap} {u w : Value} {p : Int} {o i : List Bk} (hu : BlocksAt H u o) (hw : BlocksAt H w i) (hl : o.length ≤ 1048576) (hl' : i.length ≤ 1048576) (Post : Value → Heap → Prop)
    (h : ∀ H' v x, H <+: H' → TradeIn H.length H'.length H' v x (sortB o) (sortB i) → Post (tradeV p v x) H') : ACalls Try.prog 87 [.int .i64 p, u, w] H Post := by
  refine acalls_vc (rs := [.cell 6 30]) Try.func87 rfl rfl Try.ntmps87 rfl rfl ?_
  simp (maxSteps := 1000000) [go_sem]
  have hp0 : H <+: H ++ [⟨[.int .i64 0, .slice none 0 0, .slice none 0 0], true, true⟩] := List.prefix_append _ _
  have hb0 : (H ++ [(⟨[.int .i64 0, .slice none 0 0, .slice none 0 0], true, true⟩ : Blk)])[H.length]? = some ⟨[.int .i64 0, .slice none 0 0, .slice none 0 0], true, true⟩ := by simp
  have hlen : (H ++ [(⟨[.int .i64 0, .slice none 0 0, .slice none 0 0], true, true⟩ : Blk)]).length = H.length + 1 := by simp
  generalize H ++ [(⟨[.int .i64 0, .slice none 0 0, .slice none 0 0], true, true⟩ : Blk)] = H0 at hp0 hb0 hlen ⊢
  refine l01Sort_ok (hu.pre hp0) hl _ ?_
  intro H1 v1 hp1 hv1
  simp (maxSteps := 1000000) [go_sem]
  refine l01Sort_ok (hw.pre (hp0.trans hp1)) hl' _ ?_
  intro H2 v2 hp2 hv2
  have hv1' := hv1.pre hp2
  have hv2' := hv2
  obtain ⟨id1, ⟨rfl, _⟩, _⟩ := hv1
  obtain ⟨id2, ⟨rfl, _⟩, _⟩ := hv2
  obtain ⟨q1, q2, q3, q4⟩ := put3 (cs := [.int .i64 p, lv 3 id1 0 (sortB o).length, lv 3 id2 0 (sortB i).length]) hp0 (Nat.le_refl _) hb0 rfl (hp1.trans hp2) rfl rfl
  have hle1 := hp1.length_le
  have hle2 := hp2.length_le
  simp (maxSteps := 1000000) [go_sem, q1, q2]
  refine h _ _ _ q3 ?_
  rw [List.length_set]
  exact ⟨H1.length, by omega, by omega, (hv1'.keep q4 (fun j hj e => by have := hj.1; omega)).wider (by omega), hv2'.keep q4 (fun j hj e => by have := hj.1; omega)⟩

end Go.Proofs.Ytdfeoccjllljiaa
end

section
/- The blocks of a list that are not in another one: both sides (slices.DeleteFunc over blocks). -/
set_option linter.all false
set_option maxRecDepth 20000
set_option maxHeartbeats 8000000
namespace Go.Proofs.Ytdfeoccjllljiaa
open Go.Ab Go.Sort

/-- A block of which only the first cells are told. -/
theorem _root_.Go.Ab.upH.cut {H : Heap} {id : Nat} {cs cs' : List Value} {li ow : Bool} (hb : H[id]? = some ⟨cs ++ cs', li, ow⟩) : upH H (H.set id ⟨cs, li, ow⟩) := by
  intro B w0 ρ w hR
  have hlt := (List.getElem?_eq_some_iff.1 hb).1
  have key : ∀ (i : Nat) (b : Blk), (H.set id ⟨cs, li, ow⟩)[i]? = some b → (i = id ∧ b = ⟨cs, li, ow⟩) ∨ (i ≠ id ∧ H[i]? = some b) := by
    intro i b h
    by_cases e : i = id
    · subst e; rw [List.getElem?_set_self hlt] at h; exact .inl ⟨rfl, (Option.some.inj h).symm⟩
    · rw [List.getElem?_set_ne (fun h => e h.symm)] at h; exact .inr ⟨e, h⟩
  have old : ∀ (i : Nat) (b : Blk), (H.set id ⟨cs, li, ow⟩)[i]? = some b → ∃ b', H[i]? = some b' ∧ b'.live = b.live ∧ b'.own = b.own := by
    intro i b h
    rcases key i b h with ⟨rfl, rfl⟩ | ⟨_, h⟩
    · exact ⟨_, hb, rfl, rfl⟩
    · exact ⟨b, h, rfl, rfl⟩
  refine ⟨by rw [List.length_set]; exact hR.len, hR.below, hR.base, ?_, ?_, ?_⟩
  · intro i b l h hl' hlive
    rcases key i b h with ⟨rfl, rfl⟩ | ⟨_, h⟩
    · obtain ⟨arr, elem, fz, h1, h2, h3, h4⟩ := hR.blk i _ l hb hl' hlive
      refine ⟨arr, elem, fz, h1, h2, ?_, h4⟩
      intro k v hk
      exact h3 k v (by rw [List.getElem?_append_left (List.getElem?_eq_some_iff.1 hk).1]; exact hk)
    · exact hR.blk i b l h hl' hlive
  · intro i j b c l m hij h1 h2 h3 h4 h5 h6 h7
    obtain ⟨b', e1, e2, e3⟩ := old i b h1
    obtain ⟨c', f1, f2, f3⟩ := old j c h2
    exact hR.apart i j b' c' l m hij e1 f1 h3 h4 (by rw [e2]; exact h5) (by rw [f2]; exact h6) (by rw [e3]; exact h7)
  · intro i b l h1 h2 h3 h4
    obtain ⟨b', e1, e2, e3⟩ := old i b h1
    exact hR.ghost i b' l e1 h2 (by rw [e2]; exact h3) (by rw [e3]; exact h4)

/-- A function value that tells of blocks, whatever stands in the block id. -/
def TellsS (g : FuncId) (fs cs : List Value) (P : Bk → Bool) (id : Nat) (H : Heap) : Prop :=
  ∀ (H' : Heap) (x : Bk) (Post : Value → Heap → Prop), Same (fun k => k = id) H H' → (∀ H'', H' <+: H'' → Post (.bool (P x)) H'') → ACalls Try.prog g (fs ++ x.val :: cs) H' Post

theorem deleteFunc0_ok {H : Heap} {id : Nat} {g : FuncId} {fs cs : List Value} (Post : Value → Heap → Prop) (h : ∀ H', H <+: H' → Post (lv 3 id 0 0) H') :
    ACalls Try.prog 143 [lv 3 id 0 0, .func (.func g) fs.toArray cs.toArray] H Post := by
  refine acalls_vc (rs := [.tmp 4]) Try.func143 rfl rfl Try.ntmps143 rfl rfl ?_
  simp (maxSteps := 1000000) [go_sem]
  refine indexFuncB_ok (P := fun _ => true) (xs := []) ⟨id, 0, rfl, .inl rfl, by simp⟩ (fun H' x Post _ hx => by cases hx) _ ?_
  intro H1 n hp1 hn
  have : n = -1 := by
    rcases hn with ⟨e, _⟩ | ⟨s, x, _, e, _⟩
    · exact e
    · simp at e
  subst this
  simp (maxSteps := 1000000) [go_sem]
  exact h H1 hp1

theorem deleteFuncB_ok {H : Heap} {id n : Nat} {xs : List Bk} {g : FuncId} {fs cs : List Value} {P : Bk → Bool} (hb : H[id]? = some ⟨tri xs, true, true⟩) (hn : xs.length = n) (hl : n ≤ 1048576) (hf : TellsS g fs cs P id H) (Post : Value → Heap → Prop)
    (h : ∀ (H' : Heap) (rest : List Value), Same (fun k => k = id) H H' → H'[id]? = some ⟨tri (xs.filter fun x => !P x) ++ rest, true, true⟩ → Post (lv 3 id 0 (xs.filter fun x => !P x).length) H') :
    ACalls Try.prog 143 [lv 3 id 0 n, .func (.func g) fs.toArray cs.toArray] H Post := by
  refine acalls_vc (rs := [.tmp 4]) Try.func143 rfl rfl Try.ntmps143 rfl rfl ?_
  simp (maxSteps := 1000000) [go_sem]
  subst hn
  refine indexFuncB_ok (P := P) (xs := xs) ⟨id, 0, rfl, Holds.at ⟨true, hb⟩, by omega⟩ (fun H' x Post hp _ hk => hf H' x Post (Same.of_prefix hp) hk) _ ?_
  intro H1 m hp1 hm
  have hb1 : H1[id]? = some ⟨tri xs, true, true⟩ := Same.get (S := fun _ => False) (Same.of_prefix hp1) hb (fun h => h)
  have hS1 : Same (fun k => k = id) H H1 := Same.of_prefix hp1
  rcases hm with ⟨rfl, hall⟩ | ⟨k, x, rfl, hk, hPk, hbefore⟩
  · have e : (xs.filter fun x => !P x) = xs := List.filter_eq_self.2 fun x hx => by simp [hall x hx]
    rw [e] at h
    have fin := h H1 [] hS1 (by simpa using hb1)
    simp (maxSteps := 1000000) [go_sem]
    exact fin
  · have hkl := (List.getElem?_eq_some_iff.1 hk).1
    have ek : ((k : Int) == -1) = false := by rw [beq_eq_false_iff_ne]; omega
    have ek' : ¬ (k : Int) = -1 := by omega
    have hw_k : IntKind.i64.wrap ((k : Int) + 1) = (k : Int) + 1 := i64w (by omega) (by omega)
    have f0 : (xs.take k).filter (fun x => !P x) = xs.take k := List.filter_eq_self.2 fun x hx => by simp [hbefore x hx]
    have hxk : xs[k] = x := (List.getElem?_eq_some_iff.1 hk).2
    simp (maxSteps := 1000000) [go_sem, ek, ek', hw_k]
    refine AWp.loopVc (St := Nat × Nat × List Bk) (fun s => [(0, lv 3 id 0 xs.length), (1, .func (.func g) fs.toArray cs.toArray), (5, .int .i64 s.1), (6, .int .i64 s.2.1)])
      (fun s H' => s.1 < s.2.1 ∧ s.2.1 ≤ xs.length ∧ s.2.2.length = xs.length ∧ s.2.2.take s.1 = (xs.take s.2.1).filter (fun x => !P x) ∧ s.2.2.drop s.2.1 = xs.drop s.2.1 ∧ Same (fun k => k = id) H H' ∧ H'[id]? = some ⟨tri s.2.2, true, true⟩) (fun s => xs.length - s.2.1) (k, k + 1, xs) ?_ ?_ ?_
    · simp [upF, Fr.get, Up.refl]
    · refine ⟨by simp, by simp only; omega, rfl, ?_, rfl, hS1, hb1⟩
      simp only
      rw [List.take_succ_eq_append_getElem hkl, List.filter_append, f0, hxk]
      simp [hPk]
    · rintro K ⟨i, j, d⟩ H2 ⟨hij, hj, hd, htk, hdr, hS2, hb2⟩ hK
      simp only at hij hj hd htk hdr hS2 hb2
      by_cases hlt : j < xs.length
      · have hw_j : IntKind.i64.wrap ((j : Int) + 1) = (j : Int) + 1 := i64w (by omega) (by omega)
        have hw_i : IntKind.i64.wrap ((i : Int) + 1) = (i : Int) + 1 := i64w (by omega) (by omega)
        have hdj : d[j]? = some xs[j] := by
          have := congrArg (fun z : List Bk => z[0]?) hdr
          simp only [List.getElem?_drop, Nat.add_zero] at this
          rw [this]; exact List.getElem?_eq_getElem hlt
        have hatd : At H2 id 0 (tri d) := Holds.at ⟨true, hb2⟩
        have c1 := hatd.bk hdj
        rw [Nat.zero_add] at c1
        have hxt := List.take_succ_eq_append_getElem hlt
        have hxd : xs.drop (j + 1) = d.drop (j + 1) := by
          have := congrArg (List.drop 1) hdr
          rw [List.drop_drop, List.drop_drop] at this
          exact this.symm
        generalize xs[j] = v at *
        simp only [Bk.cells] at c1
        simp (maxSteps := 1000000) [go_sem, hlt, c1]
        have hp3 : H2 <+: H2 ++ [⟨[.int .i64 v.a, .int .i64 v.b, .int .i64 v.c], true, true⟩] := List.prefix_append _ _
        have hx3 := Holds.last H2 [.int .i64 v.a, .int .i64 v.b, .int .i64 v.c]
        have hidl := (List.getElem?_eq_some_iff.1 hb2).1
        refine hf _ v _ (hS2.via (Same.of_prefix (S := fun _ => False) hp3) (fun _ _ h => h.elim)) ?_
        intro H4 hp4
        have hS4 : Same (fun k => k = id) H H4 := hS2.via (Same.of_prefix (S := fun _ => False) (hp3.trans hp4)) (fun _ _ h => h.elim)
        have hb4 : H4[id]? = some ⟨tri d, true, true⟩ := Same.get (S := fun _ => False) (Same.of_prefix (hp3.trans hp4)) hb2 (fun h => h)
        obtain ⟨e0, e1, e2, e3⟩ := (hx3.pre hp4).bk
        cases hP : P v with
        | true =>
          simp (maxSteps := 1000000) [go_sem, hw_j]
          refine hK (i, j + 1, d) _ _ (by simp only; omega) (by simp [upF, Fr.get, Up.refl]) ⟨by simp only; omega, by simp only; omega, hd, ?_, hxd.symm, hS4, hb4⟩
          simp only
          rw [hxt, List.filter_append, ← htk]
          simp [hP]
        | false =>
          have hst := storeBk (b := v) (s := i) hb4 (by omega)
          simp only [Bk.cells] at hst
          have hil : i < xs.length := by omega
          have hil' : (i : Int) < xs.length := by omega
          simp (maxSteps := 1000000) [go_sem, hw_j, hw_i, e0, hst, hil, hil']
          refine hK (i + 1, j + 1, d.set i v) _ _ (by simp only; omega) (by simp [upF, Fr.get, Up.refl]) ⟨by simp only; omega, by simp only; omega, by simp [hd], ?_, ?_, hS4.trans same_set, List.getElem?_set_self (List.getElem?_eq_some_iff.1 hb4).1⟩
          · simp only
            have hil2 : i < (d.set i v).length := by simp; omega
            rw [hxt, List.filter_append, ← htk, List.take_succ_eq_append_getElem hil2, List.getElem_set_self, List.take_set_of_le (Nat.le_refl _)]
            simp [hP]
          · simp only
            rw [List.drop_set_of_lt (by omega), hxd]
      · have : j = xs.length := by omega
        subst this
        rw [List.take_length] at htk
        have hil : i ≤ xs.length := by omega
        have hlen : (xs.filter fun x => !P x).length = i := by rw [← htk, List.length_take]; omega
        have ed : tri d = tri (d.take i) ++ tri (d.drop i) := by rw [← tri_append, List.take_append_drop]
        have hil0 : i < xs.length := hij
        have hil' : (i : Int) ≤ xs.length := by omega
        have hn0 : ¬ (xs.length - i = 0) := by omega
        have hn1 : ¬ (xs.length ≤ i) := by omega
        simp (maxSteps := 1000000) [go_sem, sliceV, boundV, lenV, hil, hil', hn0, hn1]
        obtain ⟨z, hz⟩ : ∃ z : List Value, z = (Builtin.zeroCells #[Value.int IntKind.i64 0, Value.int IntKind.i64 0, Value.int IntKind.i64 0] (xs.length - i)).toList := ⟨_, rfl⟩
        have hzl : z.length = (xs.length - i) * 3 := by rw [hz]; simp [Builtin.zeroCells]
        have hzo : z.all Value.oneCell' = true := by
          rw [hz, List.all_eq_true]
          intro v hv
          unfold Builtin.zeroCells at hv
          rw [Array.mem_toList_iff, Array.mem_map] at hv
          obtain ⟨k, _, rfl⟩ := hv
          have : k % 3 = 0 ∨ k % 3 = 1 ∨ k % 3 = 2 := by omega
          rcases this with e | e | e <;> simp [e, Value.oneCell']
        rw [← hz]
        have hst := storeAt_of (o := i * 3) (vs := z) hb2 rfl rfl (by rw [hzl, tri_length]; omega) hzo
        have e3 : over (tri d) (i * 3) z = tri (d.take i) ++ z := by
          unfold over
          rw [ed, List.take_left' (by rw [tri_length, List.length_take]; omega)]
          rw [List.drop_eq_nil_of_le (by rw [List.length_append, tri_length, tri_length, List.length_take, List.length_drop]; omega), List.append_nil]
        rw [e3] at hst
        have hil3 : (i : Int) ≤ xs.length := by omega
        have fin := h _ z (hS2.trans same_set) (by rw [← htk]; exact List.getElem?_set_self (List.getElem?_eq_some_iff.1 hb2).1)
        rw [hlen] at fin
        have hi0 : ¬ (i = 0 ∧ False) := fun h => h.2
        simp (maxSteps := 1000000) [go_sem, hst, sliceV, boundV, lenV, hil, hil', hn0, hn1]
        exact fin

end Go.Proofs.Ytdfeoccjllljiaa
end

section
/- Regions whose order is open, with operations that hang on nothing (a new cell, an empty list): at each effect ahead of such a one, both ways are shown. It holds for every program. -/
set_option linter.all false
namespace Go.Ab
open Go.RowKit (Below)

def pairOKF (ops : Array Oper) (fs : List Nat) (ms : List Nat) (x y : Nat × Bool) : Bool :=
  match ops[x.1]?, ops[y.1]? with
  | some p, some q =>
    let d := (ms.getD y.1 0).testBit x.1
    !directTo p y.1 && x.1 != y.1 &&
    (match isR p.op with
     | true => (d || indep ops p q) && (isR q.op || y.2 || !readsH p.op || d)
     | false => d || (fs.contains y.1 && y.2 && !isR q.op))
  | _, _ => false
def pairsOKF (ops : Array Oper) (fs : List Nat) (ms : List Nat) : List (Nat × Bool) → Bool
  | [] => true
  | x :: l => l.all (pairOKF ops fs ms x) && pairsOKF ops fs ms l
def drawOKF (ops : Array Oper) (fs : List Nat) (canon : List (Nat × Bool)) : Bool :=
  let ms := masksGo ops.toList []
  pairsOKF ops fs ms canon && edgesOK ops && decide (canon.length = ops.size) && canon.all (fun x => decide (x.1 < ops.size)) && (List.range ops.size).all (fun i => (canon.map (·.1)).contains i)

section
variable {P : Program} {N : Nat} {ops : Array Oper} {K : Fr → Heap → Prop} {fs : List Nat}

theorem vstep_closed {o : Oper} {T : Fr → Heap → Prop} (hT : Closed T) {f g : Fr} {H : Heap} (hfg : feq f g) (h : vstep P N ops o T f H) : vstep P N ops o T g H := by
  cases hR : isR o.op with
  | true =>
    obtain ⟨v, h1, h2⟩ := vstep_R hR hT h
    exact h2 g H _ hT (agreeG.of_feq hfg) (fun _ => List.prefix_refl _) (hT _ _ _ (hfg.put _ _) h1)
  | false =>
    refine vstep_weak (vstep_E hT h (agreeG.of_feq hfg)) ?_
    rintro f' h' ⟨v, h1, h2⟩
    exact hT _ _ _ ((hfg.put _ _).trans h1) h2
theorem pairsOKF_spec {ms : List Nat} : ∀ {l1 : List (Nat × Bool)} {y : Nat × Bool} {l2 : List (Nat × Bool)}, pairsOKF ops fs ms (l1 ++ y :: l2) = true → (∀ x ∈ l1, pairOKF ops fs ms x y = true) ∧ (∀ z ∈ l2, pairOKF ops fs ms y z = true) ∧ pairsOKF ops fs ms (l1 ++ l2) = true
  | [], y, l2, h => by
    simp only [List.nil_append, pairsOKF, Bool.and_eq_true, List.all_eq_true] at h
    exact ⟨by simp, h.1, h.2⟩
  | x :: l1, y, l2, h => by
    simp only [List.cons_append, pairsOKF, Bool.and_eq_true, List.all_eq_true] at h ⊢
    obtain ⟨h1, h2⟩ := h
    obtain ⟨h3, h4, h5⟩ := pairsOKF_spec h2
    refine ⟨fun z hz => ?_, h4, fun z hz => h1 z ?_, h5⟩
    · rcases List.mem_cons.1 hz with rfl | hz
      · exact h1 y (by simp)
      · exact h3 z hz
    · rcases List.mem_append.1 hz with hz | hz
      · simp [hz]
      · simp [hz]

/-- The first effect of a list. -/
theorem first_effect : ∀ (l : List (Nat × Bool)), (∀ x ∈ l, ∃ p, ops[x.1]? = some p) → (∀ x ∈ l, ∃ p, ops[x.1]? = some p ∧ isR p.op = true) ∨
    ∃ r1 e o r2, l = r1 ++ e :: r2 ∧ ops[e.1]? = some o ∧ isR o.op = false ∧ ∀ x ∈ r1, ∃ p, ops[x.1]? = some p ∧ isR p.op = true
  | [], _ => .inl (by simp)
  | x :: l, h => by
    obtain ⟨p, hp⟩ := h x (by simp)
    cases hR : isR p.op with
    | false => exact .inr ⟨[], x, p, l, rfl, hp, hR, by simp⟩
    | true =>
      rcases first_effect l fun y hy => h y (by simp [hy]) with h1 | ⟨r1, e, o, r2, rfl, h2, h3, h4⟩
      · left
        intro y hy
        rcases List.mem_cons.1 hy with rfl | hy
        · exact ⟨p, hp, hR⟩
        · exact h1 y hy
      · refine .inr ⟨x :: r1, e, o, r2, rfl, h2, h3, fun y hy => ?_⟩
        rcases List.mem_cons.1 hy with rfl | hy
        · exact ⟨p, hp, hR⟩
        · exact h4 y hy

/-- Both ways, written out. -/
inductive Tree
  | nil
  | one (i : Nat) (fl : Bool) (t : Tree)
  | two (i : Nat) (fl : Bool) (t : Tree) (f : Nat) (t' : Tree)

def vT (P : Program) (N : Nat) (ops : Array Oper) (K : Fr → Heap → Prop) : Tree → Fr → Heap → Prop
  | .nil, fr, H => K fr H
  | .one i fl t, fr, H => match ops[i]? with
    | none => False
    | some o => match isR o.op with
      | true => vstep P N ops o (vT P N ops K t) fr H
      | false => vstep P N ops o (eK fl H (vT P N ops K t)) fr H
  | .two i fl t f t', fr, H => match ops[i]?, ops[f]? with
    | some o, some o' => vstep P N ops o (eK fl H (vT P N ops K t)) fr H ∧ vstep P N ops o' (eK true H (vT P N ops K t')) fr H
    | _, _ => False
def treeOK (ops : Array Oper) (fs : List Nat) : Tree → List (Nat × Bool) → Bool
  | .nil, l => l.isEmpty
  | .one i fl t, (j, fl') :: l => i == j && fl == fl' && ((match ops[i]? with | some o => isR o.op | none => false) || fs.all fun f => !(l.map (·.1)).contains f) && treeOK ops fs t l
  | .two i fl t f t', (j, fl') :: l => i == j && fl == fl' && (match ops[i]?, ops[f]? with | some o, some o' => !isR o.op && !isR o'.op | _, _ => false) && (fs.all fun g => g == f || !(l.map (·.1)).contains g) && treeOK ops fs t l && treeOK ops fs t' ((j, fl') :: l.filter fun y => y.1 != f)
  | _, [] => false
/-! The words of such a tree, for simp. -/

def vTK (P : Program) (N : Nat) (ops : Array Oper) (K : Fr → Heap → Prop) (t : Tree) (fr : Fr) (H : Heap) : Prop := vT P N ops K t fr H
def eTK (P : Program) (N : Nat) (ops : Array Oper) (K : Fr → Heap → Prop) (t : Tree) (fl : Bool) (H : Heap) (fr : Fr) (H' : Heap) : Prop :=
  match fl with
  | true => andK (H <+: H') (vT P N ops K t fr H')
  | false => vT P N ops K t fr H'
def vTo (P : Program) (N : Nat) (ops : Array Oper) (K : Fr → Heap → Prop) (t : Tree) (fl : Bool) (fr : Fr) (H : Heap) (o : Oper) : Prop :=
  match isR o.op with
  | true => vstep P N ops o (vTK P N ops K t) fr H
  | false => vstep P N ops o (eTK P N ops K t fl H) fr H
def vTe (P : Program) (N : Nat) (ops : Array Oper) (K : Fr → Heap → Prop) (t : Tree) (fl : Bool) (fr : Fr) (H : Heap) (o : Oper) : Prop := vstep P N ops o (eTK P N ops K t fl H) fr H

theorem vT_nil (K : Fr → Heap → Prop) (fr : Fr) (H : Heap) : vT P N ops K .nil fr H = K fr H := rfl
theorem eTK_eq (K : Fr → Heap → Prop) (t : Tree) (fl : Bool) (H : Heap) : eK fl H (vT P N ops K t) = eTK P N ops K t fl H := by
  funext f h
  cases fl <;> rfl
theorem vT_one (K : Fr → Heap → Prop) (i : Nat) (fl : Bool) (t : Tree) (fr : Fr) (H : Heap) : vT P N ops K (.one i fl t) fr H = bindO ops[i]? (vTo P N ops K t fl fr H) := by
  simp only [vT]
  cases ops[i]? with
  | none => simp [bindO]
  | some o =>
    simp only [bindO_some, vTo]
    cases isR o.op with
    | true => rfl
    | false => simp only [eTK_eq]
attribute [go_sem] vTK eTK vTo vTe vT_nil vT_one

end
end Go.Ab
end

section
/- Less: the blocks of a list that are not in another one, on both sides. -/
set_option linter.all false
set_option maxRecDepth 20000
set_option maxHeartbeats 8000000
namespace Go.Proofs.Ytdfeoccjllljiaa
open Go.Ab Go.Sort

theorem blocks_lt {H : Heap} {u : Value} {bs : List Bk} (h : BlocksAt H u bs) : ∃ i o, u = lv 3 i o bs.length ∧ At H i o (tri bs) ∧ bs.length ≤ 140737488355328 ∧ (tri bs ≠ [] → i < H.length) := by
  obtain ⟨i, o, h1, h2, h3⟩ := h
  refine ⟨i, o, h1, h2, h3, fun hn => ?_⟩
  rcases h2 with e | e
  · exact absurd e hn
  · obtain ⟨blk, hb, _⟩ := cellsAt_inv e
    exact (List.getElem?_eq_some_iff.1 hb).1

theorem lessTells {H0 H : Heap} {w : Value} {y : List Bk} {bid id : Nat} (hb : Holds H0 bid [w]) (hy : BlocksAt H0 w y) (hp : H0 <+: H) (hid : H0.length ≤ id) : TellsS 144 [] [.pointer (some ⟨bid, 0, none⟩)] (memB y) id H := by
  intro H' x Post hs h
  obtain ⟨i, o, rfl, h1, h2, h3⟩ := blocks_lt hy
  have hbl : bid < H0.length := by obtain ⟨ow, hb⟩ := hb; exact (List.getElem?_eq_some_iff.1 hb).1
  have hb' : Holds H' bid [lv 3 i o y.length] := (hb.pre hp).keepS hs (by omega)
  have hy' : BlocksAt H' (lv 3 i o y.length) y := ⟨i, o, rfl, At.keepS hs (h1.pre hp) (fun hn => by have := h3 hn; omega), h2⟩
  have c1 : cellsAt H' bid 0 1 = some [lv 3 i o y.length] := hb'.cell rfl
  simp only [List.nil_append]
  refine acalls_vc (rs := [.tmp 3]) Try.func144 rfl rfl Try.ntmps144 rfl rfl ?_
  simp (maxSteps := 1000000) [go_sem, Bk.val]
  have hp2 : H' <+: H' ++ [⟨[.int .i64 x.a, .int .i64 x.b, .int .i64 x.c], true, true⟩] := List.prefix_append _ _
  have c2 := cellsAt_mono hp2 c1
  have hx2 := Holds.last H' [.int .i64 x.a, .int .i64 x.b, .int .i64 x.c]
  have c3 : cellsAt (H' ++ [⟨[.int .i64 x.a, .int .i64 x.b, .int .i64 x.c], true, true⟩]) H'.length 0 3 = some [.int .i64 x.a, .int .i64 x.b, .int .i64 x.c] := by simpa using hx2.cells (n := 3) (o := 0) (by simp)
  simp (maxSteps := 1000000) [go_sem, c2, c3]
  refine slicesContainsB_ok (b := x) (hy'.pre hp2) _ ?_
  intro H2 hp3
  simp (maxSteps := 1000000) [go_sem]
  exact h H2 (hp2.trans hp3)

theorem less_oe {H : Heap} {u w : Value} {x y : List Bk} (hu : BlocksAt H u x) (hw : BlocksAt H w y) (hl : x.length ≤ 1048576) (Post : Value → Heap → Prop)
    (h : ∀ H' v, H <+: H' → OE 3 H.length H' v (tri (lessB x y)) (lessB x y).length → Post v H') : ACalls Try.prog 90 [u, w] H Post := by
  refine ACalls.addGhost ?_
  have hpg : H <+: H ++ [⟨[], false, false⟩] := List.prefix_append _ _
  have hg : ghostAt (H ++ [⟨[], false, false⟩]) H.length = true := by simp [ghostAt]
  have hgl : (H ++ [(⟨[], false, false⟩ : Blk)]).length = H.length + 1 := by simp
  generalize H ++ [(⟨[], false, false⟩ : Blk)] = HG at *
  refine ACalls.resH ?_
  refine acalls_vc (rs := [.tmp 4]) Try.func90 rfl rfl Try.ntmps90 rfl rfl ?_
  have hwc : ∃ j q, w = lv 3 j q y.length ∧ At H j q (tri y) ∧ y.length ≤ 140737488355328 := hw
  obtain ⟨wj, wq, ew, _, _⟩ := hwc
  subst ew
  simp (maxSteps := 1000000) [go_sem]
  have hp0 : HG <+: HG ++ [⟨[lv 3 wj wq y.length], true, true⟩] := List.prefix_append _ _
  have hx0 := Holds.last HG [lv 3 wj wq y.length]
  have hl0 : (HG ++ [(⟨[lv 3 wj wq y.length], true, true⟩ : Blk)]).length = HG.length + 1 := by simp
  generalize HG ++ [(⟨[lv 3 wj wq y.length], true, true⟩ : Blk)] = H0 at *
  refine cloneB_oe (hu.pre (hpg.trans hp0)) hl _ ?_
  intro H1 v hp1 hv
  have tells : ∀ (id : Nat), H0.length ≤ id → TellsS 144 [] [.pointer (some ⟨HG.length, 0, none⟩)] (memB y) id H1 := fun id hid => lessTells hx0 (hw.pre (hpg.trans hp0)) hp1 hid
  have keepG : ∀ {H2 : Heap}, HG <+: H2 → ghostAt H2 H.length = true := by
    intro H2 hp
    obtain ⟨b, e1, e2, e3⟩ := ghostAt_inv hg
    have := Same.get (S := fun _ => False) (Same.of_prefix hp) e1 (fun h => h)
    simp [ghostAt, this, e2, e3]
  by_cases hx : x = []
  · subst hx
    have empty : ∀ (H2 : Heap), H1 <+: H2 → ∀ id, H.length ≤ id → (ghostAt H2 id = true ∨ ownAt H2 id = true) → Post (lv 3 id 0 0) H2 := by
      intro H2 hp2 id hid hgo
      exact h H2 _ (hpg.trans (hp0.trans (hp1.trans hp2))) ⟨rfl, .inr (.inr ⟨id, hid, rfl, .inl ⟨rfl, hgo⟩⟩)⟩
    simp (maxSteps := 1000000) [go_sem]
    rcases hv.2 with ⟨_, rfl⟩ | ⟨id, _, hid, rfl, hb⟩ | ⟨id, hid, rfl, hb⟩
    · refine ACalls.up (args' := [lv 3 H.length 0 0, .func (.func 144) #[] #[.pointer (some ⟨HG.length, 0, none⟩)]]) ⟨Up.nil _ _ _ _, Up.refl _ _, trivial⟩ ?_
      refine deleteFunc0_ok (fs := []) (cs := [.pointer (some ⟨HG.length, 0, none⟩)]) _ ?_
      intro H2 hp2
      simp (maxSteps := 1000000) [go_sem]
      exact ⟨_, Up.refl _ _, H2, upH.refl _, empty H2 hp2 H.length (by omega) (.inl (keepG (hp0.trans (hp1.trans hp2))))⟩
    · refine ACalls.up (args' := [lv 3 H.length 0 0, .func (.func 144) #[] #[.pointer (some ⟨HG.length, 0, none⟩)]]) ⟨Up.ex0 _ _ _ _ _ _, Up.refl _ _, trivial⟩ ?_
      refine deleteFunc0_ok (fs := []) (cs := [.pointer (some ⟨HG.length, 0, none⟩)]) _ ?_
      intro H2 hp2
      simp (maxSteps := 1000000) [go_sem]
      exact ⟨_, Up.refl _ _, H2, upH.refl _, empty H2 hp2 H.length (by omega) (.inl (keepG (hp0.trans (hp1.trans hp2))))⟩
    · refine deleteFunc0_ok (fs := []) (cs := [.pointer (some ⟨HG.length, 0, none⟩)]) _ ?_
      intro H2 hp2
      have hgo : ghostAt H1 id = true ∨ ownAt H1 id = true := by
        rcases hb with ⟨_, e⟩ | e
        · exact e
        · right; simp [ownAt, e]
      have hgo2 : ghostAt H2 id = true ∨ ownAt H2 id = true := by
        rcases hgo with e | e
        · left
          obtain ⟨b, e1, e2, e3⟩ := ghostAt_inv e
          have := Same.get (S := fun _ => False) (Same.of_prefix hp2) e1 (fun h => h)
          simp [ghostAt, this, e2, e3]
        · right
          unfold ownAt at e ⊢
          cases hb1 : H1[id]? with
          | none => simp [hb1] at e
          | some b =>
            have := Same.get (S := fun _ => False) (Same.of_prefix hp2) hb1 (fun h => h)
            simpa [this, hb1] using e
      simp (maxSteps := 1000000) [go_sem]
      exact ⟨_, Up.refl _ _, H2, upH.refl _, empty H2 hp2 id (by omega) hgo2⟩
  · have hxl : x.length ≠ 0 := by simpa using hx
    obtain ⟨id, hid, rfl, hb⟩ : ∃ id, H0.length ≤ id ∧ v = lv 3 id 0 x.length ∧ H1[id]? = some ⟨tri x, true, true⟩ := by
      rcases hv.2 with ⟨e, _⟩ | ⟨id, e, _⟩ | ⟨id, hid, e1, ⟨e, _⟩ | e⟩
      · exact absurd e hxl
      · exact absurd e hxl
      · exact absurd e hxl
      · exact ⟨id, hid, e1, e⟩
    simp (maxSteps := 1000000) [go_sem]
    refine deleteFuncB_ok (fs := []) (cs := [.pointer (some ⟨HG.length, 0, none⟩)]) hb rfl hl (tells id hid) _ ?_
    intro H2 rest hs2 hb2
    have hlt := (List.getElem?_eq_some_iff.1 hb2).1
    have hp3 : H <+: H2.set id ⟨tri (lessB x y), true, true⟩ := ((Same.of_prefix (hpg.trans (hp0.trans hp1))).trans (hs2.trans same_set)).prefix (by have := hpg.length_le; intro j hj e; omega)
    have fin := h _ (lv 3 id 0 (lessB x y).length) hp3 ⟨by rw [tri_length], .inr (.inr ⟨id, by omega, rfl, .inr (List.getElem?_set_self hlt)⟩)⟩
    simp (maxSteps := 1000000) [go_sem]
    exact ⟨_, Up.refl _ _, _, upH.cut hb2, fin⟩

theorem less_ok {H : Heap} {u w : Value} {x y : List Bk} (hu : BlocksAt H u x) (hw : BlocksAt H w y) (hl : x.length ≤ 1048576) (Post : Value → Heap → Prop)
    (h : ∀ H' v, H <+: H' → BlocksIn H.length H'.length H' v (lessB x y) → Post v H') : ACalls Try.prog 90 [u, w] H Post := by
  refine ACalls.res (less_oe hu hw hl _ fun H' v hp he => ?_)
  have hll : (lessB x y).length ≤ x.length := List.length_filter_le _ _
  obtain ⟨w, hup, hw⟩ := he.blocks (by omega)
  exact ⟨w, hup, h H' w hp hw⟩

theorem l04Less_oe {H : Heap} {u w : Value} {x y : List Bk} (hu : BlocksAt H u x) (hw : BlocksAt H w y) (hl : x.length ≤ 1048576) (Post : Value → Heap → Prop)
    (h : ∀ H' id, H <+: H' → H.length ≤ id → OL 3 H' id (tri (lessB x y)) (lessB x y).length → Post (lv 3 id 0 (lessB x y).length) H') : ACalls Try.prog 88 [u, w] H Post := by
  obtain ⟨i, o, rfl, h1, h2⟩ := hu
  refine ACalls.res ?_
  refine acalls_vc (rs := [.tmp 4]) Try.func88 rfl rfl Try.ntmps88 rfl rfl ?_
  simp (maxSteps := 1000000) [go_sem]
  have ow := hw.one
  refine AWp.loopVc (St := Nat × Nat) (fun s => [(0, lv 3 i o x.length), (1, w), (5, lv 3 s.2 0 (lessB (x.take s.1) y).length), (6, .int .i64 s.1)])
    (fun s H' => s.1 ≤ x.length ∧ Bl 3 H H' s.2 (tri (lessB (x.take s.1) y)) (lessB (x.take s.1) y).length) (fun s => x.length - s.1) (0, H.length) ?_ ?_ ?_
  · simp [upF, Fr.get, Up.refl, lessB, Up.ex0]
  · exact ⟨by simp, by simpa [lessB, tri] using Bl.nil 3 H⟩
  · rintro K ⟨s, id⟩ H' ⟨hs, hbl⟩ hK
    simp only at hs hbl
    by_cases hlt : s < x.length
    · have hw_s : IntKind.i64.wrap ((s : Int) + 1) = (s : Int) + 1 := i64w (by omega) (by omega)
      have c0 : ∀ {H2 : Heap}, H <+: H2 → cellsAt H2 i (o + s * 3) 3 = some x[s].cells := fun hp => (h1.pre hp).bk (List.getElem?_eq_getElem hlt)
      have htk := List.take_succ_eq_append_getElem hlt
      have c1 := c0 hbl.1
      generalize x[s] = b at *
      simp only [Bk.cells] at c1 c0
      have hll : (lessB (x.take s) y).length ≤ s := Nat.le_trans (List.length_filter_le _ _) (by simp; omega)
      simp (maxSteps := 1000000) [go_sem, hlt, c1]
      refine l04Member_ok (b := b) (hw.pre hbl.1) _ ?_
      intro H2 hp2
      have hbl2 := hbl.pre hp2
      have c2 := c0 (hbl.1.trans hp2)
      cases hm : memB y b with
      | true =>
        have e : lessB (x.take (s + 1)) y = lessB (x.take s) y := by rw [htk]; simp [lessB, hm]
        simp (maxSteps := 1000000) [go_sem, hw_s]
        refine hK (s + 1, id) _ _ (by simp only; omega) ?_ ⟨by simp only; omega, by simp only; rw [e]; exact hbl2⟩
        simp only [e]
        simp [upF, Fr.get, Up.refl]
      | false =>
        have e : lessB (x.take (s + 1)) y = lessB (x.take s) y ++ [b] := by rw [htk]; simp [lessB, hm]
        obtain ⟨hsrc, H4, hap, hbl4⟩ := hbl2.push (xs := [.int .i64 b.a, .int .i64 b.b, .int .i64 b.c]) (by omega) rfl
        have e2 : tri (lessB (x.take s) y) ++ [.int .i64 b.a, .int .i64 b.b, .int .i64 b.c] = tri (lessB (x.take (s + 1)) y) := by rw [e, tri_append]; rfl
        rw [e2] at hbl4
        have e3 : (lessB (x.take (s + 1)) y).length = (lessB (x.take s) y).length + 1 := by rw [e]; simp
        generalize (lessB (x.take s) y).length = n at *
        simp (maxSteps := 1000000) [go_sem, hlt, c2, hsrc, hap, hw_s]
        refine andK_intro (by omega) (hK (s + 1, H2.length + 1) _ _ (by simp only; omega) ?_ ⟨by simp only; omega, by simp only; rw [e3]; exact hbl4⟩)
        simp only [e3]
        simp [upF, Fr.get, Up.refl]
    · have : s = x.length := by omega
      subst this
      rw [List.take_length] at hbl
      simp (maxSteps := 1000000) [go_sem]
      exact ⟨_, Up.refl _ _, h H' id hbl.1 hbl.2.2 hbl.2.1⟩

theorem l04Less_ok {H : Heap} {u w : Value} {x y : List Bk} (hu : BlocksAt H u x) (hw : BlocksAt H w y) (hl : x.length ≤ 1048576) (Post : Value → Heap → Prop)
    (h : ∀ H' v, H <+: H' → BlocksIn H.length H'.length H' v (lessB x y) → Post v H') : ACalls Try.prog 88 [u, w] H Post := by
  have hll : (lessB x y).length ≤ x.length := List.length_filter_le _ _
  refine l04Less_oe hu hw hl _ fun H' id hp hid ho => h H' _ hp ⟨id, ⟨rfl, ?_, by omega⟩, fun _ => ⟨hid, ho.lt⟩⟩
  rcases ho.2 with ⟨e, _⟩ | e
  · left; exact List.eq_nil_of_length_eq_zero e
  · right; exact e

end Go.Proofs.Ytdfeoccjllljiaa
end

section
/- The blocks all pairs of which are in other blocks: both sides (partner, l04Inner). -/
set_option linter.all false
set_option maxRecDepth 20000
set_option maxHeartbeats 8000000
namespace Go.Proofs.Ytdfeoccjllljiaa
open Go.Ab Go.Sort

/-- All pairs of a block are in these blocks. -/
def coverB (o : List Bk) (b : Bk) : Bool := decide ((b.a, b.b) ∈ pairsB o) && (decide ((b.a, b.c) ∈ pairsB o) && decide ((b.b, b.c) ∈ pairsB o))
def innerB (i o : List Bk) : List Bk := i.filter (coverB o)
theorem innerB_le (i o : List Bk) : (innerB i o).length ≤ i.length := List.length_filter_le _ _

theorem third_pair {o : List Bk} (hg : ∀ x ∈ o, good 15 x = true) {p q : Int} (hpq : p < q) : decide (third o p q ≠ -1) = decide ((p, q) ∈ pairsB o) := by
  have h := third_neg hg (p := p) (q := q) (by omega)
  apply decide_eq_decide.2
  rw [Ne, h]
  constructor
  · intro hn
    obtain ⟨x, hx⟩ := Classical.not_forall.1 hn
    obtain ⟨hx, hx2⟩ := Classical.not_imp.1 hx
    have hx2 := Classical.not_not.1 hx2
    have hgx := hg x hx
    rw [good_iff] at hgx
    refine mem_pairsB.2 ⟨x, hx, ?_⟩
    simp only [Bk.has, Bool.or_eq_true, beq_iff_eq, decide_eq_true_eq] at hx2
    simp only [prs, List.mem_cons, List.not_mem_nil, or_false, Prod.mk.injEq]
    omega
  · intro hm hall
    obtain ⟨x, hx, hp⟩ := mem_pairsB.1 hm
    exact hall x hx (prs_has hp)

theorem partner_ok {H : Heap} {u w : Value} {o i : List Bk} (hu : BlocksAt H u o) (hw : BlocksAt H w i) (hg : ∀ x ∈ o, good 15 x = true) (hF : Fits o) (hgi : ∀ x ∈ i, good 15 x = true) (hl : i.length ≤ 1048576) (hlo : o.length ≤ 1048576) (Post : Value → Heap → Prop)
    (h : ∀ H' v, H <+: H' → BlocksIn H.length H'.length H' v (innerB i o) → Post (.tuple #[v, .bool (decide ((innerB i o).length = o.length))]) H') : ACalls Try.prog 173 [u, w] H Post := by
  obtain ⟨j, q, rfl, h1, h2⟩ := hw
  obtain ⟨j0, q0, rfl, g1, g2⟩ := hu
  refine ACalls.res ?_
  refine acalls_vc (rs := [.tmp 4, .tmp 5]) Try.func173 rfl rfl Try.ntmps173 rfl rfl ?_
  simp (maxSteps := 1000000) [go_sem]
  refine gridOf_ok ⟨j0, q0, rfl, g1, g2⟩ hg _ (fun H' _ hn => absurd hF hn) ?_
  intro H1 gid gs hp1 _ hga hgo _
  simp (maxSteps := 1000000) [go_sem]
  refine AWp.addGhost ?_
  refine AWp.loopVc (St := Nat × Nat) (fun s => [(0, lv 3 j0 q0 o.length), (6, .pointer (some ⟨gid, 0, none⟩)), (8, lv 3 s.2 0 (innerB (i.take s.1) o).length), (16, lv 3 j q i.length), (17, .int .i64 i.length), (18, .int .i64 s.1)])
    (fun s H' => s.1 ≤ i.length ∧ Bl 3 H1 H' s.2 (tri (innerB (i.take s.1) o)) (innerB (i.take s.1) o).length) (fun s => i.length - s.1) (0, H1.length) ?_ ?_ ?_
  · simp [upF, Fr.get, Up.refl, innerB, Up.nil]
  · exact ⟨by simp, by simpa [innerB, tri] using Bl.ghost 3 H1⟩
  · rintro K ⟨s, id⟩ H' ⟨hs, hbl⟩ hK
    simp only at hs hbl
    by_cases hlt : s < i.length
    · have hw_s : IntKind.i64.wrap ((s : Int) + 1) = (s : Int) + 1 := i64w (by omega) (by omega)
      have hbs : i[s]? = some i[s] := List.getElem?_eq_getElem hlt
      have c1 := (h1.pre (hp1.trans hbl.1)).bk hbs
      have htk := List.take_succ_eq_append_getElem hlt
      obtain ⟨a, b, c, hb, hab, hbc, hc15⟩ := good_nat (hgi _ (List.mem_of_getElem? hbs)) (Int.le_refl _)
      rw [hb] at c1 htk
      simp only [Bk.cells] at c1
      have hll : (innerB (i.take s) o).length ≤ s := Nat.le_trans (innerB_le _ _) (by simp; omega)
      have hp2 : H' <+: H' ++ [⟨[.int .i64 (a : Int), .int .i64 (b : Int), .int .i64 (c : Int)], true, true⟩] := List.prefix_append _ _
      have hbl2 := hbl.pre hp2
      have hga2 := (hga.keep hbl.1).keep hp2
      have hx2 := Holds.last H' [.int .i64 (a : Int), .int .i64 (b : Int), .int .i64 (c : Int)]
      obtain ⟨e0, e1, e2, e3⟩ := (show Holds (H' ++ [⟨[.int .i64 (a : Int), .int .i64 (b : Int), .int .i64 (c : Int)], true, true⟩]) H'.length (Bk.cells ⟨a, b, c⟩) from hx2).bk
      have l1 := hga2.load (k := a * 15 + b) (by omega)
      have l2 := hga2.load (k := a * 15 + c) (by omega)
      have l3 := hga2.load (k := b * 15 + c) (by omega)
      have n1 : gs.getD (a * 15 + b) 0 = third o a b := by have := hgo.2 a b (by omega) (by omega); rw [if_neg (by omega)] at this; exact this
      have n2 : gs.getD (a * 15 + c) 0 = third o a c := by have := hgo.2 a c (by omega) (by omega); rw [if_neg (by omega)] at this; exact this
      have n3 : gs.getD (b * 15 + c) 0 = third o b c := by have := hgo.2 b c (by omega) (by omega); rw [if_neg (by omega)] at this; exact this
      rw [n1] at l1; rw [n2] at l2; rw [n3] at l3
      have ecov : coverB o ⟨a, b, c⟩ = (decide (third o a b ≠ -1) && (decide (third o a c ≠ -1) && decide (third o b c ≠ -1))) := by
        rw [third_pair hg (by omega), third_pair hg (by omega), third_pair hg (by omega)]; rfl
      have a15 : a < 15 := by omega
      have b15 : b < 15 := by omega
      have c15 : c < 15 := by omega
      have a15' : (a : Int) < 15 := by omega
      have b15' : (b : Int) < 15 := by omega
      have c15' : (c : Int) < 15 := by omega
      generalize third o a b = t1 at *
      generalize third o a c = t2 at *
      generalize third o b c = t3 at *
      have no : coverB o ⟨a, b, c⟩ = false → innerB (i.take (s + 1)) o = innerB (i.take s) o := by
        intro hc; rw [htk]; simp [innerB, hc]
      simp (maxSteps := 1000000) [go_sem, hlt, c1]
      generalize H' ++ [(⟨[.int .i64 (a : Int), .int .i64 (b : Int), .int .i64 (c : Int)], true, true⟩ : Blk)] = H2 at *
      have yes : coverB o ⟨a, b, c⟩ = true → ∃ H4, innerB (i.take (s + 1)) o = innerB (i.take s) o ++ [⟨a, b, c⟩] ∧
          cellsAt (H2 ++ [⟨[.int .i64 (a : Int), .int .i64 (b : Int), .int .i64 (c : Int)], true, true⟩]) H2.length 0 3 = some [.int .i64 (a : Int), .int .i64 (b : Int), .int .i64 (c : Int)] ∧
          appendH (H2 ++ [⟨[.int .i64 (a : Int), .int .i64 (b : Int), .int .i64 (c : Int)], true, true⟩]) 3 (lv 3 id 0 (innerB (i.take s) o).length) 1 [.int .i64 (a : Int), .int .i64 (b : Int), .int .i64 (c : Int)] = some (lv 3 (H2.length + 1) 0 ((innerB (i.take s) o).length + 1), H4) ∧
          Bl 3 H1 H4 (H2.length + 1) (tri (innerB (i.take (s + 1)) o)) (innerB (i.take (s + 1)) o).length := by
        intro hc
        have e : innerB (i.take (s + 1)) o = innerB (i.take s) o ++ [⟨a, b, c⟩] := by rw [htk]; simp [innerB, hc]
        obtain ⟨hsrc, H4, hap, hbl4⟩ := hbl2.push (xs := [.int .i64 (a : Int), .int .i64 (b : Int), .int .i64 (c : Int)]) (by omega) rfl
        refine ⟨H4, e, hsrc, hap, ?_⟩
        rw [e, tri_append, List.length_append]
        exact hbl4
      refine AWp.draw mixed [(0, false), (1, false), (2, false), (3, false), (4, false), (5, false), (6, false), (7, false), (8, false), (9, false), (10, false), (11, false), (12, false), (13, false), (14, false), (15, false), (16, false), (17, false), (18, false), (19, false), (20, false), (21, false), (22, false), (23, false), (24, false), (25, false), (26, false), (27, false), (28, false), (29, false), (30, false), (31, false), (32, false), (33, false)] (by kernel_rfl) ?_
      have stay : coverB o ⟨a, b, c⟩ = false → ∀ fr, upF H2 [(0, lv 3 j0 q0 o.length), (6, .pointer (some ⟨gid, 0, none⟩)), (8, lv 3 id 0 (innerB (i.take s) o).length), (16, lv 3 j q i.length), (17, .int .i64 i.length), (18, .int .i64 ((s + 1 : Nat) : Int))] fr → K fr H2 := by
        intro hc fr hup
        have e := no hc
        exact hK (s + 1, id) _ _ (by simp only; omega) (by simp only [e]; exact hup) ⟨by simp only; omega, by simp only; rw [e]; exact hbl2⟩
      by_cases ht1 : t1 = -1
      · simp (maxSteps := 1000000) [go_sem, undef, e0, e1, e2, e3, l1, l2, l3, a15, b15, c15, a15', b15', c15', ht1, hw_s]
        exact stay (by rw [ecov]; simp [ht1]) _ (by simp [upF, Fr.get, Up.refl])
      · have ht1' : (t1 != -1) = true := by simpa using ht1
        by_cases ht2 : t2 = -1
        · simp (maxSteps := 1000000) [go_sem, undef, e0, e1, e2, e3, l1, l2, l3, a15, b15, c15, a15', b15', c15', ht1, ht1', ht2, hw_s]
          exact stay (by rw [ecov]; simp [ht2]) _ (by simp [upF, Fr.get, Up.refl])
        · have ht2' : (t2 != -1) = true := by simpa using ht2
          by_cases ht3 : t3 = -1
          · simp (maxSteps := 1000000) [go_sem, undef, e0, e1, e2, e3, l1, l2, l3, a15, b15, c15, a15', b15', c15', ht1, ht1', ht2, ht2', ht3, hw_s]
            exact stay (by rw [ecov]; simp [ht3]) _ (by simp [upF, Fr.get, Up.refl])
          · have ht3' : (t3 != -1) = true := by simpa using ht3
            obtain ⟨H4, e, q1, q2, q3⟩ := yes (by rw [ecov]; simp [ht1, ht2, ht3])
            have el : (innerB (i.take (s + 1)) o).length = (innerB (i.take s) o).length + 1 := by rw [e]; simp
            generalize (innerB (i.take s) o).length = n at *
            simp (maxSteps := 1000000) [go_sem, undef, e0, e1, e2, e3, l1, l2, l3, a15, b15, c15, a15', b15', c15', ht1, ht1', ht2, ht2', ht3, ht3', q1, q2, hw_s]
            refine andK_intro (by omega) (hK (s + 1, H2.length + 1) _ _ (by simp only; omega) ?_ ⟨by simp only; omega, q3⟩)
            simp only [el]
            simp [upF, Fr.get, Up.refl]
    · have : s = i.length := by omega
      subst this
      rw [List.take_length] at hbl
      have hll := innerB_le i o
      have hle := hp1.length_le
      have fin := h H' (lv 3 id 0 (innerB i o).length) (hp1.trans hbl.1) (by
        refine ⟨id, ⟨rfl, ?_, by omega⟩, fun _ => ⟨by have := hbl.2.2; omega, hbl.2.1.lt⟩⟩
        rcases hbl.2.1.2 with ⟨e, _⟩ | e
        · left; exact List.eq_nil_of_length_eq_zero e
        · right; exact e)
      have ed : (((innerB i o).length : Int) == (o.length : Int)) = decide ((innerB i o).length = o.length) := by
        by_cases e : (innerB i o).length = o.length <;> simp [e]; omega
      simp (maxSteps := 1000000) [go_sem, ed]
      first | exact ⟨_, Up.refl _ _, fin⟩ | (rw [ed]; exact ⟨_, Up.refl _ _, fin⟩)

end Go.Proofs.Ytdfeoccjllljiaa
end

section
/- The blocks all pairs of which are in other blocks: the specification's l04Inner. -/
set_option linter.all false
set_option maxRecDepth 20000
set_option maxHeartbeats 8000000
namespace Go.Proofs.Ytdfeoccjllljiaa
open Go.Ab Go.Sort

theorem code_mem {o : List Bk} (hg : ∀ x ∈ o, good 15 x = true) {x y : Nat} (hxy : x < y) (hy : y < 15) : decide (x * 16 + y ∈ codesB o) = decide (((x : Int), (y : Int)) ∈ pairsB o) := by
  apply decide_eq_decide.2
  unfold codesB
  rw [List.mem_map]
  have e : codeP ((x : Int), (y : Int)) = x * 16 + y := by simp only [codeP]; omega
  constructor
  · rintro ⟨p, hp, hc⟩
    have := code_inj (pairs_lt hg hp) (q := ((x : Int), (y : Int))) (by simp only; omega) (by rw [hc, e])
    rwa [this] at hp
  · exact fun h => ⟨_, h, e⟩

theorem l04Inner_ok {H : Heap} {u w : Value} {o i : List Bk} (hu : BlocksAt H u o) (hw : BlocksAt H w i) (hg : ∀ x ∈ o, good 15 x = true) (hgi : ∀ x ∈ i, good 15 x = true) (hl : i.length ≤ 1048576) (hlo : o.length ≤ 1048576) (Post : Value → Heap → Prop)
    (h : ∀ H' v, H <+: H' → BlocksIn H.length H'.length H' v (innerB i o) → Post v H') : ACalls Try.prog 134 [w, u] H Post := by
  obtain ⟨j, q, rfl, h1, h2⟩ := hw
  refine ACalls.res ?_
  refine acalls_vc (rs := [.tmp 4]) Try.func134 rfl rfl Try.ntmps134 rfl rfl ?_
  simp (maxSteps := 1000000) [go_sem]
  refine l04Pairs_ok hu hg hlo _ ?_
  intro H1 pid hp1 hb1
  simp (maxSteps := 1000000) [go_sem]
  have bl0 := Bl.nil 3 H1
  generalize H1 ++ [(⟨[], true, true⟩ : Blk)] = HX at bl0 ⊢
  refine AWp.loopVc (St := Nat × Nat) (fun s => [(0, lv 3 j q i.length), (5, .slice (some ⟨pid, 0, none⟩) 256 256), (6, lv 3 s.2 0 (innerB (i.take s.1) o).length), (7, .int .i64 s.1)])
    (fun s H' => s.1 ≤ i.length ∧ Bl 3 H1 H' s.2 (tri (innerB (i.take s.1) o)) (innerB (i.take s.1) o).length) (fun s => i.length - s.1) (0, H1.length) ?_ ?_ ?_
  · simp [upF, Fr.get, Up.refl, innerB, Up.ex0]
  · exact ⟨by simp, by simpa [innerB, tri] using bl0⟩
  · rintro K ⟨s, id⟩ H' ⟨hs, hbl⟩ hK
    simp only at hs hbl
    by_cases hlt : s < i.length
    · have hw_s : IntKind.i64.wrap ((s : Int) + 1) = (s : Int) + 1 := i64w (by omega) (by omega)
      have hbs : i[s]? = some i[s] := List.getElem?_eq_getElem hlt
      have c1 := (h1.pre (hp1.trans hbl.1)).bk hbs
      have htk := List.take_succ_eq_append_getElem hlt
      obtain ⟨a, b, c, hb, hab, hbc, hc15⟩ := good_nat (hgi _ (List.mem_of_getElem? hbs)) (Int.le_refl _)
      rw [hb] at c1 htk
      simp only [Bk.cells] at c1
      have hll : (innerB (i.take s) o).length ≤ s := Nat.le_trans (innerB_le _ _) (by simp; omega)
      have hp2 : H' <+: H' ++ [⟨[.int .i64 (a : Int), .int .i64 (b : Int), .int .i64 (c : Int)], true, true⟩] := List.prefix_append _ _
      have hbl2 := hbl.pre hp2
      have hpb : (H' ++ [(⟨[.int .i64 (a : Int), .int .i64 (b : Int), .int .i64 (c : Int)], true, true⟩ : Blk)])[pid]? = some ⟨metC 256 (codesB o), true, true⟩ := Same.get (S := fun _ => False) (Same.of_prefix (hbl.1.trans hp2)) hb1 (fun h => h)
      have hx2 := Holds.last H' [.int .i64 (a : Int), .int .i64 (b : Int), .int .i64 (c : Int)]
      obtain ⟨e0, e1, e2, e3⟩ := (show Holds (H' ++ [⟨[.int .i64 (a : Int), .int .i64 (b : Int), .int .i64 (c : Int)], true, true⟩]) H'.length (Bk.cells ⟨a, b, c⟩) from hx2).bk
      simp (maxSteps := 1000000) [go_sem, hlt, c1]
      generalize H' ++ [(⟨[.int .i64 (a : Int), .int .i64 (b : Int), .int .i64 (c : Int)], true, true⟩ : Blk)] = H2 at *
      have ld : ∀ x y : Nat, x < y → y < 15 → cellsAt H2 pid (x * 16 + y) 1 = some [.bool (decide (((x : Int), (y : Int)) ∈ pairsB o))] := by
        intro x y hxy hy
        rw [← code_mem hg hxy hy]
        exact Holds.cell (H := H2) ⟨true, hpb⟩ (metC_get (by omega))
      have l1 := ld a b hab (by omega)
      have l2 := ld a c (by omega) hc15
      have l3 := ld b c hbc hc15
      have ecov : coverB o ⟨a, b, c⟩ = (decide (((a : Int), (b : Int)) ∈ pairsB o) && (decide (((a : Int), (c : Int)) ∈ pairsB o) && decide (((b : Int), (c : Int)) ∈ pairsB o))) := rfl
      have b1 : a * 16 + b < 256 := by omega
      have b2 : a * 16 + c < 256 := by omega
      have b3 : b * 16 + c < 256 := by omega
      have b1' : ((a * 16 + b : Nat) : Int) < 256 := by omega
      have b2' : ((a * 16 + c : Nat) : Int) < 256 := by omega
      have b3' : ((b * 16 + c : Nat) : Int) < 256 := by omega
      have p1 := fun Post => l04Pair_ok (H := H2) (x := a) (y := b) hab (by omega) Post
      have p2 := fun Post => l04Pair_ok (H := H2) (x := a) (y := c) (by omega) hc15 Post
      have p3 := fun Post => l04Pair_ok (H := H2) (x := b) (y := c) hbc hc15 Post
      generalize decide (((a : Int), (b : Int)) ∈ pairsB o) = t1 at *
      generalize decide (((a : Int), (c : Int)) ∈ pairsB o) = t2 at *
      generalize decide (((b : Int), (c : Int)) ∈ pairsB o) = t3 at *
      generalize a * 16 + b = n1 at *
      generalize a * 16 + c = n2 at *
      generalize b * 16 + c = n3 at *
      have yes : coverB o ⟨a, b, c⟩ = true → ∃ H4, innerB (i.take (s + 1)) o = innerB (i.take s) o ++ [⟨a, b, c⟩] ∧
          cellsAt (H2 ++ [⟨[.int .i64 (a : Int), .int .i64 (b : Int), .int .i64 (c : Int)], true, true⟩]) H2.length 0 3 = some [.int .i64 (a : Int), .int .i64 (b : Int), .int .i64 (c : Int)] ∧
          appendH (H2 ++ [⟨[.int .i64 (a : Int), .int .i64 (b : Int), .int .i64 (c : Int)], true, true⟩]) 3 (lv 3 id 0 (innerB (i.take s) o).length) 1 [.int .i64 (a : Int), .int .i64 (b : Int), .int .i64 (c : Int)] = some (lv 3 (H2.length + 1) 0 ((innerB (i.take s) o).length + 1), H4) ∧
          Bl 3 H1 H4 (H2.length + 1) (tri (innerB (i.take (s + 1)) o)) (innerB (i.take (s + 1)) o).length := by
        intro hc
        have e : innerB (i.take (s + 1)) o = innerB (i.take s) o ++ [⟨a, b, c⟩] := by rw [htk]; simp [innerB, hc]
        obtain ⟨hsrc, H4, hap, hbl4⟩ := hbl2.push (xs := [.int .i64 (a : Int), .int .i64 (b : Int), .int .i64 (c : Int)]) (by omega) rfl
        refine ⟨H4, e, hsrc, hap, ?_⟩
        rw [e, tri_append, List.length_append]
        exact hbl4
      have stay : coverB o ⟨a, b, c⟩ = false → ∀ fr, upF H2 [(0, lv 3 j q i.length), (5, .slice (some ⟨pid, 0, none⟩) 256 256), (6, lv 3 id 0 (innerB (i.take s) o).length), (7, .int .i64 ((s + 1 : Nat) : Int))] fr → K fr H2 := by
        intro hc fr hup
        have e : innerB (i.take (s + 1)) o = innerB (i.take s) o := by rw [htk]; simp [innerB, hc]
        exact hK (s + 1, id) _ _ (by simp only; omega) (by simp only [e]; exact hup) ⟨by simp only; omega, by simp only; rw [e]; exact hbl2⟩
      try simp (maxSteps := 1000000) [go_sem, e0, e1, e2, e3]
      refine p1 _ ?_
      cases t1 with
      | false =>
        simp (maxSteps := 1000000) [go_sem, undef, e0, e1, e2, e3, b1, b1', l1, hw_s]
        exact stay (by rw [ecov]; rfl) _ (by simp [upF, Fr.get, Up.refl])
      | true =>
        simp (maxSteps := 1000000) [go_sem, undef, e0, e1, e2, e3, b1, b1', l1, hw_s]
        refine p2 _ ?_
        cases t2 with
        | false =>
          simp (maxSteps := 1000000) [go_sem, undef, e0, e1, e2, e3, b2, b2', l2, hw_s]
          exact stay (by rw [ecov]; rfl) _ (by simp [upF, Fr.get, Up.refl])
        | true =>
          simp (maxSteps := 1000000) [go_sem, undef, e0, e1, e2, e3, b2, b2', l2, hw_s]
          refine p3 _ ?_
          cases t3 with
          | false =>
            simp (maxSteps := 1000000) [go_sem, undef, e0, e1, e2, e3, b3, b3', l3, hw_s]
            exact stay (by rw [ecov]; rfl) _ (by simp [upF, Fr.get, Up.refl])
          | true =>
            obtain ⟨H4, e, q1, q2, q3⟩ := yes (by rw [ecov]; rfl)
            have el : (innerB (i.take (s + 1)) o).length = (innerB (i.take s) o).length + 1 := by rw [e]; simp
            generalize (innerB (i.take s) o).length = n at *
            simp (maxSteps := 1000000) [go_sem, undef, e0, e1, e2, e3, b3, b3', l3, q1, q2, hw_s]
            refine andK_intro (by omega) (hK (s + 1, H2.length + 1) _ _ (by simp only; omega) ?_ ⟨by simp only; omega, q3⟩)
            simp only [el]
            simp [upF, Fr.get, Up.refl]
    · have : s = i.length := by omega
      subst this
      rw [List.take_length] at hbl
      have hll := innerB_le i o
      have hle := hp1.length_le
      have fin := h H' (lv 3 id 0 (innerB i o).length) (hp1.trans hbl.1) (by
        refine ⟨id, ⟨rfl, ?_, by omega⟩, fun _ => ⟨by have := hbl.2.2; omega, hbl.2.1.lt⟩⟩
        rcases hbl.2.1.2 with ⟨e, _⟩ | e
        · left; exact List.eq_nil_of_length_eq_zero e
        · right; exact e)
      simp (maxSteps := 1000000) [go_sem]
      exact ⟨_, Up.refl _ _, fin⟩

end Go.Proofs.Ytdfeoccjllljiaa
end

section
/- Subsets of a list in the order of places, and the first good one. Plain Lean. -/
set_option linter.all false
namespace Go.Proofs.Ytdfeoccjllljiaa
open Go.Ab

/-- All lists of k more elements than some, in the order of places. -/
def subs : Nat → List Bk → List Bk → List (List Bk)
  | 0, _, now => [now]
  | k + 1, rest, now => (List.range (rest.length - k)).flatMap fun i => subs k (rest.drop (i + 1)) (now ++ (rest[i]?).toList)
theorem find_none {α : Type} {p : α → Bool} {F : Nat → List α} {n : Nat} (h : ∀ i, i < n → (F i).find? p = none) : ((List.range n).flatMap F).find? p = none := by
  rw [List.find?_eq_none]
  intro x hx
  obtain ⟨i, hi, hxi⟩ := List.mem_flatMap.1 hx
  exact List.find?_eq_none.1 (h i (List.mem_range.1 hi)) x hxi
theorem find_some {α : Type} {p : α → Bool} {F : Nat → List α} {x : α} {s : Nat} (h : ∀ i, i < s → (F i).find? p = none) (hs : (F s).find? p = some x) : ∀ {n : Nat}, s < n → ((List.range n).flatMap F).find? p = some x
  | 0, hn => by omega
  | n + 1, hn => by
    rw [List.range_succ, List.flatMap_append, List.find?_append]
    by_cases e : s = n
    · subst e
      rw [find_none h]
      simp [hs]
    · rw [find_some h hs (n := n) (by omega)]; rfl
/-- A set of blocks that has a partner in others. -/
def okS (ins s : List Bk) : Bool := decide ((innerB ins s).length = s.length)
/-- The first set that has a partner. -/
def findP (ins : List Bk) (k : Nat) (rest now : List Bk) : Option (List Bk) := (subs k rest now).find? (okS ins)
theorem subs_sub : ∀ (k : Nat) (rest now s : List Bk), s ∈ subs k rest now → ∃ t, s = now ++ t ∧ t.Sublist rest ∧ t.length = k
  | 0, rest, now, s, h => by
    simp only [subs, List.mem_singleton] at h
    exact ⟨[], by simp [h], List.nil_sublist _, rfl⟩
  | k + 1, rest, now, s, h => by
    simp only [subs, List.mem_flatMap, List.mem_range] at h
    obtain ⟨i, hi, h⟩ := h
    have hl : i < rest.length := by omega
    obtain ⟨t, h1, h2, h3⟩ := subs_sub k _ _ s h
    rw [List.getElem?_eq_getElem hl] at h1
    refine ⟨rest[i] :: t, by simp [h1], ?_, by simp [h3]⟩
    have e : rest.drop i = rest[i] :: rest.drop (i + 1) := List.drop_eq_getElem_cons hl
    exact (List.Sublist.cons_cons rest[i] h2).trans (e ▸ List.drop_sublist i rest)
theorem Fits.sub {l m : List Bk} (h : Fits l) (hs : m.Sublist l) : Fits m := by
  have key : ∀ l : List Bk, Fits l ↔ l.Pairwise (fun x y => common y x ≤ 1) := by
    intro l
    rw [List.pairwise_iff_getElem]
    constructor
    · intro h i j hi hj hij
      exact h j i _ _ hij (List.getElem?_eq_getElem hj) (List.getElem?_eq_getElem hi)
    · intro h a b x y hab hx hy
      obtain ⟨h1, rfl⟩ := List.getElem?_eq_some_iff.1 hx
      obtain ⟨h2, rfl⟩ := List.getElem?_eq_some_iff.1 hy
      exact h b a h2 h1 hab
  exact (key m).2 (((key l).1 h).sublist hs)

end Go.Proofs.Ytdfeoccjllljiaa
end

section
/- The same with blocks from L on that are this region's own: they may be changed in between. It holds for every program. -/
set_option linter.all false
namespace Go.Ab
open Go.RowKit (Below)

section
variable {P : Program} {N : Nat} {ops : Array Oper} {L : Nat} {K : Fr → Heap → Prop} {fs : List Nat}

/-- With both ways at each effect. -/
def vFX (P : Program) (N : Nat) (ops : Array Oper) (L : Nat) (fs : List Nat) (K : Fr → Heap → Prop) : Nat → List (Nat × Bool) → Fr → Heap → Prop
  | _, [], fr, H => K fr H
  | 0, _ :: _, _, _ => False
  | n + 1, (i, fl) :: l, fr, H => match ops[i]? with
    | none => False
    | some o => match isR o.op with
      | true => offL L o.op fr ∧ vstep P N ops o (vFX P N ops L fs K n l) fr H
      | false => vstep P N ops o (eKX L fl H (vFX P N ops L fs K n l)) fr H ∧
          ∀ f, f ∈ fs → f ∈ l.map (·.1) → ∃ o', ops[f]? = some o' ∧ isR o'.op = false ∧ vstep P N ops o' (eKX L true H (vFX P N ops L fs K n ((i, fl) :: l.filter fun y => y.1 != f))) fr H

theorem eKX_closed {fl : Bool} {H : Heap} {T : Fr → Heap → Prop} (hT : Closed T) : Closed (eKX L fl H T) := by
  intro f g h' hfg hk
  cases fl with
  | true => exact ⟨hk.1, hT _ _ _ hfg hk.2⟩
  | false => exact hT _ _ _ hfg hk
theorem vFX_closed (hK : Closed K) : ∀ n l, Closed (vFX P N ops L fs K n l)
  | 0, [] => hK
  | n + 1, [] => hK
  | 0, _ :: _ => fun _ _ _ _ h => h
  | n + 1, (i, fl) :: l => by
    intro f g H hfg h
    simp only [vFX] at h ⊢
    split at h
    · exact h.elim
    · rename_i o ho
      cases hR : isR o.op with
      | true => simp only [hR] at h ⊢; exact ⟨offL_congr (fun x => feq.ev hfg x) h.1, vstep_closed (vFX_closed hK n l) hfg h.2⟩
      | false =>
        simp only [hR] at h ⊢
        refine ⟨vstep_closed (eKX_closed (vFX_closed hK n l)) hfg h.1, fun f hf hm => ?_⟩
        obtain ⟨o', h1, h2, h3⟩ := h.2 f hf hm
        exact ⟨o', h1, h2, vstep_closed (eKX_closed (vFX_closed hK n _)) hfg h3⟩

/-- Reads one after the other. -/
def seqRX (P : Program) (N : Nat) (ops : Array Oper) (L : Nat) (T : Fr → Heap → Prop) : List (Nat × Bool) → Fr → Heap → Prop
  | [], fr, H => T fr H
  | (j, _) :: l, fr, H => match ops[j]? with
    | none => False
    | some p => offL L p.op fr ∧ vstep P N ops p (seqRX P N ops L T l) fr H
theorem seqRX_closed {T : Fr → Heap → Prop} (hT : Closed T) : ∀ l, Closed (seqRX P N ops L T l)
  | [] => hT
  | (j, fj) :: l => by
    intro f g H hfg h
    simp only [seqRX] at h ⊢
    split at h
    · exact h.elim
    · exact ⟨offL_congr (fun x => feq.ev hfg x) h.1, vstep_closed (seqRX_closed hT l) hfg h.2⟩
theorem vFX_seqRX {n : Nat} {rest : List (Nat × Bool)} : ∀ (l1 : List (Nat × Bool)) (fr : Fr) (H : Heap), (∀ x ∈ l1, ∃ p, ops[x.1]? = some p ∧ isR p.op = true) →
    (vFX P N ops L fs K (l1.length + n) (l1 ++ rest) fr H ↔ seqRX P N ops L (vFX P N ops L fs K n rest) l1 fr H)
  | [], fr, H, _ => by simp [seqRX]
  | (j, fj) :: l1, fr, H, hl => by
    obtain ⟨p, hp, hR⟩ := hl (j, fj) (by simp)
    have ih := fun fr H => vFX_seqRX (n := n) (rest := rest) l1 fr H fun x hx => hl x (by simp [hx])
    rw [show ((j, fj) :: l1).length + n = (l1.length + n) + 1 by simp; omega]
    simp only [List.cons_append, vFX, seqRX, hp, hR]
    exact ⟨fun h => ⟨h.1, vstep_weak h.2 fun f h => (ih f h).1⟩, fun h => ⟨h.1, vstep_weak h.2 fun f h => (ih f h).2⟩⟩

theorem frontX_gen {o : Oper} {fl : Bool} {T T' : Fr → Heap → Prop} (hT : Closed T) (hT' : Closed T') (hstep : ∀ fr H, T fr H → vstep P N ops o (fun f h => relX L o fl H h ∧ T' f h) fr H) : ∀ (l1 : List (Nat × Bool)) (fr : Fr) (H : Heap),
    (∀ x ∈ l1, ∃ p, ops[x.1]? = some p ∧ isR p.op = true ∧ indep ops p o = true ∧ (readsH p.op = true → isR o.op = true ∨ fl = true)) →
    seqRX P N ops L T l1 fr H → vstep P N ops o (fun f h => relX L o fl H h ∧ seqRX P N ops L T' l1 f h) fr H
  | [], fr, H, _, h => hstep fr H h
  | (j, fj) :: l1, fr, H, hl, h => by
    obtain ⟨p, hp, hR, hin, hrd⟩ := hl (j, fj) (by simp)
    simp only [seqRX, hp] at h ⊢
    have hc1 := seqRX_closed (P := P) (N := N) (ops := ops) (L := L) hT l1
    have hc2 := seqRX_closed (P := P) (N := N) (ops := ops) (L := L) hT' l1
    obtain ⟨hoff, h⟩ := h
    obtain ⟨v, h1, h2⟩ := vstep_RX hR hc1 h
    have ih := frontX_gen hT hT' hstep l1 (fr.put p.dst v) H (fun x hx => hl x (by simp [hx])) h1
    obtain ⟨i1, i2, i3⟩ := indep_spec hin
    have hcK : Closed (fun f h => relX L o fl H h ∧ seqRX P N ops L T' l1 f h) := fun f g h hfg hk => ⟨hk.1, hc2 _ _ _ hfg hk.2⟩
    have hag : agreeG ops o (fr.put p.dst v) fr := agreeG.symm (agreeG.put i1)
    refine vstep_weak (vstep_E hcK ih hag) ?_
    rintro f h' ⟨u, hf, hrel, hv⟩
    have hvE : vstep P N ops p (seqRX P N ops L T' l1) (fr.put o.dst u) h' := by
      refine h2 (fr.put o.dst u) h' _ hc2 (agreeG.put i2) (fun i hi b hb => ?_) ?_
      · rw [hrel (hrd (by cases hr : readsH p.op with | true => rfl | false => rw [rdBlk_none hr] at hi; cases hi)) i (hoff i hi), hb]
      exact hc2 _ _ _ (put_comm fr i3 v u) hv
    exact ⟨hrel, offL_congr (fun x => feq.ev hf x) (offL_agree (agreeG.put i2).agree hoff), vstep_closed hc2 hf hvE⟩

theorem eKX_rel {o : Oper} {fl : Bool} {T : Fr → Heap → Prop} {fr : Fr} {H : Heap} (hR : isR o.op = false) (h : vstep P N ops o (eKX L fl H T) fr H) : vstep P N ops o (fun f h => relX L o fl H h ∧ T f h) fr H := by
  refine vstep_weak h ?_
  intro f h' hk
  cases fl with
  | true => exact ⟨fun _ => hk.1, hk.2⟩
  | false => exact ⟨fun e => by simp [hR] at e, hk⟩

/-- What is behind reads only comes first. -/
theorem vFX_front (hK : Closed K) {n i : Nat} {fl : Bool} {l1 l2 : List (Nat × Bool)} {o : Oper} (ho : ops[i]? = some o) {fr : Fr} {H : Heap}
    (hl1 : ∀ x ∈ l1, ∃ p, ops[x.1]? = some p ∧ isR p.op = true ∧ indep ops p o = true ∧ (readsH p.op = true → isR o.op = true ∨ fl = true))
    (h : vFX P N ops L fs K (l1.length + (n + 1)) (l1 ++ (i, fl) :: l2) fr H) : vstep P N ops o (fun f h => relX L o fl H h ∧ vFX P N ops L fs K (l1.length + n) (l1 ++ l2) f h) fr H := by
  have hl1' : ∀ x ∈ l1, ∃ p, ops[x.1]? = some p ∧ isR p.op = true := fun x hx => by obtain ⟨p, h1, h2, _⟩ := hl1 x hx; exact ⟨p, h1, h2⟩
  rw [vFX_seqRX l1 fr H hl1'] at h
  have hstep : ∀ fr H, vFX P N ops L fs K (n + 1) ((i, fl) :: l2) fr H → vstep P N ops o (fun f h => relX L o fl H h ∧ vFX P N ops L fs K n l2 f h) fr H := by
    intro fr H h
    simp only [vFX, ho] at h
    cases hR : isR o.op with
    | true =>
      simp only [hR] at h
      obtain ⟨_, h⟩ := h
      obtain ⟨v, h1, h2⟩ := vstep_RX hR (vFX_closed hK n l2) h
      refine h2 fr H _ ?_ (fun _ _ => rfl) (fun _ _ _ h => h) ⟨fun _ _ _ => rfl, h1⟩
      intro f g h hfg hk
      exact ⟨hk.1, vFX_closed hK n l2 _ _ _ hfg hk.2⟩
    | false => simp only [hR] at h; exact eKX_rel hR h.1
  refine vstep_weak (frontX_gen (vFX_closed hK _ _) (vFX_closed hK n l2) hstep l1 fr H hl1 h) ?_
  rintro f h' ⟨h1, h2⟩
  exact ⟨h1, (vFX_seqRX l1 f h' hl1').2 h2⟩
/-- What hangs on nothing comes ahead of the first effect. -/
theorem vFX_float (hK : Closed K) {n i f : Nat} {fl : Bool} {r1 l2 : List (Nat × Bool)} {o o' : Oper} (ho : ops[i]? = some o) (hE : isR o.op = false) (hf : ops[f]? = some o') (hff : f ∈ fs) (hfl : f ∈ l2.map (·.1)) {fr : Fr} {H : Heap}
    (hl1 : ∀ x ∈ r1, ∃ p, ops[x.1]? = some p ∧ isR p.op = true ∧ indep ops p o' = true)
    (h : vFX P N ops L fs K (r1.length + (n + 1)) (r1 ++ (i, fl) :: l2) fr H) : vstep P N ops o' (fun f' h => relX L o' true H h ∧ vFX P N ops L fs K (r1.length + n) (r1 ++ (i, fl) :: l2.filter fun y => y.1 != f) f' h) fr H := by
  have hl1' : ∀ x ∈ r1, ∃ p, ops[x.1]? = some p ∧ isR p.op = true := fun x hx => by obtain ⟨p, h1, h2, _⟩ := hl1 x hx; exact ⟨p, h1, h2⟩
  rw [vFX_seqRX r1 fr H hl1'] at h
  have hstep : ∀ fr H, vFX P N ops L fs K (n + 1) ((i, fl) :: l2) fr H → vstep P N ops o' (fun f' h => relX L o' true H h ∧ vFX P N ops L fs K n ((i, fl) :: l2.filter fun y => y.1 != f) f' h) fr H := by
    intro fr H h
    simp only [vFX, ho, hE] at h
    obtain ⟨o2, h1, h2, h3⟩ := h.2 f hff hfl
    rw [hf] at h1; cases h1
    exact eKX_rel h2 h3
  refine vstep_weak (frontX_gen (vFX_closed hK _ _) (vFX_closed hK n _) hstep r1 fr H (fun x hx => by obtain ⟨p, h1, h2, h3⟩ := hl1 x hx; exact ⟨p, h1, h2, h3, fun _ => .inr rfl⟩) h) ?_
  rintro f h' ⟨h1, h2⟩
  exact ⟨h1, (vFX_seqRX r1 f h' hl1').2 h2⟩

theorem drawFX_any {B : Nat} {w0 : World} {Q : Exit → Act → World → Prop} (hK : Closed K) (hedge : edgesOK ops = true) : ∀ (n : Nat) (listed : Array Bool) (l : List (Nat × Bool)) (fr : Fr) (H : Heap) (ρ : Rho) (w : World) (a : Act),
    listed.size = ops.size → l.length = n → pairsOKF ops fs (masksGo ops.toList []) l = true → (∀ x ∈ l, x.1 < ops.size ∧ listed.getD x.1 true = false) → (∀ i, i < ops.size → listed.getD i true = false → ∃ x ∈ l, x.1 = i) →
    (∀ (j : Nat) (o : Oper), ops[j]? = some o → listed.getD j false = true → ∀ e ∈ o.after.toList, Region.binds .any e = true → listed.getD e.on false = true) →
    vFX P N ops L fs K n l fr H → R B w0 ρ H w → FR N ρ fr a →
    (∀ (ρ' : Rho) (fr' : Fr) (H' : Heap) (a' : Act) (w' : World), ρ <+: ρ' → K fr' H' → R B w0 ρ' H' w' → FR N ρ' fr' a' → Q .normal a' w') → wpAny P .any ops Q n listed a w := by
  intro n
  have getD2 : ∀ (listed : Array Bool) (i : Nat), listed.size = ops.size → i < ops.size → listed.getD i true = listed.getD i false := by
    intro listed i h1 h2
    simp [Array.getD_eq_getD_getElem?, h1, h2]
  induction n with
  | zero =>
    intro listed l fr H ρ w a hsz hl hp hin hall hcl hv hR hF hq
    have : l = [] := List.eq_nil_of_length_eq_zero hl
    subst this
    refine ⟨?_, hq ρ fr H a w (List.prefix_refl _) hv hR hF⟩
    rw [List.eq_nil_iff_forall_not_mem]
    intro i hi
    simp only [Region.ready, List.mem_filter, List.mem_range, Bool.and_eq_true, Bool.not_eq_true'] at hi
    obtain ⟨x, hx, _⟩ := hall i hi.1 hi.2.1
    simp at hx
  | succ n ih =>
    intro listed l fr H ρ w a hsz hl hp hin hall hcl hv hR hF hq
    refine ⟨?_, ?_⟩
    · intro hnil
      exfalso
      match l, hl with
      | (i, fl) :: l, hl =>
        obtain ⟨h1, h2⟩ := hin (i, fl) (by simp)
        have hi : i ∈ Region.ready .any ops listed := by
          simp only [Region.ready, List.mem_filter, List.mem_range, Bool.and_eq_true, Bool.not_eq_true']
          refine ⟨h1, h2, ?_⟩
          rw [Array.getElem?_eq_getElem h1]
          simp only [Option.map_some, Option.getD_some, Array.all_eq_true']
          intro e he
          rw [Bool.or_eq_true, Bool.not_eq_true']
          by_cases hb : Region.binds .any e = true
          · right
            have hedge' := List.all_eq_true.1 hedge i (by simpa using h1)
            simp only [Array.getElem?_eq_getElem h1, List.all_eq_true] at hedge'
            have he' := hedge' e (by simpa using he)
            simp only [hb, Bool.not_true, Bool.false_or, Bool.and_eq_true, decide_eq_true_eq, bne_iff_ne, ne_eq] at he'
            rw [← getD2 listed e.on hsz he'.1]
            cases hg : listed.getD e.on true with
            | true => rfl
            | false =>
              obtain ⟨x, hx, hxe⟩ := hall e.on he'.1 hg
              rcases List.mem_cons.1 hx with rfl | hx
              · exact absurd hxe.symm he'.2
              · have hpo := (pairsOKF_spec (l1 := []) hp).2.1 x hx
                have hx1 := (hin x (by simp [hx])).1
                simp only [pairOKF, Array.getElem?_eq_getElem h1, Array.getElem?_eq_getElem hx1, Bool.and_eq_true, Bool.not_eq_true'] at hpo
                have hd := hpo.1.1
                simp only [directTo, List.any_eq_false, Bool.and_eq_true, beq_iff_eq, not_and] at hd
                exact absurd hxe.symm (hd e (by simpa using he) hb)
          · left; simpa using hb
        rw [hnil] at hi
        simp at hi
    · intro i hi
      simp only [Region.ready, List.mem_filter, List.mem_range, Bool.and_eq_true, Bool.not_eq_true'] at hi
      obtain ⟨hilt, hnl, hrdy⟩ := hi
      rw [Array.getElem?_eq_getElem hilt] at hrdy
      simp only [Option.map_some, Option.getD_some, Array.all_eq_true'] at hrdy
      have ho : ops[i]? = some ops[i] := Array.getElem?_eq_getElem hilt
      obtain ⟨x, hx, hxi⟩ := hall i hilt hnl
      obtain ⟨l1, l2, rfl⟩ := List.append_of_mem hx
      obtain ⟨i', fl⟩ := x
      simp only at hxi
      subst hxi
      obtain ⟨hp1, hp2, hp3⟩ := pairsOKF_spec hp
      have hpre : ∀ e ∈ (ops[i']).after.toList, Region.binds .any e = true → listed.getD e.on false = true := by
        intro e he hb
        have := hrdy e (by simpa using he)
        simpa [hb] using this
      have hdep : ∀ y ∈ l1, ¬ ((masksGo ops.toList []).getD i' 0).testBit y.1 = true := by
        intro y hy hb
        have := masks_sound (ops := ops) (fun j => listed.getD j false = true) hcl ops.toList [] (fun j _ => by simp) (fun j o p hj => by simp at hj) i' _ y.1 ho hb hpre
        obtain ⟨hy1, hy2⟩ := hin y (by simp [hy])
        rw [getD2 listed y.1 hsz hy1] at hy2
        rw [hy2] at this; cases this
      have hR1 : ∀ y ∈ l1, ∀ p, ops[y.1]? = some p → isR p.op = true → indep ops p ops[i'] = true ∧ (readsH p.op = true → isR (ops[i']).op = true ∨ fl = true) := by
        intro y hy p hp' hRp
        have hy1 := (hin y (by simp [hy])).1
        have hpo := hp1 y hy
        have hd := hdep y hy
        simp only [pairOKF, hp', ho, Bool.and_eq_true] at hpo
        have hpo2 := hpo.2
        simp only [Bool.not_eq_true] at hd
        simp only [hRp, hd, Bool.false_or, Bool.or_false, Bool.and_eq_true, Bool.or_eq_true, Bool.not_eq_true'] at hpo2
        refine ⟨hpo2.1, fun hr => ?_⟩
        rcases hpo2.2 with (h | h) | h
        · exact .inl h
        · exact .inr h
        · rw [hr] at h; cases h
      have hE1 : ∀ y ∈ l1, ∀ p, ops[y.1]? = some p → isR p.op = false → i' ∈ fs ∧ fl = true ∧ isR (ops[i']).op = false := by
        intro y hy p hp' hRp
        have hpo := hp1 y hy
        have hd := hdep y hy
        simp only [pairOKF, hp', ho, Bool.and_eq_true] at hpo
        have hpo2 := hpo.2
        simp only [Bool.not_eq_true] at hd
        simp only [hRp, hd, Bool.false_or, Bool.and_eq_true, Bool.not_eq_true', List.contains_iff_mem] at hpo2
        exact ⟨hpo2.1.1, hpo2.1.2, hpo2.2⟩
      have hnd : ∀ y ∈ l1 ++ l2, y.1 ≠ i' := by
        intro y hy e
        rcases List.mem_append.1 hy with hy | hy
        · have hpo := hp1 y hy
          have hy1 := (hin y (by simp [hy])).1
          simp [pairOKF, Array.getElem?_eq_getElem hy1, ho, e] at hpo
        · have hpo := hp2 y hy
          have hy1 := (hin y (by simp [hy])).1
          simp [pairOKF, Array.getElem?_eq_getElem hy1, ho, e] at hpo
      have hstep : vstep P N ops ops[i'] (fun f h => relX L ops[i'] fl H h ∧ vFX P N ops L fs K n (l1 ++ l2) f h) fr H := by
        simp only [List.length_append, List.length_cons] at hl
        rcases first_effect (ops := ops) l1 (fun x hx => ⟨_, Array.getElem?_eq_getElem (hin x (by simp [hx])).1⟩) with hall1 | ⟨r1, e, oe, r2, rfl, he1, he2, he3⟩
        · rw [show n = l1.length + l2.length by omega]
          rw [show n + 1 = l1.length + (l2.length + 1) by omega] at hv
          exact vFX_front hK ho (fun x hx => by obtain ⟨p, h1, h2⟩ := hall1 x hx; obtain ⟨h3, h4⟩ := hR1 x hx p h1 h2; exact ⟨p, h1, h2, h3, h4⟩) hv
        · obtain ⟨hif, hfl, hEi⟩ := hE1 e (by simp) oe he1 he2
          subst hfl
          simp only [List.length_append, List.length_cons] at hl
          rw [show n + 1 = r1.length + ((r2.length + 1 + l2.length) + 1) by omega, List.append_assoc, List.cons_append] at hv
          have hfilt : (r2 ++ (i', true) :: l2).filter (fun y => y.1 != i') = r2 ++ l2 := by
            rw [List.filter_append, List.filter_cons]
            simp only [bne_self_eq_false, Bool.false_eq_true, if_false]
            rw [List.filter_eq_self.2, List.filter_eq_self.2]
            · intro y hy; simpa using hnd y (by simp [hy])
            · intro y hy; simpa using hnd y (by simp [hy])
          have := vFX_float (f := i') hK he1 he2 ho hif (by simp) (fun x hx => by
            obtain ⟨p, h1, h2⟩ := he3 x hx
            exact ⟨p, h1, h2, (hR1 x (by simp [hx]) p h1 h2).1⟩) hv
          rw [hfilt] at this
          rw [show n = r1.length + (r2.length + 1 + l2.length) by omega, List.append_assoc, List.cons_append]
          exact this
      unfold wpOp
      rw [ho]
      refine vstep_sound hstep hR hF Q ?_
      rintro ρ' fr' H' a' w' hpre' ⟨_, hv'⟩ hR' hF'
      refine ih (listed.setIfInBounds i' true) (l1 ++ l2) fr' H' ρ' w' a' (by simpa using hsz) (by simp at hl ⊢; omega) hp3 ?_ ?_ ?_ hv' hR' hF' (fun ρ'' f'' H'' a'' w'' h1 => hq ρ'' f'' H'' a'' w'' (hpre'.trans h1))
      · intro y hy
        have hne := hnd y hy
        obtain ⟨h1, h2⟩ := hin y (by rcases List.mem_append.1 hy with hy | hy <;> simp [hy])
        exact ⟨h1, by rw [getD_set_ne _ (fun e => hne e.symm)]; exact h2⟩
      · intro j hj hnj
        by_cases e : i' = j
        · subst e
          exfalso
          have : (listed.setIfInBounds i' true).getD i' true = true := by simp [Array.getD_eq_getD_getElem?]
          rw [this] at hnj; cases hnj
        · rw [getD_set_ne _ e] at hnj
          obtain ⟨y, hy, rfl⟩ := hall j hj hnj
          refine ⟨y, ?_, rfl⟩
          rcases List.mem_append.1 hy with hy | hy
          · simp [hy]
          · rcases List.mem_cons.1 hy with rfl | hy
            · exact absurd rfl e
            · simp [hy]
      · intro j o hj hlj e he hb
        by_cases e' : i' = j
        · subst e'
          rw [ho] at hj; cases hj
          exact getD_set_true (hpre e he hb)
        · rw [getD_set_ne _ e'] at hlj
          exact getD_set_true (hcl j o hj hlj e he hb)

def vTX (P : Program) (N : Nat) (ops : Array Oper) (L : Nat) (K : Fr → Heap → Prop) : Tree → Fr → Heap → Prop
  | .nil, fr, H => K fr H
  | .one i fl t, fr, H => match ops[i]? with
    | none => False
    | some o => match isR o.op with
      | true => offL L o.op fr ∧ vstep P N ops o (vTX P N ops L K t) fr H
      | false => vstep P N ops o (eKX L fl H (vTX P N ops L K t)) fr H
  | .two i fl t f t', fr, H => match ops[i]?, ops[f]? with
    | some o, some o' => vstep P N ops o (eKX L fl H (vTX P N ops L K t)) fr H ∧ vstep P N ops o' (eKX L true H (vTX P N ops L K t')) fr H
    | _, _ => False
theorem vTX_vFX : ∀ (t : Tree) (n : Nat) (l : List (Nat × Bool)) (fr : Fr) (H : Heap), l.length ≤ n → (∀ x y, x ∈ l → y ∈ l → x.1 = y.1 → x = y) → treeOK ops fs t l = true → vTX P N ops L K t fr H → vFX P N ops L fs K n l fr H := by
  intro t
  induction t with
  | nil =>
    intro n l fr H hn _ hok h
    cases l with
    | nil => cases n <;> exact h
    | cons x l => simp [treeOK] at hok
  | one i fl t ih =>
    intro n l fr H hn hu hok h
    cases l with
    | nil => simp [treeOK] at hok
    | cons x l =>
      obtain ⟨j, fl'⟩ := x
      simp only [treeOK, Bool.and_eq_true, beq_iff_eq] at hok
      obtain ⟨⟨⟨rfl, rfl⟩, hfl⟩, hok⟩ := hok
      cases n with
      | zero => simp at hn
      | succ n =>
        simp only [List.length_cons] at hn
        have hu' : ∀ x y, x ∈ l → y ∈ l → x.1 = y.1 → x = y := fun x y hx hy => hu x y (by simp [hx]) (by simp [hy])
        simp only [vTX] at h
        simp only [vFX]
        cases ho : ops[i]? with
        | none => simp [ho] at h
        | some o =>
          simp only [ho] at h hfl ⊢
          cases hR : isR o.op with
          | true => simp only [hR] at h ⊢; exact ⟨h.1, vstep_weak h.2 fun f h => ih n l f h (by omega) hu' hok⟩
          | false =>
            simp only [hR, Bool.false_or, List.all_eq_true] at h hfl ⊢
            refine ⟨vstep_weak h fun f h' hk => ?_, fun f hf hm => ?_⟩
            · cases fl with
              | true => exact ⟨hk.1, ih n l f h' (by omega) hu' hok hk.2⟩
              | false => exact ih n l f h' (by omega) hu' hok hk
            · have := hfl f hf
              simp only [Bool.not_eq_true', List.contains_eq_mem, decide_eq_false_iff_not] at this
              exact absurd hm this
  | two i fl t f t' ih ih' =>
    intro n l fr H hn hu hok h
    cases l with
    | nil => simp [treeOK] at hok
    | cons x l =>
      obtain ⟨j, fl'⟩ := x
      simp only [treeOK, Bool.and_eq_true, beq_iff_eq] at hok
      obtain ⟨⟨⟨⟨⟨rfl, rfl⟩, hE⟩, hfl⟩, hok⟩, hok'⟩ := hok
      cases n with
      | zero => simp at hn
      | succ n =>
        simp only [List.length_cons] at hn
        have hu' : ∀ x y, x ∈ l → y ∈ l → x.1 = y.1 → x = y := fun x y hx hy => hu x y (by simp [hx]) (by simp [hy])
        simp only [vTX] at h
        simp only [vFX]
        cases ho : ops[i]? with
        | none => simp [ho] at h
        | some o =>
          cases ho' : ops[f]? with
          | none => simp [ho, ho'] at h
          | some o' =>
            simp only [ho, ho', Bool.and_eq_true, Bool.not_eq_true'] at h hE ⊢
            simp only [hE.1]
            refine ⟨vstep_weak h.1 fun g h' hk => ?_, fun g hg hm => ?_⟩
            · cases fl with
              | true => exact ⟨hk.1, ih n l g h' (by omega) hu' hok hk.2⟩
              | false => exact ih n l g h' (by omega) hu' hok hk
            · rw [List.all_eq_true] at hfl
              have hgf := hfl g hg
              simp only [Bool.or_eq_true, beq_iff_eq, Bool.not_eq_true', List.contains_eq_mem, decide_eq_false_iff_not] at hgf
              have : g = f := hgf.resolve_right (fun e => e hm)
              subst this
              refine ⟨o', ho', hE.2, vstep_weak h.2 fun q h' hk => ⟨hk.1, ih' n _ q h' ?_ ?_ hok' hk.2⟩⟩
              · obtain ⟨z, hz, hzg⟩ := List.mem_map.1 hm
                have : (l.filter fun y => y.1 != g).length < l.length := by
                  rw [List.length_filter_lt_length_iff_exists]
                  exact ⟨z, hz, by simp [hzg]⟩
                simp only [List.length_cons]; omega
              · intro x y hx hy
                refine hu x y ?_ ?_
                · rcases List.mem_cons.1 hx with rfl | hx
                  · simp
                  · exact List.mem_cons_of_mem _ (List.mem_filter.1 hx).1
                · rcases List.mem_cons.1 hy with rfl | hy
                  · simp
                  · exact List.mem_cons_of_mem _ (List.mem_filter.1 hy).1

theorem AWp.drawFX (L : Nat) {id : Nat} {fr : Fr} {H : Heap} {Q : Exit → Fr → Heap → Prop} (hm : P.follows .mixedOrders = true) (fs : List Nat) (canon : List (Nat × Bool)) (t : Tree) (hok : (drawOKF ops fs canon && treeOK ops fs t canon) = true) (h : vTX P N ops L (Q .normal) t fr H) : AWp P N (.region id ops true) Q fr H := by
  intro B w0 ρ w a hR hF
  simp only [drawOKF, Bool.and_eq_true, decide_eq_true_eq, List.all_eq_true, List.mem_range, List.contains_iff_mem, List.mem_map] at hok
  obtain ⟨⟨⟨⟨⟨h1, h2⟩, h3⟩, h4⟩, h5⟩, h6⟩ := hok
  refine wp_region_any hm ?_
  let K : Fr → Heap → Prop := fun f h => ∃ g, feq g f ∧ Q .normal g h
  have hK : Closed K := fun f g h hfg ⟨k, hk, hq⟩ => ⟨k, hk.trans hfg, hq⟩
  have hu : ∀ x y, x ∈ canon → y ∈ canon → x.1 = y.1 → x = y := by
    intro x y hx hy e
    obtain ⟨l1, l2, rfl⟩ := List.append_of_mem hx
    obtain ⟨hp1, hp2, _⟩ := pairsOKF_spec h1
    rcases List.mem_append.1 hy with hy | hy
    · have := hp1 y hy
      unfold pairOKF at this
      split at this
      · simp [e] at this
      · cases this
    · rcases List.mem_cons.1 hy with rfl | hy
      · rfl
      · have := hp2 y hy
        unfold pairOKF at this
        split at this
        · simp [e] at this
        · cases this
  have hv : vFX P N ops L fs K ops.size canon fr H := by
    refine vTX_vFX t ops.size canon fr H (by omega) hu h6 ?_
    have weak : ∀ (t : Tree) (fr : Fr) (H : Heap), vTX P N ops L (Q .normal) t fr H → vTX P N ops L K t fr H := by
      intro t
      induction t with
      | nil => exact fun fr H h => ⟨fr, feq.rfl' _, h⟩
      | one i fl t ih =>
        intro fr H h
        simp only [vTX] at h ⊢
        split at h
        · exact h
        · rename_i o ho
          cases hR : isR o.op with
          | true => simp only [hR] at h ⊢; exact ⟨h.1, vstep_weak h.2 ih⟩
          | false =>
            simp only [hR] at h ⊢
            refine vstep_weak h ?_
            intro f h' hk
            cases fl with
            | true => exact ⟨hk.1, ih _ _ hk.2⟩
            | false => exact ih _ _ hk
      | two i fl t f t' ih ih' =>
        intro fr H h
        simp only [vTX] at h ⊢
        split at h
        · rename_i o o' ho ho'
          refine ⟨vstep_weak h.1 ?_, vstep_weak h.2 fun f h' hk => ⟨hk.1, ih' _ _ hk.2⟩⟩
          intro f h' hk
          cases fl with
          | true => exact ⟨hk.1, ih _ _ hk.2⟩
          | false => exact ih _ _ hk
        · exact h
    exact weak t fr H h
  have hgt : ∀ i, i < ops.size → (Array.replicate ops.size false).getD i true = false := by
    intro i hi
    simp [Array.getD_eq_getD_getElem?, hi]
  refine drawFX_any (B := B) (w0 := w0) hK h2 ops.size (Array.replicate ops.size false) canon fr H ρ w.drew a (by simp) h3 h1 ?_ ?_ ?_ hv hR.drew hF ?_
  · intro x hx
    exact ⟨h4 x hx, hgt x.1 (h4 x hx)⟩
  · intro i hi _
    obtain ⟨x, hx, rfl⟩ := h5 i hi
    exact ⟨x, hx, rfl⟩
  · intro j o hj hl
    rw [Array.getD_eq_getD_getElem?, Array.getElem?_replicate] at hl
    split at hl <;> simp at hl
  · rintro ρ' fr' H' a' w' hp ⟨g, hg, hq⟩ hR' hF'
    exact ⟨ρ', g, H', hp, hR', hF'.feq hg.symm, hq⟩

/-! The words of such a tree, for simp. -/

def vTXK (P : Program) (N : Nat) (ops : Array Oper) (L : Nat) (K : Fr → Heap → Prop) (t : Tree) (fr : Fr) (H : Heap) : Prop := vTX P N ops L K t fr H
def eTXK (P : Program) (N : Nat) (ops : Array Oper) (L : Nat) (K : Fr → Heap → Prop) (t : Tree) (fl : Bool) (H : Heap) (fr : Fr) (H' : Heap) : Prop :=
  match fl with
  | true => andK (KeepL L H H') (vTX P N ops L K t fr H')
  | false => vTX P N ops L K t fr H'
def vTXo (P : Program) (N : Nat) (ops : Array Oper) (L : Nat) (K : Fr → Heap → Prop) (t : Tree) (fl : Bool) (fr : Fr) (H : Heap) (o : Oper) : Prop :=
  match isR o.op with
  | true => andK (offB L o.op fr) (vstep P N ops o (vTXK P N ops L K t) fr H)
  | false => vstep P N ops o (eTXK P N ops L K t fl H) fr H
def vTXe (P : Program) (N : Nat) (ops : Array Oper) (L : Nat) (K : Fr → Heap → Prop) (t : Tree) (fl : Bool) (fr : Fr) (H : Heap) (o : Oper) : Prop := vstep P N ops o (eTXK P N ops L K t fl H) fr H

theorem vTX_nil (K : Fr → Heap → Prop) (fr : Fr) (H : Heap) : vTX P N ops L K .nil fr H = K fr H := rfl
theorem eTXK_eq (K : Fr → Heap → Prop) (t : Tree) (fl : Bool) (H : Heap) : eKX L fl H (vTX P N ops L K t) = eTXK P N ops L K t fl H := by
  funext f h
  cases fl <;> rfl
theorem vTX_one (K : Fr → Heap → Prop) (i : Nat) (fl : Bool) (t : Tree) (fr : Fr) (H : Heap) : vTX P N ops L K (.one i fl t) fr H = bindO ops[i]? (vTXo P N ops L K t fl fr H) := by
  simp only [vTX]
  cases ops[i]? with
  | none => simp [bindO]
  | some o =>
    simp only [bindO_some, vTXo]
    cases isR o.op with
    | true => rw [offB_iff]; rfl
    | false => simp only [eTXK_eq]
theorem vTX_two {i : Nat} {fl : Bool} {t : Tree} {f : Nat} {t' : Tree} {K : Fr → Heap → Prop} {fr : Fr} {H : Heap} (h1 : bindO ops[i]? (vTXe P N ops L K t fl fr H)) (h2 : bindO ops[f]? (vTXe P N ops L K t' true fr H)) : vTX P N ops L K (.two i fl t f t') fr H := by
  simp only [vTX]
  cases ho : ops[i]? with
  | none => simp [ho, bindO] at h1
  | some o =>
    cases ho' : ops[f]? with
    | none => simp [ho', bindO] at h2
    | some o' =>
      simp only [ho, ho', bindO_some, vTXe] at h1 h2 ⊢
      exact ⟨by rw [eTXK_eq]; exact h1, by rw [eTXK_eq]; exact h2⟩

attribute [go_sem] vTXK eTXK vTXo vTXe vTX_nil vTX_one

end
end Go.Ab
end
