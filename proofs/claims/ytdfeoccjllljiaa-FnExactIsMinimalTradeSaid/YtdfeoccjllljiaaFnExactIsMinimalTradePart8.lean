/- Part 8 of what the proof of the law FnExactIsMinimalTrade rests on: contracts of functions of the program, for every argument that each names; no statement of the seat is proved here. -/
import Derived.Test.YtdfeoccjllljiaaFnExactIsMinimalTradePart7

section
/- Results that are lists of lists, held alone; marks on them. -/
set_option linter.all false
set_option maxRecDepth 20000
namespace Go.Proofs.Ytdfeoccjllljiaa
open Go.Ab

def RowsIn (a b : Nat) (H : Heap) (v : Value) (xss : List (List Int)) : Prop :=
  ∃ (id : Nat) (rows : List (Nat × List Int)), v = lv 1 id 0 rows.length ∧ At H id 0 (rows.map rowVal) ∧ Rows1 H rows ∧ (∀ r ∈ rows, r.2 ≠ [] → r.1 ≠ id ∧ Span a b r.1) ∧ rows.map (·.2) = xss ∧ (rows ≠ [] → Span a b id) ∧ xss.flatten.length ≤ 140737488355328 ∧ rows.length ≤ 140737488355328
/-- Lists of numbers that were marked. -/
def MarkRows (a b : Nat) (H : Heap) (v : Value) (k : Int) (xss : List (List Int)) : Prop :=
  ∃ (id : Nat) (rows : List (Nat × List Int)), v = lv 1 id 0 rows.length ∧ At H id 0 (rows.map rowVal) ∧ (∀ r ∈ rows, At H r.1 0 (ints r.2) ∧ (r.2 ≠ [] → Span a b r.1)) ∧ rows.map (·.2) = marked k xss ∧ (rows ≠ [] → Span a b id) ∧ xss.flatten.length ≤ 140737488355328 ∧ rows.length ≤ 140737488355328

theorem flat_le {rows : List (Nat × List Int)} {r : Nat × List Int} (h : r ∈ rows) : r.2.length ≤ (rows.map (·.2)).flatten.length := by
  exact (List.sublist_flatten_of_mem (List.mem_map_of_mem (f := fun r : Nat × List Int => r.2) h)).length_le
theorem At.keepS {H H' : Heap} {S : Nat → Prop} (hs : Same S H H') {i o : Nat} {cs : List Value} (h : At H i o cs) (hi : cs ≠ [] → ¬ S i) : At H' i o cs := by
  rcases h with h0 | h
  · exact .inl h0
  · by_cases hc : cs = []
    · exact .inl hc
    · right
      obtain ⟨blk, hb, hbl, hbn, he⟩ := cellsAt_inv h
      rw [cellsAt_of (hs.get hb (hi hc)) hbl hbn, ← he]
theorem RowsIn.own {a b : Nat} {H : Heap} {v : Value} {xss : List (List Int)} (h : RowsIn a b H v xss) : ∃ rows, OwnRows H v rows ∧ rows.map (·.2) = xss ∧ ∀ r ∈ rows, r.2 ≠ [] → Span a b r.1 := by
  obtain ⟨id, rows, h1, h2, h3, h4, h5, h6, h7, h8⟩ := h
  exact ⟨rows, ⟨id, h1, h2, h3, fun r hr hn => (h4 r hr hn).1, h8, fun r hr => by have := flat_le hr; rw [h5] at this; omega⟩, h5, fun r hr hn => (h4 r hr hn).2⟩
theorem RowsIn.keep {a b : Nat} {H H' : Heap} {v : Value} {xss : List (List Int)} (h : RowsIn a b H v xss) {S : Nat → Prop} (hs : Same S H H') (hd : ∀ j, Span a b j → ¬ S j) : RowsIn a b H' v xss := by
  obtain ⟨id, rows, h1, h2, h3, h4, h5, h6, h7, h8⟩ := h
  refine ⟨id, rows, h1, At.keepS hs h2 (fun hn => hd _ (h6 (by rintro rfl; exact hn rfl))), ⟨fun r hr => ?_, h3.2⟩, h4, h5, h6, h7, h8⟩
  by_cases hn : r.2 = []
  · exact .inl hn
  · exact .inr (hs.get ((h3.1 r hr).resolve_left hn) (hd _ (h4 r hr hn).2))
theorem MarkRows.keep {a b : Nat} {H H' : Heap} {v : Value} {k : Int} {xss : List (List Int)} (h : MarkRows a b H v k xss) {S : Nat → Prop} (hs : Same S H H') (hd : ∀ j, Span a b j → ¬ S j) : MarkRows a b H' v k xss := by
  obtain ⟨id, rows, h1, h2, h3, h5, h6, h7, h8⟩ := h
  refine ⟨id, rows, h1, At.keepS hs h2 (fun hn => hd _ (h6 (by rintro rfl; exact hn rfl))), fun r hr => ⟨At.keepS hs (h3 r hr).1 (fun hn => hd _ ((h3 r hr).2 (by intro e; rw [e] at hn; exact hn rfl))), (h3 r hr).2⟩, h5, h6, h7, h8⟩
theorem RowsIn.pre {a b : Nat} {H H' : Heap} (hp : H <+: H') {v : Value} {xss : List (List Int)} (h : RowsIn a b H v xss) : RowsIn a b H' v xss := h.keep (S := fun _ => False) (Same.of_prefix hp) (fun _ _ h => h)
theorem MarkRows.pre {a b : Nat} {H H' : Heap} (hp : H <+: H') {v : Value} {k : Int} {xss : List (List Int)} (h : MarkRows a b H v k xss) : MarkRows a b H' v k xss := h.keep (S := fun _ => False) (Same.of_prefix hp) (fun _ _ h => h)
theorem RowsIn.read {a b : Nat} {H : Heap} {v : Value} {xss : List (List Int)} (h : RowsIn a b H v xss) : IntssAt H v xss := by
  obtain ⟨rows, h1, h2, _⟩ := h.own; exact h2 ▸ h1.read
theorem RowsIn.one {a b : Nat} {H : Heap} {v : Value} {xss : List (List Int)} (h : RowsIn a b H v xss) : v.oneCell' = true := by
  obtain ⟨id, rows, rfl, _⟩ := h; rfl
theorem RowsIn.nil (a b : Nat) (H : Heap) : RowsIn a b H (lv 1 0 0 0) [] := ⟨0, [], rfl, .inl rfl, ⟨by simp, by simp⟩, by simp, rfl, fun h => absurd rfl h, by simp, by simp⟩
theorem RowsIn.wider {a b c : Nat} {H : Heap} {v : Value} {xss : List (List Int)} (h : RowsIn a b H v xss) (hc : c ≤ a) : RowsIn c b H v xss := by
  obtain ⟨id, rows, h1, h2, h3, h4, h5, h6, h7, h8⟩ := h
  exact ⟨id, rows, h1, h2, h3, fun r hr hn => ⟨(h4 r hr hn).1, Nat.le_trans hc (h4 r hr hn).2.1, (h4 r hr hn).2.2⟩, h5, fun hn => ⟨Nat.le_trans hc (h6 hn).1, (h6 hn).2⟩, h7, h8⟩
theorem MarkRows.one {a b : Nat} {H : Heap} {v : Value} {k : Int} {xss : List (List Int)} (h : MarkRows a b H v k xss) : v.oneCell' = true := by
  obtain ⟨id, rows, rfl, _⟩ := h; rfl
theorem MarkRows.read {a b : Nat} {H : Heap} {v : Value} {k : Int} {xss : List (List Int)} (h : MarkRows a b H v k xss) : IntssAt H v (marked k xss) := by
  obtain ⟨id, rows, rfl, h2, h3, h5, h6, h7, h8⟩ := h
  have hl : rows.length = (marked k xss).length := by rw [← h5, List.length_map]
  refine ⟨id, 0, rows.map rowVal, by rw [hl], by simp [hl], h2, ?_, by omega⟩
  intro j u ys hu hx
  rw [← h5] at hx
  simp only [List.getElem?_map, Option.map_eq_some_iff] at hu hx
  obtain ⟨r, hr, rfl⟩ := hu
  obtain ⟨r', hr', rfl⟩ := hx
  rw [hr] at hr'; cases hr'
  have hm := List.mem_of_getElem? hr
  refine ⟨r.1, 0, rfl, (h3 r hm).1, ?_⟩
  have := flat_le hm
  rw [h5, marked_total] at this; omega

/-- What a call has built. -/
theorem _root_.Go.Ab.Build.inn {H H' : Heap} {oid : Nat} {rows : List (Nat × List Int)} (h : Build H H' oid rows) (hl : (rows.map (·.2)).flatten.length ≤ 140737488355328) (hl' : rows.length ≤ 140737488355328) : RowsIn H.length H'.length H' (lv 1 oid 0 rows.length) (rows.map (·.2)) :=
  ⟨oid, rows, rfl, h.ol.at, h.rows1, fun r hr _ => ⟨(h.ids r hr).2.2, (h.ids r hr).1, (h.ids r hr).2.1⟩, rfl, fun _ => ⟨h.ge, h.ol.lt⟩, hl, hl'⟩

theorem lv_inj {e i j o q n : Nat} (h : lv e i o n = lv e j q n) : i = j ∧ o = q := by
  cases h; exact ⟨rfl, rfl⟩

theorem markIntss_ok {a b T : Nat} {H : Heap} {v : Value} {xss : List (List Int)} {k : Int} (h : RowsIn a b H v xss) (hT : T = xss.flatten.length) (hk0 : 0 ≤ k) (hk : k ≤ 1000000000) (Post : Value → Heap → Prop)
    (hP : ∀ H', Same (Span a b) H H' → MarkRows a b H' v k xss → Post (.int .i64 (k + T)) H') : ACalls Try.prog 43 [v, .int .i64 k] H Post := by
  subst hT
  obtain ⟨id, rows, rfl, h2, h3, h4, h5, h6, h7, h8⟩ := h
  have hown : OwnRows H (lv 1 id 0 rows.length) rows := ⟨id, rfl, h2, h3, fun r hr hn => (h4 r hr hn).1, h8, fun r hr => by have := flat_le hr; rw [h5] at this; omega⟩
  refine markInt64SS_ok hown hk0 (by rw [h5]; omega) _ ?_
  intro H' hl hs hm
  rw [h5] at hm ⊢
  have h2' : At H' id 0 (rows.map rowVal) := At.keepS hs h2 (fun _ => by rintro ⟨r, hr, hn, e⟩; exact (h4 r hr hn).1 e)
  refine hP H' (hs.mono fun j _ ⟨r, hr, hn, e⟩ => e ▸ (h4 r hr hn).2) ?_
  obtain ⟨i, o, vs, e1, e2, e3, e4, e5⟩ := hm
  have hml : (marked k xss).length = rows.length := by rw [marked_length, ← h5, List.length_map]
  rw [hml] at e1 e2 e5
  obtain ⟨rfl, rfl⟩ := lv_inj e1
  have hvs : vs = rows.map rowVal := by
    rcases h2' with hz | h2'
    · rw [hz]; have : rows.length = 0 := by simpa using congrArg List.length hz
      exact List.eq_nil_of_length_eq_zero (by omega)
    · rcases e3 with hz | e3
      · rw [hz] at e2 ⊢
        have : rows = [] := List.eq_nil_of_length_eq_zero (by simpa using e2.symm)
        rw [this]; rfl
      · rw [e2] at e3; rw [List.length_map] at h2'; rw [e3] at h2'; exact Option.some.inj h2'
  subst hvs
  have hrow : ∀ j, j < rows.length → ∃ r ys, rows[j]? = some r ∧ (marked k xss)[j]? = some ys ∧ ys.length = r.2.length := by
    intro j hj
    have hr : rows[j]? = some rows[j] := List.getElem?_eq_getElem hj
    have hx : xss[j]? = some rows[j].2 := by rw [← h5, List.getElem?_map, hr]; rfl
    refine ⟨rows[j], upFrom (k + (off xss j : Int)) rows[j].2.length, hr, by rw [marked_get, hx]; rfl, by rw [upFrom_length]⟩
  refine ⟨id, (List.range rows.length).map (fun j => ((rows.getD j (0, [])).1, (marked k xss).getD j [])), by simp, ?_, ?_, ?_, ?_, h7, by simpa using h8⟩
  · have e : ((List.range rows.length).map (fun j => ((rows.getD j (0, [])).1, (marked k xss).getD j []))).map rowVal = rows.map rowVal := by
      apply List.ext_getElem?
      intro j
      by_cases hj : j < rows.length
      · obtain ⟨r, ys, hr, hy, hyl⟩ := hrow j hj
        simp [List.getElem?_map, List.getElem?_range hj, hr, hy, rowVal, hyl, List.getD_eq_getElem?_getD]
      · rw [List.getElem?_eq_none (by simp; omega), List.getElem?_eq_none (by simp; omega)]
    rw [e]; exact h2'
  · intro r hr
    obtain ⟨j, hj, rfl⟩ := List.mem_map.1 hr
    rw [List.mem_range] at hj
    obtain ⟨r, ys, hr', hy, hyl⟩ := hrow j hj
    have hat := e4 j (rowVal r) ys (by rw [List.getElem?_map, hr']; rfl) hy
    obtain ⟨i', o', f1, f2, f3⟩ := hat
    rw [hyl] at f1
    obtain ⟨rfl, rfl⟩ := lv_inj (show lv 1 r.1 0 r.2.length = _ from f1)
    simp only [List.getD_eq_getElem?_getD, hr', hy, Option.getD_some]
    exact ⟨f2, fun hn => (h4 r (List.mem_of_getElem? hr') (by intro e; rw [e] at hyl; exact hn (List.eq_nil_of_length_eq_zero hyl))).2⟩
  · apply List.ext_getElem?
    intro j
    by_cases hj : j < rows.length
    · obtain ⟨r, ys, hr, hy, hyl⟩ := hrow j hj
      simp [List.getElem?_map, List.getElem?_range hj, hy, List.getD_eq_getElem?_getD]
    · rw [List.getElem?_eq_none (by simp; omega), List.getElem?_eq_none (by omega)]
  · intro hn
    exact h6 (by rintro rfl; exact hn rfl)

theorem heldIntss_ok {a b T : Nat} {H : Heap} {v : Value} {xss : List (List Int)} {k : Int} (h : MarkRows a b H v k xss) (hT : T = xss.flatten.length) (hk0 : 0 ≤ k) (hk : k ≤ 1000000000) (Post : Value → Heap → Prop)
    (hP : Post (.int .i64 (k + T)) H) : ACalls Try.prog 111 [v, .int .i64 k] H Post := by
  subst hT
  have h7 : xss.flatten.length ≤ 140737488355328 := by obtain ⟨_, _, _, _, _, _, _, h7, _⟩ := h; exact h7
  exact heldInt64SS_ok h.read hk0 (by omega) _ hP

end Go.Proofs.Ytdfeoccjllljiaa
end

section
/- Lists of lists that are built by literals; heaps of which less is said. No statement of the seat is proved here; it holds for every program. -/
set_option linter.all false
namespace Go.Ab

def upH (H H' : Heap) : Prop := ∀ B w0 ρ w, R B w0 ρ H w → R B w0 ρ H' w
theorem upH.refl (H : Heap) : upH H H := fun _ _ _ _ h => h
theorem upH.cells {H : Heap} {id : Nat} {cs cs' : List Value} {li ow : Bool} (hb : H[id]? = some ⟨cs, li, ow⟩) (hl : cs'.length = cs.length)
    (hu : ∀ (k : Nat) (v v' : Value), cs[k]? = some v → cs'[k]? = some v' → Up H v v') : upH H (H.set id ⟨cs', li, ow⟩) := by
  intro B w0 ρ w hR
  have hlt := (List.getElem?_eq_some_iff.1 hb).1
  have key : ∀ (i : Nat) (b : Blk), (H.set id ⟨cs', li, ow⟩)[i]? = some b → (i = id ∧ b = ⟨cs', li, ow⟩) ∨ (i ≠ id ∧ H[i]? = some b) := by
    intro i b h
    by_cases e : i = id
    · subst e; rw [List.getElem?_set_self hlt] at h; exact .inl ⟨rfl, (Option.some.inj h).symm⟩
    · rw [List.getElem?_set_ne (fun h => e h.symm)] at h; exact .inr ⟨e, h⟩
  -- the block that stood there
  have old : ∀ (i : Nat) (b : Blk), (H.set id ⟨cs', li, ow⟩)[i]? = some b → ∃ b', H[i]? = some b' ∧ b'.live = b.live ∧ b'.own = b.own := by
    intro i b h
    rcases key i b h with ⟨rfl, rfl⟩ | ⟨_, h⟩
    · exact ⟨_, hb, rfl, rfl⟩
    · exact ⟨b, h, rfl, rfl⟩
  refine ⟨by rw [List.length_set]; exact hR.len, hR.below, hR.base, ?_, ?_, ?_⟩
  · intro i b l h hl' hlive
    rcases key i b h with ⟨rfl, rfl⟩ | ⟨_, h⟩
    · obtain ⟨arr, elem, fz, h1, h2, h3, h4⟩ := hR.blk i _ l hb hl' hlive
      refine ⟨arr, elem, fz, h1, h2, ?_, h4⟩
      intro k v hk
      have hk' : k < cs.length := by have := (List.getElem?_eq_some_iff.1 hk).1; simp only at this; omega
      obtain ⟨h5, cv, h6, h7⟩ := h3 k cs[k] (List.getElem?_eq_getElem hk')
      have h8 := hu k _ v (List.getElem?_eq_getElem hk') hk _ _ _ _ _ hR h7
      exact ⟨by rw [h8.oneCell, ← h7.oneCell]; exact h5, cv, h6, h8⟩
    · exact hR.blk i b l h hl' hlive
  · intro i j b c l m hij h1 h2 h3 h4 h5 h6 h7
    obtain ⟨b', e1, e2, e3⟩ := old i b h1
    obtain ⟨c', f1, f2, f3⟩ := old j c h2
    exact hR.apart i j b' c' l m hij e1 f1 h3 h4 (by rw [e2]; exact h5) (by rw [f2]; exact h6) (by rw [e3]; exact h7)
  · intro i b l h1 h2 h3 h4
    obtain ⟨b', e1, e2, e3⟩ := old i b h1
    exact hR.ghost i b' l e1 h2 (by rw [e2]; exact h3) (by rw [e3]; exact h4)

/-- The result and the memory may be said less of. -/
theorem ACalls.resH {P : Program} {f : FuncId} {args : List Value} {H : Heap} {Post : Value → Heap → Prop} (h : ACalls P f args H fun v H' => ∃ v' H2, Up H' v v' ∧ upH H' H2 ∧ Post v' H2) : ACalls P f args H Post :=
  ⟨h.1, fun B w0 ρ w cargs hR hv => (h.2 B w0 ρ w cargs hR hv).mono fun e w' hp => by
    obtain ⟨ρ', H', v, cv, h1, h2, h3, h4, v', H2, h5, h6, h7⟩ := hp
    exact ⟨ρ', H2, v', cv, h1, h2, h6 _ _ _ _ h3, h5 _ _ _ _ _ h3 h4, h7⟩⟩

def rowX (r : Nat × List Int) : Value := .slice (some ⟨r.1, 0, none⟩) r.2.length r.2.length

/-- A list of lists while it is built. -/
structure BuildX (H0 H : Heap) (oid : Nat) (rows : List (Nat × List Int)) : Prop where
  pre : H0 <+: H
  ol : OL 1 H oid (rows.map rowX) rows.length
  ge : H0.length ≤ oid
  rows1 : Rows1 H rows
  ids : ∀ r ∈ rows, H0.length ≤ r.1 ∧ r.1 < H.length ∧ r.1 ≠ oid

theorem BuildX.start (H : Heap) : BuildX H (H ++ [⟨[], false, false⟩]) H.length [] :=
  ⟨List.prefix_append _ _, OL.ghost 1 H, Nat.le_refl _, ⟨by simp, by simp⟩, by simp⟩

theorem BuildX.of_ol {H0 H : Heap} {oid : Nat} (hp : H0 <+: H) (h : OL 1 H oid [] 0) (hg : H0.length ≤ oid) : BuildX H0 H oid [] :=
  ⟨hp, h, hg, ⟨by simp, by simp⟩, by simp⟩

theorem BuildX.push {H0 H1 H2 : Heap} {oid rid : Nat} {rows : List (Nat × List Int)} {xs : List Int} (h : BuildX H0 H1 oid rows) (hp : H1 <+: H2) (hr : OL 1 H2 rid (ints xs) xs.length) (hrid : H1.length ≤ rid) :
    cellsAt (H2 ++ [⟨[(.slice (some ⟨rid, 0, none⟩) xs.length xs.length)], true, true⟩]) H2.length 0 1 = some [(.slice (some ⟨rid, 0, none⟩) xs.length xs.length)] ∧
    ∃ H4, appendH (H2 ++ [⟨[(.slice (some ⟨rid, 0, none⟩) xs.length xs.length)], true, true⟩]) 1 (lv 1 oid 0 rows.length) 1 [(.slice (some ⟨rid, 0, none⟩) xs.length xs.length)] = some (lv 1 (H2.length + 1) 0 (rows.length + 1), H4) ∧ BuildX H0 H4 (H2.length + 1) (rows ++ [(rid, xs)]) := by
  have hol' : OL 1 H2 oid (rows.map rowX) rows.length := h.ol.keep (S := fun _ => False) (Same.of_prefix hp) (fun h => h)
  obtain ⟨hsrc, H4, hap, hol4, hsame4, hlen4⟩ := hol'.push (xs := [(.slice (some ⟨rid, 0, none⟩) xs.length xs.length)]) (by omega) rfl
  have hoid := h.ol.lt
  have hle := hp.length_le
  have hle0 := h.pre.length_le
  have hlt := hr.lt
  refine ⟨hsrc, H4, hap, ⟨(show Same (fun j => j = oid) H0 H4 from (Same.of_prefix (h.pre.trans hp)).trans hsame4).prefix (by have := h.ge; omega), by simpa [rowX] using hol4, by omega, ⟨?_, ?_⟩, ?_⟩⟩
  · intro r hm
    rcases List.mem_append.1 hm with hm | hm
    · refine (h.rows1.1 r hm).imp (fun h => h) fun hb => ?_
      exact hsame4.get (Same.get (S := fun _ => False) (Same.of_prefix hp) hb (fun h => h)) (h.ids r hm).2.2
    · simp at hm; subst hm
      rcases hr.2 with ⟨h0, _⟩ | h0
      · exact .inl (List.eq_nil_of_length_eq_zero h0)
      · right
        exact hsame4.get h0 (by simp only; omega)
  · intro a b r t ha hb hab hrn htn
    have key : ∀ (a : Nat) (r : Nat × List Int), (rows ++ [(rid, xs)])[a]? = some r → (a < rows.length ∧ rows[a]? = some r) ∨ (a = rows.length ∧ r = (rid, xs)) := by
      intro a r ha
      rcases Nat.lt_or_ge a rows.length with h | h
      · rw [List.getElem?_append_left h] at ha; exact .inl ⟨h, ha⟩
      · rw [List.getElem?_append_right h] at ha
        cases hk : a - rows.length with
        | zero => rw [hk] at ha; simp at ha; exact .inr ⟨by omega, ha.symm⟩
        | succ k => rw [hk] at ha; simp at ha
    rcases key a r ha with ⟨h1, h1'⟩ | ⟨h1, rfl⟩
    · rcases key b t hb with ⟨h2, h2'⟩ | ⟨h2, rfl⟩
      · exact h.rows1.2 a b r t h1' h2' hab hrn htn
      · have := (h.ids r (List.mem_of_getElem? h1')).2.1; simp only; omega
    · rcases key b t hb with ⟨h2, h2'⟩ | ⟨h2, rfl⟩
      · have := (h.ids t (List.mem_of_getElem? h2')).2.1; simp only; omega
      · omega
  · intro r hm
    rcases List.mem_append.1 hm with hm | hm
    · have := h.ids r hm
      omega
    · simp at hm; subst hm; simp only; omega


theorem BuildX.pushRow {H0 H1 : Heap} {oid : Nat} {rows : List (Nat × List Int)} {xs : List Int} (h : BuildX H0 H1 oid rows) :
    cellsAt (H1 ++ [⟨ints xs, true, true⟩, ⟨[.slice (some ⟨H1.length, 0, none⟩) xs.length xs.length], true, true⟩]) (H1.length + 1) 0 1 = some [.slice (some ⟨H1.length, 0, none⟩) xs.length xs.length] ∧
    ∃ H4, appendH (H1 ++ [⟨ints xs, true, true⟩, ⟨[.slice (some ⟨H1.length, 0, none⟩) xs.length xs.length], true, true⟩]) 1 (lv 1 oid 0 rows.length) 1 [.slice (some ⟨H1.length, 0, none⟩) xs.length xs.length] = some (lv 1 (H1.length + 2) 0 (rows.length + 1), H4) ∧ BuildX H0 H4 (H1.length + 2) (rows ++ [(H1.length, xs)]) := by
  have := h.push (H2 := H1 ++ [⟨ints xs, true, true⟩]) (rid := H1.length) (xs := xs) (List.prefix_append _ _) ⟨by simp [ints], .inr (by simp)⟩ (Nat.le_refl _)
  simpa using this
theorem BuildX.keep {H0 H H' : Heap} {oid : Nat} {rows : List (Nat × List Int)} (h : BuildX H0 H oid rows) (hp : H <+: H') : BuildX H0 H' oid rows :=
  ⟨h.pre.trans hp, h.ol.keep (S := fun _ => False) (Same.of_prefix hp) (fun h => h), h.ge, ⟨fun r hr => (h.rows1.1 r hr).imp (fun h => h) fun hb => Same.get (S := fun _ => False) (Same.of_prefix hp) hb (fun h => h), h.rows1.2⟩,
    fun r hr => ⟨(h.ids r hr).1, Nat.lt_of_lt_of_le (h.ids r hr).2.1 hp.length_le, (h.ids r hr).2.2⟩⟩
/-- The list built, its rows as slices of unknown room. -/
theorem BuildX.fin {H0 H : Heap} {oid : Nat} {rows : List (Nat × List Int)} (h : BuildX H0 H oid rows) : ∃ H2, upH H H2 ∧ Build H0 H2 oid rows := by
  obtain ⟨hl, h0 | hb⟩ := h.ol
  · have : rows = [] := List.eq_nil_of_length_eq_zero h0.1
    subst this
    exact ⟨H, upH.refl H, Build.of_ol h.pre ⟨rfl, .inl ⟨rfl, h0.2⟩⟩ h.ge⟩
  · have hlt := (List.getElem?_eq_some_iff.1 hb).1
    refine ⟨H.set oid ⟨rows.map rowVal, true, true⟩, upH.cells hb (by simp) ?_, ?_, ⟨by simp, .inr (List.getElem?_set_self hlt)⟩, h.ge, ⟨?_, h.rows1.2⟩, ?_⟩
    · intro k v v' hv hv'
      simp only [List.getElem?_map, Option.map_eq_some_iff] at hv hv'
      obtain ⟨r, hr, rfl⟩ := hv
      obtain ⟨r', hr', rfl⟩ := hv'
      rw [hr] at hr'; cases hr'
      refine Up.ex (by omega) ?_
      rcases h.rows1.1 r (List.mem_of_getElem? hr) with e | e
      · left; rw [e]; rfl
      · right
        rw [cellsAt_of e rfl (by simp [ints])]; rfl
    · have hs : Same (fun j => j = oid) H (H.set oid ⟨rows.map rowVal, true, true⟩) := ⟨by simp, fun j hj hS => List.getElem?_set_ne (fun e => hS e.symm)⟩
      exact ((Same.of_prefix h.pre).trans hs).prefix (by intro j hj e; have := h.ge; omega)
    · intro r hr
      refine (h.rows1.1 r hr).imp (fun h => h) fun hb' => ?_
      rw [List.getElem?_set_ne (fun e => (h.ids r hr).2.2 e.symm)]; exact hb'
    · intro r hr
      have := h.ids r hr
      rw [List.length_set]; exact this

end Go.Ab
end

section
/- The pairs that are left: both sides. -/
set_option linter.all false
set_option maxRecDepth 20000
namespace Go.Proofs.Ytdfeoccjllljiaa
open Go.Ab

/-- Pairs that a test lets pass, in order. -/
def prs1 (P : Nat → Nat → Bool) (a k : Nat) : List (List Int) := ((upTo (a + 1) k).filter (P a)).map fun b : Nat => [(a : Int), (b : Int)]
def prs0 (P : Nat → Nat → Bool) (v k : Nat) : List (List Int) := (upTo 0 k).flatMap fun a => prs1 P a v
theorem prs1_start (P : Nat → Nat → Bool) (a : Nat) : prs1 P a (a + 1) = [] := by simp [prs1, upTo_self]
theorem prs0_start (P : Nat → Nat → Bool) (v : Nat) : prs0 P v 0 = [] := by simp [prs0, upTo_self]
theorem prs1_succ {P : Nat → Nat → Bool} {a k : Nat} (h : a + 1 ≤ k) : prs1 P a (k + 1) = prs1 P a k ++ (if P a k then [[(a : Int), (k : Int)]] else []) := by
  simp only [prs1, upTo_succ h, List.filter_append, List.map_append]
  congr 1
  cases hP : P a k <;> simp [hP]
theorem prs0_succ {P : Nat → Nat → Bool} {v k : Nat} : prs0 P v (k + 1) = prs0 P v k ++ prs1 P k v := by simp [prs0, upTo_succ (Nat.zero_le k)]
theorem prs1_len (P : Nat → Nat → Bool) (a k : Nat) : (prs1 P a k).length ≤ k := by
  rw [prs1, List.length_map]
  refine Nat.le_trans (List.length_filter_le _ _) ?_
  rw [upTo_length]; omega
theorem prs0_len {P : Nat → Nat → Bool} {v : Nat} (hv : v ≤ 15) (k : Nat) : (prs0 P v k).length ≤ k * 15 := by
  induction k with
  | zero => simp [prs0_start]
  | succ k ih => rw [prs0_succ, List.length_append]; have := prs1_len P k v; omega
theorem prs1_two {P : Nat → Nat → Bool} {a k : Nat} : ∀ xs ∈ prs1 P a k, xs.length = 2 := by
  intro xs h
  simp only [prs1, List.mem_map] at h
  obtain ⟨b, _, rfl⟩ := h; rfl
theorem prs0_two {P : Nat → Nat → Bool} {v k : Nat} : ∀ xs ∈ prs0 P v k, xs.length = 2 := by
  intro xs h
  simp only [prs0, List.mem_flatMap] at h
  obtain ⟨a, _, h⟩ := h
  exact prs1_two xs h
theorem flat_two : ∀ {xss : List (List Int)}, (∀ xs ∈ xss, xs.length = 2) → xss.flatten.length = xss.length * 2
  | [], _ => rfl
  | xs :: xss, h => by
    rw [List.flatten_cons, List.length_append, h xs List.mem_cons_self, flat_two fun x hx => h x (List.mem_cons_of_mem _ hx), List.length_cons]; omega

/-- A pair is left. -/
def leftP (bs : List Bk) (a b : Nat) : Bool := decide (third bs a b = -1)
noncomputable def rLeft (p : Int) (bs : List Bk) : List (List Int) × Int := if sysB p bs then (prs0 (leftP bs) p.toNat p.toNat, 0) else ([], 1)

theorem leftRows_in {H H' : Heap} {oid v : Nat} {rows : List (Nat × List Int)} {P : Nat → Nat → Bool} (hv : v ≤ 15) (hb : Build H H' oid rows) (hr : rows.map (·.2) = prs0 P v v) : RowsIn H.length H'.length H' (lv 1 oid 0 rows.length) (prs0 P v v) := by
  have h1 := prs0_len (P := P) hv v
  have h2 : (prs0 P v v).flatten.length = (prs0 P v v).length * 2 := flat_two prs0_two
  have h3 : rows.length = (prs0 P v v).length := by rw [← hr, List.length_map]
  have := hb.inn (by rw [hr]; omega) (by omega)
  rwa [hr] at this

end Go.Proofs.Ytdfeoccjllljiaa
end

section
/- Two involutions without fixed points: going round by them in turn. Plain Lean, no program in sight. -/
set_option linter.all false
namespace Go.Ab

theorem nodup_len : ∀ (v : Nat) (l : List Nat), l.Nodup → (∀ x ∈ l, x < v) → l.length ≤ v
  | 0, l, _, h => by
    cases l with
    | nil => simp
    | cons x l => exact absurd (h x List.mem_cons_self) (by omega)
  | v + 1, l, hn, h => by
    by_cases hv : v ∈ l
    · have h1 := nodup_len v (l.erase v) (hn.erase v) fun x hx => by
        have := (List.Nodup.mem_erase_iff hn).1 hx
        have := h x this.2
        omega
      rw [List.length_erase_of_mem hv] at h1
      omega
    · have := nodup_len v l hn fun x hx => by
        have h2 := h x hx
        have : x ≠ v := fun e => hv (e ▸ hx)
        omega
      omega

/-- By f and by g in turn. -/
def alt (f g : Nat → Nat) (p : Nat) : Nat → Nat
  | 0 => p
  | k + 1 => if k % 2 = 0 then f (alt f g p k) else g (alt f g p k)

structure Turn (f g : Nat → Nat) (S : Nat → Prop) : Prop where
  fS : ∀ x, S x → S (f x)
  gS : ∀ x, S x → S (g x)
  ff : ∀ x, S x → f (f x) = x
  gg : ∀ x, S x → g (g x) = x
  fne : ∀ x, S x → f x ≠ x
  gne : ∀ x, S x → g x ≠ x

theorem alt_S {f g : Nat → Nat} {S : Nat → Prop} (h : Turn f g S) {p : Nat} (hp : S p) : ∀ k, S (alt f g p k)
  | 0 => hp
  | k + 1 => by
    simp only [alt]
    split
    · exact h.fS _ (alt_S h hp k)
    · exact h.gS _ (alt_S h hp k)
/-- As long as all are different, what comes next is new, or it is the first one, at an even place. -/
theorem alt_next {f g : Nat → Nat} {S : Nat → Prop} (h : Turn f g S) {p n : Nat} (hp : S p) (hd : ∀ i j, i < j → j ≤ n → alt f g p i ≠ alt f g p j) :
    (∀ j, j ≤ n → alt f g p j ≠ alt f g p (n + 1)) ∨ (alt f g p (n + 1) = p ∧ n % 2 = 1) := by
  by_cases hx : ∃ j, j ≤ n ∧ alt f g p j = alt f g p (n + 1)
  · obtain ⟨j, hj, e⟩ := hx
    right
    have inj : ∀ i k, i ≤ n → k ≤ n → alt f g p i = alt f g p k → i = k := by
      intro i k hi hk e
      rcases Nat.lt_trichotomy i k with h1 | h1 | h1
      · exact absurd e (hd i k h1 hk)
      · exact h1
      · exact absurd e.symm (hd k i h1 hi)
    have hS := alt_S h hp
    by_cases hn : n % 2 = 0
    · -- by f
      exfalso
      have e1 : alt f g p (n + 1) = f (alt f g p n) := by simp [alt, hn]
      rw [e1] at e
      by_cases hj2 : j % 2 = 0
      · -- j even: f of it is the next one
        have e2 : alt f g p (j + 1) = f (alt f g p j) := by simp [alt, hj2]
        have e3 : f (alt f g p j) = alt f g p n := by rw [e, h.ff _ (hS n)]
        by_cases hjn : j = n
        · subst hjn; exact h.fne _ (hS j) (by rw [e3])
        · rw [← e2] at e3
          have := inj (j + 1) n (by omega) (by omega) e3
          omega
      · obtain ⟨i, rfl⟩ : ∃ i, j = i + 1 := ⟨j - 1, by omega⟩
        have e2 : alt f g p (i + 1) = f (alt f g p i) := by simp only [alt]; rw [if_pos (by omega)]
        rw [e2] at e
        have := congrArg f e
        rw [h.ff _ (hS i), h.ff _ (hS n)] at this
        have := inj i n (by omega) (by omega) this
        omega
    · have e1 : alt f g p (n + 1) = g (alt f g p n) := by simp [alt, hn]
      rw [e1] at e ⊢
      by_cases hj0 : j = 0
      · subst hj0; exact ⟨e.symm, by omega⟩
      · exfalso
        by_cases hj2 : j % 2 = 1
        · have e2 : alt f g p (j + 1) = g (alt f g p j) := by simp only [alt]; rw [if_neg (by omega)]
          have e3 : g (alt f g p j) = alt f g p n := by rw [e, h.gg _ (hS n)]
          by_cases hjn : j = n
          · subst hjn; exact h.gne _ (hS j) (by rw [e3])
          · rw [← e2] at e3
            have := inj (j + 1) n (by omega) (by omega) e3
            omega
        · obtain ⟨i, rfl⟩ : ∃ i, j = i + 1 := ⟨j - 1, by omega⟩
          have e2 : alt f g p (i + 1) = g (alt f g p i) := by simp only [alt]; rw [if_neg (by omega)]
          rw [e2] at e
          have := congrArg g e
          rw [h.gg _ (hS i), h.gg _ (hS n)] at this
          have := inj i n (by omega) (by omega) this
          omega
  · left
    intro j hj e
    exact hx ⟨j, hj, e⟩
/-- The way comes back to its first point, at an even place, and all ahead are different. -/
theorem alt_back {f g : Nat → Nat} {S : Nat → Prop} (h : Turn f g S) {p v : Nat} (hp : S p) (hv : ∀ x, S x → x < v) :
    ∃ n, 2 ≤ n ∧ n % 2 = 0 ∧ n ≤ v ∧ alt f g p n = p ∧ ∀ i j, i < j → j < n → alt f g p i ≠ alt f g p j := by
  have len : ∀ n, (∀ i j, i < j → j < n → alt f g p i ≠ alt f g p j) → n ≤ v := by
    intro n hd
    have := nodup_len v ((List.range n).map (alt f g p)) ?_ ?_
    · simpa using this
    · refine List.pairwise_map.2 ?_
      rw [List.pairwise_iff_getElem]
      intro i j hi hj hij
      simp only [List.getElem_range]
      exact hd i j hij (by simpa using hj)
    · intro x hx
      obtain ⟨k, _, rfl⟩ := List.mem_map.1 hx
      exact hv _ (alt_S h hp k)
  -- going on until it comes back
  have go : ∀ m n, n + m = v → (∀ i j, i < j → j < n + 1 → alt f g p i ≠ alt f g p j) → ∃ n, 2 ≤ n ∧ n % 2 = 0 ∧ n ≤ v ∧ alt f g p n = p ∧ ∀ i j, i < j → j < n → alt f g p i ≠ alt f g p j := by
    intro m
    induction m with
    | zero => intro n hn hd; have := len (n + 1) hd; omega
    | succ m ih =>
      intro n hn hd
      rcases alt_next h hp (n := n) (fun i j hij hj => hd i j hij (by omega)) with h1 | ⟨h1, h2⟩
      · refine ih (n + 1) (by omega) ?_
        intro i j hij hj
        by_cases e : j = n + 1
        · subst e; exact h1 i (by omega)
        · exact hd i j hij (by omega)
      · exact ⟨n + 1, by omega, by omega, by have := len (n + 1) hd; omega, h1, hd⟩
  have hv0 := len 1 (by intro i j h1 h2; omega)
  exact go v 0 (by omega) (by intro i j h1 h2; omega)

end Go.Ab
end

section
/- A system with so many blocks has every pair: by counting. -/
set_option linter.all false
set_option maxRecDepth 20000
namespace Go.Proofs.Ytdfeoccjllljiaa
open Go.Ab

theorem sub_len : ∀ (l m : List Nat), l.Nodup → (∀ x ∈ l, x ∈ m) → l.length ≤ m.length
  | [], m, _, _ => by simp
  | x :: l, m, hn, h => by
    have hn' := List.nodup_cons.1 hn
    have hx := h x List.mem_cons_self
    have h1 := sub_len l (m.erase x) hn'.2 fun y hy => by
      have hne : y ≠ x := fun e => hn'.1 (e ▸ hy)
      exact (List.mem_erase_of_ne hne).2 (h y (List.mem_cons_of_mem _ hy))
    rw [List.length_erase_of_mem hx] at h1
    have := List.length_pos_of_mem hx
    rw [List.length_cons]; omega
theorem sub_all {l m : List Nat} (hn : l.Nodup) (h : ∀ x ∈ l, x ∈ m) (hlen : m.length ≤ l.length) {x : Nat} (hx : x ∈ m) : x ∈ l := by
  by_cases hxl : x ∈ l
  · exact hxl
  · have := sub_len (x :: l) m (List.nodup_cons.2 ⟨hxl, hn⟩) fun y hy => by
      rcases List.mem_cons.1 hy with rfl | hy
      · exact hx
      · exact h y hy
    rw [List.length_cons] at this; omega

/-- All pairs, as numbers. -/
def allP (v : Nat) : List Nat := (List.range v).flatMap fun i => (upTo (i + 1) v).map fun j => i * 15 + j
def blkP (b : Bk) : List Nat := [b.a.toNat * 15 + b.b.toNat, b.a.toNat * 15 + b.c.toNat, b.b.toNat * 15 + b.c.toNat]
theorem allP_length : ∀ v, v < 16 → (allP v).length * 2 = v * (v - 1) := by decide +kernel
theorem mem_allP {v i j : Nat} (h1 : i < j) (h2 : j < v) : i * 15 + j ∈ allP v := by
  simp only [allP, List.mem_flatMap, List.mem_range, List.mem_map, mem_upTo]
  exact ⟨i, by omega, j, by omega, rfl⟩
theorem flatP_length (bs : List Bk) : (bs.flatMap blkP).length = bs.length * 3 := by
  induction bs with
  | nil => rfl
  | cons b bs ih => rw [List.flatMap_cons, List.length_append, ih, List.length_cons]; simp only [blkP, List.length_cons, List.length_nil]; omega

theorem full_cover {v : Nat} {bs : List Bk} (hS : IsSys v bs) (hf : fullB v bs = true) {p q : Nat} (hpq : p < q) (hq : q < v) : third bs p q ≠ -1 := by
  obtain ⟨hp, hlen, hsort, hfit⟩ := hS
  have hg : ∀ x ∈ bs, good (v : Int) x = true := fun x hx => by
    obtain ⟨i, hi⟩ := List.mem_iff_getElem?.1 hx
    exact (hsort i x hi).1
  have hnd : (bs.flatMap blkP).Nodup := by
    unfold List.Nodup
    rw [List.pairwise_flatMap]
    constructor
    · intro b hb
      have := good_iff.1 (hg b hb)
      refine List.pairwise_cons.2 ⟨?_, List.pairwise_cons.2 ⟨?_, List.pairwise_singleton _ _⟩⟩
      · intro x hx
        simp only [List.mem_cons, List.not_mem_nil, or_false] at hx
        rcases hx with rfl | rfl <;> omega
      · intro x hx
        simp only [List.mem_cons, List.not_mem_nil, or_false] at hx
        subst hx; omega
    · rw [List.pairwise_iff_getElem]
      intro i j hi hj hij
      have gx := good_iff.1 (hg _ (List.getElem_mem hi))
      have gy := good_iff.1 (hg _ (List.getElem_mem hj))
      have hc := (common_le_one (w := v) (hg _ (List.getElem_mem hj))).1 (hfit j i bs[j] bs[i] hij (List.getElem?_eq_getElem hj) (List.getElem?_eq_getElem hi))
      simp only [Bk.has_iff] at hc
      generalize bs[i] = y at *
      generalize bs[j] = x at *
      intro m hm n hn e
      subst e
      simp only [blkP, List.mem_cons, List.not_mem_nil, or_false] at hm hn
      obtain ⟨c1, c2, c3⟩ := hc
      rcases hm with hm | hm | hm
      · refine c1 ⟨?_, ?_⟩ <;> rcases hn with hn | hn | hn <;> omega
      · refine c2 ⟨?_, ?_⟩ <;> rcases hn with hn | hn | hn <;> omega
      · refine c3 ⟨?_, ?_⟩ <;> rcases hn with hn | hn | hn <;> omega
  have hsub : ∀ x ∈ bs.flatMap blkP, x ∈ allP v := by
    intro x hx
    obtain ⟨b, hb, hx⟩ := List.mem_flatMap.1 hx
    have := good_iff.1 (hg b hb)
    simp only [blkP, List.mem_cons, List.not_mem_nil, or_false] at hx
    rcases hx with rfl | rfl | rfl
    · exact mem_allP (by omega) (by omega)
    · exact mem_allP (by omega) (by omega)
    · exact mem_allP (by omega) (by omega)
  have hv := allP_length v (by omega)
  have hcnt : 6 * (bs.length : Int) = (v : Int) * ((v : Int) - 1) := by simpa [fullB] using hf
  have hcnt2 : 6 * bs.length = v * (v - 1) := by
    have e : ((v * (v - 1) : Nat) : Int) = (v : Int) * ((v : Int) - 1) := by rw [Int.natCast_mul, Int.natCast_sub (by omega)]; rfl
    omega
  have hin := sub_all hnd hsub (by rw [flatP_length]; omega) (mem_allP hpq hq)
  obtain ⟨b, hb, hx⟩ := List.mem_flatMap.1 hin
  have gb := good_iff.1 (hg b hb)
  rw [Ne, third_neg hg (by omega)]
  intro hno
  refine hno b hb ?_
  simp only [Bk.has_iff]
  simp only [blkP, List.mem_cons, List.not_mem_nil, or_false] at hx
  rcases hx with hx | hx | hx <;> constructor <;> omega

end Go.Proofs.Ytdfeoccjllljiaa
end

section
/- Third points in a full system. Plain Lean. -/
set_option linter.all false
set_option maxRecDepth 20000
namespace Go.Proofs.Ytdfeoccjllljiaa
open Go.Ab

theorem fits_same {v : Int} {bs : List Bk} (hg : ∀ x ∈ bs, good v x = true) (hF : Fits bs) {x y : Bk} (hx : x ∈ bs) (hy : y ∈ bs) {p q : Int} (hpq : p ≠ q) (h1 : x.has p = true) (h2 : x.has q = true) (h3 : y.has p = true) (h4 : y.has q = true) : x = y := by
  obtain ⟨i, hi⟩ := List.mem_iff_getElem?.1 hx
  obtain ⟨j, hj⟩ := List.mem_iff_getElem?.1 hy
  have key : ∀ {i j : Nat} {x y : Bk}, j < i → bs[i]? = some x → bs[j]? = some y → x.has p = true → x.has q = true → y.has p = true → y.has q = true → False := by
    intro i j x y hij hi hj h1 h2 h3 h4
    have hc := (common_le_one (w := v) (hg x (List.mem_of_getElem? hi))).1 (hF i j x y hij hi hj)
    obtain ⟨c1, c2, c3⟩ := hc
    rw [Bk.has_iff] at h3 h4
    rcases h3 with h3 | h3 | h3 <;> rcases h4 with h4 | h4 | h4 <;> subst h3 <;> first
      | exact hpq h4
      | (subst h4; first | exact c1 ⟨h1, h2⟩ | exact c1 ⟨h2, h1⟩ | exact c2 ⟨h1, h2⟩ | exact c2 ⟨h2, h1⟩ | exact c3 ⟨h1, h2⟩ | exact c3 ⟨h2, h1⟩)
  rcases Nat.lt_trichotomy i j with h | h | h
  · exact (key h hj hi h3 h4 h1 h2).elim
  · subst h; rw [hi] at hj; exact Option.some.inj hj
  · exact (key h hi hj h1 h2 h3 h4).elim

theorem third_back {v : Int} {bs : List Bk} (hg : ∀ x ∈ bs, good v x = true) (hF : Fits bs) {p q : Int} (hpq : p ≠ q) (h : third bs p q ≠ -1) : third bs p (third bs p q) = q := by
  obtain ⟨c, hc, h1, h2, h3, h4, h5, h6, h7, h8⟩ := third_some hg hpq h
  have hne : p ≠ third bs p q := fun e => h7 e.symm
  have hn2 : third bs p (third bs p q) ≠ -1 := by
    rw [Ne, third_neg hg hne]
    intro hno; exact hno c hc ⟨h1, h6⟩
  obtain ⟨d, hd, g1, g2, g3, _⟩ := third_some hg hne hn2
  have e := fits_same hg hF hc hd hne h1 h6 g1 g2
  subst e
  rw [g3]; omega

/-- The third point as a number. -/
def thr (bs : List Bk) (a x : Nat) : Nat := (third bs a x).toNat
theorem thr_spec {v : Nat} {bs : List Bk} (hS : IsSys v bs) (hf : fullB v bs = true) {p q : Nat} (hpq : p ≠ q) (hp : p < v) (hq : q < v) :
    third bs p q = (thr bs p q : Int) ∧ thr bs p q < v ∧ thr bs p q ≠ p ∧ thr bs p q ≠ q ∧ thr bs p (thr bs p q) = q := by
  have hg : ∀ x ∈ bs, good (v : Int) x = true := hS.good
  have hne : third bs p q ≠ -1 := by
    rcases Nat.lt_or_gt_of_ne hpq with h | h
    · exact full_cover hS hf h hq
    · rw [third_comm]; exact full_cover hS hf h hp
  have hb := third_back hg hS.2.2.2 (show (p : Int) ≠ q by omega) hne
  obtain ⟨c, hc, h1, h2, h3, h4, h5, h6, h7, h8⟩ := third_some hg (show (p : Int) ≠ q by omega) hne
  have e : third bs p q = (thr bs p q : Int) := by unfold thr; omega
  refine ⟨e, by omega, by omega, by omega, ?_⟩
  rw [e] at hb
  unfold thr at hb ⊢
  rw [hb]; rfl

/-- The points that two others and their third point leave. -/
def cycS (v : Nat) (bs : List Bk) (a b x : Nat) : Prop := x < v ∧ x ≠ a ∧ x ≠ b ∧ x ≠ thr bs a b
theorem thr_comm (bs : List Bk) (a b : Nat) : thr bs a b = thr bs b a := by unfold thr; rw [third_comm]
theorem turn_of {v : Nat} {bs : List Bk} (hS : IsSys v bs) (hf : fullB v bs = true) {a b : Nat} (hab : a ≠ b) (ha : a < v) (hb : b < v) : Turn (thr bs a) (thr bs b) (cycS v bs a b) := by
  obtain ⟨_, c1, c2, c3, c4⟩ := thr_spec hS hf hab ha hb
  obtain ⟨_, _, _, _, c5⟩ := thr_spec hS hf (Ne.symm hab) hb ha
  have key : ∀ {a b : Nat}, a ≠ b → a < v → b < v → ∀ x, cycS v bs a b x → cycS v bs a b (thr bs a x) ∧ thr bs a (thr bs a x) = x ∧ thr bs a x ≠ x := by
    intro a b hab ha hb x ⟨h1, h2, h3, h4⟩
    obtain ⟨_, c1, c2, c3, c4⟩ := thr_spec hS hf hab ha hb
    obtain ⟨_, d1, d2, d3, d4⟩ := thr_spec hS hf (Ne.symm h2) ha h1
    refine ⟨⟨d1, d2, ?_, ?_⟩, d4, d3⟩
    · intro e; rw [e] at d4; exact h4 d4.symm
    · intro e; rw [e, c4] at d4; exact h3 d4.symm
  have sw : ∀ x, cycS v bs a b x ↔ cycS v bs b a x := by
    intro x; unfold cycS; rw [thr_comm bs a b]
    constructor <;> rintro ⟨h1, h2, h3, h4⟩ <;> exact ⟨h1, h3, h2, h4⟩
  exact ⟨fun x hx => (key hab ha hb x hx).1, fun x hx => (sw _).2 (key (Ne.symm hab) hb ha x ((sw x).1 hx)).1, fun x hx => (key hab ha hb x hx).2.1, fun x hx => (key (Ne.symm hab) hb ha x ((sw x).1 hx)).2.1,
    fun x hx => (key hab ha hb x hx).2.2, fun x hx => (key (Ne.symm hab) hb ha x ((sw x).1 hx)).2.2⟩

end Go.Proofs.Ytdfeoccjllljiaa
end

section
/- All ways round, one after the other. Plain Lean. -/
set_option linter.all false
namespace Go.Ab

def IsCyc (f g : Nat → Nat) (p n : Nat) : Prop := 2 ≤ n ∧ n % 2 = 0 ∧ alt f g p n = p ∧ ∀ i j, i < j → j < n → alt f g p i ≠ alt f g p j
theorem IsCyc.uniq {f g : Nat → Nat} {p n m : Nat} (h : IsCyc f g p n) (h' : IsCyc f g p m) : n = m := by
  rcases Nat.lt_trichotomy n m with e | e | e
  · exact absurd (show alt f g p 0 = alt f g p n by rw [h.2.2.1]; rfl) (h'.2.2.2 0 n (by have := h.1; omega) e)
  · exact e
  · exact absurd (show alt f g p 0 = alt f g p m by rw [h'.2.2.1]; rfl) (h.2.2.2 0 m (by have := h'.1; omega) e)
open Classical in
noncomputable def cycN (f g : Nat → Nat) (p : Nat) : Nat := if h : ∃ n, IsCyc f g p n then Classical.choose h else 0
theorem cycN_ok {f g : Nat → Nat} {S : Nat → Prop} (h : Turn f g S) {p v : Nat} (hp : S p) (hv : ∀ x, S x → x < v) : IsCyc f g p (cycN f g p) ∧ cycN f g p ≤ v := by
  obtain ⟨n, h1, h2, h3, h4, h5⟩ := alt_back h hp hv
  have hex : ∃ n, IsCyc f g p n := ⟨n, h1, h2, h4, h5⟩
  have e : IsCyc f g p (cycN f g p) := by unfold cycN; rw [dif_pos hex]; exact Classical.choose_spec hex
  exact ⟨e, by rw [e.uniq ⟨h1, h2, h4, h5⟩]; exact h3⟩
noncomputable def cycL (f g : Nat → Nat) (p : Nat) : List Nat := (List.range (cycN f g p)).map (alt f g p)
theorem mem_cycL {f g : Nat → Nat} {p x : Nat} : x ∈ cycL f g p ↔ ∃ k, k < cycN f g p ∧ alt f g p k = x := by simp [cycL]
/-- A way round is closed. -/
theorem cycL_closed {f g : Nat → Nat} {S : Nat → Prop} (h : Turn f g S) {p v : Nat} (hp : S p) (hv : ∀ x, S x → x < v) {x : Nat} (hx : x ∈ cycL f g p) : f x ∈ cycL f g p ∧ g x ∈ cycL f g p := by
  obtain ⟨⟨n2, ne, nb, _⟩, _⟩ := cycN_ok h hp hv
  rw [mem_cycL] at hx ⊢
  rw [mem_cycL]
  obtain ⟨k, hk, rfl⟩ := hx
  have hS := alt_S h hp
  generalize cycN f g p = n at *
  by_cases hk2 : k % 2 = 0
  · refine ⟨⟨k + 1, by omega, by simp [alt, hk2]⟩, ?_⟩
    by_cases h0 : k = 0
    · subst h0
      obtain ⟨m, rfl⟩ : ∃ m, n = m + 1 := ⟨n - 1, by omega⟩
      have e : alt f g p (m + 1) = g (alt f g p m) := by simp only [alt]; rw [if_neg (by omega)]
      rw [e] at nb
      refine ⟨m, by omega, ?_⟩
      have := h.gg _ (hS m)
      rw [nb] at this
      exact this.symm
    · obtain ⟨m, rfl⟩ : ∃ m, k = m + 1 := ⟨k - 1, by omega⟩
      have e : alt f g p (m + 1) = g (alt f g p m) := by simp only [alt]; rw [if_neg (by omega)]
      exact ⟨m, by omega, by rw [e, h.gg _ (hS m)]⟩
  · obtain ⟨m, rfl⟩ : ∃ m, k = m + 1 := ⟨k - 1, by omega⟩
    have e : alt f g p (m + 1) = f (alt f g p m) := by simp only [alt]; rw [if_pos (by omega)]
    refine ⟨⟨m, by omega, by rw [e, h.ff _ (hS m)]⟩, ?_⟩
    have e2 : alt f g p (m + 1 + 1) = g (alt f g p (m + 1)) := by
      rw [show alt f g p (m + 1 + 1) = if (m + 1) % 2 = 0 then f (alt f g p (m + 1)) else g (alt f g p (m + 1)) from rfl, if_neg (by omega)]
    by_cases hn : m + 1 + 1 < n
    · exact ⟨m + 1 + 1, hn, e2⟩
    · have : m + 1 + 1 = n := by omega
      rw [this, nb] at e2
      exact ⟨0, by omega, e2⟩

/-- What was met already is closed: a point that was not met leads to none that was. -/
def Shut (f g : Nat → Nat) (S : Nat → Prop) (met : List Nat) : Prop := ∀ x, S x → x ∉ met → f x ∉ met ∧ g x ∉ met
theorem Shut.alt {f g : Nat → Nat} {S : Nat → Prop} {met : List Nat} (hm : Shut f g S met) (h : Turn f g S) {p : Nat} (hp : S p) (hpm : p ∉ met) : ∀ k, Go.Ab.alt f g p k ∉ met
  | 0 => hpm
  | k + 1 => by
    have ih := hm _ (alt_S h hp k) (hm.alt h hp hpm k)
    simp only [Go.Ab.alt]
    split
    · exact ih.1
    · exact ih.2
theorem Shut.next {f g : Nat → Nat} {S : Nat → Prop} {met : List Nat} (hm : Shut f g S met) (h : Turn f g S) {p v : Nat} (hp : S p) (hv : ∀ x, S x → x < v) : Shut f g S (met ++ cycL f g p) := by
  intro x hx hn
  simp only [List.mem_append, not_or] at hn ⊢
  have h1 := hm x hx hn.1
  refine ⟨⟨h1.1, fun hc => hn.2 ?_⟩, h1.2, fun hc => hn.2 ?_⟩
  · have := (cycL_closed h hp hv hc).1
    rwa [h.ff _ hx] at this
  · have := (cycL_closed h hp hv hc).2
    rwa [h.gg _ hx] at this

/-- All ways round, from points that were not met. -/
noncomputable def cycAll (f g : Nat → Nat) : List Nat → List Nat → List (List Nat)
  | [], _ => []
  | p :: ps, met => if p ∈ met then cycAll f g ps met else cycL f g p :: cycAll f g ps (met ++ cycL f g p)

end Go.Ab
end

section
/- The pairs that are left: the tested program's side. -/
set_option linter.all false
set_option maxRecDepth 20000
namespace Go.Proofs.Ytdfeoccjllljiaa
open Go.Ab

end Go.Proofs.Ytdfeoccjllljiaa
end

section
/- CyclesOf: one way round, the tested program's side. -/
set_option linter.all false
set_option maxRecDepth 20000
set_option maxHeartbeats 4000000
namespace Go.Proofs.Ytdfeoccjllljiaa
open Go.Ab

/-- The first k points of a way round. -/
def altL (f g : Nat → Nat) (p k : Nat) : List Int := (List.range k).map fun j => ((alt f g p j : Nat) : Int)
theorem altL_length (f g : Nat → Nat) (p k : Nat) : (altL f g p k).length = k := by simp [altL]
theorem altL_two (f g : Nat → Nat) (p k : Nat) : altL f g p (k + 2) = altL f g p k ++ [((alt f g p k : Nat) : Int), ((alt f g p (k + 1) : Nat) : Int)] := by
  unfold altL; rw [List.range_succ, List.range_succ]; simp
theorem altL_one (f g : Nat → Nat) (p k : Nat) : altL f g p (k + 1) = altL f g p k ++ [((alt f g p k : Nat) : Int)] := by
  unfold altL; rw [List.range_succ]; simp

end Go.Proofs.Ytdfeoccjllljiaa
end

section
/- The part of a system on some points: the specification's side. -/
set_option linter.all false
set_option maxRecDepth 20000
set_option maxHeartbeats 4000000
namespace Go.Proofs.Ytdfeoccjllljiaa
open Go.Ab

end Go.Proofs.Ytdfeoccjllljiaa
end

section
/- BlocksOn: the specification's side, and places on the other side. -/
set_option linter.all false
set_option maxRecDepth 20000
set_option maxHeartbeats 4000000
namespace Go.Proofs.Ytdfeoccjllljiaa
open Go.Ab

theorem put2 {H H0 H' : Heap} {id : Nat} {cs0 cs : List Value} (hp0 : H <+: H0) (hid : H.length ≤ id) (hb0 : H0[id]? = some ⟨cs0, true, true⟩) (h2 : cs0.length = 2) (hp : H0 <+: H') (hcl : cs.length = 2) (ho : cs.all Value.oneCell' = true) :
    storeAt H' id 0 cs = some (H'.set id ⟨cs, true, true⟩) ∧ cellsAt (H'.set id ⟨cs, true, true⟩) id 0 2 = some cs ∧ H <+: H'.set id ⟨cs, true, true⟩ ∧ Same (fun j => j = id) H' (H'.set id ⟨cs, true, true⟩) := by
  have hb' := Same.get (S := fun _ => False) (Same.of_prefix hp) hb0 (fun h => h)
  have hsame : Same (fun j => j = id) H' (H'.set id ⟨cs, true, true⟩) := ⟨by simp, fun j hj hS => List.getElem?_set_ne (fun e => hS e.symm)⟩
  refine ⟨?_, ?_, ((Same.of_prefix (hp0.trans hp)).trans hsame).prefix (by intro j hj he; omega), hsame⟩
  · rw [storeAt_of hb' rfl rfl (by simp [hcl, h2]) ho]
    match cs, hcl, cs0, h2 with
    | [x, y], _, [z, w], _ => simp [over]
  · have := Holds.cells (n := 2) (o := 0) (H := H'.set id ⟨cs, true, true⟩) ⟨true, List.getElem?_set_self (List.getElem?_eq_some_iff.1 hb').1⟩ (by omega)
    rw [this, List.drop_zero, List.take_of_length_le (by omega)]

theorem indexI_ok {H : Heap} {v : Value} {xs : List Int} {q : Int} (hv : IntsAt H v xs) (Post : Value → Heap → Prop) (h : Post (.int .i64 (plc xs q)) H) : ACalls Try.prog 182 [v, .int .i64 q] H Post := by
  obtain ⟨i, o, rfl, h1, h2⟩ := hv
  refine acalls_vc (rs := [.tmp 4]) Try.func182 rfl rfl Try.ntmps182 rfl rfl ?_
  simp (maxSteps := 1000000) [go_sem]
  refine AWp.loopVc (fun s : Nat => [(0, lv 1 i o xs.length), (1, .int .i64 q), (7, .int .i64 xs.length), (8, .int .i64 s)])
    (fun s H' => s ≤ xs.length ∧ H' = H ∧ ∀ y ∈ xs.take s, y ≠ q) (fun s => xs.length - s) 0 ?_ ?_ ?_
  · simp [upF, Fr.get, Up.refl]
  · exact ⟨by omega, rfl, by simp⟩
  · rintro K s H' ⟨hs, rfl, hall⟩ hK
    by_cases hlt : s < xs.length
    · have hx : xs[s]? = some xs[s] := List.getElem?_eq_getElem hlt
      have c1 := h1.cell (k := s) (v := .int .i64 xs[s]) (by simp [ints_get, hlt])
      have hw_s : IntKind.i64.wrap ((s : Int) + 1) = (s : Int) + 1 := i64w (by omega) (by omega)
      by_cases he : q = xs[s]
      · have e : (q == xs[s]) = true := by simpa using he
        simp (maxSteps := 1000000) [go_sem, hlt, c1, e]
        rwa [plc_at (k := s) (by rw [hx, he]) hall] at h
      · have e : (q == xs[s]) = false := by simpa using he
        simp (maxSteps := 1000000) [go_sem, hlt, c1, e, hw_s]
        refine hK (s + 1) _ _ (by omega) (by simp [upF, Fr.get, Up.refl]) ⟨by omega, rfl, ?_⟩
        intro y hy
        rw [List.take_succ_eq_append_getElem hlt, List.mem_append] at hy
        rcases hy with hy | hy
        · exact hall y hy
        · simp at hy; subst hy; exact fun e => he e.symm
    · have : s = xs.length := by omega
      subst this
      rw [List.take_length] at hall
      simp (maxSteps := 1000000) [go_sem]
      rwa [plc_none hall] at h

end Go.Proofs.Ytdfeoccjllljiaa
end

section
/- CyclesOf: membership, and lists of lists kept while other blocks change. -/
set_option linter.all false
set_option maxRecDepth 20000
set_option maxHeartbeats 4000000
namespace Go.Proofs.Ytdfeoccjllljiaa
open Go.Ab

theorem plc_mem {xs : List Int} {q : Int} : decide (0 ≤ plc xs q) = decide (q ∈ xs) := by
  by_cases h : q ∈ xs
  · rw [decide_eq_true h]
    by_cases h0 : 0 ≤ plc xs q
    · exact decide_eq_true h0
    · exfalso
      have hge := plc_ge xs q
      have hm1 : plc xs q = -1 := by omega
      clear h0 hge
      induction xs with
      | nil => simp at h
      | cons x xs ih =>
        simp only [plc] at hm1
        split at hm1
        · omega
        · rename_i hne
          split at hm1
          · rename_i h1
            rcases List.mem_cons.1 h with e | h
            · exact hne e.symm
            · exact ih h h1
          · have := plc_ge xs q; omega
  · rw [decide_eq_false h]
    refine decide_eq_false ?_
    have hno : ∀ x ∈ xs, x ≠ q := by
      intro x hx e
      subst e
      exact h hx
    rw [plc_none hno]; omega

theorem containsI_ok {H : Heap} {v : Value} {xs : List Int} {q : Int} (hv : IntsAt H v xs) (Post : Value → Heap → Prop) (h : Post (.bool (decide (q ∈ xs))) H) : ACalls Try.prog 158 [v, .int .i64 q] H Post := by
  refine acalls_vc (rs := [.tmp 4]) Try.func158 rfl rfl Try.ntmps158 rfl rfl ?_
  simp (maxSteps := 1000000) [go_sem]
  refine indexI_ok hv _ ?_
  simp (maxSteps := 1000000) [go_sem, plc_mem]
  exact h

theorem _root_.Go.Ab.Build.keepS {H0 H H' : Heap} {oid : Nat} {rows : List (Nat × List Int)} {S : Nat → Prop} (h : Build H0 H oid rows) (hs : Same S H H') (h0 : ∀ j, S j → H0.length ≤ j) (ho : ¬ S oid) (hr : ∀ r ∈ rows, ¬ S r.1) : Build H0 H' oid rows :=
  ⟨((Same.of_prefix h.pre).trans hs).prefix (by intro j hj hS; have := h0 j hS; omega), h.ol.keep hs ho, h.ge,
    ⟨fun r hm => (h.rows1.1 r hm).imp (fun h => h) fun hb => hs.get hb (hr r hm), h.rows1.2⟩,
    fun r hm => ⟨(h.ids r hm).1, Nat.lt_of_lt_of_le (h.ids r hm).2.1 hs.1, (h.ids r hm).2.2⟩⟩

theorem _root_.Go.Ab.Build.pushAt {H0 H2 : Heap} {oid rid : Nat} {rows : List (Nat × List Int)} {xs : List Int} (h : Build H0 H2 oid rows) (hr : OL 1 H2 rid (ints xs) xs.length) (hr0 : H0.length ≤ rid) (hro : rid ≠ oid) (hrr : ∀ r ∈ rows, r.1 ≠ rid) :
    cellsAt (H2 ++ [⟨[lv 1 rid 0 xs.length], true, true⟩]) H2.length 0 1 = some [lv 1 rid 0 xs.length] ∧
    ∃ H4, appendH (H2 ++ [⟨[lv 1 rid 0 xs.length], true, true⟩]) 1 (lv 1 oid 0 rows.length) 1 [lv 1 rid 0 xs.length] = some (lv 1 (H2.length + 1) 0 (rows.length + 1), H4) ∧ Build H0 H4 (H2.length + 1) (rows ++ [(rid, xs)]) ∧ Same (fun j => j = oid) H2 H4 := by
  have hol' : OL 1 H2 oid (rows.map rowVal) rows.length := h.ol
  have hp : H2 <+: H2 := List.prefix_refl _
  obtain ⟨hsrc, H4, hap, hol4, hsame4, hlen4⟩ := hol'.push (xs := [lv 1 rid 0 xs.length]) (by omega) rfl
  have hoid := h.ol.lt
  have hle := hp.length_le
  have hle0 := h.pre.length_le
  have hlt := hr.lt
  refine ⟨hsrc, H4, hap, ⟨⟨(show Same (fun j => j = oid) H0 H4 from (Same.of_prefix (h.pre.trans hp)).trans hsame4).prefix (by have := h.ge; omega), by simpa [rowVal] using hol4, by omega, ⟨?_, ?_⟩, ?_⟩, hsame4⟩⟩
  · intro r hm
    rcases List.mem_append.1 hm with hm | hm
    · refine (h.rows1.1 r hm).imp (fun h => h) fun hb => ?_
      exact hsame4.get (Same.get (S := fun _ => False) (Same.of_prefix hp) hb (fun h => h)) (h.ids r hm).2.2
    · simp at hm; subst hm
      rcases hr.2 with ⟨h0, _⟩ | h0
      · exact .inl (List.eq_nil_of_length_eq_zero h0)
      · right
        exact hsame4.get h0 (by simp only; omega)
  · intro a b r t ha hb hab hrn htn
    have key : ∀ (a : Nat) (r : Nat × List Int), (rows ++ [(rid, xs)])[a]? = some r → (a < rows.length ∧ rows[a]? = some r) ∨ (a = rows.length ∧ r = (rid, xs)) := by
      intro a r ha
      rcases Nat.lt_or_ge a rows.length with h | h
      · rw [List.getElem?_append_left h] at ha; exact .inl ⟨h, ha⟩
      · rw [List.getElem?_append_right h] at ha
        cases hk : a - rows.length with
        | zero => rw [hk] at ha; simp at ha; exact .inr ⟨by omega, ha.symm⟩
        | succ k => rw [hk] at ha; simp at ha
    rcases key a r ha with ⟨h1, h1'⟩ | ⟨h1, rfl⟩
    · rcases key b t hb with ⟨h2, h2'⟩ | ⟨h2, rfl⟩
      · exact h.rows1.2 a b r t h1' h2' hab hrn htn
      · exact hrr r (List.mem_of_getElem? h1')
    · rcases key b t hb with ⟨h2, h2'⟩ | ⟨h2, rfl⟩
      · exact fun e => hrr t (List.mem_of_getElem? h2') e.symm
      · omega
  · intro r hm
    rcases List.mem_append.1 hm with hm | hm
    · have := h.ids r hm
      omega
    · simp at hm; subst hm; simp only; omega


end Go.Proofs.Ytdfeoccjllljiaa
end

section
/- CyclesOf: all ways round, the tested program's side. -/
set_option linter.all false
set_option maxRecDepth 20000
set_option maxHeartbeats 8000000
namespace Go.Proofs.Ytdfeoccjllljiaa
open Go.Ab

def castL (xs : List Nat) : List Int := xs.map fun x : Nat => (x : Int)
theorem castL_mem {xs : List Nat} {x : Nat} : ((x : Int) ∈ castL xs) ↔ x ∈ xs := by
  simp only [castL, List.mem_map]
  constructor
  · rintro ⟨y, hy, e⟩; have : y = x := by omega
    exact this ▸ hy
  · intro h; exact ⟨x, h, rfl⟩
theorem castL_length (xs : List Nat) : (castL xs).length = xs.length := by simp [castL]
theorem castL_append (xs ys : List Nat) : castL (xs ++ ys) = castL xs ++ castL ys := by simp [castL]
theorem cycL_cast (f g : Nat → Nat) (p : Nat) : castL (cycL f g p) = altL f g p (cycN f g p) := by simp [castL, cycL, altL]
noncomputable def cycRows (f g : Nat → Nat) (ps met : List Nat) : List (List Int) := (cycAll f g ps met).map castL
theorem cycRows_in {f g : Nat → Nat} {p : Nat} {ps met : List Nat} (h : p ∈ met) : cycRows f g (p :: ps) met = cycRows f g ps met := by simp [cycRows, cycAll, h]
theorem cycRows_out {f g : Nat → Nat} {p : Nat} {ps met : List Nat} (h : p ∉ met) : cycRows f g (p :: ps) met = castL (cycL f g p) :: cycRows f g ps (met ++ cycL f g p) := by simp [cycRows, cycAll, h]
theorem upTo_cons {p v : Nat} (h : p < v) : upTo p v = p :: upTo (p + 1) v := by
  unfold upTo
  rw [show v - p = (v - (p + 1)) + 1 by omega, List.range'_succ]

end Go.Proofs.Ytdfeoccjllljiaa
end

section
/- CyclesOf: the tested program's side. -/
set_option linter.all false
set_option maxRecDepth 20000
set_option maxHeartbeats 4000000
namespace Go.Proofs.Ytdfeoccjllljiaa
open Go.Ab

noncomputable def rCyc (p : Int) (bs : List Bk) (a b : Int) : List (List Int) × Int :=
  if pairCode p bs a b = 0 then (if fullB p bs then (cycRows (thr bs a.toNat) (thr bs b.toNat) (upTo 0 p.toNat) [a.toNat, b.toNat, thr bs a.toNat b.toNat], 0) else ([], 5)) else ([], pairCode p bs a b)

end Go.Proofs.Ytdfeoccjllljiaa
end

section
/- Sorting blocks, the tested program's side: slices.Clone over blocks, sorted, system. -/
set_option linter.all false
set_option maxRecDepth 20000
set_option maxHeartbeats 4000000
namespace Go.Proofs.Ytdfeoccjllljiaa
open Go.Ab Go.Sort

theorem tri_src {H : Heap} {i o : Nat} {bs : List Bk} (h : At H i o (tri bs)) : srcCells H 3 (lv 3 i o bs.length) = some (tri bs) := h.src (by rw [tri_length]) (by omega) _

theorem cloneB_oe {H : Heap} {u : Value} {xs : List Bk} (hu : BlocksAt H u xs) (hl : xs.length ≤ 1048576) (Post : Value → Heap → Prop) (h : ∀ H' w, H <+: H' → OE 3 H.length H' w (tri xs) xs.length → Post w H') :
    ACalls Try.prog 89 [u] H Post := by
  obtain ⟨i, o, rfl, h1, h2⟩ := hu
  by_cases hx : xs = []
  · subst hx
    refine acalls_body Try.func89 rfl rfl (by rw [Try.ntmps89]; exact Nat.le_of_ble_eq_true rfl) ?_
    rw [Try.ntmps89]
    refine AWp.seq (vc_sound _ _ _ _ ?_)
    simp (maxSteps := 1000000) [go_sem]
    refine AWp.seq (AWp.seq (AWp.regionS ?_))
    refine StepOK.of_v ?_
    simp (maxSteps := 1000000) [go_sem]
    refine StepOK.of_op rfl (ok_eqlNil2 rfl Try.underlying28 rfl rfl (by show (4 : Nat) < 8; decide) (fun b => ?_))
    refine AWp.cond (b := b) (by cases b <;> rfl) (fun _ => ?_) (fun _ => ?_)
    · refine vc_sound _ _ _ _ ?_
      simp (maxSteps := 1000000) [go_sem]
      exact h H _ (List.prefix_refl _) (OE.nil _ _ _)
    · refine vc_sound _ _ _ _ ?_
      simp (maxSteps := 1000000) [go_sem]
      refine vc_sound _ _ _ _ ?_
      simp (maxSteps := 1000000) [go_sem, appendH]
      exact h _ _ (List.prefix_append _ _) (OE.empty (Nat.le_refl _) (by simp))
  · have hp0 : H <+: H ++ [⟨[], true, true⟩] := List.prefix_append _ _
    have hsrc := tri_src (h1.pre hp0)
    have hm0 : xs.length ≠ 0 := by simpa using hx
    simp only [srcCells] at hsrc
    have he0 : OE 3 H.length (H ++ [(⟨[], true, true⟩ : Blk)]) (.slice (some ⟨H.length, 0, none⟩) 0 0) [] 0 := OE.empty (Nat.le_refl _) (by simp)
    obtain ⟨v, H2, hap, he2, hk2, hl2⟩ := he0.append (m := xs.length) (news := tri xs) (by omega) (by simp) (by rw [tri_length])
    generalize hm : xs.length = m at *
    refine acalls_vc (rs := [.tmp 2]) Try.func89 rfl rfl Try.ntmps89 rfl rfl ?_
    have hnil : nilOK (some ⟨i, o, some 3⟩) m = true := by simpa [nilOK] using hm0
    simp (maxSteps := 1000000) [go_sem, hnil, hsrc, hap]
    refine andK_intro (by omega) ?_
    simp only [List.nil_append, Nat.zero_add] at he2
    exact h H2 v (KeepL.prefix hp0 (Nat.le_refl _) hk2 hl2) he2
theorem cloneB_ok {H : Heap} {u : Value} {xs : List Bk} (hu : BlocksAt H u xs) (hl : xs.length ≤ 1048576) (Post : Value → Heap → Prop) (h : ∀ H' w, H <+: H' → BlocksIn H.length H'.length H' w xs → Post w H') :
    ACalls Try.prog 89 [u] H Post := by
  refine ACalls.res (cloneB_oe hu hl _ fun H' v hp he => ?_)
  obtain ⟨w, hup, hw⟩ := he.blocks (by omega)
  exact ⟨w, hup, h H' w hp hw⟩

theorem blockCmp {id : Nat} {H : Heap} : Cmp Try.prog Bk.val before 170 [] [] (fun _ => True) id H := by
  intro H x y Post _ _ _ h
  show ACalls Try.prog 170 [x.val, y.val] H Post
  refine compare_ok _ ?_
  intro H' hp
  refine h H' _ hp ?_
  have := lexC_block x y
  cases hb : before x y with
  | true =>
    have : ¬ (0 ≤ lexC [x.a, x.b, x.c] [y.a, y.b, y.c]) := by rw [this, hb]; simp
    exact decide_eq_true (by omega)
  | false =>
    have := this.2 hb
    exact decide_eq_false (by omega)

theorem sortFunc0_ok {H : Heap} {id : Nat} {fv : Value} (Post : Value → Heap → Prop) (h : Post (.tuple #[]) H) : ACalls Try.prog 185 [lv 3 id 0 0, fv] H Post := by
  refine acalls_vc (rs := []) Try.func185 rfl rfl Try.ntmps185 rfl rfl ?_
  simp (maxSteps := 1000000) [go_sem, wu64_0B]
  refine bitsLenC_ok (x := 0) (by omega) _ ?_
  simp (maxSteps := 1000000) [go_sem]
  refine pdq0B_ok _ ?_
  simp (maxSteps := 1000000) [go_sem]
  exact h

theorem sorted_ok {H : Heap} {u : Value} {bs : List Bk} (hu : BlocksAt H u bs) (hl : bs.length ≤ 1048576) (Post : Value → Heap → Prop) (h : ∀ H' w, H <+: H' → BlocksIn H.length H'.length H' w (sortB bs) → Post w H') :
    ACalls Try.prog 166 [u] H Post := by
  refine ACalls.res ?_
  refine acalls_vc (rs := [.tmp 2]) Try.func166 rfl rfl Try.ntmps166 rfl rfl ?_
  simp (maxSteps := 1000000) [go_sem]
  refine cloneB_oe hu hl _ ?_
  intro H1 v hp1 he
  by_cases h0 : bs = []
  · subst h0
    have hs0 : sortB [] = [] := rfl
    have fin := fun (w : Value) (hw : Up H1 v w) (hb : BlocksIn H.length H1.length H1 w []) => (show ∃ v', Up H1 v v' ∧ Post v' H1 from ⟨w, hw, h H1 w hp1 (by rw [hs0]; exact hb)⟩)
    rcases he.2 with ⟨_, rfl⟩ | ⟨id, _, _, rfl, _⟩ | ⟨id, _, rfl, _⟩
    · have f := fin (lv 3 0 0 0) (Up.nil _ _ _ _) (BlocksIn.nil _ _ _)
      simp (maxSteps := 1000000) [go_sem]
      refine ACalls.up (args' := [lv 3 0 0 0, _]) ⟨Up.nil _ _ _ _, Up.refl _ _, trivial⟩ ?_
      refine sortFunc0_ok _ ?_
      simp (maxSteps := 1000000) [go_sem]
      exact f
    · have f := fin (lv 3 0 0 0) (Up.ex0 _ _ _ _ _ _) (BlocksIn.nil _ _ _)
      simp (maxSteps := 1000000) [go_sem]
      refine ACalls.up (args' := [lv 3 0 0 0, _]) ⟨Up.ex0 _ _ _ _ _ _, Up.refl _ _, trivial⟩ ?_
      refine sortFunc0_ok _ ?_
      simp (maxSteps := 1000000) [go_sem]
      exact f
    · have f := fin (lv 3 id 0 0) (Up.refl _ _) ⟨id, ⟨rfl, .inl rfl, by simp⟩, fun h => absurd rfl h⟩
      simp (maxSteps := 1000000) [go_sem]
      refine sortFunc0_ok _ ?_
      simp (maxSteps := 1000000) [go_sem]
      exact f
  · have hn0 : bs.length ≠ 0 := fun e => h0 (List.eq_nil_of_length_eq_zero e)
    rcases he.2 with ⟨e, _⟩ | ⟨id, e, _⟩ | ⟨id, hid, rfl, e⟩
    · exact absurd e hn0
    · exact absurd e hn0
    · have hb : H1[id]? = some ⟨tri bs, true, true⟩ := by
        rcases e with ⟨e, _⟩ | e
        · exact absurd e hn0
        · exact e
      simp (maxSteps := 1000000) [go_sem]
      refine sortFuncB_ok (fs := []) (cs := []) (Q := fun _ => True) (l := bs) swoB ⟨by rw [flat_len Bk.cells_len], .inr hb⟩ rfl hl (fun _ _ => trivial) blockCmp _ ?_
      intro H2 l2 hs2 hol hperm hsorted
      have e2 := sort_uniq hperm hsorted
      have hlen : (sortB bs).length = bs.length := sortB_length _ bs rfl
      have hp2 : H <+: H2 := ((Same.of_prefix hp1).trans hs2).prefix (by intro j hj e; omega)
      have hb2 : H2[id]? = some ⟨tri (sortB bs), true, true⟩ := by
        rcases hol.2 with ⟨e, _⟩ | e
        · exact absurd e hn0
        · rw [e2] at e; exact e
      have f := h H2 (lv 3 id 0 bs.length) hp2 ⟨id, ⟨by rw [hlen], .inr hb2, by rw [hlen]; omega⟩, fun _ => ⟨hid, (List.getElem?_eq_some_iff.1 hb2).1⟩⟩
      simp (maxSteps := 1000000) [go_sem]
      exact ⟨_, Up.refl _ _, f⟩

theorem implSystem_ok {H : Heap} {u : Value} {p : Int} {bs : List Bk} (hu : BlocksAt H u bs) (hl : bs.length ≤ 1048576) (Post : Value → Heap → Prop) (h : ∀ H' w, H <+: H' → BlocksIn H.length H'.length H' w (sortB bs) → Post (sysV p w) H') :
    ACalls Try.prog 123 [.int .i64 p, u] H Post := by
  refine acalls_vc (rs := [.cell 4 38]) Try.func123 rfl rfl Try.ntmps123 rfl rfl ?_
  simp (maxSteps := 1000000) [go_sem]
  have hp0 : H <+: H ++ [⟨[.int .i64 0, .slice none 0 0], true, true⟩] := List.prefix_append _ _
  have hb0 : (H ++ [(⟨[.int .i64 0, .slice none 0 0], true, true⟩ : Blk)])[H.length]? = some ⟨[.int .i64 0, .slice none 0 0], true, true⟩ := by simp
  have hlen : (H ++ [(⟨[.int .i64 0, .slice none 0 0], true, true⟩ : Blk)]).length = H.length + 1 := by simp
  generalize H ++ [(⟨[.int .i64 0, .slice none 0 0], true, true⟩ : Blk)] = H0 at hp0 hb0 hlen ⊢
  refine sorted_ok (hu.pre hp0) hl _ ?_
  intro H1 w hp1 hw
  have hw0 := hw
  obtain ⟨id, ⟨rfl, _⟩, _⟩ := hw
  obtain ⟨q1, q2, q3, q4⟩ := put2 (cs := [.int .i64 p, lv 3 id 0 (sortB bs).length]) hp0 (Nat.le_refl _) hb0 rfl hp1 rfl rfl
  simp (maxSteps := 1000000) [go_sem, q1, q2]
  refine h _ _ q3 ?_
  have := (hw0.keep q4 (fun j hj e => by have := hj.1; omega)).wider (c := H.length) (by omega)
  rw [List.length_set]
  exact this

end Go.Proofs.Ytdfeoccjllljiaa
end

section
/- Trades: the pairs of blocks. Plain Lean. -/
set_option linter.all false
set_option maxRecDepth 20000
namespace Go.Proofs.Ytdfeoccjllljiaa
open Go.Ab

def prs (b : Bk) : List (Int × Int) := [(b.a, b.b), (b.a, b.c), (b.b, b.c)]
def pairsB (bs : List Bk) : List (Int × Int) := bs.flatMap prs
theorem pairsB_length (bs : List Bk) : (pairsB bs).length = bs.length * 3 := by
  induction bs with
  | nil => rfl
  | cons b bs ih => simp only [pairsB, List.flatMap_cons, List.length_append, List.length_cons] at ih ⊢; rw [ih]; simp [prs]; omega
theorem mem_pairsB {bs : List Bk} {p : Int × Int} : p ∈ pairsB bs ↔ ∃ b ∈ bs, p ∈ prs b := by simp [pairsB]
theorem prs_has {b : Bk} {p : Int × Int} (h : p ∈ prs b) : b.has p.1 = true ∧ b.has p.2 = true := by
  simp only [prs, List.mem_cons, List.not_mem_nil, or_false] at h
  rcases h with rfl | rfl | rfl <;> simp [Bk.has]
theorem prs_lt {v : Int} {b : Bk} (hg : good v b = true) {p : Int × Int} (h : p ∈ prs b) : 0 ≤ p.1 ∧ p.1 < p.2 ∧ p.2 < v := by
  rw [good_iff] at hg
  simp only [prs, List.mem_cons, List.not_mem_nil, or_false] at h
  rcases h with rfl | rfl | rfl <;> (simp only; omega)
theorem pairs_lt {v : Int} {bs : List Bk} (hg : ∀ x ∈ bs, good v x = true) {p : Int × Int} (h : p ∈ pairsB bs) : 0 ≤ p.1 ∧ p.1 < p.2 ∧ p.2 < v := by
  obtain ⟨b, hb, hp⟩ := mem_pairsB.1 h
  exact prs_lt (hg b hb) hp
theorem pairs_nodup {v : Int} {bs : List Bk} (hS : IsSys v bs) : (pairsB bs).Nodup := by
  unfold pairsB List.Nodup
  rw [List.pairwise_flatMap]
  constructor
  · intro b hb
    have hg := hS.good b hb
    rw [good_iff] at hg
    simp only [prs, List.pairwise_cons, List.mem_cons, List.not_mem_nil, or_false, forall_eq_or_imp, forall_eq, Prod.mk.injEq, ne_eq, false_implies, implies_true, and_true, List.Pairwise.nil]
    omega
  · rw [List.pairwise_iff_getElem]
    intro i j hi hj hij p hp q hq e
    subst e
    have hx : bs[i]? = some bs[i] := List.getElem?_eq_getElem hi
    have hy : bs[j]? = some bs[j] := List.getElem?_eq_getElem hj
    have hgx := hS.good _ (List.mem_of_getElem? hx)
    have hgy := hS.good _ (List.mem_of_getElem? hy)
    obtain ⟨c1, c2, c3⟩ := (common_le_one (w := v) hgy).1 (hS.2.2.2 j i _ _ hij hy hx)
    have h := prs_has hq
    simp only [prs, List.mem_cons, List.not_mem_nil, or_false] at hp
    rcases hp with rfl | rfl | rfl
    · exact c1 h
    · exact c2 h
    · exact c3 h

noncomputable def samePairs (x y : List Bk) : Bool := @decide (∀ p, p ∈ pairsB x ↔ p ∈ pairsB y) (Classical.propDecidable _)
theorem samePairs_iff {x y : List Bk} : samePairs x y = true ↔ ∀ p, p ∈ pairsB x ↔ p ∈ pairsB y := by simp [samePairs]
theorem samePairs_eq {x y : List Bk} {b : Bool} (h : b = true ↔ ∀ p, p ∈ pairsB x ↔ p ∈ pairsB y) : b = samePairs x y := by
  rw [← samePairs_iff] at h
  cases b <;> cases hs : samePairs x y <;> simp_all

/-- Two pairs in order. -/
def ltP (p q : Int × Int) : Bool := decide (p.1 < q.1) || (decide (p.1 = q.1) && decide (p.2 < q.2))
theorem ltP_iff {p q : Int × Int} : ltP p q = true ↔ p.1 < q.1 ∨ (p.1 = q.1 ∧ p.2 < q.2) := by simp [ltP]
theorem ltP_false {p q : Int × Int} : ltP p q = false ↔ ¬ (p.1 < q.1 ∨ (p.1 = q.1 ∧ p.2 < q.2)) := by rw [← ltP_iff]; simp
/-- Two ascending lists of the same pairs are equal. -/
theorem sorted_pairs {vx vy : Int} {x y : List Bk} (hx : IsSys vx x) (hy : IsSys vy y) {l m : List (Int × Int)} (hl : l.Perm (pairsB x)) (hm : m.Perm (pairsB y))
    (sl : l.Pairwise fun p q => ltP q p = false) (sm : m.Pairwise fun p q => ltP q p = false) : decide (l = m) = samePairs x y := by
  refine samePairs_eq ?_
  rw [decide_eq_true_iff]
  constructor
  · rintro rfl p
    rw [← hl.mem_iff, ← hm.mem_iff]
  · intro h
    have hp : l.Perm m := by
      refine (List.perm_ext_iff_of_nodup (hl.nodup_iff.2 (pairs_nodup hx)) (hm.nodup_iff.2 (pairs_nodup hy))).2 ?_
      intro p
      rw [hl.mem_iff, hm.mem_iff]; exact h p
    refine hp.eq_of_pairwise ?_ sl sm
    intro a b _ _ h1 h2
    rw [ltP_false] at h1 h2
    exact Prod.ext (by omega) (by omega)

/-- A pair's number. -/
def codeP (p : Int × Int) : Nat := (p.1 * 16 + p.2).toNat
def codesB (bs : List Bk) : List Nat := (pairsB bs).map codeP
theorem code_inj {p q : Int × Int} (hp : 0 ≤ p.1 ∧ p.1 < p.2 ∧ p.2 < 15) (hq : 0 ≤ q.1 ∧ q.1 < q.2 ∧ q.2 < 15) (h : codeP p = codeP q) : p = q := by
  unfold codeP at h
  exact Prod.ext (by omega) (by omega)
theorem codes_lt {bs : List Bk} (hg : ∀ x ∈ bs, good 15 x = true) {c : Nat} (h : c ∈ codesB bs) : c < 256 := by
  obtain ⟨p, hp, rfl⟩ := List.mem_map.1 h
  have := pairs_lt hg hp
  unfold codeP; omega
theorem same_codes {x y : List Bk} (hx : ∀ b ∈ x, good 15 b = true) (hy : ∀ b ∈ y, good 15 b = true) {b : Bool} (h : b = true ↔ ∀ c, c < 256 → (c ∈ codesB x ↔ c ∈ codesB y)) : b = samePairs x y := by
  refine samePairs_eq ?_
  rw [h]
  constructor
  · intro h p
    have key : ∀ {x y : List Bk}, (∀ b ∈ x, good 15 b = true) → (∀ b ∈ y, good 15 b = true) → (∀ c, c < 256 → (c ∈ codesB x → c ∈ codesB y)) → p ∈ pairsB x → p ∈ pairsB y := by
      intro x y hx hy h hp
      have hc : codeP p ∈ codesB x := List.mem_map.2 ⟨p, hp, rfl⟩
      obtain ⟨q, hq, e⟩ := List.mem_map.1 (h _ (codes_lt hx hc) hc)
      rw [code_inj (pairs_lt hx hp) (pairs_lt hy hq) e.symm]; exact hq
    exact ⟨key hx hy fun c hc => (h c hc).1, key hy hx fun c hc => (h c hc).2⟩
  · intro h c _
    unfold codesB
    simp only [List.mem_map]
    constructor <;> rintro ⟨p, hp, rfl⟩
    · exact ⟨p, (h p).1 hp, rfl⟩
    · exact ⟨p, (h p).2 hp, rfl⟩

/-- The blocks of a list that are in another one; those that are not. -/
def bothB (xs ys : List Bk) : List Bk := xs.filter (memB ys)
def lessB (xs ys : List Bk) : List Bk := xs.filter fun b => !memB ys b

noncomputable def tradeB (v : Int) (o i : List Bk) : Bool := sysB v o && (sysB v i && (decide (bothB o i = []) && samePairs o i))
def fitsB (p : Int) (bs : List Bk) (v : Int) (o : List Bk) : Bool := decide (p = v) && o.all (memB bs)

end Go.Proofs.Ytdfeoccjllljiaa
end

section
/- Sorting by a function: insertion sort. -/
set_option linter.all false
set_option maxRecDepth 20000
set_option maxHeartbeats 4000000
namespace Go.Proofs.Ytdfeoccjllljiaa
open Go.Ab Go.Sort

theorem insP_ok {H : Heap} {id a b n : Nat} {d : Array (Int × Int)} {lt : (Int × Int) → (Int × Int) → Bool} {g : FuncId} {fs cs : List Value} {Q : (Int × Int) → Prop} (hA : Arr cellsP H id d) (hn : d.size = n) (hl : n ≤ 1048576) (hab : a ≤ b) (hb : b ≤ n) (hQ : QA Q d)
    (hC : Cmp Try.prog valP lt g fs cs Q id H) (Post : Value → Heap → Prop) (h : ∀ H', Same (fun k => k = id) H H' → Arr cellsP H' id (insertionSort lt d a b) → Post (.tuple #[]) H') :
    ACalls Try.prog 216 [lv 2 id 0 n, .int .i64 a, .int .i64 b, .func (.func g) fs.toArray cs.toArray] H Post := by
  refine acalls_vc (rs := []) Try.func216 rfl rfl Try.ntmps216 rfl rfl ?_
  have w0 : IntKind.i64.wrap ((a : Int) + 1) = (a : Int) + 1 := i64w (by omega) (by omega)
  simp (maxSteps := 1000000) [go_sem, w0]
  refine AWp.loopVc (St := Nat × Array (Int × Int)) (fun s => [(0, lv 2 id 0 n), (1, .int .i64 a), (2, .int .i64 b), (3, .func (.func g) fs.toArray cs.toArray), (8, .int .i64 s.1)])
    (fun s H' => a + 1 ≤ s.1 ∧ s.1 ≤ n + 1 ∧ s.2.size = n ∧ QA Q s.2 ∧ Same (fun k => k = id) H H' ∧ Arr cellsP H' id s.2 ∧ insOuter lt a b s.1 s.2 = insertionSort lt d a b) (fun s => n + 1 - s.1) (a + 1, d) ?_ ?_ ?_
  · simp [upF, Fr.get, Up.refl]
  · exact ⟨Nat.le_refl _, by simp only; omega, hn, hQ, Same.refl _ _, hA, rfl⟩
  · rintro K ⟨i, d1⟩ H' ⟨hai, hin, hsz, hQ1, hS, hA1, hO⟩ hK
    simp only at hai hin hsz hQ1 hS hA1 hO
    rw [insOuter] at hO
    by_cases hlt : i < b
    · rw [if_pos hlt] at hO
      have hw_i : IntKind.i64.wrap ((i : Int) + 1) = (i : Int) + 1 := i64w (by omega) (by omega)
      simp (maxSteps := 1000000) [go_sem, hlt]
      refine AWp.loopVc (St := Nat × Array (Int × Int)) (fun s => [(0, lv 2 id 0 n), (1, .int .i64 a), (2, .int .i64 b), (3, .func (.func g) fs.toArray cs.toArray), (8, .int .i64 i), (9, .int .i64 s.1)])
        (fun s H2 => a ≤ s.1 ∧ s.1 ≤ i ∧ s.2.size = n ∧ QA Q s.2 ∧ Same (fun k => k = id) H H2 ∧ Arr cellsP H2 id s.2 ∧ insInner lt a s.1 s.2 = insInner lt a i d1) (fun s => s.1) (i, d1) ?_ ?_ ?_
      · simp [upF, Fr.get, Up.refl]
      · exact ⟨by simp only; omega, Nat.le_refl _, hsz, hQ1, hS, hA1, rfl⟩
      · rintro K2 ⟨j, d2⟩ H2 ⟨haj, hji, hsz2, hQ2, hS2, hA2, hI⟩ hK2
        simp only at haj hji hsz2 hQ2 hS2 hA2 hI
        by_cases hja : a < j
        · obtain ⟨r, rfl⟩ : ∃ r, j = r + 1 := ⟨j - 1, by omega⟩
          have hr1 : r + 1 < d2.size := by omega
          have hr0 : r < d2.size := by omega
          have c1 := hA2.load cellsP_len hr1
          have c0 := hA2.load cellsP_len hr0
          have q1 := hQ2 _ hr1
          have q0 := hQ2 _ hr0
          rw [insInner] at hI
          obtain ⟨x, hx⟩ : ∃ x, x = d2[r + 1]! := ⟨_, rfl⟩
          obtain ⟨y, hy⟩ : ∃ y, y = d2[r]! := ⟨_, rfl⟩
          rw [← hx] at c1 q1 hI
          rw [← hy] at c0 q0 hI
          have e1 : decide (r + 1 > a) = true := decide_eq_true hja
          rw [e1, Bool.true_and] at hI
          simp only [cellsP, Nat.mul_one, Row.val] at c1 c0
          have n1 : r + 1 < n := by omega
          have n0 : r < n := by omega
          have m1 : (r : Int) + 1 < n := by omega
          have m0 : (r : Int) < n := by omega
          have z1 : (0 : Int) ≤ (r : Int) + 1 := by omega
          have hwr : IntKind.i64.wrap (r : Int) = (r : Int) := i64w (by omega) (by omega)
          have ja : (a : Int) < (r : Int) + 1 := by omega
          refine AWp.draw mixed [(0, false), (1, false), (2, false), (3, false), (4, false), (5, false), (6, false), (7, false), (8, false), (9, false), (10, false), (11, false), (12, false), (13, false), (14, false), (15, false), (16, false)] (by kernel_rfl) ?_
          simp (maxSteps := 1000000) [go_sem, hja, ja, c1, c0, n1, n0, m1, m0, z1, hwr]
          refine hC H2 x y _ hS2 q1 q0 ?_
          intro H3 c hp3 hc
          have hS3 := hS2.via (Same.of_prefix (S := fun _ => False) hp3) (fun _ _ h => h.elim)
          have hA3 := hA2.pre hp3
          cases hxy : lt x y with
          | false =>
            rw [hxy] at hc hI
            have hc0 : ¬ c < 0 := by simpa using hc
            simp (maxSteps := 1000000) [go_sem, hc, hc0, hw_i]
            exact hK (i + 1, d2) _ _ (by simp only; omega) (by simp [upF, Fr.get, Up.refl]) ⟨by simp only; omega, by simp only; omega, hsz2, hQ2, hS3, hA3, by simp only; rw [← hO, ← hI]; simp⟩
          | true =>
            rw [hxy] at hc hI
            have hc0 : c < 0 := by simpa using hc
            have c1 := hA3.load cellsP_len hr1
            have c0 := hA3.load cellsP_len hr0
            obtain ⟨H4, H5, s1, s0, hA5, hS5, hl5⟩ := hA3.swap cellsP_len cellsP_one hr1 hr0
            rw [← hx] at c1 s0
            rw [← hy] at c0 s1
            simp only [cellsP, Nat.mul_one, Row.val] at c1 c0 s1 s0
            simp (maxSteps := 1000000) [go_sem, hc, hc0]
            refine AWp.draw mixed [(0, false), (1, false), (2, false), (3, false), (4, false), (5, false), (6, false), (7, false), (8, false), (9, false), (10, false), (11, false), (12, false), (13, false), (14, false), (15, false), (16, false), (17, false)] (by kernel_rfl) ?_
            simp (maxSteps := 1000000) [go_sem, c1, c0, n1, n0, m1, m0, z1, hwr, s1, s0]
            exact hK2 (r, swp d2 (r + 1) r) _ _ (by simp only; omega) (by simp [upF, Fr.get, Up.refl]) ⟨by simp only; omega, by simp only; omega, by rw [size_swp]; exact hsz2, hQ2.swp hr1 hr0, hS3.trans hS5, hA5, by simp only; rw [← hI]; simp⟩
        · have hja' : j = a := by omega
          subst hja'
          have e : insInner lt j j d2 = d2 := by
            cases j with
            | zero => rfl
            | succ r => rw [insInner]; simp
          refine AWp.draw mixed [(0, false), (1, false), (2, false), (3, false), (4, false), (5, false), (6, false), (7, false), (8, false), (9, false), (10, false), (11, false), (12, false), (13, false), (14, false), (15, false), (16, false)] (by kernel_rfl) ?_
          simp (maxSteps := 1000000) [go_sem, undef, hw_i]
          exact hK (i + 1, d2) _ _ (by simp only; omega) (by simp [upF, Fr.get, Up.refl]) ⟨by simp only; omega, by simp only; omega, hsz2, hQ2, hS2, hA2, by simp only; rw [← hO, ← hI, e]⟩
    · rw [if_neg hlt] at hO
      simp (maxSteps := 1000000) [go_sem, hlt]
      exact h H' hS (hO ▸ hA1)

end Go.Proofs.Ytdfeoccjllljiaa
end

section
/- Sorting by a function: the heap. -/
set_option linter.all false
set_option maxRecDepth 20000
set_option maxHeartbeats 4000000
namespace Go.Proofs.Ytdfeoccjllljiaa
open Go.Ab Go.Sort

theorem siftP_ok {H : Heap} {id lo hi first n : Nat} {d : Array (Int × Int)} {lt : (Int × Int) → (Int × Int) → Bool} {g : FuncId} {fs cs : List Value} {Q : (Int × Int) → Prop} (hA : Arr cellsP H id d) (hn : d.size = n) (hl : n ≤ 1048576) (hlo : lo ≤ n) (hhi : first + hi ≤ n) (hQ : QA Q d)
    (hC : Cmp Try.prog valP lt g fs cs Q id H) (Post : Value → Heap → Prop) (h : ∀ H', Same (fun k => k = id) H H' → Arr cellsP H' id (siftDown lt hi first lo d) → Post (.tuple #[]) H') :
    ACalls Try.prog 228 [lv 2 id 0 n, .int .i64 lo, .int .i64 hi, .int .i64 first, .func (.func g) fs.toArray cs.toArray] H Post := by
  refine acalls_vc (rs := []) Try.func228 rfl rfl Try.ntmps228 rfl rfl ?_
  simp (maxSteps := 1000000) [go_sem]
  refine AWp.loopVc (St := Nat × Array (Int × Int)) (fun s => [(0, lv 2 id 0 n), (2, .int .i64 hi), (3, .int .i64 first), (4, .func (.func g) fs.toArray cs.toArray), (10, .int .i64 s.1)])
    (fun s H' => s.1 ≤ n ∧ s.2.size = n ∧ QA Q s.2 ∧ Same (fun k => k = id) H H' ∧ Arr cellsP H' id s.2 ∧ siftDown lt hi first s.1 s.2 = siftDown lt hi first lo d) (fun s => n - s.1) (lo, d) ?_ ?_ ?_
  · simp [upF, Fr.get, Up.refl]
  · exact ⟨hlo, hn, hQ, Same.refl _ _, hA, rfl⟩
  · rintro K ⟨root, d1⟩ H1 ⟨hr, hsz, hQ1, hS1, hA1, hO⟩ hK
    simp only at hr hsz hQ1 hS1 hA1 hO
    obtain ⟨ch, hch⟩ : ∃ ch, ch = 2 * root + 1 := ⟨_, rfl⟩
    obtain ⟨c2, hc2⟩ : ∃ c2, c2 = ch + 1 := ⟨_, rfl⟩
    obtain ⟨fr, hfr⟩ : ∃ fr, fr = first + root := ⟨_, rfl⟩
    obtain ⟨fc, hfc⟩ : ∃ fc, fc = first + ch := ⟨_, rfl⟩
    obtain ⟨fc2, hfc2⟩ : ∃ fc2, fc2 = first + c2 := ⟨_, rfl⟩
    have w1 : IntKind.i64.wrap (2 * (root : Int)) = 2 * (root : Int) := i64w (by omega) (by omega)
    have w2 : IntKind.i64.wrap (2 * (root : Int) + 1) = (ch : Int) := by rw [hch]; rw [i64w (by omega) (by omega)]; omega
    have w3 : IntKind.i64.wrap ((ch : Int) + 1) = (c2 : Int) := by rw [hc2]; rw [i64w (by omega) (by omega)]; omega
    by_cases hh : hi ≤ ch
    · rw [sift_end hch hh] at hO
      have hh' : (hi : Int) ≤ ch := by omega
      simp (maxSteps := 1000000) [go_sem, w1, w2, hh, hh']
      exact h H1 hS1 (hO ▸ hA1)
    · rw [sift_step hch hc2 hfr hfc hfc2 hh] at hO
      have hh' : ¬ ((hi : Int) ≤ ch) := by omega
      have hh2 : ch < hi := by omega
      have w4 : IntKind.i64.wrap ((first : Int) + root) = (fr : Int) := by rw [hfr]; rw [i64w (by omega) (by omega)]; omega
      have w5 : IntKind.i64.wrap ((first : Int) + ch) = (fc : Int) := by rw [hfc]; rw [i64w (by omega) (by omega)]; omega
      have w6 : IntKind.i64.wrap ((first : Int) + c2) = (fc2 : Int) := by rw [hfc2]; rw [i64w (by omega) (by omega)]; omega
      have w7 : IntKind.i64.wrap ((fc : Int) + 1) = (fc2 : Int) := by rw [hfc2, hfc, hc2]; rw [i64w (by omega) (by omega)]; omega
      have hfr1 : fr < d1.size := by omega
      have hfc1 : fc < d1.size := by omega
      have n1 : fr < n := by omega
      have n2 : fc < n := by omega
      obtain ⟨x, hx⟩ : ∃ x, x = d1[fr]! := ⟨_, rfl⟩
      obtain ⟨y, hy⟩ : ∃ y, y = d1[fc]! := ⟨_, rfl⟩
      obtain ⟨z, hz⟩ : ∃ z, z = d1[fc2]! := ⟨_, rfl⟩
      rw [← hx, ← hy, ← hz] at hO
      have qx := hQ1 _ hfr1
      have qy := hQ1 _ hfc1
      rw [← hx] at qx
      rw [← hy] at qy
      have cy := hA1.load cellsP_len hfc1
      rw [← hy] at cy
      simp only [cellsP, Nat.mul_one, Row.val] at cy
      by_cases h2 : c2 < hi
      · have h2' : (c2 : Int) < hi := by omega
        have hfc21 : fc2 < d1.size := by omega
        have n3 : fc2 < n := by omega
        have qz := hQ1 _ hfc21
        rw [← hz] at qz
        have cz := hA1.load cellsP_len hfc21
        rw [← hz] at cz
        simp only [cellsP, Nat.mul_one, Row.val] at cz
        have e2 : decide (c2 < hi) = true := decide_eq_true h2
        rw [e2, Bool.true_and] at hO
        simp (maxSteps := 1000000) [go_sem, w1, w2, w3, hh, hh', hh2]
        refine AWp.draw mixed [(0, false), (1, false), (2, false), (3, false), (4, false), (5, false), (6, false), (7, false), (8, false), (9, false), (10, false), (11, false), (12, false), (13, false), (14, false), (15, false), (16, false), (17, false), (18, false), (19, false), (20, false), (21, false)] (by kernel_rfl) ?_
        simp (maxSteps := 1000000) [go_sem, w3, w5, w7, h2, h2', cy, cz, n2, n3]
        refine hC H1 y z _ hS1 qy qz ?_
        intro H3 c hp3 hc
        have hS3 := hS1.via (Same.of_prefix (S := fun _ => False) hp3) (fun _ _ h => h.elim)
        have hA3 := hA1.pre hp3
        have cx := hA3.load cellsP_len hfr1
        rw [← hx] at cx
        simp only [cellsP, Nat.mul_one, Row.val] at cx
        cases hyz : lt y z with
        | true =>
          rw [hyz] at hc hO
          have hc0 : c < 0 := by simpa using hc
          have cz := hA3.load cellsP_len hfc21
          rw [← hz] at cz
          simp only [cellsP, Nat.mul_one, Row.val] at cz
          simp (maxSteps := 1000000) [go_sem, hc, hc0, w3]
          refine AWp.draw mixed [(0, false), (1, false), (2, false), (3, false), (4, false), (5, false), (6, false), (7, false), (8, false), (9, false), (10, false), (11, false), (12, false), (13, false), (14, false), (15, false)] (by kernel_rfl) ?_
          simp (maxSteps := 1000000) [go_sem, w4, w6, cx, cz, n1, n3]
          refine hC H3 x z _ hS3 qx qz ?_
          intro H4 e hp4 he
          have hS4 := hS3.via (Same.of_prefix (S := fun _ => False) hp4) (fun _ _ h => h.elim)
          have hA4 := hA3.pre hp4
          cases hxz : lt x z with
          | false =>
            rw [hxz] at he hO
            have he0 : ¬ e < 0 := by simpa using he
            simp (maxSteps := 1000000) [go_sem, he, he0]
            exact h H4 hS4 (by simpa [← hO] using hA4)
          | true =>
            rw [hxz] at he hO
            have he0 : e < 0 := by simpa using he
            have ca := hA4.load cellsP_len hfr1
            have cb := hA4.load cellsP_len hfc21
            obtain ⟨H5, H6, s1, s0, hA6, hS6, hl6⟩ := hA4.swap cellsP_len cellsP_one hfr1 hfc21
            rw [← hx] at ca s0
            rw [← hz] at cb s1
            simp only [cellsP, Nat.mul_one, Row.val] at ca cb s0 s1
            simp (maxSteps := 1000000) [go_sem, he, he0]
            refine AWp.draw mixed [(0, false), (1, false), (2, false), (3, false), (4, false), (5, false), (6, false), (7, false), (8, false), (9, false), (10, false), (11, false), (12, false), (13, false), (14, false), (15, false), (16, false), (17, false), (18, false), (19, false), (20, false), (21, false), (22, false), (23, false)] (by kernel_rfl) ?_
            simp (maxSteps := 1000000) [go_sem, w4, w6, ca, cb, n1, n3, s1, s0]
            exact hK (c2, swp d1 fr fc2) _ _ (by simp only; omega) (by simp [upF, Fr.get, Up.refl]) ⟨by simp only; omega, by rw [size_swp]; exact hsz, hQ1.swp hfr1 hfc21, hS4.trans hS6, hA6, by simp only; rw [← hO]; simp⟩
        | false =>
          rw [hyz] at hc hO
          have hc0 : ¬ c < 0 := by simpa using hc
          have cy := hA3.load cellsP_len hfc1
          rw [← hy] at cy
          simp only [cellsP, Nat.mul_one, Row.val] at cy
          simp (maxSteps := 1000000) [go_sem, hc, hc0]
          refine AWp.draw mixed [(0, false), (1, false), (2, false), (3, false), (4, false), (5, false), (6, false), (7, false), (8, false), (9, false), (10, false), (11, false), (12, false), (13, false), (14, false), (15, false)] (by kernel_rfl) ?_
          simp (maxSteps := 1000000) [go_sem, w4, w5, cx, cy, n1, n2]
          refine hC H3 x y _ hS3 qx qy ?_
          intro H4 e hp4 he
          have hS4 := hS3.via (Same.of_prefix (S := fun _ => False) hp4) (fun _ _ h => h.elim)
          have hA4 := hA3.pre hp4
          cases hxz : lt x y with
          | false =>
            rw [hxz] at he hO
            have he0 : ¬ e < 0 := by simpa using he
            simp (maxSteps := 1000000) [go_sem, he, he0]
            exact h H4 hS4 (by simpa [← hO] using hA4)
          | true =>
            rw [hxz] at he hO
            have he0 : e < 0 := by simpa using he
            have ca := hA4.load cellsP_len hfr1
            have cb := hA4.load cellsP_len hfc1
            obtain ⟨H5, H6, s1, s0, hA6, hS6, hl6⟩ := hA4.swap cellsP_len cellsP_one hfr1 hfc1
            rw [← hx] at ca s0
            rw [← hy] at cb s1
            simp only [cellsP, Nat.mul_one, Row.val] at ca cb s0 s1
            simp (maxSteps := 1000000) [go_sem, he, he0]
            refine AWp.draw mixed [(0, false), (1, false), (2, false), (3, false), (4, false), (5, false), (6, false), (7, false), (8, false), (9, false), (10, false), (11, false), (12, false), (13, false), (14, false), (15, false), (16, false), (17, false), (18, false), (19, false), (20, false), (21, false), (22, false), (23, false)] (by kernel_rfl) ?_
            simp (maxSteps := 1000000) [go_sem, w4, w5, ca, cb, n1, n2, s1, s0]
            exact hK (ch, swp d1 fr fc) _ _ (by simp only; omega) (by simp [upF, Fr.get, Up.refl]) ⟨by simp only; omega, by rw [size_swp]; exact hsz, hQ1.swp hfr1 hfc1, hS4.trans hS6, hA6, by simp only; rw [← hO]; simp⟩
      · have h2' : ¬ ((c2 : Int) < hi) := by omega
        have e2 : decide (c2 < hi) = false := decide_eq_false h2
        rw [e2, Bool.false_and] at hO
        have hA3 := hA1
        have hS3 := hS1
        have cx := hA3.load cellsP_len hfr1
        rw [← hx] at cx
        simp only [cellsP, Nat.mul_one, Row.val] at cx
        simp (maxSteps := 1000000) [go_sem, w1, w2, w3, hh, hh', hh2]
        refine AWp.draw mixed [(0, false), (1, false), (2, false), (3, false), (4, false), (5, false), (6, false), (7, false), (8, false), (9, false), (10, false), (11, false), (12, false), (13, false), (14, false), (15, false), (16, false), (17, false), (18, false), (19, false), (20, false), (21, false)] (by kernel_rfl) ?_
        simp (maxSteps := 1000000) [go_sem, undef, w3, h2, h2']
        obtain ⟨H3, eH3⟩ : ∃ H3, H3 = H1 := ⟨_, rfl⟩
        rw [← eH3] at hA3 hS3 cx cy ⊢
        refine AWp.draw mixed [(0, false), (1, false), (2, false), (3, false), (4, false), (5, false), (6, false), (7, false), (8, false), (9, false), (10, false), (11, false), (12, false), (13, false), (14, false), (15, false)] (by kernel_rfl) ?_
        simp (maxSteps := 1000000) [go_sem, w4, w5, cx, cy, n1, n2]
        refine hC H3 x y _ hS3 qx qy ?_
        intro H4 e hp4 he
        have hS4 := hS3.via (Same.of_prefix (S := fun _ => False) hp4) (fun _ _ h => h.elim)
        have hA4 := hA3.pre hp4
        cases hxz : lt x y with
        | false =>
          rw [hxz] at he hO
          have he0 : ¬ e < 0 := by simpa using he
          simp (maxSteps := 1000000) [go_sem, he, he0]
          exact h H4 hS4 (by simpa [← hO] using hA4)
        | true =>
          rw [hxz] at he hO
          have he0 : e < 0 := by simpa using he
          have ca := hA4.load cellsP_len hfr1
          have cb := hA4.load cellsP_len hfc1
          obtain ⟨H5, H6, s1, s0, hA6, hS6, hl6⟩ := hA4.swap cellsP_len cellsP_one hfr1 hfc1
          rw [← hx] at ca s0
          rw [← hy] at cb s1
          simp only [cellsP, Nat.mul_one, Row.val] at ca cb s0 s1
          simp (maxSteps := 1000000) [go_sem, he, he0]
          refine AWp.draw mixed [(0, false), (1, false), (2, false), (3, false), (4, false), (5, false), (6, false), (7, false), (8, false), (9, false), (10, false), (11, false), (12, false), (13, false), (14, false), (15, false), (16, false), (17, false), (18, false), (19, false), (20, false), (21, false), (22, false), (23, false)] (by kernel_rfl) ?_
          simp (maxSteps := 1000000) [go_sem, w4, w5, ca, cb, n1, n2, s1, s0]
          exact hK (ch, swp d1 fr fc) _ _ (by simp only; omega) (by simp [upF, Fr.get, Up.refl]) ⟨by simp only; omega, by rw [size_swp]; exact hsz, hQ1.swp hfr1 hfc1, hS4.trans hS6, hA6, by simp only; rw [← hO]; simp⟩

theorem heapP_ok {H : Heap} {id a b n : Nat} {d : Array (Int × Int)} {lt : (Int × Int) → (Int × Int) → Bool} {g : FuncId} {fs cs : List Value} {Q : (Int × Int) → Prop} (hA : Arr cellsP H id d) (hn : d.size = n) (hl : n ≤ 1048576) (hab : a < b) (hb : b ≤ n) (hQ : QA Q d)
    (hC : Cmp Try.prog valP lt g fs cs Q id H) (Post : Value → Heap → Prop) (h : ∀ H', Same (fun k => k = id) H H' → Arr cellsP H' id (heapSort lt d a b) → Post (.tuple #[]) H') :
    ACalls Try.prog 217 [lv 2 id 0 n, .int .i64 a, .int .i64 b, .func (.func g) fs.toArray cs.toArray] H Post := by
  refine acalls_vc (rs := []) Try.func217 rfl rfl Try.ntmps217 rfl rfl ?_
  obtain ⟨hi, hhi⟩ : ∃ hi, hi = b - a := ⟨_, rfl⟩
  obtain ⟨h1, hh1⟩ : ∃ h1, h1 = hi - 1 := ⟨_, rfl⟩
  obtain ⟨k0, hk0⟩ : ∃ k0, k0 = h1 / 2 := ⟨_, rfl⟩
  have w0 : IntKind.i64.wrap ((b : Int) - a) = (hi : Int) := by rw [hhi, i64w (by omega) (by omega)]; omega
  have w1 : IntKind.i64.wrap ((hi : Int) - 1) = (h1 : Int) := by rw [hh1, i64w (by omega) (by omega)]; omega
  have w2 : IntKind.i64.wrap ((h1 : Int) / 2) = (k0 : Int) := by rw [hk0, i64w (by omega) (by omega)]; omega
  have e0 : heapSort lt d a b = heapPop lt a hi (heapBuild lt hi a (k0 + 1) d) := by rw [hk0, hh1, hhi]; rfl
  rw [e0] at h
  simp (maxSteps := 1000000) [go_sem, w0, w1, w2]
  refine AWp.loopVc (St := Nat × Array (Int × Int)) (fun s => [(0, lv 2 id 0 n), (3, .func (.func g) fs.toArray cs.toArray), (8, .int .i64 a), (9, .int .i64 0), (10, .int .i64 hi), (11, .int .i64 ((s.1 : Int) - 1))])
    (fun s H' => s.1 ≤ k0 + 1 ∧ s.2.size = n ∧ QA Q s.2 ∧ Same (fun k => k = id) H H' ∧ Arr cellsP H' id s.2 ∧ heapBuild lt hi a s.1 s.2 = heapBuild lt hi a (k0 + 1) d) (fun s => s.1) (k0 + 1, d) ?_ ?_ ?_
  · have e : ((k0 + 1 : Nat) : Int) - 1 = k0 := by omega
    simp [upF, Fr.get, Up.refl, e]
  · exact ⟨Nat.le_refl _, hn, hQ, Same.refl _ _, hA, rfl⟩
  · rintro K ⟨k, d1⟩ H1 ⟨hk, hsz, hQ1, hS1, hA1, hO⟩ hK
    simp only at hk hsz hQ1 hS1 hA1 hO
    cases k with
    | succ r =>
      have hwr : IntKind.i64.wrap ((r : Int) - 1) = (r : Int) - 1 := i64w (by omega) (by omega)
      simp (maxSteps := 1000000) [go_sem]
      refine siftP_ok hA1 hsz hl (by omega) (by omega) hQ1 (hC.keep hS1) _ ?_
      intro H2 hS2 hA2
      have hsz2 : (siftDown lt hi a r d1).size = n := by rw [sift_size]; exact hsz
      simp (maxSteps := 1000000) [go_sem, hwr]
      exact hK (r, siftDown lt hi a r d1) _ _ (by simp only; omega) (by simp [upF, Fr.get, Up.refl]) ⟨by simp only; omega, hsz2, sift_QA (by omega) hQ1, hS1.trans hS2, hA2, hO⟩
    | zero =>
      simp (maxSteps := 1000000) [go_sem, w1]
      have hO' : d1 = heapBuild lt hi a (k0 + 1) d := hO
      rw [← hO'] at h
      refine AWp.loopVc (St := Nat × Array (Int × Int)) (fun s => [(0, lv 2 id 0 n), (3, .func (.func g) fs.toArray cs.toArray), (8, .int .i64 a), (9, .int .i64 0), (12, .int .i64 ((s.1 : Int) - 1))])
        (fun s H' => s.1 ≤ hi ∧ s.2.size = n ∧ QA Q s.2 ∧ Same (fun k => k = id) H H' ∧ Arr cellsP H' id s.2 ∧ heapPop lt a s.1 s.2 = heapPop lt a hi d1) (fun s => s.1) (hi, d1) ?_ ?_ ?_
      · have e : (hi : Int) - 1 = h1 := by omega
        simp [upF, Fr.get, Up.refl, e]
      · exact ⟨Nat.le_refl _, hsz, hQ1, hS1, hA1, rfl⟩
      · rintro K2 ⟨k, d2⟩ H2 ⟨hk2, hsz2, hQ2, hS2, hA2, hP⟩ hK2
        simp only at hk2 hsz2 hQ2 hS2 hA2 hP
        cases k with
        | succ r =>
          have hwr : IntKind.i64.wrap ((r : Int) - 1) = (r : Int) - 1 := i64w (by omega) (by omega)
          obtain ⟨ar, har⟩ : ∃ ar, ar = a + r := ⟨_, rfl⟩
          have w4 : IntKind.i64.wrap ((a : Int) + r) = (ar : Int) := by rw [har]; rw [i64w (by omega) (by omega)]; omega
          have hi1 : a < d2.size := by omega
          have hi2 : ar < d2.size := by omega
          have n1 : a < n := by omega
          have n2 : ar < n := by omega
          have ca := hA2.load cellsP_len hi1
          have cb := hA2.load cellsP_len hi2
          obtain ⟨H5, H6, s1, s0, hA6, hS6, hl6⟩ := hA2.swap cellsP_len cellsP_one hi1 hi2
          obtain ⟨x, hx⟩ : ∃ x, x = d2[a]! := ⟨_, rfl⟩
          obtain ⟨y, hy⟩ : ∃ y, y = d2[ar]! := ⟨_, rfl⟩
          rw [← hx] at ca s0
          rw [← hy] at cb s1
          simp only [cellsP, Nat.mul_one, Row.val] at ca cb s0 s1
          rw [heapPop, ← har] at hP
          have hsz3 : (swp d2 a ar).size = n := by rw [size_swp]; exact hsz2
          have hQ3 := hQ2.swp hi1 hi2
          simp (maxSteps := 1000000) [go_sem]
          refine AWp.draw mixed [(0, false), (1, false), (2, false), (3, false), (4, false), (5, false), (6, false), (7, false), (8, false), (9, false), (10, false), (11, false), (12, false), (13, false), (14, false), (15, false), (16, false), (17, false), (18, false), (19, false)] (by kernel_rfl) ?_
          simp (maxSteps := 1000000) [go_sem, w4, ca, cb, n1, n2, s1, s0]
          refine siftP_ok (lo := 0) hA6 hsz3 hl (by omega) (by omega) hQ3 (hC.keep (hS2.trans hS6)) _ ?_
          intro H7 hS7 hA7
          have hsz4 : (siftDown lt r a 0 (swp d2 a ar)).size = n := by rw [sift_size]; exact hsz3
          simp (maxSteps := 1000000) [go_sem, hwr]
          exact hK2 (r, siftDown lt r a 0 (swp d2 a ar)) _ _ (by simp only; omega) (by simp [upF, Fr.get, Up.refl]) ⟨by simp only; omega, hsz4, sift_QA (by omega) hQ3, (hS2.trans hS6).trans hS7, hA7, hP⟩
        | zero =>
          simp (maxSteps := 1000000) [go_sem]
          refine h H2 hS2 ?_
          rw [← hP]; exact hA2

end Go.Proofs.Ytdfeoccjllljiaa
end

section
/- Sorting by a function: turning around, the choice of a pivot. -/
set_option linter.all false
set_option maxRecDepth 20000
set_option maxHeartbeats 4000000
namespace Go.Proofs.Ytdfeoccjllljiaa
open Go.Ab Go.Sort

theorem reverseP_ok {H : Heap} {id a b n : Nat} {d : Array (Int × Int)} {g : FuncId} {fs cs : List Value} (hA : Arr cellsP H id d) (hn : d.size = n) (hl : n ≤ 1048576) (hab : a < b) (hb : b ≤ n)
    (Post : Value → Heap → Prop) (h : ∀ H', Same (fun k => k = id) H H' → Arr cellsP H' id (reverseRange d a b) → Post (.tuple #[]) H') :
    ACalls Try.prog 220 [lv 2 id 0 n, .int .i64 a, .int .i64 b, .func (.func g) fs.toArray cs.toArray] H Post := by
  refine acalls_vc (rs := []) Try.func220 rfl rfl Try.ntmps220 rfl rfl ?_
  obtain ⟨b1, hb1⟩ : ∃ b1, b1 = b - 1 := ⟨_, rfl⟩
  have w0 : IntKind.i64.wrap ((b : Int) - 1) = (b1 : Int) := by rw [hb1, i64w (by omega) (by omega)]; omega
  have e0 : reverseRange d a b = reverseLoop a b1 d := by rw [hb1]; rfl
  rw [e0] at h
  simp (maxSteps := 1000000) [go_sem, w0]
  refine AWp.loopVc (St := Nat × Nat × Array (Int × Int)) (fun s => [(0, lv 2 id 0 n), (8, .int .i64 s.1), (9, .int .i64 s.2.1)])
    (fun s H' => s.2.1 < n ∧ s.1 ≤ n ∧ s.2.2.size = n ∧ Same (fun k => k = id) H H' ∧ Arr cellsP H' id s.2.2 ∧ reverseLoop s.1 s.2.1 s.2.2 = reverseLoop a b1 d) (fun s => s.2.1 - s.1) (a, b1, d) ?_ ?_ ?_
  · simp [upF, Fr.get, Up.refl]
  · exact ⟨by simp only; omega, by simp only; omega, hn, Same.refl _ _, hA, rfl⟩
  · rintro K ⟨i, j, d1⟩ H1 ⟨hj, hi, hsz, hS1, hA1, hO⟩ hK
    simp only at hj hi hsz hS1 hA1 hO
    by_cases hij : i < j
    · obtain ⟨r, rfl⟩ : ∃ r, j = r + 1 := ⟨j - 1, by omega⟩
      rw [reverse_go hij] at hO
      have hi1 : i < d1.size := by omega
      have hi2 : r + 1 < d1.size := by omega
      have n1 : i < n := by omega
      have n2 : r + 1 < n := by omega
      have m2 : (r : Int) + 1 < n := by omega
      have z2 : (0 : Int) ≤ (r : Int) + 1 := by omega
      have hij' : (i : Int) < (r : Int) + 1 := by omega
      have hwr : IntKind.i64.wrap (r : Int) = (r : Int) := i64w (by omega) (by omega)
      have hw_i : IntKind.i64.wrap ((i : Int) + 1) = (i : Int) + 1 := i64w (by omega) (by omega)
      have ca := hA1.load cellsP_len hi1
      have cb := hA1.load cellsP_len hi2
      obtain ⟨H5, H6, s1, s0, hA6, hS6, hl6⟩ := hA1.swap cellsP_len cellsP_one hi1 hi2
      obtain ⟨x, hx⟩ : ∃ x, x = d1[i]! := ⟨_, rfl⟩
      obtain ⟨y, hy⟩ : ∃ y, y = d1[r + 1]! := ⟨_, rfl⟩
      rw [← hx] at ca s0
      rw [← hy] at cb s1
      simp only [cellsP, Nat.mul_one, Row.val] at ca cb s0 s1
      simp (maxSteps := 1000000) [go_sem, hij, hij']
      refine AWp.draw mixed [(0, false), (1, false), (2, false), (3, false), (4, false), (5, false), (6, false), (7, false), (8, false), (9, false), (10, false), (11, false), (12, false), (13, false), (14, false), (15, false)] (by kernel_rfl) ?_
      simp (maxSteps := 1000000) [go_sem, ca, cb, n1, n2, m2, z2, s1, s0, hw_i, hwr]
      exact hK (i + 1, r, swp d1 i (r + 1)) _ _ (by simp only; omega) (by simp [upF, Fr.get, Up.refl]) ⟨by simp only; omega, by simp only; omega, by rw [size_swp]; exact hsz, hS1.trans hS6, hA6, hO⟩
    · rw [reverse_stop hij] at hO
      have hij' : ¬ ((i : Int) < j) := by omega
      simp (maxSteps := 1000000) [go_sem, hij, hij']
      exact h H1 hS1 (hO ▸ hA1)

theorem order2P_ok {HB H : Heap} {id sw a b n : Nat} {z : Int} {d : Array (Int × Int)} {lt : (Int × Int) → (Int × Int) → Bool} {g : FuncId} {fs cs : List Value} {Q : (Int × Int) → Prop} (hA : Arr cellsP H id d) (hn : d.size = n) (hl : n ≤ 1048576) (ha : a < n) (hb : b < n) (hQ : QA Q d)
    (hC : Cmp Try.prog valP lt g fs cs Q id HB) (hB : Same (fun k => k = id) HB H) (hz : H[sw]? = some ⟨[.int .i64 z], true, true⟩) (hsw : HB.length ≤ sw) (hid : id ≠ sw) (Post : Value → Heap → Prop)
    (h : ∀ H' (x y : Nat) (z' : Int), Same (fun k => k = sw) H H' → H'[sw]? = some ⟨[.int .i64 z'], true, true⟩ → (x = a ∧ y = b ∨ x = b ∧ y = a) → Post (.tuple #[.int .i64 x, .int .i64 y]) H') :
    ACalls Try.prog 232 [lv 2 id 0 n, .int .i64 a, .int .i64 b, .pointer (some ⟨sw, 0, none⟩), .func (.func g) fs.toArray cs.toArray] H Post := by
  refine acalls_vc (rs := [.tmp 10, .tmp 11]) Try.func232 rfl rfl Try.ntmps232 rfl rfl ?_
  have hi1 : a < d.size := by omega
  have hi2 : b < d.size := by omega
  have ca := hA.load cellsP_len hi1
  have cb := hA.load cellsP_len hi2
  have qa := hQ _ hi1
  have qb := hQ _ hi2
  obtain ⟨x, hx⟩ : ∃ x, x = d[a]! := ⟨_, rfl⟩
  obtain ⟨y, hy⟩ : ∃ y, y = d[b]! := ⟨_, rfl⟩
  rw [← hx] at ca qa
  rw [← hy] at cb qb
  simp only [cellsP, Nat.mul_one, Row.val] at ca cb
  simp (maxSteps := 1000000) [go_sem]
  refine AWp.draw mixed [(0, false), (1, false), (2, false), (3, false), (4, false), (5, false), (6, false), (7, false), (8, false), (9, false), (10, false)] (by kernel_rfl) ?_
  simp (maxSteps := 1000000) [go_sem, ca, cb, ha, hb]
  refine hC H y x _ hB qb qa ?_
  intro H3 c hp3 hc
  have hz3 : H3[sw]? = some ⟨[.int .i64 z], true, true⟩ := Same.get (S := fun _ => False) (Same.of_prefix hp3) hz (fun h => h)
  cases hyx : lt y x with
  | true =>
    rw [hyx] at hc
    have hc0 : c < 0 := by simpa using hc
    have lz : cellsAt H3 sw 0 1 = some [.int .i64 z] := by rw [cellsAt_of hz3 rfl (by simp)]; rfl
    obtain ⟨z1, hz1⟩ : ∃ z1, IntKind.i64.wrap (z + 1) = z1 := ⟨_, rfl⟩
    have sz : storeAt H3 sw 0 [.int .i64 z1] = some (H3.set sw ⟨[.int .i64 z1], true, true⟩) := by
      rw [storeAt_of hz3 rfl rfl (by simp) (by simp [Value.oneCell'])]; rfl
    have hlt := (List.getElem?_eq_some_iff.1 hz3).1
    have fin := h (H3.set sw ⟨[.int .i64 z1], true, true⟩) b a _ ((Same.of_prefix hp3).trans same_set) (List.getElem?_set_self hlt) (.inr ⟨rfl, rfl⟩)
    generalize H3.set sw ⟨[.int .i64 z1], true, true⟩ = H4 at sz fin
    simp (maxSteps := 1000000) [go_sem, hc, hc0, lz, hz1, sz]
    exact fin
  | false =>
    rw [hyx] at hc
    have hc0 : ¬ c < 0 := by simpa using hc
    have fin := h H3 a b z (Same.of_prefix hp3) hz3 (.inl ⟨rfl, rfl⟩)
    simp (maxSteps := 1000000) [go_sem, hc, hc0]
    exact fin

theorem medianP_ok {HB H : Heap} {id sw a b c n : Nat} {z : Int} {d : Array (Int × Int)} {lt : (Int × Int) → (Int × Int) → Bool} {g : FuncId} {fs cs : List Value} {Q : (Int × Int) → Prop} (hA : Arr cellsP H id d) (hn : d.size = n) (hl : n ≤ 1048576) (ha : a < n) (hb : b < n) (hc : c < n) (hQ : QA Q d)
    (hC : Cmp Try.prog valP lt g fs cs Q id HB) (hB : Same (fun k => k = id) HB H) (hz : H[sw]? = some ⟨[.int .i64 z], true, true⟩) (hsw : HB.length ≤ sw) (hid : id ≠ sw) (Post : Value → Heap → Prop)
    (h : ∀ H' (x : Nat) (z' : Int), Same (fun k => k = sw) H H' → H'[sw]? = some ⟨[.int .i64 z'], true, true⟩ → (x = a ∨ x = b ∨ x = c) → Post (.int .i64 x) H') :
    ACalls Try.prog 230 [lv 2 id 0 n, .int .i64 a, .int .i64 b, .int .i64 c, .pointer (some ⟨sw, 0, none⟩), .func (.func g) fs.toArray cs.toArray] H Post := by
  have stepB : ∀ {H1 : Heap}, Same (fun k => k = sw) H H1 → Same (fun k => k = id) HB H1 := fun h1 => hB.via h1 (by intro j hj e; omega)
  have stepA : ∀ {H1 : Heap}, Same (fun k => k = sw) H H1 → Arr cellsP H1 id d := fun h1 => h1.get hA hid
  refine acalls_vc (rs := [.tmp 12]) Try.func230 rfl rfl Try.ntmps230 rfl rfl ?_
  simp (maxSteps := 1000000) [go_sem]
  refine order2P_ok hA hn hl ha hb hQ hC hB hz hsw hid _ ?_
  intro H1 a1 b1 z1 hs1 hz1 h1
  simp (maxSteps := 1000000) [go_sem]
  refine order2P_ok (stepA hs1) hn hl (by omega) hc hQ hC (stepB hs1) hz1 hsw hid _ ?_
  intro H2 b2 c2 z2 hs2 hz2 h2
  have hs2 := hs1.trans hs2
  simp (maxSteps := 1000000) [go_sem]
  refine order2P_ok (stepA hs2) hn hl (by omega) (by omega) hQ hC (stepB hs2) hz2 hsw hid _ ?_
  intro H3 a3 b3 z3 hs3 hz3 h3
  simp (maxSteps := 1000000) [go_sem]
  exact h H3 b3 z3 (hs2.trans hs3) hz3 (by omega)

theorem medianAdjP_ok {HB H : Heap} {id sw a n : Nat} {z : Int} {d : Array (Int × Int)} {lt : (Int × Int) → (Int × Int) → Bool} {g : FuncId} {fs cs : List Value} {Q : (Int × Int) → Prop} (hA : Arr cellsP H id d) (hn : d.size = n) (hl : n ≤ 1048576) (ha0 : 0 < a) (ha : a + 1 < n) (hQ : QA Q d)
    (hC : Cmp Try.prog valP lt g fs cs Q id HB) (hB : Same (fun k => k = id) HB H) (hz : H[sw]? = some ⟨[.int .i64 z], true, true⟩) (hsw : HB.length ≤ sw) (hid : id ≠ sw) (Post : Value → Heap → Prop)
    (h : ∀ H' (x : Nat) (z' : Int), Same (fun k => k = sw) H H' → H'[sw]? = some ⟨[.int .i64 z'], true, true⟩ → (a ≤ x + 1 ∧ x ≤ a + 1) → Post (.int .i64 x) H') :
    ACalls Try.prog 229 [lv 2 id 0 n, .int .i64 a, .pointer (some ⟨sw, 0, none⟩), .func (.func g) fs.toArray cs.toArray] H Post := by
  obtain ⟨p, hp⟩ : ∃ p, p = a - 1 := ⟨_, rfl⟩
  obtain ⟨q, hq⟩ : ∃ q, q = a + 1 := ⟨_, rfl⟩
  have w0 : IntKind.i64.wrap ((a : Int) - 1) = (p : Int) := by rw [hp, i64w (by omega) (by omega)]; omega
  have w1 : IntKind.i64.wrap ((a : Int) + 1) = (q : Int) := by rw [hq, i64w (by omega) (by omega)]; omega
  refine acalls_vc (rs := [.tmp 8]) Try.func229 rfl rfl Try.ntmps229 rfl rfl ?_
  simp (maxSteps := 1000000) [go_sem, w0, w1]
  refine medianP_ok hA hn hl (by omega) (by omega) (by omega) hQ hC hB hz hsw hid _ ?_
  intro H1 x z1 hs1 hz1 h1
  simp (maxSteps := 1000000) [go_sem]
  exact h H1 x z1 hs1 hz1 (by omega)

theorem pivotP_ok {H : Heap} {id a b n : Nat} {d : Array (Int × Int)} {lt : (Int × Int) → (Int × Int) → Bool} {g : FuncId} {fs cs : List Value} {Q : (Int × Int) → Prop} (hA : Arr cellsP H id d) (hn : d.size = n) (hl : n ≤ 1048576) (hab : a < b) (hb : b ≤ n) (hQ : QA Q d)
    (hC : Cmp Try.prog valP lt g fs cs Q id H) (Post : Value → Heap → Prop)
    (h : ∀ H' (x : Nat) (t : Int), H <+: H' → (a ≤ x ∧ x < b) → Post (.tuple #[.int .i64 x, .int .i64 t]) H') :
    ACalls Try.prog 219 [lv 2 id 0 n, .int .i64 a, .int .i64 b, .func (.func g) fs.toArray cs.toArray] H Post := by
  obtain ⟨l, hll⟩ : ∃ l, l = b - a := ⟨_, rfl⟩
  obtain ⟨q, hq⟩ : ∃ q, q = l / 4 := ⟨_, rfl⟩
  obtain ⟨i, hi⟩ : ∃ i, i = a + q := ⟨_, rfl⟩
  obtain ⟨j, hj⟩ : ∃ j, j = a + q * 2 := ⟨_, rfl⟩
  obtain ⟨k, hk⟩ : ∃ k, k = a + q * 3 := ⟨_, rfl⟩
  have w0 : IntKind.i64.wrap ((b : Int) - a) = (l : Int) := by rw [hll, i64w (by omega) (by omega)]; omega
  have w1 : IntKind.i64.wrap ((l : Int) / 4) = (q : Int) := by rw [hq, i64w (by omega) (by omega)]; omega
  have w1' : IntKind.i64.wrap (q : Int) = (q : Int) := i64w (by omega) (by omega)
  have w2 : IntKind.i64.wrap ((q : Int) * 2) = (q : Int) * 2 := i64w (by omega) (by omega)
  have w3 : IntKind.i64.wrap ((q : Int) * 3) = (q : Int) * 3 := i64w (by omega) (by omega)
  have w4 : IntKind.i64.wrap ((a : Int) + q) = (i : Int) := by rw [hi, i64w (by omega) (by omega)]; omega
  have w5 : IntKind.i64.wrap ((a : Int) + (q : Int) * 2) = (j : Int) := by rw [hj, i64w (by omega) (by omega)]; omega
  have w6 : IntKind.i64.wrap ((a : Int) + (q : Int) * 3) = (k : Int) := by rw [hk, i64w (by omega) (by omega)]; omega
  have hidl := hA.lt
  have hp0 : H <+: H ++ [⟨[.int .i64 0], true, true⟩] := List.prefix_append _ _
  have hz0 : (H ++ [(⟨[.int .i64 0], true, true⟩ : Blk)])[H.length]? = some ⟨[.int .i64 0], true, true⟩ := by simp
  have fin0 : ∀ (H' : Heap) (x : Nat) (t : Int), Same (fun k => k = H.length) (H ++ [⟨[.int .i64 0], true, true⟩]) H' → (a ≤ x ∧ x < b) → Post (.tuple #[.int .i64 x, .int .i64 t]) H' := by
    intro H' x t hs hx
    refine h H' x t ?_ hx
    exact ((Same.of_prefix (S := fun k => k = H.length) hp0).trans hs).prefix (by intro j hj e; omega)
  have lz : ∀ {H' : Heap} {z : Int}, H'[H.length]? = some ⟨[.int .i64 z], true, true⟩ → cellsAt H' H.length 0 1 = some [.int .i64 z] := by
    intro H' z hz; rw [cellsAt_of hz rfl (by simp)]; rfl
  refine acalls_vc (rs := [.tmp 8, .tmp 9]) Try.func219 rfl rfl Try.ntmps219 rfl rfl ?_
  by_cases h8 : 8 ≤ l
  · have h8' : (8 : Int) ≤ l := by omega
    by_cases h50 : 50 ≤ l
    · have h50' : (50 : Int) ≤ l := by omega
      simp (maxSteps := 1000000) [go_sem, w0, w1, w1', w2, w3, w4, w5, w6, h8, h8', h50, h50']
      have hA0 := hA.pre hp0
      have hB0 : Same (fun k => k = id) H (H ++ [⟨[.int .i64 0], true, true⟩]) := Same.of_prefix hp0
      generalize H ++ [(⟨[.int .i64 0], true, true⟩ : Blk)] = H0 at hp0 hz0 fin0 hA0 hB0 ⊢
      have stepB : ∀ {H1 : Heap}, Same (fun k => k = H.length) H0 H1 → Same (fun k => k = id) H H1 := fun h1 => hB0.via h1 (by intro j hj e; omega)
      have stepA : ∀ {H1 : Heap}, Same (fun k => k = H.length) H0 H1 → Arr cellsP H1 id d := fun h1 => h1.get hA0 (by omega)
      refine medianAdjP_ok hA0 hn hl (by omega) (by omega) hQ hC hB0 hz0 (Nat.le_refl _) (by omega) _ ?_
      intro H1 i1 z1 hs1 hz1 h1
      simp (maxSteps := 1000000) [go_sem]
      refine medianAdjP_ok (stepA hs1) hn hl (by omega) (by omega) hQ hC (stepB hs1) hz1 (Nat.le_refl _) (by omega) _ ?_
      intro H2 j1 z2 hs2 hz2 h2
      have hs2 := hs1.trans hs2
      simp (maxSteps := 1000000) [go_sem]
      refine medianAdjP_ok (stepA hs2) hn hl (by omega) (by omega) hQ hC (stepB hs2) hz2 (Nat.le_refl _) (by omega) _ ?_
      intro H3 k1 z3 hs3 hz3 h3
      have hs3 := hs2.trans hs3
      simp (maxSteps := 1000000) [go_sem]
      refine medianP_ok (stepA hs3) hn hl (by omega) (by omega) (by omega) hQ hC (stepB hs3) hz3 (Nat.le_refl _) (by omega) _ ?_
      intro H4 x z4 hs4 hz4 h4
      have hs4 := hs3.trans hs4
      have c4 := lz hz4
      have hx : a ≤ x ∧ x < b := by omega
      by_cases e0 : z4 = 0
      · have fin := fin0 H4 x 1 hs4 hx
        subst e0
        simp (maxSteps := 1000000) [go_sem, c4]
        exact fin
      · have e0' : (z4 == 0) = false := by simpa using e0
        by_cases e1 : z4 = 12
        · have fin := fin0 H4 x 2 hs4 hx
          subst e1
          simp (maxSteps := 1000000) [go_sem, c4]
          exact fin
        · have fin := fin0 H4 x 0 hs4 hx
          have e1' : (z4 == 12) = false := by simpa using e1
          simp (maxSteps := 1000000) [go_sem, c4, e0, e0', e1, e1']
          exact fin
    · have h50' : ¬ ((50 : Int) ≤ l) := by omega
      simp (maxSteps := 1000000) [go_sem, w0, w1, w1', w2, w3, w4, w5, w6, h8, h8', h50, h50']
      have hA0 := hA.pre hp0
      have hB0 : Same (fun k => k = id) H (H ++ [⟨[.int .i64 0], true, true⟩]) := Same.of_prefix hp0
      generalize H ++ [(⟨[.int .i64 0], true, true⟩ : Blk)] = H0 at hp0 hz0 fin0 hA0 hB0 ⊢
      refine medianP_ok hA0 hn hl (by omega) (by omega) (by omega) hQ hC hB0 hz0 (Nat.le_refl _) (by omega) _ ?_
      intro H4 x z4 hs4 hz4 h4
      have c4 := lz hz4
      have hx : a ≤ x ∧ x < b := by omega
      by_cases e0 : z4 = 0
      · have fin := fin0 H4 x 1 hs4 hx
        subst e0
        simp (maxSteps := 1000000) [go_sem, c4]
        exact fin
      · have e0' : (z4 == 0) = false := by simpa using e0
        by_cases e1 : z4 = 12
        · have fin := fin0 H4 x 2 hs4 hx
          subst e1
          simp (maxSteps := 1000000) [go_sem, c4]
          exact fin
        · have fin := fin0 H4 x 0 hs4 hx
          have e1' : (z4 == 12) = false := by simpa using e1
          simp (maxSteps := 1000000) [go_sem, c4, e0, e0', e1, e1']
          exact fin
  · have h8' : ¬ ((8 : Int) ≤ l) := by omega
    have fin := fin0 _ j 1 (Same.refl _ _) (by omega)
    simp (maxSteps := 1000000) [go_sem, w0, w1, w1', w2, w3, w4, w5, w6, h8, h8']
    exact fin

end Go.Proofs.Ytdfeoccjllljiaa
end
