/- Results that are lists of lists, held alone; marks on them. -/
import Derived.Test.YtkgjdmbmdnmilaaLaw4
set_option linter.all false
set_option maxRecDepth 20000
namespace Go.Proofs.Ytkgjdmbmdnmilaa
open Go.Ab

def RowsIn (a b : Nat) (H : Heap) (v : Value) (xss : List (List Int)) : Prop :=
  ∃ (id : Nat) (rows : List (Nat × List Int)), v = lv 1 id 0 rows.length ∧ At H id 0 (rows.map rowVal) ∧ Rows1 H rows ∧ (∀ r ∈ rows, r.2 ≠ [] → r.1 ≠ id ∧ Span a b r.1) ∧ rows.map (·.2) = xss ∧ (rows ≠ [] → Span a b id) ∧ xss.flatten.length ≤ 140737488355328 ∧ rows.length ≤ 140737488355328
/-- Lists of numbers that were marked. -/
def MarkRows (a b : Nat) (H : Heap) (v : Value) (k : Int) (xss : List (List Int)) : Prop :=
  ∃ (id : Nat) (rows : List (Nat × List Int)), v = lv 1 id 0 rows.length ∧ At H id 0 (rows.map rowVal) ∧ (∀ r ∈ rows, At H r.1 0 (ints r.2) ∧ (r.2 ≠ [] → Span a b r.1)) ∧ rows.map (·.2) = marked k xss ∧ (rows ≠ [] → Span a b id) ∧ xss.flatten.length ≤ 140737488355328 ∧ rows.length ≤ 140737488355328

theorem flat_le {rows : List (Nat × List Int)} {r : Nat × List Int} (h : r ∈ rows) : r.2.length ≤ (rows.map (·.2)).flatten.length := by
  exact (List.sublist_flatten_of_mem (List.mem_map_of_mem (f := fun r : Nat × List Int => r.2) h)).length_le
theorem At.keepS {H H' : Heap} {S : Nat → Prop} (hs : Same S H H') {i o : Nat} {cs : List Value} (h : At H i o cs) (hi : cs ≠ [] → ¬ S i) : At H' i o cs := by
  rcases h with h0 | h
  · exact .inl h0
  · by_cases hc : cs = []
    · exact .inl hc
    · right
      obtain ⟨blk, hb, hbl, hbn, he⟩ := cellsAt_inv h
      rw [cellsAt_of (hs.get hb (hi hc)) hbl hbn, ← he]
theorem RowsIn.own {a b : Nat} {H : Heap} {v : Value} {xss : List (List Int)} (h : RowsIn a b H v xss) : ∃ rows, OwnRows H v rows ∧ rows.map (·.2) = xss ∧ ∀ r ∈ rows, r.2 ≠ [] → Span a b r.1 := by
  obtain ⟨id, rows, h1, h2, h3, h4, h5, h6, h7, h8⟩ := h
  exact ⟨rows, ⟨id, h1, h2, h3, fun r hr hn => (h4 r hr hn).1, h8, fun r hr => by have := flat_le hr; rw [h5] at this; omega⟩, h5, fun r hr hn => (h4 r hr hn).2⟩
theorem RowsIn.keep {a b : Nat} {H H' : Heap} {v : Value} {xss : List (List Int)} (h : RowsIn a b H v xss) {S : Nat → Prop} (hs : Same S H H') (hd : ∀ j, Span a b j → ¬ S j) : RowsIn a b H' v xss := by
  obtain ⟨id, rows, h1, h2, h3, h4, h5, h6, h7, h8⟩ := h
  refine ⟨id, rows, h1, At.keepS hs h2 (fun hn => hd _ (h6 (by rintro rfl; exact hn rfl))), ⟨fun r hr => ?_, h3.2⟩, h4, h5, h6, h7, h8⟩
  by_cases hn : r.2 = []
  · exact .inl hn
  · exact .inr (hs.get ((h3.1 r hr).resolve_left hn) (hd _ (h4 r hr hn).2))
theorem MarkRows.keep {a b : Nat} {H H' : Heap} {v : Value} {k : Int} {xss : List (List Int)} (h : MarkRows a b H v k xss) {S : Nat → Prop} (hs : Same S H H') (hd : ∀ j, Span a b j → ¬ S j) : MarkRows a b H' v k xss := by
  obtain ⟨id, rows, h1, h2, h3, h5, h6, h7, h8⟩ := h
  refine ⟨id, rows, h1, At.keepS hs h2 (fun hn => hd _ (h6 (by rintro rfl; exact hn rfl))), fun r hr => ⟨At.keepS hs (h3 r hr).1 (fun hn => hd _ ((h3 r hr).2 (by intro e; rw [e] at hn; exact hn rfl))), (h3 r hr).2⟩, h5, h6, h7, h8⟩
theorem RowsIn.pre {a b : Nat} {H H' : Heap} (hp : H <+: H') {v : Value} {xss : List (List Int)} (h : RowsIn a b H v xss) : RowsIn a b H' v xss := h.keep (S := fun _ => False) (Same.of_prefix hp) (fun _ _ h => h)
theorem MarkRows.pre {a b : Nat} {H H' : Heap} (hp : H <+: H') {v : Value} {k : Int} {xss : List (List Int)} (h : MarkRows a b H v k xss) : MarkRows a b H' v k xss := h.keep (S := fun _ => False) (Same.of_prefix hp) (fun _ _ h => h)
theorem RowsIn.read {a b : Nat} {H : Heap} {v : Value} {xss : List (List Int)} (h : RowsIn a b H v xss) : IntssAt H v xss := by
  obtain ⟨rows, h1, h2, _⟩ := h.own; exact h2 ▸ h1.read
theorem RowsIn.one {a b : Nat} {H : Heap} {v : Value} {xss : List (List Int)} (h : RowsIn a b H v xss) : v.oneCell' = true := by
  obtain ⟨id, rows, rfl, _⟩ := h; rfl
theorem RowsIn.nil (a b : Nat) (H : Heap) : RowsIn a b H (lv 1 0 0 0) [] := ⟨0, [], rfl, .inl rfl, ⟨by simp, by simp⟩, by simp, rfl, fun h => absurd rfl h, by simp, by simp⟩
theorem RowsIn.wider {a b c : Nat} {H : Heap} {v : Value} {xss : List (List Int)} (h : RowsIn a b H v xss) (hc : c ≤ a) : RowsIn c b H v xss := by
  obtain ⟨id, rows, h1, h2, h3, h4, h5, h6, h7, h8⟩ := h
  exact ⟨id, rows, h1, h2, h3, fun r hr hn => ⟨(h4 r hr hn).1, Nat.le_trans hc (h4 r hr hn).2.1, (h4 r hr hn).2.2⟩, h5, fun hn => ⟨Nat.le_trans hc (h6 hn).1, (h6 hn).2⟩, h7, h8⟩
theorem MarkRows.one {a b : Nat} {H : Heap} {v : Value} {k : Int} {xss : List (List Int)} (h : MarkRows a b H v k xss) : v.oneCell' = true := by
  obtain ⟨id, rows, rfl, _⟩ := h; rfl
theorem MarkRows.read {a b : Nat} {H : Heap} {v : Value} {k : Int} {xss : List (List Int)} (h : MarkRows a b H v k xss) : IntssAt H v (marked k xss) := by
  obtain ⟨id, rows, rfl, h2, h3, h5, h6, h7, h8⟩ := h
  have hl : rows.length = (marked k xss).length := by rw [← h5, List.length_map]
  refine ⟨id, 0, rows.map rowVal, by rw [hl], by simp [hl], h2, ?_, by omega⟩
  intro j u ys hu hx
  rw [← h5] at hx
  simp only [List.getElem?_map, Option.map_eq_some_iff] at hu hx
  obtain ⟨r, hr, rfl⟩ := hu
  obtain ⟨r', hr', rfl⟩ := hx
  rw [hr] at hr'; cases hr'
  have hm := List.mem_of_getElem? hr
  refine ⟨r.1, 0, rfl, (h3 r hm).1, ?_⟩
  have := flat_le hm
  rw [h5, marked_total] at this; omega

/-- What a call has built. -/
theorem _root_.Go.Ab.Build.inn {H H' : Heap} {oid : Nat} {rows : List (Nat × List Int)} (h : Build H H' oid rows) (hl : (rows.map (·.2)).flatten.length ≤ 140737488355328) (hl' : rows.length ≤ 140737488355328) : RowsIn H.length H'.length H' (lv 1 oid 0 rows.length) (rows.map (·.2)) :=
  ⟨oid, rows, rfl, h.ol.at, h.rows1, fun r hr _ => ⟨(h.ids r hr).2.2, (h.ids r hr).1, (h.ids r hr).2.1⟩, rfl, fun _ => ⟨h.ge, h.ol.lt⟩, hl, hl'⟩

theorem lv_inj {e i j o q n : Nat} (h : lv e i o n = lv e j q n) : i = j ∧ o = q := by
  cases h; exact ⟨rfl, rfl⟩

theorem markIntss_ok {a b T : Nat} {H : Heap} {v : Value} {xss : List (List Int)} {k : Int} (h : RowsIn a b H v xss) (hT : T = xss.flatten.length) (hk0 : 0 ≤ k) (hk : k ≤ 1000000000) (Post : Value → Heap → Prop)
    (hP : ∀ H', Same (Span a b) H H' → MarkRows a b H' v k xss → Post (.int .i64 (k + T)) H') : ACalls Try.prog 28 [v, .int .i64 k] H Post := by
  subst hT
  obtain ⟨id, rows, rfl, h2, h3, h4, h5, h6, h7, h8⟩ := h
  have hown : OwnRows H (lv 1 id 0 rows.length) rows := ⟨id, rfl, h2, h3, fun r hr hn => (h4 r hr hn).1, h8, fun r hr => by have := flat_le hr; rw [h5] at this; omega⟩
  refine markInt64SS_ok hown hk0 (by rw [h5]; omega) _ ?_
  intro H' hl hs hm
  rw [h5] at hm ⊢
  have h2' : At H' id 0 (rows.map rowVal) := At.keepS hs h2 (fun _ => by rintro ⟨r, hr, hn, e⟩; exact (h4 r hr hn).1 e)
  refine hP H' (hs.mono fun j _ ⟨r, hr, hn, e⟩ => e ▸ (h4 r hr hn).2) ?_
  obtain ⟨i, o, vs, e1, e2, e3, e4, e5⟩ := hm
  have hml : (marked k xss).length = rows.length := by rw [marked_length, ← h5, List.length_map]
  rw [hml] at e1 e2 e5
  obtain ⟨rfl, rfl⟩ := lv_inj e1
  have hvs : vs = rows.map rowVal := by
    rcases h2' with hz | h2'
    · rw [hz]; have : rows.length = 0 := by simpa using congrArg List.length hz
      exact List.eq_nil_of_length_eq_zero (by omega)
    · rcases e3 with hz | e3
      · rw [hz] at e2 ⊢
        have : rows = [] := List.eq_nil_of_length_eq_zero (by simpa using e2.symm)
        rw [this]; rfl
      · rw [e2] at e3; rw [List.length_map] at h2'; rw [e3] at h2'; exact Option.some.inj h2'
  subst hvs
  have hrow : ∀ j, j < rows.length → ∃ r ys, rows[j]? = some r ∧ (marked k xss)[j]? = some ys ∧ ys.length = r.2.length := by
    intro j hj
    have hr : rows[j]? = some rows[j] := List.getElem?_eq_getElem hj
    have hx : xss[j]? = some rows[j].2 := by rw [← h5, List.getElem?_map, hr]; rfl
    refine ⟨rows[j], upFrom (k + (off xss j : Int)) rows[j].2.length, hr, by rw [marked_get, hx]; rfl, by rw [upFrom_length]⟩
  refine ⟨id, (List.range rows.length).map (fun j => ((rows.getD j (0, [])).1, (marked k xss).getD j [])), by simp, ?_, ?_, ?_, ?_, h7, by simpa using h8⟩
  · have e : ((List.range rows.length).map (fun j => ((rows.getD j (0, [])).1, (marked k xss).getD j []))).map rowVal = rows.map rowVal := by
      apply List.ext_getElem?
      intro j
      by_cases hj : j < rows.length
      · obtain ⟨r, ys, hr, hy, hyl⟩ := hrow j hj
        simp [List.getElem?_map, List.getElem?_range hj, hr, hy, rowVal, hyl, List.getD_eq_getElem?_getD]
      · rw [List.getElem?_eq_none (by simp; omega), List.getElem?_eq_none (by simp; omega)]
    rw [e]; exact h2'
  · intro r hr
    obtain ⟨j, hj, rfl⟩ := List.mem_map.1 hr
    rw [List.mem_range] at hj
    obtain ⟨r, ys, hr', hy, hyl⟩ := hrow j hj
    have hat := e4 j (rowVal r) ys (by rw [List.getElem?_map, hr']; rfl) hy
    obtain ⟨i', o', f1, f2, f3⟩ := hat
    rw [hyl] at f1
    obtain ⟨rfl, rfl⟩ := lv_inj (show lv 1 r.1 0 r.2.length = _ from f1)
    simp only [List.getD_eq_getElem?_getD, hr', hy, Option.getD_some]
    exact ⟨f2, fun hn => (h4 r (List.mem_of_getElem? hr') (by intro e; rw [e] at hyl; exact hn (List.eq_nil_of_length_eq_zero hyl))).2⟩
  · apply List.ext_getElem?
    intro j
    by_cases hj : j < rows.length
    · obtain ⟨r, ys, hr, hy, hyl⟩ := hrow j hj
      simp [List.getElem?_map, List.getElem?_range hj, hy, List.getD_eq_getElem?_getD]
    · rw [List.getElem?_eq_none (by simp; omega), List.getElem?_eq_none (by omega)]
  · intro hn
    exact h6 (by rintro rfl; exact hn rfl)

theorem heldIntss_ok {a b T : Nat} {H : Heap} {v : Value} {xss : List (List Int)} {k : Int} (h : MarkRows a b H v k xss) (hT : T = xss.flatten.length) (hk0 : 0 ≤ k) (hk : k ≤ 1000000000) (Post : Value → Heap → Prop)
    (hP : Post (.int .i64 (k + T)) H) : ACalls Try.prog 29 [v, .int .i64 k] H Post := by
  subst hT
  have h7 : xss.flatten.length ≤ 140737488355328 := by obtain ⟨_, _, _, _, _, _, _, h7, _⟩ := h; exact h7
  exact heldInt64SS_ok h.read hk0 (by omega) _ hP

end Go.Proofs.Ytkgjdmbmdnmilaa
