/- Part 6 of what the proof of the law FnExactIsDifferenceFamily rests on: contracts of functions of the program, for every argument that each names; no statement of the seat is proved here. -/
import Derived.Test.YtdfeoccjllljiaaFnExactIsDifferenceFamilyPart5

section
/- Results that are lists of lists, held alone; marks on them. -/
set_option linter.all false
set_option maxRecDepth 20000
namespace Go.Proofs.Ytdfeoccjllljiaa
open Go.Ab

def RowsIn (a b : Nat) (H : Heap) (v : Value) (xss : List (List Int)) : Prop :=
  ∃ (id : Nat) (rows : List (Nat × List Int)), v = lv 1 id 0 rows.length ∧ At H id 0 (rows.map rowVal) ∧ Rows1 H rows ∧ (∀ r ∈ rows, r.2 ≠ [] → r.1 ≠ id ∧ Span a b r.1) ∧ rows.map (·.2) = xss ∧ (rows ≠ [] → Span a b id) ∧ xss.flatten.length ≤ 140737488355328 ∧ rows.length ≤ 140737488355328
/-- Lists of numbers that were marked. -/
def MarkRows (a b : Nat) (H : Heap) (v : Value) (k : Int) (xss : List (List Int)) : Prop :=
  ∃ (id : Nat) (rows : List (Nat × List Int)), v = lv 1 id 0 rows.length ∧ At H id 0 (rows.map rowVal) ∧ (∀ r ∈ rows, At H r.1 0 (ints r.2) ∧ (r.2 ≠ [] → Span a b r.1)) ∧ rows.map (·.2) = marked k xss ∧ (rows ≠ [] → Span a b id) ∧ xss.flatten.length ≤ 140737488355328 ∧ rows.length ≤ 140737488355328

theorem flat_le {rows : List (Nat × List Int)} {r : Nat × List Int} (h : r ∈ rows) : r.2.length ≤ (rows.map (·.2)).flatten.length := by
  exact (List.sublist_flatten_of_mem (List.mem_map_of_mem (f := fun r : Nat × List Int => r.2) h)).length_le
theorem At.keepS {H H' : Heap} {S : Nat → Prop} (hs : Same S H H') {i o : Nat} {cs : List Value} (h : At H i o cs) (hi : cs ≠ [] → ¬ S i) : At H' i o cs := by
  rcases h with h0 | h
  · exact .inl h0
  · by_cases hc : cs = []
    · exact .inl hc
    · right
      obtain ⟨blk, hb, hbl, hbn, he⟩ := cellsAt_inv h
      rw [cellsAt_of (hs.get hb (hi hc)) hbl hbn, ← he]
theorem RowsIn.own {a b : Nat} {H : Heap} {v : Value} {xss : List (List Int)} (h : RowsIn a b H v xss) : ∃ rows, OwnRows H v rows ∧ rows.map (·.2) = xss ∧ ∀ r ∈ rows, r.2 ≠ [] → Span a b r.1 := by
  obtain ⟨id, rows, h1, h2, h3, h4, h5, h6, h7, h8⟩ := h
  exact ⟨rows, ⟨id, h1, h2, h3, fun r hr hn => (h4 r hr hn).1, h8, fun r hr => by have := flat_le hr; rw [h5] at this; omega⟩, h5, fun r hr hn => (h4 r hr hn).2⟩
theorem RowsIn.keep {a b : Nat} {H H' : Heap} {v : Value} {xss : List (List Int)} (h : RowsIn a b H v xss) {S : Nat → Prop} (hs : Same S H H') (hd : ∀ j, Span a b j → ¬ S j) : RowsIn a b H' v xss := by
  obtain ⟨id, rows, h1, h2, h3, h4, h5, h6, h7, h8⟩ := h
  refine ⟨id, rows, h1, At.keepS hs h2 (fun hn => hd _ (h6 (by rintro rfl; exact hn rfl))), ⟨fun r hr => ?_, h3.2⟩, h4, h5, h6, h7, h8⟩
  by_cases hn : r.2 = []
  · exact .inl hn
  · exact .inr (hs.get ((h3.1 r hr).resolve_left hn) (hd _ (h4 r hr hn).2))
theorem MarkRows.keep {a b : Nat} {H H' : Heap} {v : Value} {k : Int} {xss : List (List Int)} (h : MarkRows a b H v k xss) {S : Nat → Prop} (hs : Same S H H') (hd : ∀ j, Span a b j → ¬ S j) : MarkRows a b H' v k xss := by
  obtain ⟨id, rows, h1, h2, h3, h5, h6, h7, h8⟩ := h
  refine ⟨id, rows, h1, At.keepS hs h2 (fun hn => hd _ (h6 (by rintro rfl; exact hn rfl))), fun r hr => ⟨At.keepS hs (h3 r hr).1 (fun hn => hd _ ((h3 r hr).2 (by intro e; rw [e] at hn; exact hn rfl))), (h3 r hr).2⟩, h5, h6, h7, h8⟩
theorem RowsIn.pre {a b : Nat} {H H' : Heap} (hp : H <+: H') {v : Value} {xss : List (List Int)} (h : RowsIn a b H v xss) : RowsIn a b H' v xss := h.keep (S := fun _ => False) (Same.of_prefix hp) (fun _ _ h => h)
theorem MarkRows.pre {a b : Nat} {H H' : Heap} (hp : H <+: H') {v : Value} {k : Int} {xss : List (List Int)} (h : MarkRows a b H v k xss) : MarkRows a b H' v k xss := h.keep (S := fun _ => False) (Same.of_prefix hp) (fun _ _ h => h)
theorem RowsIn.read {a b : Nat} {H : Heap} {v : Value} {xss : List (List Int)} (h : RowsIn a b H v xss) : IntssAt H v xss := by
  obtain ⟨rows, h1, h2, _⟩ := h.own; exact h2 ▸ h1.read
theorem RowsIn.one {a b : Nat} {H : Heap} {v : Value} {xss : List (List Int)} (h : RowsIn a b H v xss) : v.oneCell' = true := by
  obtain ⟨id, rows, rfl, _⟩ := h; rfl
theorem RowsIn.nil (a b : Nat) (H : Heap) : RowsIn a b H (lv 1 0 0 0) [] := ⟨0, [], rfl, .inl rfl, ⟨by simp, by simp⟩, by simp, rfl, fun h => absurd rfl h, by simp, by simp⟩
theorem MarkRows.one {a b : Nat} {H : Heap} {v : Value} {k : Int} {xss : List (List Int)} (h : MarkRows a b H v k xss) : v.oneCell' = true := by
  obtain ⟨id, rows, rfl, _⟩ := h; rfl
theorem MarkRows.read {a b : Nat} {H : Heap} {v : Value} {k : Int} {xss : List (List Int)} (h : MarkRows a b H v k xss) : IntssAt H v (marked k xss) := by
  obtain ⟨id, rows, rfl, h2, h3, h5, h6, h7, h8⟩ := h
  have hl : rows.length = (marked k xss).length := by rw [← h5, List.length_map]
  refine ⟨id, 0, rows.map rowVal, by rw [hl], by simp [hl], h2, ?_, by omega⟩
  intro j u ys hu hx
  rw [← h5] at hx
  simp only [List.getElem?_map, Option.map_eq_some_iff] at hu hx
  obtain ⟨r, hr, rfl⟩ := hu
  obtain ⟨r', hr', rfl⟩ := hx
  rw [hr] at hr'; cases hr'
  have hm := List.mem_of_getElem? hr
  refine ⟨r.1, 0, rfl, (h3 r hm).1, ?_⟩
  have := flat_le hm
  rw [h5, marked_total] at this; omega

/-- What a call has built. -/
theorem _root_.Go.Ab.Build.inn {H H' : Heap} {oid : Nat} {rows : List (Nat × List Int)} (h : Build H H' oid rows) (hl : (rows.map (·.2)).flatten.length ≤ 140737488355328) (hl' : rows.length ≤ 140737488355328) : RowsIn H.length H'.length H' (lv 1 oid 0 rows.length) (rows.map (·.2)) :=
  ⟨oid, rows, rfl, h.ol.at, h.rows1, fun r hr _ => ⟨(h.ids r hr).2.2, (h.ids r hr).1, (h.ids r hr).2.1⟩, rfl, fun _ => ⟨h.ge, h.ol.lt⟩, hl, hl'⟩

end Go.Proofs.Ytdfeoccjllljiaa
end

section
/- Lists of lists that are built by literals; heaps of which less is said. No statement of the seat is proved here; it holds for every program. -/
set_option linter.all false
namespace Go.Ab

def upH (H H' : Heap) : Prop := ∀ B w0 ρ w, R B w0 ρ H w → R B w0 ρ H' w
theorem upH.refl (H : Heap) : upH H H := fun _ _ _ _ h => h
theorem upH.cells {H : Heap} {id : Nat} {cs cs' : List Value} {li ow : Bool} (hb : H[id]? = some ⟨cs, li, ow⟩) (hl : cs'.length = cs.length)
    (hu : ∀ (k : Nat) (v v' : Value), cs[k]? = some v → cs'[k]? = some v' → Up H v v') : upH H (H.set id ⟨cs', li, ow⟩) := by
  intro B w0 ρ w hR
  have hlt := (List.getElem?_eq_some_iff.1 hb).1
  have key : ∀ (i : Nat) (b : Blk), (H.set id ⟨cs', li, ow⟩)[i]? = some b → (i = id ∧ b = ⟨cs', li, ow⟩) ∨ (i ≠ id ∧ H[i]? = some b) := by
    intro i b h
    by_cases e : i = id
    · subst e; rw [List.getElem?_set_self hlt] at h; exact .inl ⟨rfl, (Option.some.inj h).symm⟩
    · rw [List.getElem?_set_ne (fun h => e h.symm)] at h; exact .inr ⟨e, h⟩
  -- the block that stood there
  have old : ∀ (i : Nat) (b : Blk), (H.set id ⟨cs', li, ow⟩)[i]? = some b → ∃ b', H[i]? = some b' ∧ b'.live = b.live ∧ b'.own = b.own := by
    intro i b h
    rcases key i b h with ⟨rfl, rfl⟩ | ⟨_, h⟩
    · exact ⟨_, hb, rfl, rfl⟩
    · exact ⟨b, h, rfl, rfl⟩
  refine ⟨by rw [List.length_set]; exact hR.len, hR.below, hR.base, ?_, ?_, ?_⟩
  · intro i b l h hl' hlive
    rcases key i b h with ⟨rfl, rfl⟩ | ⟨_, h⟩
    · obtain ⟨arr, elem, fz, h1, h2, h3, h4⟩ := hR.blk i _ l hb hl' hlive
      refine ⟨arr, elem, fz, h1, h2, ?_, h4⟩
      intro k v hk
      have hk' : k < cs.length := by have := (List.getElem?_eq_some_iff.1 hk).1; simp only at this; omega
      obtain ⟨h5, cv, h6, h7⟩ := h3 k cs[k] (List.getElem?_eq_getElem hk')
      have h8 := hu k _ v (List.getElem?_eq_getElem hk') hk _ _ _ _ _ hR h7
      exact ⟨by rw [h8.oneCell, ← h7.oneCell]; exact h5, cv, h6, h8⟩
    · exact hR.blk i b l h hl' hlive
  · intro i j b c l m hij h1 h2 h3 h4 h5 h6 h7
    obtain ⟨b', e1, e2, e3⟩ := old i b h1
    obtain ⟨c', f1, f2, f3⟩ := old j c h2
    exact hR.apart i j b' c' l m hij e1 f1 h3 h4 (by rw [e2]; exact h5) (by rw [f2]; exact h6) (by rw [e3]; exact h7)
  · intro i b l h1 h2 h3 h4
    obtain ⟨b', e1, e2, e3⟩ := old i b h1
    exact hR.ghost i b' l e1 h2 (by rw [e2]; exact h3) (by rw [e3]; exact h4)

def rowX (r : Nat × List Int) : Value := .slice (some ⟨r.1, 0, none⟩) r.2.length r.2.length

/-- A list of lists while it is built. -/
structure BuildX (H0 H : Heap) (oid : Nat) (rows : List (Nat × List Int)) : Prop where
  pre : H0 <+: H
  ol : OL 1 H oid (rows.map rowX) rows.length
  ge : H0.length ≤ oid
  rows1 : Rows1 H rows
  ids : ∀ r ∈ rows, H0.length ≤ r.1 ∧ r.1 < H.length ∧ r.1 ≠ oid

theorem BuildX.start (H : Heap) : BuildX H (H ++ [⟨[], false, false⟩]) H.length [] :=
  ⟨List.prefix_append _ _, OL.ghost 1 H, Nat.le_refl _, ⟨by simp, by simp⟩, by simp⟩

theorem BuildX.of_ol {H0 H : Heap} {oid : Nat} (hp : H0 <+: H) (h : OL 1 H oid [] 0) (hg : H0.length ≤ oid) : BuildX H0 H oid [] :=
  ⟨hp, h, hg, ⟨by simp, by simp⟩, by simp⟩

theorem BuildX.push {H0 H1 H2 : Heap} {oid rid : Nat} {rows : List (Nat × List Int)} {xs : List Int} (h : BuildX H0 H1 oid rows) (hp : H1 <+: H2) (hr : OL 1 H2 rid (ints xs) xs.length) (hrid : H1.length ≤ rid) :
    cellsAt (H2 ++ [⟨[(.slice (some ⟨rid, 0, none⟩) xs.length xs.length)], true, true⟩]) H2.length 0 1 = some [(.slice (some ⟨rid, 0, none⟩) xs.length xs.length)] ∧
    ∃ H4, appendH (H2 ++ [⟨[(.slice (some ⟨rid, 0, none⟩) xs.length xs.length)], true, true⟩]) 1 (lv 1 oid 0 rows.length) 1 [(.slice (some ⟨rid, 0, none⟩) xs.length xs.length)] = some (lv 1 (H2.length + 1) 0 (rows.length + 1), H4) ∧ BuildX H0 H4 (H2.length + 1) (rows ++ [(rid, xs)]) := by
  have hol' : OL 1 H2 oid (rows.map rowX) rows.length := h.ol.keep (S := fun _ => False) (Same.of_prefix hp) (fun h => h)
  obtain ⟨hsrc, H4, hap, hol4, hsame4, hlen4⟩ := hol'.push (xs := [(.slice (some ⟨rid, 0, none⟩) xs.length xs.length)]) (by omega) rfl
  have hoid := h.ol.lt
  have hle := hp.length_le
  have hle0 := h.pre.length_le
  have hlt := hr.lt
  refine ⟨hsrc, H4, hap, ⟨(show Same (fun j => j = oid) H0 H4 from (Same.of_prefix (h.pre.trans hp)).trans hsame4).prefix (by have := h.ge; omega), by simpa [rowX] using hol4, by omega, ⟨?_, ?_⟩, ?_⟩⟩
  · intro r hm
    rcases List.mem_append.1 hm with hm | hm
    · refine (h.rows1.1 r hm).imp (fun h => h) fun hb => ?_
      exact hsame4.get (Same.get (S := fun _ => False) (Same.of_prefix hp) hb (fun h => h)) (h.ids r hm).2.2
    · simp at hm; subst hm
      rcases hr.2 with ⟨h0, _⟩ | h0
      · exact .inl (List.eq_nil_of_length_eq_zero h0)
      · right
        exact hsame4.get h0 (by simp only; omega)
  · intro a b r t ha hb hab hrn htn
    have key : ∀ (a : Nat) (r : Nat × List Int), (rows ++ [(rid, xs)])[a]? = some r → (a < rows.length ∧ rows[a]? = some r) ∨ (a = rows.length ∧ r = (rid, xs)) := by
      intro a r ha
      rcases Nat.lt_or_ge a rows.length with h | h
      · rw [List.getElem?_append_left h] at ha; exact .inl ⟨h, ha⟩
      · rw [List.getElem?_append_right h] at ha
        cases hk : a - rows.length with
        | zero => rw [hk] at ha; simp at ha; exact .inr ⟨by omega, ha.symm⟩
        | succ k => rw [hk] at ha; simp at ha
    rcases key a r ha with ⟨h1, h1'⟩ | ⟨h1, rfl⟩
    · rcases key b t hb with ⟨h2, h2'⟩ | ⟨h2, rfl⟩
      · exact h.rows1.2 a b r t h1' h2' hab hrn htn
      · have := (h.ids r (List.mem_of_getElem? h1')).2.1; simp only; omega
    · rcases key b t hb with ⟨h2, h2'⟩ | ⟨h2, rfl⟩
      · have := (h.ids t (List.mem_of_getElem? h2')).2.1; simp only; omega
      · omega
  · intro r hm
    rcases List.mem_append.1 hm with hm | hm
    · have := h.ids r hm
      omega
    · simp at hm; subst hm; simp only; omega


theorem BuildX.keep {H0 H H' : Heap} {oid : Nat} {rows : List (Nat × List Int)} (h : BuildX H0 H oid rows) (hp : H <+: H') : BuildX H0 H' oid rows :=
  ⟨h.pre.trans hp, h.ol.keep (S := fun _ => False) (Same.of_prefix hp) (fun h => h), h.ge, ⟨fun r hr => (h.rows1.1 r hr).imp (fun h => h) fun hb => Same.get (S := fun _ => False) (Same.of_prefix hp) hb (fun h => h), h.rows1.2⟩,
    fun r hr => ⟨(h.ids r hr).1, Nat.lt_of_lt_of_le (h.ids r hr).2.1 hp.length_le, (h.ids r hr).2.2⟩⟩
/-- The list built, its rows as slices of unknown room. -/
theorem BuildX.fin {H0 H : Heap} {oid : Nat} {rows : List (Nat × List Int)} (h : BuildX H0 H oid rows) : ∃ H2, upH H H2 ∧ Build H0 H2 oid rows := by
  obtain ⟨hl, h0 | hb⟩ := h.ol
  · have : rows = [] := List.eq_nil_of_length_eq_zero h0.1
    subst this
    exact ⟨H, upH.refl H, Build.of_ol h.pre ⟨rfl, .inl ⟨rfl, h0.2⟩⟩ h.ge⟩
  · have hlt := (List.getElem?_eq_some_iff.1 hb).1
    refine ⟨H.set oid ⟨rows.map rowVal, true, true⟩, upH.cells hb (by simp) ?_, ?_, ⟨by simp, .inr (List.getElem?_set_self hlt)⟩, h.ge, ⟨?_, h.rows1.2⟩, ?_⟩
    · intro k v v' hv hv'
      simp only [List.getElem?_map, Option.map_eq_some_iff] at hv hv'
      obtain ⟨r, hr, rfl⟩ := hv
      obtain ⟨r', hr', rfl⟩ := hv'
      rw [hr] at hr'; cases hr'
      refine Up.ex (by omega) ?_
      rcases h.rows1.1 r (List.mem_of_getElem? hr) with e | e
      · left; rw [e]; rfl
      · right
        rw [cellsAt_of e rfl (by simp [ints])]; rfl
    · have hs : Same (fun j => j = oid) H (H.set oid ⟨rows.map rowVal, true, true⟩) := ⟨by simp, fun j hj hS => List.getElem?_set_ne (fun e => hS e.symm)⟩
      exact ((Same.of_prefix h.pre).trans hs).prefix (by intro j hj e; have := h.ge; omega)
    · intro r hr
      refine (h.rows1.1 r hr).imp (fun h => h) fun hb' => ?_
      rw [List.getElem?_set_ne (fun e => (h.ids r hr).2.2 e.symm)]; exact hb'
    · intro r hr
      have := h.ids r hr
      rw [List.length_set]; exact this

end Go.Ab
end

section
/- Two involutions without fixed points: going round by them in turn. Plain Lean, no program in sight. -/
set_option linter.all false
namespace Go.Ab

theorem nodup_len : ∀ (v : Nat) (l : List Nat), l.Nodup → (∀ x ∈ l, x < v) → l.length ≤ v
  | 0, l, _, h => by
    cases l with
    | nil => simp
    | cons x l => exact absurd (h x List.mem_cons_self) (by omega)
  | v + 1, l, hn, h => by
    by_cases hv : v ∈ l
    · have h1 := nodup_len v (l.erase v) (hn.erase v) fun x hx => by
        have := (List.Nodup.mem_erase_iff hn).1 hx
        have := h x this.2
        omega
      rw [List.length_erase_of_mem hv] at h1
      omega
    · have := nodup_len v l hn fun x hx => by
        have h2 := h x hx
        have : x ≠ v := fun e => hv (e ▸ hx)
        omega
      omega

/-- By f and by g in turn. -/
def alt (f g : Nat → Nat) (p : Nat) : Nat → Nat
  | 0 => p
  | k + 1 => if k % 2 = 0 then f (alt f g p k) else g (alt f g p k)

structure Turn (f g : Nat → Nat) (S : Nat → Prop) : Prop where
  fS : ∀ x, S x → S (f x)
  gS : ∀ x, S x → S (g x)
  ff : ∀ x, S x → f (f x) = x
  gg : ∀ x, S x → g (g x) = x
  fne : ∀ x, S x → f x ≠ x
  gne : ∀ x, S x → g x ≠ x

theorem alt_S {f g : Nat → Nat} {S : Nat → Prop} (h : Turn f g S) {p : Nat} (hp : S p) : ∀ k, S (alt f g p k)
  | 0 => hp
  | k + 1 => by
    simp only [alt]
    split
    · exact h.fS _ (alt_S h hp k)
    · exact h.gS _ (alt_S h hp k)
/-- As long as all are different, what comes next is new, or it is the first one, at an even place. -/
theorem alt_next {f g : Nat → Nat} {S : Nat → Prop} (h : Turn f g S) {p n : Nat} (hp : S p) (hd : ∀ i j, i < j → j ≤ n → alt f g p i ≠ alt f g p j) :
    (∀ j, j ≤ n → alt f g p j ≠ alt f g p (n + 1)) ∨ (alt f g p (n + 1) = p ∧ n % 2 = 1) := by
  by_cases hx : ∃ j, j ≤ n ∧ alt f g p j = alt f g p (n + 1)
  · obtain ⟨j, hj, e⟩ := hx
    right
    have inj : ∀ i k, i ≤ n → k ≤ n → alt f g p i = alt f g p k → i = k := by
      intro i k hi hk e
      rcases Nat.lt_trichotomy i k with h1 | h1 | h1
      · exact absurd e (hd i k h1 hk)
      · exact h1
      · exact absurd e.symm (hd k i h1 hi)
    have hS := alt_S h hp
    by_cases hn : n % 2 = 0
    · -- by f
      exfalso
      have e1 : alt f g p (n + 1) = f (alt f g p n) := by simp [alt, hn]
      rw [e1] at e
      by_cases hj2 : j % 2 = 0
      · -- j even: f of it is the next one
        have e2 : alt f g p (j + 1) = f (alt f g p j) := by simp [alt, hj2]
        have e3 : f (alt f g p j) = alt f g p n := by rw [e, h.ff _ (hS n)]
        by_cases hjn : j = n
        · subst hjn; exact h.fne _ (hS j) (by rw [e3])
        · rw [← e2] at e3
          have := inj (j + 1) n (by omega) (by omega) e3
          omega
      · obtain ⟨i, rfl⟩ : ∃ i, j = i + 1 := ⟨j - 1, by omega⟩
        have e2 : alt f g p (i + 1) = f (alt f g p i) := by simp only [alt]; rw [if_pos (by omega)]
        rw [e2] at e
        have := congrArg f e
        rw [h.ff _ (hS i), h.ff _ (hS n)] at this
        have := inj i n (by omega) (by omega) this
        omega
    · have e1 : alt f g p (n + 1) = g (alt f g p n) := by simp [alt, hn]
      rw [e1] at e ⊢
      by_cases hj0 : j = 0
      · subst hj0; exact ⟨e.symm, by omega⟩
      · exfalso
        by_cases hj2 : j % 2 = 1
        · have e2 : alt f g p (j + 1) = g (alt f g p j) := by simp only [alt]; rw [if_neg (by omega)]
          have e3 : g (alt f g p j) = alt f g p n := by rw [e, h.gg _ (hS n)]
          by_cases hjn : j = n
          · subst hjn; exact h.gne _ (hS j) (by rw [e3])
          · rw [← e2] at e3
            have := inj (j + 1) n (by omega) (by omega) e3
            omega
        · obtain ⟨i, rfl⟩ : ∃ i, j = i + 1 := ⟨j - 1, by omega⟩
          have e2 : alt f g p (i + 1) = g (alt f g p i) := by simp only [alt]; rw [if_neg (by omega)]
          rw [e2] at e
          have := congrArg g e
          rw [h.gg _ (hS i), h.gg _ (hS n)] at this
          have := inj i n (by omega) (by omega) this
          omega
  · left
    intro j hj e
    exact hx ⟨j, hj, e⟩
/-- The way comes back to its first point, at an even place, and all ahead are different. -/
theorem alt_back {f g : Nat → Nat} {S : Nat → Prop} (h : Turn f g S) {p v : Nat} (hp : S p) (hv : ∀ x, S x → x < v) :
    ∃ n, 2 ≤ n ∧ n % 2 = 0 ∧ n ≤ v ∧ alt f g p n = p ∧ ∀ i j, i < j → j < n → alt f g p i ≠ alt f g p j := by
  have len : ∀ n, (∀ i j, i < j → j < n → alt f g p i ≠ alt f g p j) → n ≤ v := by
    intro n hd
    have := nodup_len v ((List.range n).map (alt f g p)) ?_ ?_
    · simpa using this
    · refine List.pairwise_map.2 ?_
      rw [List.pairwise_iff_getElem]
      intro i j hi hj hij
      simp only [List.getElem_range]
      exact hd i j hij (by simpa using hj)
    · intro x hx
      obtain ⟨k, _, rfl⟩ := List.mem_map.1 hx
      exact hv _ (alt_S h hp k)
  -- going on until it comes back
  have go : ∀ m n, n + m = v → (∀ i j, i < j → j < n + 1 → alt f g p i ≠ alt f g p j) → ∃ n, 2 ≤ n ∧ n % 2 = 0 ∧ n ≤ v ∧ alt f g p n = p ∧ ∀ i j, i < j → j < n → alt f g p i ≠ alt f g p j := by
    intro m
    induction m with
    | zero => intro n hn hd; have := len (n + 1) hd; omega
    | succ m ih =>
      intro n hn hd
      rcases alt_next h hp (n := n) (fun i j hij hj => hd i j hij (by omega)) with h1 | ⟨h1, h2⟩
      · refine ih (n + 1) (by omega) ?_
        intro i j hij hj
        by_cases e : j = n + 1
        · subst e; exact h1 i (by omega)
        · exact hd i j hij (by omega)
      · exact ⟨n + 1, by omega, by omega, by have := len (n + 1) hd; omega, h1, hd⟩
  have hv0 := len 1 (by intro i j h1 h2; omega)
  exact go v 0 (by omega) (by intro i j h1 h2; omega)

end Go.Ab
end

section
/- All ways round, one after the other. Plain Lean. -/
set_option linter.all false
namespace Go.Ab

def IsCyc (f g : Nat → Nat) (p n : Nat) : Prop := 2 ≤ n ∧ n % 2 = 0 ∧ alt f g p n = p ∧ ∀ i j, i < j → j < n → alt f g p i ≠ alt f g p j
theorem IsCyc.uniq {f g : Nat → Nat} {p n m : Nat} (h : IsCyc f g p n) (h' : IsCyc f g p m) : n = m := by
  rcases Nat.lt_trichotomy n m with e | e | e
  · exact absurd (show alt f g p 0 = alt f g p n by rw [h.2.2.1]; rfl) (h'.2.2.2 0 n (by have := h.1; omega) e)
  · exact e
  · exact absurd (show alt f g p 0 = alt f g p m by rw [h'.2.2.1]; rfl) (h.2.2.2 0 m (by have := h'.1; omega) e)
open Classical in
noncomputable def cycN (f g : Nat → Nat) (p : Nat) : Nat := if h : ∃ n, IsCyc f g p n then Classical.choose h else 0
theorem cycN_ok {f g : Nat → Nat} {S : Nat → Prop} (h : Turn f g S) {p v : Nat} (hp : S p) (hv : ∀ x, S x → x < v) : IsCyc f g p (cycN f g p) ∧ cycN f g p ≤ v := by
  obtain ⟨n, h1, h2, h3, h4, h5⟩ := alt_back h hp hv
  have hex : ∃ n, IsCyc f g p n := ⟨n, h1, h2, h4, h5⟩
  have e : IsCyc f g p (cycN f g p) := by unfold cycN; rw [dif_pos hex]; exact Classical.choose_spec hex
  exact ⟨e, by rw [e.uniq ⟨h1, h2, h4, h5⟩]; exact h3⟩
noncomputable def cycL (f g : Nat → Nat) (p : Nat) : List Nat := (List.range (cycN f g p)).map (alt f g p)
theorem mem_cycL {f g : Nat → Nat} {p x : Nat} : x ∈ cycL f g p ↔ ∃ k, k < cycN f g p ∧ alt f g p k = x := by simp [cycL]
/-- A way round is closed. -/
theorem cycL_closed {f g : Nat → Nat} {S : Nat → Prop} (h : Turn f g S) {p v : Nat} (hp : S p) (hv : ∀ x, S x → x < v) {x : Nat} (hx : x ∈ cycL f g p) : f x ∈ cycL f g p ∧ g x ∈ cycL f g p := by
  obtain ⟨⟨n2, ne, nb, _⟩, _⟩ := cycN_ok h hp hv
  rw [mem_cycL] at hx ⊢
  rw [mem_cycL]
  obtain ⟨k, hk, rfl⟩ := hx
  have hS := alt_S h hp
  generalize cycN f g p = n at *
  by_cases hk2 : k % 2 = 0
  · refine ⟨⟨k + 1, by omega, by simp [alt, hk2]⟩, ?_⟩
    by_cases h0 : k = 0
    · subst h0
      obtain ⟨m, rfl⟩ : ∃ m, n = m + 1 := ⟨n - 1, by omega⟩
      have e : alt f g p (m + 1) = g (alt f g p m) := by simp only [alt]; rw [if_neg (by omega)]
      rw [e] at nb
      refine ⟨m, by omega, ?_⟩
      have := h.gg _ (hS m)
      rw [nb] at this
      exact this.symm
    · obtain ⟨m, rfl⟩ : ∃ m, k = m + 1 := ⟨k - 1, by omega⟩
      have e : alt f g p (m + 1) = g (alt f g p m) := by simp only [alt]; rw [if_neg (by omega)]
      exact ⟨m, by omega, by rw [e, h.gg _ (hS m)]⟩
  · obtain ⟨m, rfl⟩ : ∃ m, k = m + 1 := ⟨k - 1, by omega⟩
    have e : alt f g p (m + 1) = f (alt f g p m) := by simp only [alt]; rw [if_pos (by omega)]
    refine ⟨⟨m, by omega, by rw [e, h.ff _ (hS m)]⟩, ?_⟩
    have e2 : alt f g p (m + 1 + 1) = g (alt f g p (m + 1)) := by
      rw [show alt f g p (m + 1 + 1) = if (m + 1) % 2 = 0 then f (alt f g p (m + 1)) else g (alt f g p (m + 1)) from rfl, if_neg (by omega)]
    by_cases hn : m + 1 + 1 < n
    · exact ⟨m + 1 + 1, hn, e2⟩
    · have : m + 1 + 1 = n := by omega
      rw [this, nb] at e2
      exact ⟨0, by omega, e2⟩

/-- What was met already is closed: a point that was not met leads to none that was. -/
def Shut (f g : Nat → Nat) (S : Nat → Prop) (met : List Nat) : Prop := ∀ x, S x → x ∉ met → f x ∉ met ∧ g x ∉ met
theorem Shut.alt {f g : Nat → Nat} {S : Nat → Prop} {met : List Nat} (hm : Shut f g S met) (h : Turn f g S) {p : Nat} (hp : S p) (hpm : p ∉ met) : ∀ k, Go.Ab.alt f g p k ∉ met
  | 0 => hpm
  | k + 1 => by
    have ih := hm _ (alt_S h hp k) (hm.alt h hp hpm k)
    simp only [Go.Ab.alt]
    split
    · exact ih.1
    · exact ih.2
theorem Shut.next {f g : Nat → Nat} {S : Nat → Prop} {met : List Nat} (hm : Shut f g S met) (h : Turn f g S) {p v : Nat} (hp : S p) (hv : ∀ x, S x → x < v) : Shut f g S (met ++ cycL f g p) := by
  intro x hx hn
  simp only [List.mem_append, not_or] at hn ⊢
  have h1 := hm x hx hn.1
  refine ⟨⟨h1.1, fun hc => hn.2 ?_⟩, h1.2, fun hc => hn.2 ?_⟩
  · have := (cycL_closed h hp hv hc).1
    rwa [h.ff _ hx] at this
  · have := (cycL_closed h hp hv hc).2
    rwa [h.gg _ hx] at this

end Go.Ab
end

section
/- CyclesOf: membership, and lists of lists kept while other blocks change. -/
set_option linter.all false
set_option maxRecDepth 20000
set_option maxHeartbeats 4000000
namespace Go.Proofs.Ytdfeoccjllljiaa
open Go.Ab

theorem _root_.Go.Ab.Build.keepS {H0 H H' : Heap} {oid : Nat} {rows : List (Nat × List Int)} {S : Nat → Prop} (h : Build H0 H oid rows) (hs : Same S H H') (h0 : ∀ j, S j → H0.length ≤ j) (ho : ¬ S oid) (hr : ∀ r ∈ rows, ¬ S r.1) : Build H0 H' oid rows :=
  ⟨((Same.of_prefix h.pre).trans hs).prefix (by intro j hj hS; have := h0 j hS; omega), h.ol.keep hs ho, h.ge,
    ⟨fun r hm => (h.rows1.1 r hm).imp (fun h => h) fun hb => hs.get hb (hr r hm), h.rows1.2⟩,
    fun r hm => ⟨(h.ids r hm).1, Nat.lt_of_lt_of_le (h.ids r hm).2.1 hs.1, (h.ids r hm).2.2⟩⟩

end Go.Proofs.Ytdfeoccjllljiaa
end

section
/- Arguments that are lists of blocks or lists of lists of numbers: their shapes, the guards on their size, their copies. -/
set_option linter.all false
set_option maxRecDepth 20000
set_option maxHeartbeats 4000000
namespace Go.Proofs.Ytdfeoccjllljiaa
open Go.Ab

theorem szIntss0_ok {H : Heap} {u : Value} {xss : List (List Int)} {k : Int} (hu : IntssAt0 H u xss) (hk0 : 0 ≤ k) (hk : k ≤ 1048576) (Post : Value → Heap → Prop)
    (h : Post (.int .i64 (if k < (xss.length + xss.flatten.length : Nat) then -1 else k - (xss.length + xss.flatten.length : Nat))) H) :
    ACalls Try.prog 35 [u, .int .i64 k] H Post := by
  obtain ⟨i, o, vs, rfl, hvl, h1, h2, h3⟩ := hu
  refine acalls_vc (rs := [.tmp 4]) Try.func35 rfl rfl Try.ntmps35 rfl rfl ?_
  have hw : IntKind.i64.wrap (k - xss.length) = k - xss.length := i64w (by omega) (by omega)
  by_cases hlt : k < xss.length
  · rw [if_pos (by omega)] at h
    have hlt' : decide (k - (xss.length : Int) < 0) = true := decide_eq_true (by omega)
    simp (maxSteps := 1000000) [go_sem, hw, hlt', hlt]
    exact h
  have hlt' : decide (k - (xss.length : Int) < 0) = false := decide_eq_false (by omega)
  simp (maxSteps := 1000000) [go_sem, hw, hlt', hlt]
  refine AWp.loopVc (St := Nat) (fun s => [(0, lv 1 i o xss.length), (1, .int .i64 (k - xss.length - (off xss s : Nat))), (5, .int .i64 s)])
    (fun s H' => s ≤ xss.length ∧ H' = H ∧ (off xss s : Int) ≤ k - xss.length) (fun s => xss.length - s) 0 ?_ ?_ ?_
  · simp [upF, Fr.get, Up.refl, off_zero]
  · exact ⟨by omega, rfl, by rw [off_zero]; omega⟩
  · rintro K s H' ⟨hs, rfl, ho⟩ hK
    by_cases hls : s < xss.length
    · have hx := List.getElem?_eq_getElem hls
      have hv := List.getElem?_eq_getElem (show s < vs.length by omega)
      have hz := h2 s _ _ hv hx
      obtain ⟨xs, hxs⟩ : ∃ xs, xss[s] = xs := ⟨_, rfl⟩
      rw [hxs] at hx hz
      have hos := off_succ hx
      have hol := off_le' hx
      have c1 := h1.cell hv
      obtain ⟨v, hvv⟩ : ∃ v, vs[s]'(by omega) = v := ⟨_, rfl⟩
      rw [hvv] at c1 hz
      have hzo := hz
      obtain ⟨j, q, rfl, _, _⟩ := hzo
      have hw_s : IntKind.i64.wrap ((s : Int) + 1) = (s : Int) + 1 := i64w (by omega) (by omega)
      simp (maxSteps := 1000000) [go_sem, hls, c1]
      refine szInt64S0_ok hz (by omega) (by omega) _ ?_
      by_cases hb : k - (xss.length : Int) - (off xss s : Nat) < xs.length
      · rw [if_pos hb]
        rw [if_pos (by omega)] at h
        simp (maxSteps := 1000000) [go_sem]
        exact h
      · rw [if_neg hb]
        have hb' : decide (k - (xss.length : Int) - (off xss s : Nat) - (xs.length : Int) < 0) = false := decide_eq_false (by omega)
        simp (maxSteps := 1000000) [go_sem, hb', hw_s, hb]
        refine hK (s + 1) _ _ (by omega) ?_ ⟨by omega, rfl, by omega⟩
        have e : k - (xss.length : Int) - (off xss (s + 1) : Nat) = k - (xss.length : Int) - (off xss s : Nat) - (xs.length : Int) := by omega
        simp [upF, Fr.get, Up.refl, e]
    · have : s = xss.length := by omega
      subst this
      rw [off_all] at ho ⊢
      rw [if_neg (by omega)] at h
      obtain ⟨T, hT⟩ : ∃ T, xss.flatten.length = T := ⟨_, rfl⟩
      rw [hT] at h ⊢
      simp (maxSteps := 1000000) [go_sem]
      have e : k - ((xss.length + T : Nat) : Int) = k - (xss.length : Int) - (T : Nat) := by omega
      rw [e] at h
      exact h

theorem intss_at0 {H : Heap} {v : Value} {xss : List (List Int)} (h : IntssAt0 H v xss) (hl : xss.length + xss.flatten.length ≤ 1048576) : IntssAt H v xss :=
  h.at (by omega) fun xs hx => by
    obtain ⟨s, hs⟩ := List.mem_iff_getElem?.1 hx
    have := off_le' hs; omega

theorem toIntss_ok {H : Heap} {u : Value} {xss : List (List Int)} (hu : IntssAt H u xss) (hl : xss.length + xss.flatten.length ≤ 1048576) (Post : Value → Heap → Prop) (h : ∀ H' v, H <+: H' → RowsIn H.length H'.length H' v xss → Post v H') :
    ACalls Try.prog 37 [u] H Post := by
  obtain ⟨i, o, vs, rfl, hvl, h1, h2, h3⟩ := hu
  refine ACalls.res ?_
  refine acalls_vc (rs := [.tmp 2]) Try.func37 rfl rfl Try.ntmps37 rfl rfl ?_
  have hm : ∀ n, (madeCells #[Value.slice none 0 0] n).toList = List.replicate n (.slice none 0 0) := by
    intro n
    rw [made_same (v := .slice none 0 0) (by simp) (by intro i hi; simp at hi; subst hi; rfl)]
  simp (maxSteps := 1000000) [go_sem, hm]
  refine andK_intro (by omega) ?_
  have hlast : (H ++ [(⟨List.replicate xss.length (.slice none 0 0), true, true⟩ : Blk)])[H.length]? = some ⟨List.replicate xss.length (.slice none 0 0), true, true⟩ := by simp
  have hpl : H <+: H ++ [⟨List.replicate xss.length (.slice none 0 0), true, true⟩] := List.prefix_append _ _
  have hlen0 : (H ++ [(⟨List.replicate xss.length (.slice none 0 0), true, true⟩ : Blk)]).length = H.length + 1 := by simp
  generalize H ++ [(⟨List.replicate xss.length (.slice none 0 0), true, true⟩ : Blk)] = H0 at hlast hpl hlen0 ⊢
  refine AWp.loopVc (St := Nat × List (Nat × List Int)) (fun s => [(0, lv 1 i o xss.length), (3, .slice (some ⟨H.length, 0, none⟩) xss.length xss.length), (4, .int .i64 s.1)])
    (fun s H' => s.1 ≤ xss.length ∧ H <+: H' ∧ s.2.map (·.2) = xss.take s.1 ∧ H'[H.length]? = some ⟨s.2.map rowVal ++ List.replicate (xss.length - s.1) (.slice none 0 0), true, true⟩ ∧ Rows1 H' s.2 ∧ ∀ r ∈ s.2, r.2 ≠ [] → H.length < r.1 ∧ r.1 < H'.length)
    (fun s => xss.length - s.1) (0, []) ?_ ?_ ?_
  · simp [upF, Fr.get, Up.refl]
  · exact ⟨by simp, hpl, by simp, by simpa using hlast, ⟨by simp, by simp⟩, by simp⟩
  · rintro K ⟨s, rows⟩ H' ⟨hs, hp, hrm, hc, hr1, hri⟩ hK
    simp only at hs hp hrm hc hr1 hri
    have hrl : rows.length = s := by
      have := congrArg List.length hrm
      simp only [List.length_map, List.length_take] at this; omega
    by_cases hls : s < xss.length
    · have hx := List.getElem?_eq_getElem hls
      have hv := List.getElem?_eq_getElem (show s < vs.length by omega)
      have hz := h2 s _ _ hv hx
      obtain ⟨xs, hxs⟩ : ∃ xs, xss[s] = xs := ⟨_, rfl⟩
      rw [hxs] at hx hz
      have hol := off_le' hx
      have c1 := (h1.pre hp).cell hv
      obtain ⟨v, hvv⟩ : ∃ v, vs[s]'(by omega) = v := ⟨_, rfl⟩
      rw [hvv] at c1 hz
      have hzo := hz
      obtain ⟨j, q, rfl, _, _⟩ := hzo
      have hw_s : IntKind.i64.wrap ((s : Int) + 1) = (s : Int) + 1 := i64w (by omega) (by omega)
      simp (maxSteps := 1000000) [go_sem, hls, c1]
      refine toInt64S_ok (hz.pre hp) _ (by omega) ?_
      rintro H2 w rid hp2 hrid ⟨rfl, hown, hlx⟩
      have hlt := (List.getElem?_eq_some_iff.1 hc).1
      have hc2 := Same.get (S := fun _ => False) (Same.of_prefix hp2) hc (fun h => h)
      have hcl : s < (rows.map rowVal ++ List.replicate (xss.length - s) (Value.slice none 0 0)).length := by simp; omega
      have hset : (rows.map rowVal ++ List.replicate (xss.length - s) (Value.slice none 0 0)).set s (lv 1 rid 0 xs.length) = (rows ++ [(rid, xs)]).map rowVal ++ List.replicate (xss.length - (s + 1)) (.slice none 0 0) := by
        obtain ⟨m, hm⟩ : ∃ m, xss.length - s = m + 1 := ⟨xss.length - s - 1, by omega⟩
        have hm2 : xss.length - (s + 1) = m := by omega
        rw [hm, hm2, List.set_append, if_neg (by simp; omega), List.length_map, hrl, Nat.sub_self, List.replicate_succ, List.set_cons_zero, List.map_append, List.append_assoc]
        rfl
      have s2 : storeAt H2 H.length s [lv 1 rid 0 xs.length] = some (H2.set H.length ⟨(rows ++ [(rid, xs)]).map rowVal ++ List.replicate (xss.length - (s + 1)) (.slice none 0 0), true, true⟩) := by
        rw [storeAt_of hc2 rfl rfl (by simp only [List.length_singleton]; omega) (by simp [Value.oneCell']), over_one hcl, hset]
      have hS : Same (fun j => j = H.length) H2 (H2.set H.length ⟨(rows ++ [(rid, xs)]).map rowVal ++ List.replicate (xss.length - (s + 1)) (.slice none 0 0), true, true⟩) := Same.set
      have fin := fun fr' hf => hK (s + 1, rows ++ [(rid, xs)]) fr' (H2.set H.length ⟨(rows ++ [(rid, xs)]).map rowVal ++ List.replicate (xss.length - (s + 1)) (.slice none 0 0), true, true⟩) (by simp only; omega) hf ⟨by simp only; omega, ((Same.of_prefix (hp.trans hp2)).trans hS).prefix (by omega), by
          simp only [List.map_append, List.map_cons, List.map_nil, hrm]
          rw [List.take_succ_eq_append_getElem hls, hxs], by rw [List.getElem?_set_self (List.getElem?_eq_some_iff.1 hc2).1], ?_, ?_⟩
      · generalize H2.set H.length ⟨(rows ++ [(rid, xs)]).map rowVal ++ List.replicate (xss.length - (s + 1)) (.slice none 0 0), true, true⟩ = H3 at s2 fin
        simp (maxSteps := 1000000) [go_sem, hls, s2, hw_s]
        exact fin _ (by simp [upF, Fr.get, Up.refl])
      · have hle2 := hp2.length_le
        constructor
        · intro r hm
          rcases List.mem_append.1 hm with hm | hm
          · by_cases hne : r.2 = []
            · exact .inl hne
            · refine (hr1.1 r hm).imp (fun h => h) fun hb => ?_
              have := hri r hm hne
              exact hS.get (Same.get (S := fun _ => False) (Same.of_prefix hp2) hb (fun h => h)) (by omega)
          · simp at hm; subst hm
            refine hown.imp (fun h => h) fun hb => ?_
            exact hS.get hb (by simp only; omega)
        · intro a b r t ha hb hab hrn htn
          have key : ∀ (a : Nat) (r : Nat × List Int), (rows ++ [(rid, xs)])[a]? = some r → (a < rows.length ∧ rows[a]? = some r) ∨ (a = rows.length ∧ r = (rid, xs)) := by
            intro a r ha
            rcases Nat.lt_or_ge a rows.length with h | h
            · rw [List.getElem?_append_left h] at ha; exact .inl ⟨h, ha⟩
            · rw [List.getElem?_append_right h] at ha
              cases hk : a - rows.length with
              | zero => rw [hk] at ha; simp at ha; exact .inr ⟨by omega, ha.symm⟩
              | succ k => rw [hk] at ha; simp at ha
          rcases key a r ha with ⟨g1, g1'⟩ | ⟨g1, rfl⟩
          · rcases key b t hb with ⟨g2, g2'⟩ | ⟨g2, rfl⟩
            · exact hr1.2 a b r t g1' g2' hab hrn htn
            · have := (hri r (List.mem_of_getElem? g1') hrn).2; simp only; omega
          · rcases key b t hb with ⟨g2, g2'⟩ | ⟨g2, rfl⟩
            · have := (hri t (List.mem_of_getElem? g2') htn).2; simp only; omega
            · omega
      · intro r hm hne
        have hle2 := hp2.length_le
        rw [List.length_set]
        rcases List.mem_append.1 hm with hm | hm
        · have := hri r hm hne; omega
        · simp at hm; subst hm
          have hb := hown.resolve_left hne
          exact ⟨by simp only; omega, (List.getElem?_eq_some_iff.1 hb).1⟩
    · have : s = xss.length := by omega
      subst this
      rw [List.take_length] at hrm
      have hlt := (List.getElem?_eq_some_iff.1 hc).1
      simp only [Nat.sub_self, List.replicate_zero, List.append_nil] at hc
      have hrows : RowsIn H.length H'.length H' (lv 1 H.length 0 xss.length) xss := by
        refine ⟨H.length, rows, by rw [hrl], (Holds.at ⟨true, hc⟩), hr1, fun r hm hne => ⟨by have := hri r hm hne; omega, by have := hri r hm hne; exact ⟨by omega, this.2⟩⟩, hrm, fun _ => ⟨Nat.le_refl _, hlt⟩, by omega, by omega⟩
      simp (maxSteps := 1000000) [go_sem]
      refine ⟨lv 1 H.length 0 xss.length, Up.ex (by omega) ?_, h H' _ hp hrows⟩
      right
      have := Holds.cells (H := H') (i := H.length) (o := 0) (n := xss.length) ⟨true, hc⟩ (by simp [hrl])
      rw [Nat.mul_one, this]; rfl

end Go.Proofs.Ytdfeoccjllljiaa
end

section
/- LeadsTo: both sides. -/
set_option linter.all false
set_option maxRecDepth 20000
set_option maxHeartbeats 8000000
namespace Go.Proofs.Ytdfeoccjllljiaa
open Go.Ab Go.Sort

instance : DecidableEq Bk := fun x y => decidable_of_iff _ (Bk.eq3 x y).symm
end Go.Proofs.Ytdfeoccjllljiaa
end

section
/- Trades: the tested program's side of the pairs. -/
set_option linter.all false
set_option maxRecDepth 20000
set_option maxHeartbeats 4000000
namespace Go.Proofs.Ytdfeoccjllljiaa
open Go.Ab Go.Sort

theorem intsOf2 (a b : Int) : intsOf .i64 [.int .i64 a, .int .i64 b] = some [a, b] := by simp [intsOf]
attribute [go_sem] intsOf2

end Go.Proofs.Ytdfeoccjllljiaa
end

section
/- Trades as arguments and results: shapes, sizes, copies, equality, marks. -/
set_option linter.all false
set_option maxRecDepth 20000
set_option maxHeartbeats 8000000
namespace Go.Proofs.Ytdfeoccjllljiaa
open Go.Ab

def TradeAt0 (H : Heap) (u w : Value) (o i : List Bk) : Prop := BlocksAt0 H u o ∧ BlocksAt0 H w i
def TradeAt (H : Heap) (u w : Value) (o i : List Bk) : Prop := BlocksAt H u o ∧ BlocksAt H w i
theorem TradeAt0.pre {H H' : Heap} (hp : H <+: H') {u w : Value} {o i : List Bk} (h : TradeAt0 H u w o i) : TradeAt0 H' u w o i := ⟨h.1.pre hp, h.2.pre hp⟩
theorem TradeAt.pre {H H' : Heap} (hp : H <+: H') {u w : Value} {o i : List Bk} (h : TradeAt H u w o i) : TradeAt H' u w o i := ⟨h.1.pre hp, h.2.pre hp⟩
theorem TradeAt0.at {H : Heap} {u w : Value} {o i : List Bk} (h : TradeAt0 H u w o i) (hl : o.length ≤ 1048576 ∧ i.length ≤ 1048576) : TradeAt H u w o i := ⟨h.1.at (by omega), h.2.at (by omega)⟩
def TradeIn (a b : Nat) (H : Heap) (u w : Value) (o i : List Bk) : Prop := ∃ m, a ≤ m ∧ m ≤ b ∧ BlocksIn a m H u o ∧ BlocksIn m b H w i
theorem TradeIn.keep {a b : Nat} {H H' : Heap} {u w : Value} {o i : List Bk} (h : TradeIn a b H u w o i) {S : Nat → Prop} (hs : Same S H H') (hd : ∀ j, Span a b j → ¬ S j) : TradeIn a b H' u w o i := by
  obtain ⟨m, h1, h2, h3, h4⟩ := h
  exact ⟨m, h1, h2, h3.keep hs (fun j hj => hd j ⟨hj.1, by have := hj.2; omega⟩), h4.keep hs (fun j hj => hd j ⟨by have := hj.1; omega, hj.2⟩)⟩
theorem TradeIn.pre {a b : Nat} {H H' : Heap} (hp : H <+: H') {u w : Value} {o i : List Bk} (h : TradeIn a b H u w o i) : TradeIn a b H' u w o i := h.keep (S := fun _ => False) (Same.of_prefix hp) (fun _ _ h => h)
theorem TradeIn.read {a b : Nat} {H : Heap} {u w : Value} {o i : List Bk} (h : TradeIn a b H u w o i) : TradeAt H u w o i := by obtain ⟨m, _, _, h3, h4⟩ := h; exact ⟨h3.read, h4.read⟩
theorem TradeAt.one {H : Heap} {u w : Value} {o i : List Bk} (h : TradeAt H u w o i) : u.oneCell' = true ∧ w.oneCell' = true := ⟨h.1.one, h.2.one⟩
theorem TradeIn.nil {a b : Nat} (h : a ≤ b) (H : Heap) : TradeIn a b H (lv 3 0 0 0) (lv 3 0 0 0) [] [] := ⟨a, Nat.le_refl _, h, BlocksIn.nil _ _ _, BlocksIn.nil _ _ _⟩
def MarkTr (a b : Nat) (H : Heap) (u w : Value) (k : Int) (n m : Nat) : Prop := ∃ c, a ≤ c ∧ c ≤ b ∧ MarkIn 3 a c H u k n ∧ MarkIn 3 c b H w (k + (n * 3 : Nat)) m
theorem MarkTr.keep {a b : Nat} {H H' : Heap} {u w : Value} {k : Int} {n m : Nat} (h : MarkTr a b H u w k n m) {S : Nat → Prop} (hs : Same S H H') (hd : ∀ j, Span a b j → ¬ S j) : MarkTr a b H' u w k n m := by
  obtain ⟨c, h1, h2, h3, h4⟩ := h
  exact ⟨c, h1, h2, h3.keep hs (fun j hj => hd j ⟨hj.1, by have := hj.2; omega⟩), h4.keep hs (fun j hj => hd j ⟨by have := hj.1; omega, hj.2⟩)⟩
theorem MarkTr.pre {a b : Nat} {H H' : Heap} (hp : H <+: H') {u w : Value} {k : Int} {n m : Nat} (h : MarkTr a b H u w k n m) : MarkTr a b H' u w k n m := h.keep (S := fun _ => False) (Same.of_prefix hp) (fun _ _ h => h)

end Go.Proofs.Ytdfeoccjllljiaa
end

section
/- The blocks of a list that are not in another one: both sides (slices.DeleteFunc over blocks). -/
set_option linter.all false
set_option maxRecDepth 20000
set_option maxHeartbeats 8000000
namespace Go.Proofs.Ytdfeoccjllljiaa
open Go.Ab Go.Sort

/-- A block of which only the first cells are told. -/
theorem _root_.Go.Ab.upH.cut {H : Heap} {id : Nat} {cs cs' : List Value} {li ow : Bool} (hb : H[id]? = some ⟨cs ++ cs', li, ow⟩) : upH H (H.set id ⟨cs, li, ow⟩) := by
  intro B w0 ρ w hR
  have hlt := (List.getElem?_eq_some_iff.1 hb).1
  have key : ∀ (i : Nat) (b : Blk), (H.set id ⟨cs, li, ow⟩)[i]? = some b → (i = id ∧ b = ⟨cs, li, ow⟩) ∨ (i ≠ id ∧ H[i]? = some b) := by
    intro i b h
    by_cases e : i = id
    · subst e; rw [List.getElem?_set_self hlt] at h; exact .inl ⟨rfl, (Option.some.inj h).symm⟩
    · rw [List.getElem?_set_ne (fun h => e h.symm)] at h; exact .inr ⟨e, h⟩
  have old : ∀ (i : Nat) (b : Blk), (H.set id ⟨cs, li, ow⟩)[i]? = some b → ∃ b', H[i]? = some b' ∧ b'.live = b.live ∧ b'.own = b.own := by
    intro i b h
    rcases key i b h with ⟨rfl, rfl⟩ | ⟨_, h⟩
    · exact ⟨_, hb, rfl, rfl⟩
    · exact ⟨b, h, rfl, rfl⟩
  refine ⟨by rw [List.length_set]; exact hR.len, hR.below, hR.base, ?_, ?_, ?_⟩
  · intro i b l h hl' hlive
    rcases key i b h with ⟨rfl, rfl⟩ | ⟨_, h⟩
    · obtain ⟨arr, elem, fz, h1, h2, h3, h4⟩ := hR.blk i _ l hb hl' hlive
      refine ⟨arr, elem, fz, h1, h2, ?_, h4⟩
      intro k v hk
      exact h3 k v (by rw [List.getElem?_append_left (List.getElem?_eq_some_iff.1 hk).1]; exact hk)
    · exact hR.blk i b l h hl' hlive
  · intro i j b c l m hij h1 h2 h3 h4 h5 h6 h7
    obtain ⟨b', e1, e2, e3⟩ := old i b h1
    obtain ⟨c', f1, f2, f3⟩ := old j c h2
    exact hR.apart i j b' c' l m hij e1 f1 h3 h4 (by rw [e2]; exact h5) (by rw [f2]; exact h6) (by rw [e3]; exact h7)
  · intro i b l h1 h2 h3 h4
    obtain ⟨b', e1, e2, e3⟩ := old i b h1
    exact hR.ghost i b' l e1 h2 (by rw [e2]; exact h3) (by rw [e3]; exact h4)

end Go.Proofs.Ytdfeoccjllljiaa
end

section
/- Regions whose order is open, with operations that hang on nothing (a new cell, an empty list): at each effect ahead of such a one, both ways are shown. It holds for every program. -/
set_option linter.all false
namespace Go.Ab
open Go.RowKit (Below)

section
variable {P : Program} {N : Nat} {ops : Array Oper} {K : Fr → Heap → Prop} {fs : List Nat}

/-- Both ways, written out. -/
inductive Tree
  | nil
  | one (i : Nat) (fl : Bool) (t : Tree)
  | two (i : Nat) (fl : Bool) (t : Tree) (f : Nat) (t' : Tree)

def vT (P : Program) (N : Nat) (ops : Array Oper) (K : Fr → Heap → Prop) : Tree → Fr → Heap → Prop
  | .nil, fr, H => K fr H
  | .one i fl t, fr, H => match ops[i]? with
    | none => False
    | some o => match isR o.op with
      | true => vstep P N ops o (vT P N ops K t) fr H
      | false => vstep P N ops o (eK fl H (vT P N ops K t)) fr H
  | .two i fl t f t', fr, H => match ops[i]?, ops[f]? with
    | some o, some o' => vstep P N ops o (eK fl H (vT P N ops K t)) fr H ∧ vstep P N ops o' (eK true H (vT P N ops K t')) fr H
    | _, _ => False
/-! The words of such a tree, for simp. -/

def vTK (P : Program) (N : Nat) (ops : Array Oper) (K : Fr → Heap → Prop) (t : Tree) (fr : Fr) (H : Heap) : Prop := vT P N ops K t fr H
def eTK (P : Program) (N : Nat) (ops : Array Oper) (K : Fr → Heap → Prop) (t : Tree) (fl : Bool) (H : Heap) (fr : Fr) (H' : Heap) : Prop :=
  match fl with
  | true => andK (H <+: H') (vT P N ops K t fr H')
  | false => vT P N ops K t fr H'
def vTo (P : Program) (N : Nat) (ops : Array Oper) (K : Fr → Heap → Prop) (t : Tree) (fl : Bool) (fr : Fr) (H : Heap) (o : Oper) : Prop :=
  match isR o.op with
  | true => vstep P N ops o (vTK P N ops K t) fr H
  | false => vstep P N ops o (eTK P N ops K t fl H) fr H
def vTe (P : Program) (N : Nat) (ops : Array Oper) (K : Fr → Heap → Prop) (t : Tree) (fl : Bool) (fr : Fr) (H : Heap) (o : Oper) : Prop := vstep P N ops o (eTK P N ops K t fl H) fr H

theorem vT_nil (K : Fr → Heap → Prop) (fr : Fr) (H : Heap) : vT P N ops K .nil fr H = K fr H := rfl
theorem eTK_eq (K : Fr → Heap → Prop) (t : Tree) (fl : Bool) (H : Heap) : eK fl H (vT P N ops K t) = eTK P N ops K t fl H := by
  funext f h
  cases fl <;> rfl
theorem vT_one (K : Fr → Heap → Prop) (i : Nat) (fl : Bool) (t : Tree) (fr : Fr) (H : Heap) : vT P N ops K (.one i fl t) fr H = bindO ops[i]? (vTo P N ops K t fl fr H) := by
  simp only [vT]
  cases ops[i]? with
  | none => simp [bindO]
  | some o =>
    simp only [bindO_some, vTo]
    cases isR o.op with
    | true => rfl
    | false => simp only [eTK_eq]
attribute [go_sem] vTK eTK vTo vTe vT_nil vT_one

end
end Go.Ab
end

section
/- The same with blocks from L on that are this region's own: they may be changed in between. It holds for every program. -/
set_option linter.all false
namespace Go.Ab
open Go.RowKit (Below)

section
variable {P : Program} {N : Nat} {ops : Array Oper} {L : Nat} {K : Fr → Heap → Prop} {fs : List Nat}

def vTX (P : Program) (N : Nat) (ops : Array Oper) (L : Nat) (K : Fr → Heap → Prop) : Tree → Fr → Heap → Prop
  | .nil, fr, H => K fr H
  | .one i fl t, fr, H => match ops[i]? with
    | none => False
    | some o => match isR o.op with
      | true => offL L o.op fr ∧ vstep P N ops o (vTX P N ops L K t) fr H
      | false => vstep P N ops o (eKX L fl H (vTX P N ops L K t)) fr H
  | .two i fl t f t', fr, H => match ops[i]?, ops[f]? with
    | some o, some o' => vstep P N ops o (eKX L fl H (vTX P N ops L K t)) fr H ∧ vstep P N ops o' (eKX L true H (vTX P N ops L K t')) fr H
    | _, _ => False
/-! The words of such a tree, for simp. -/

def vTXK (P : Program) (N : Nat) (ops : Array Oper) (L : Nat) (K : Fr → Heap → Prop) (t : Tree) (fr : Fr) (H : Heap) : Prop := vTX P N ops L K t fr H
def eTXK (P : Program) (N : Nat) (ops : Array Oper) (L : Nat) (K : Fr → Heap → Prop) (t : Tree) (fl : Bool) (H : Heap) (fr : Fr) (H' : Heap) : Prop :=
  match fl with
  | true => andK (KeepL L H H') (vTX P N ops L K t fr H')
  | false => vTX P N ops L K t fr H'
def vTXo (P : Program) (N : Nat) (ops : Array Oper) (L : Nat) (K : Fr → Heap → Prop) (t : Tree) (fl : Bool) (fr : Fr) (H : Heap) (o : Oper) : Prop :=
  match isR o.op with
  | true => andK (offB L o.op fr) (vstep P N ops o (vTXK P N ops L K t) fr H)
  | false => vstep P N ops o (eTXK P N ops L K t fl H) fr H
def vTXe (P : Program) (N : Nat) (ops : Array Oper) (L : Nat) (K : Fr → Heap → Prop) (t : Tree) (fl : Bool) (fr : Fr) (H : Heap) (o : Oper) : Prop := vstep P N ops o (eTXK P N ops L K t fl H) fr H

theorem vTX_nil (K : Fr → Heap → Prop) (fr : Fr) (H : Heap) : vTX P N ops L K .nil fr H = K fr H := rfl
theorem eTXK_eq (K : Fr → Heap → Prop) (t : Tree) (fl : Bool) (H : Heap) : eKX L fl H (vTX P N ops L K t) = eTXK P N ops L K t fl H := by
  funext f h
  cases fl <;> rfl
theorem vTX_one (K : Fr → Heap → Prop) (i : Nat) (fl : Bool) (t : Tree) (fr : Fr) (H : Heap) : vTX P N ops L K (.one i fl t) fr H = bindO ops[i]? (vTXo P N ops L K t fl fr H) := by
  simp only [vTX]
  cases ops[i]? with
  | none => simp [bindO]
  | some o =>
    simp only [bindO_some, vTXo]
    cases isR o.op with
    | true => rw [offB_iff]; rfl
    | false => simp only [eTXK_eq]
attribute [go_sem] vTXK eTXK vTXo vTXe vTX_nil vTX_one

end
end Go.Ab
end

section
/- DoubleSystem: the tested program's side (printed by gendbl.py). -/
set_option linter.all false
set_option maxRecDepth 20000
set_option maxHeartbeats 8000000
namespace Go.Ab

theorem Bl.same {e : Nat} {H H' H'' : Heap} {id n k : Nat} {cs : List Value} (h : Bl e H H' id cs n) (hs : Same (fun j => j = k) H' H'') (hk : H.length ≤ k) (hne : id ≠ k) : Bl e H H'' id cs n :=
  ⟨((Same.of_prefix h.1).trans hs).prefix (by intro j hj e; omega), h.2.1.keep hs hne, h.2.2⟩
end Go.Ab
namespace Go.Proofs.Ytdfeoccjllljiaa
open Go.Ab Go.Sort

end Go.Proofs.Ytdfeoccjllljiaa
end

section
/- A region's end told once; a cell made early and filled late. It holds for every program. -/
set_option linter.all false
namespace Go.Ab

theorem AWp.regCut {P : Program} {N : Nat} {H : Heap} {fr : Fr} {Q : Exit → Fr → Heap → Prop} {St : Type} {c : Code} (N' : St → Fr) (E : St → Heap → Prop)
    (hx : ∀ Q' : Exit → Fr → Heap → Prop, (∀ (s : St) (fr' : Fr) (H' : Heap), upF H' (N' s ++ fr) fr' → E s H' → Q' .normal fr' H') → AWp P N c Q' fr H)
    (hy : ∀ (s : St) (H' : Heap), E s H' → Q .normal (N' s ++ fr) H') : AWp P N c Q fr H := by
  let Q1 : Exit → Fr → Heap → Prop := fun e f h => match e with
    | .normal => ∃ s, upF h (N' s ++ fr) f ∧ E s h
    | _ => False
  refine AWp.weak (Q := Q1) ?_ (hx Q1 fun s f h h1 h2 => ⟨s, h1, h2⟩)
  intro e f h hq
  cases e with
  | normal => obtain ⟨s, h1, h2⟩ := hq; exact ⟨_, h1, hy s h h2⟩
  | _ => exact hq.elim

end Go.Ab
end

section
/- Blocks turned round: impl.turnedBlocks. -/
set_option linter.all false
set_option maxRecDepth 20000
set_option maxHeartbeats 8000000
namespace Go.Proofs.Ytdfeoccjllljiaa
open Go.Ab Go.Sort

def turn (v : Nat) (b : Bk) (i : Nat) : Bk := blk ((b.a + i).tmod v) ((b.b + i).tmod v) ((b.c + i).tmod v)
def small (b : Bk) : Prop := (0 ≤ b.a ∧ b.a ≤ 900) ∧ (0 ≤ b.b ∧ b.b ≤ 900) ∧ (0 ≤ b.c ∧ b.c ≤ 900)
end Go.Proofs.Ytdfeoccjllljiaa
end

section
/- One list out of a list of lists. -/
set_option linter.all false
set_option maxRecDepth 20000
namespace Go.Proofs.Ytdfeoccjllljiaa
open Go.Ab

theorem row_at {H : Heap} {u : Value} {xss : List (List Int)} {k : Nat} (h : IntssAt H u xss) (hk : k < xss.length) : ∃ i o, u = lv 1 i o xss.length ∧ ∀ {H' : Heap}, H <+: H' → ∃ i' o', cellsAt H' i (o + k) 1 = some [lv 1 i' o' xss[k].length] ∧ IntsAt H' (lv 1 i' o' xss[k].length) xss[k] := by
  obtain ⟨i, o, vs, h1, h2, h3, h4, h5⟩ := h
  refine ⟨i, o, h1, fun hp => ?_⟩
  have hv : vs[k]? = some (vs[k]'(by omega)) := List.getElem?_eq_getElem (by omega)
  obtain ⟨i', o', e1, e2, e3⟩ := h4 k _ xss[k] hv (List.getElem?_eq_getElem hk)
  have c := (h3.pre hp).cell hv
  rw [e1] at c
  exact ⟨i', o', c, i', o', rfl, e2.pre hp, e3⟩


end Go.Proofs.Ytdfeoccjllljiaa
end

section
/- Squares: the specification's side. -/
set_option linter.all false
set_option maxRecDepth 20000
set_option maxHeartbeats 8000000
namespace Go.Proofs.Ytdfeoccjllljiaa
open Go.Ab Go.Sort

theorem pow_i64 {n : Nat} (h : n < 60) : IntKind.i64.wrap ((2 : Int) ^ n) = ((2 ^ n : Nat) : Int) := by
  have hm2 : 2 ^ n < 2 ^ 62 := Nat.pow_lt_pow_right (by omega) (by omega)
  have e : ((2 : Int) ^ n) = ((2 ^ n : Nat) : Int) := by rw [Int.natCast_pow]; rfl
  rw [e]
  obtain ⟨T, hT⟩ : ∃ T, 2 ^ n = T := ⟨_, rfl⟩
  rw [hT] at hm2 ⊢
  exact i64w (by omega) (by omega)

end Go.Proofs.Ytdfeoccjllljiaa
end

section
/- SquareKinds: both sides. -/
set_option linter.all false
set_option maxRecDepth 20000
set_option maxHeartbeats 8000000
namespace Go.Proofs.Ytdfeoccjllljiaa
open Go.Ab Go.Sort

def bitB (b : Bool) : Int := if b then 1 else 0
theorem specOne_ok {H : Heap} {b : Bool} (Post : Value → Heap → Prop) (h : Post (.int .i64 (bitB b)) H) : ACalls Try.prog 99 [.bool b] H Post := by
  refine acalls_vc (rs := [.tmp 2]) Try.func99 rfl rfl Try.ntmps99 rfl rfl ?_
  cases b <;> (simp (maxSteps := 1000000) [go_sem]; exact h)
end Go.Proofs.Ytdfeoccjllljiaa
end

section
/- All types of a system: order, each once, how often. Plain Lean. -/
set_option linter.all false
set_option maxRecDepth 20000
namespace Go.Proofs.Ytdfeoccjllljiaa
open Go.Ab Go.Sort

/- The two points may change places. -/
theorem _root_.Go.Ab.Turn.symm {f g : Nat → Nat} {S : Nat → Prop} (h : Turn f g S) : Turn g f S := ⟨h.gS, h.fS, h.gg, h.ff, h.gne, h.fne⟩
/- How lists are ordered. -/
def ltL (x y : List Int) : Bool := decide (lexC x y < 0)
theorem ltL_nil (y : List Int) : ltL [] y = !y.isEmpty := by cases y <;> simp [ltL, lexC]
theorem ltL_cons_nil (x : Int) (xs : List Int) : ltL (x :: xs) [] = false := by simp [ltL, lexC]
theorem ltL_cons (x y : Int) (xs ys : List Int) : ltL (x :: xs) (y :: ys) = (decide (x < y) || (decide (x = y) && ltL xs ys)) := by
  unfold ltL
  simp only [lexC]
  by_cases h1 : x < y
  · simp [h1]
  · by_cases h2 : y < x
    · simp [h1, h2]; omega
    · have : x = y := by omega
      subst this
      simp
theorem ltL_irrefl : ∀ x : List Int, ltL x x = false
  | [] => rfl
  | x :: xs => by rw [ltL_cons, ltL_irrefl xs]; simp
theorem ltL_trans : ∀ x y z : List Int, ltL x y = true → ltL y z = true → ltL x z = true
  | [], [], _, h1, _ => by simp [ltL_nil] at h1
  | [], _ :: _, [], _, h2 => by simp [ltL_cons_nil] at h2
  | [], _ :: _, _ :: _, _, _ => by simp [ltL_nil]
  | _ :: _, [], _, h1, _ => by simp [ltL_cons_nil] at h1
  | _ :: _, _ :: _, [], _, h2 => by simp [ltL_cons_nil] at h2
  | x :: xs, y :: ys, z :: zs, h1, h2 => by
    rw [ltL_cons] at *
    simp only [Bool.or_eq_true, Bool.and_eq_true, decide_eq_true_eq] at *
    have ih := ltL_trans xs ys zs
    rcases h1 with h1 | ⟨h1, h1'⟩ <;> rcases h2 with h2 | ⟨h2, h2'⟩
    · left; omega
    · left; omega
    · left; omega
    · right; exact ⟨by omega, ih h1' h2'⟩
theorem ltL_asymm {x y : List Int} (h : ltL x y = true) : ltL y x = false := by
  cases h2 : ltL y x with
  | false => rfl
  | true => have := ltL_trans _ _ _ h h2; rw [ltL_irrefl] at this; simp at this

/- Ascending lists, each element once. -/
def AscL (l : List (List Int)) : Prop := l.Pairwise (fun x y => ltL x y = true)
theorem AscL.uniq {l m : List (List Int)} (hl : AscL l) (hm : AscL m) (h : ∀ x, x ∈ l ↔ x ∈ m) : l = m := by
  have nd : ∀ {l : List (List Int)}, AscL l → l.Nodup := fun hl => List.Pairwise.imp (fun {a b} e => by rintro rfl; rw [ltL_irrefl] at e; simp at e) hl
  have hp := (List.perm_ext_iff_of_nodup (nd hl) (nd hm)).2 h
  refine hp.eq_of_pairwise ?_ hl hm
  intro x y _ _ h1 h2
  rw [ltL_asymm h1] at h2; simp at h2
/- The place where a list is put. -/
/- Runs of the same element. -/
/- All types of a system. -/
end Go.Proofs.Ytdfeoccjllljiaa
end

section
/- Lists compared: l03Less, l03Same, slices.Equal. -/
set_option linter.all false
set_option maxRecDepth 20000
set_option maxHeartbeats 8000000
namespace Go.Proofs.Ytdfeoccjllljiaa
open Go.Ab Go.Sort

theorem equalI_ok {H : Heap} {u w : Value} {l k : List Int} (hu : IntsAt H u l) (hw : IntsAt H w k) (Post : Value → Heap → Prop)
    (h : Post (.bool (decide (l = k))) H) : ACalls Try.prog 150 [u, w] H Post := by
  obtain ⟨i, o, rfl, h1, hl⟩ := hu
  obtain ⟨j, q, rfl, h2, hl'⟩ := hw
  refine acalls_vc (rs := [.tmp 4]) Try.func150 rfl rfl Try.ntmps150 rfl rfl ?_
  by_cases hnm : l.length = k.length
  · obtain ⟨n, hn⟩ : ∃ n, n = l.length := ⟨_, rfl⟩
    rw [← hnm, ← hn]
    simp (maxSteps := 1000000) [go_sem]
    refine AWp.loopVc (fun s : Nat => [(0, lv 1 i o n), (1, lv 1 j q n), (12, .int .i64 n), (13, .int .i64 s)]) (fun s H' => s ≤ n ∧ H' = H ∧ l.take s = k.take s) (fun s => n - s) 0 ?_ ?_ ?_
    · simp [upF, Fr.get, Up.refl]
    · exact ⟨by omega, rfl, by simp⟩
    · rintro K s H' ⟨hs, rfl, hf⟩ hK
      by_cases hlt : s < n
      · have c1 := h1.cell (k := s) (v := .int .i64 (l[s]'(by omega))) (by simp [ints_get, show s < l.length by omega])
        have c2 := h2.cell (k := s) (v := .int .i64 (k[s]'(by omega))) (by simp [ints_get, show s < k.length by omega])
        have t1 := List.take_succ_eq_append_getElem (show s < l.length by omega)
        have t2 := List.take_succ_eq_append_getElem (show s < k.length by omega)
        have hne : l[s]'(by omega) ≠ k[s]'(by omega) → decide (l = k) = false := by
          intro hne
          rw [decide_eq_false_iff_not]
          intro e; subst e; exact hne rfl
        generalize l[s]'(by omega) = x at *
        generalize k[s]'(by omega) = y at *
        have hw_s : IntKind.i64.wrap ((s : Int) + 1) = (s : Int) + 1 := i64w (by omega) (by omega)
        simp (maxSteps := 1000000) [go_sem, hlt]
        refine AWp.draw mixed [(0, false), (1, false), (2, false), (3, false), (4, false), (5, false), (6, false), (7, false), (8, false)] (by kernel_rfl) ?_
        simp (maxSteps := 1000000) [go_sem, hlt, c1, c2, hw_s]
        refine condK_intro (fun hh => ?_) (fun hh => ?_)
        · have : x ≠ y := by rintro rfl; simp at hh
          rw [hne this] at h
          exact h
        · have hxy : x = y := by simpa using hh
          refine hK (s + 1) _ _ (by omega) (by simp [upF, Fr.get, Up.refl]) ⟨by omega, rfl, ?_⟩
          rw [t1, t2, hf, hxy]
      · have : s = n := by omega
        subst this
        have e : l = k := by
          rw [List.take_of_length_le (by omega), List.take_of_length_le (by omega)] at hf
          exact hf
        have e' : decide (l = k) = true := decide_eq_true e
        rw [e'] at h
        simp (maxSteps := 1000000) [go_sem]
        exact h
  · have hnm' : ((l.length : Int) != (k.length : Int)) = true := by simp; omega
    have e : decide (l = k) = false := by
      rw [decide_eq_false_iff_not]
      intro e; subst e; omega
    rw [e] at h
    simp (maxSteps := 1000000) [go_sem, hnm, hnm']
    exact h

end Go.Proofs.Ytdfeoccjllljiaa
end

section
/- Difference families: triples. -/
set_option linter.all false
set_option maxRecDepth 20000
set_option maxHeartbeats 8000000
namespace Go.Proofs.Ytdfeoccjllljiaa
open Go.Ab Go.Sort

def tripS (v : Int) : List Int → Bool
  | [a, b, c] => decide (1 ≤ a) && decide (a < b) && decide (b < c) && decide (c ≤ (v - 1) / 2) && (decide (a + b = c) || decide (a + b + c = v))
  | _ => false
def tripI (v : Int) : List Int → Bool
  | [a, b, c] => decide (1 ≤ a) && decide (a < b) && decide (b < c) && decide (c < v) && (decide (a + b = c) || decide (a + b + c = v))
  | _ => false
theorem len3 {t : List Int} (h : t.length = 3) : ∃ a b c, t = [a, b, c] := by
  match t, h with
  | [a, b, c], _ => exact ⟨a, b, c, rfl⟩
theorem tripS_len {v : Int} {t : List Int} (h : t.length ≠ 3) : tripS v t = false := by
  unfold tripS; split
  · simp at h
  · rfl
theorem tripI_len {v : Int} {t : List Int} (h : t.length ≠ 3) : tripI v t = false := by
  unfold tripI; split
  · simp at h
  · rfl

theorem l02Triple_ok {H : Heap} {u : Value} {v : Int} {t : List Int} (hv : 3 ≤ v ∧ v ≤ 15) (hu : IntsAt H u t) (Post : Value → Heap → Prop) (h : Post (.bool (tripS v t)) H) :
    ACalls Try.prog 147 [.int .i64 v, u] H Post := by
  obtain ⟨i, o, rfl, h1, hl⟩ := hu
  have wv : IntKind.i64.wrap (v - 1) = v - 1 := i64w (by omega) (by omega)
  have hd : (v - 1).tdiv 2 = (v - 1) / 2 := Int.tdiv_eq_ediv_of_nonneg (by omega)
  have wh : IntKind.i64.wrap ((v - 1) / 2) = (v - 1) / 2 := i64w (by omega) (by omega)
  refine acalls_vc (rs := [.tmp 4]) Try.func147 rfl rfl Try.ntmps147 rfl rfl ?_
  simp (maxSteps := 1000000) [go_sem]
  refine AWp.draw mixed [(0, false), (1, false), (2, false), (3, false), (4, false), (5, false), (6, false), (7, false), (8, false), (9, false), (10, false), (11, false), (12, false), (13, false), (14, false), (15, false), (16, false), (17, false), (18, false), (19, false), (20, false), (21, false), (22, false), (23, false), (24, false), (25, false), (26, false), (27, false), (28, false), (29, false), (30, false), (31, false), (32, false), (33, false), (34, false), (35, false), (36, false), (37, false), (38, false), (39, false), (40, false), (41, false), (42, false), (43, false), (44, false), (45, false), (46, false), (47, false), (48, false), (49, false), (50, false), (51, false), (52, false), (53, false), (54, false), (55, false), (56, false), (57, false), (58, false), (59, false), (60, false), (61, false), (62, false), (63, false), (64, false)] (by kernel_rfl) ?_
  by_cases hn : t.length = 3
  · obtain ⟨a, b, c, rfl⟩ := len3 hn
    have l0 : cellsAt H i o 1 = some [.int .i64 a] := by simpa using h1.cell (k := 0) (v := .int .i64 a) (by simp [ints])
    have l1 := h1.cell (k := 1) (v := .int .i64 b) (by simp [ints])
    have l2 := h1.cell (k := 2) (v := .int .i64 c) (by simp [ints])
    by_cases c1 : 1 ≤ a
    · by_cases c2 : a < b
      · by_cases c3 : b < c
        · by_cases c4 : c ≤ (v - 1) / 2
          · have w1 : IntKind.i64.wrap (a + b) = a + b := i64w (by omega) (by omega)
            have w2 : IntKind.i64.wrap (a + b + c) = a + b + c := i64w (by omega) (by omega)
            by_cases c5 : a + b = c
            · have c5' : (a + b == c) = true := beq_iff_eq.2 c5
              simp (maxSteps := 1000000) [go_sem, undef, l0, l1, l2, c1, c2, c3, c4, c5', wv, hd, wh, w1, w2]
              simpa [tripS, c1, c2, c3, c4, c5] using h
            · have c5' : (a + b == c) = false := beq_eq_false_iff_ne.2 c5
              simp (maxSteps := 1000000) [go_sem, undef, l0, l1, l2, c1, c2, c3, c4, c5', wv, hd, wh, w1, w2]
              rw [show (a + b + c == v) = decide (a + b + c = v) from rfl]
              simpa [tripS, c1, c2, c3, c4, c5] using h
          · simp (maxSteps := 1000000) [go_sem, undef, l0, l1, l2, c1, c2, c3, c4, wv, hd, wh]
            simpa [tripS, c1, c2, c3, c4] using h
        · simp (maxSteps := 1000000) [go_sem, undef, l0, l1, l2, c1, c2, c3]
          simpa [tripS, c1, c2, c3] using h
      · simp (maxSteps := 1000000) [go_sem, undef, l0, l1, l2, c1, c2]
        simpa [tripS, c1, c2] using h
    · simp (maxSteps := 1000000) [go_sem, undef, l0, l1, l2, c1]
      simpa [tripS, c1] using h
  · rw [tripS_len hn] at h
    obtain ⟨n, hnn⟩ : ∃ n, t.length = n := ⟨_, rfl⟩
    rw [hnn] at hn ⊢
    have hni : ((n : Int) == 3) = false := beq_eq_false_iff_ne.2 (by omega)
    simp (maxSteps := 1000000) [go_sem, undef, hni]
    exact h

theorem isTriple_ok {H : Heap} {u : Value} {v : Int} {t : List Int} (hv : 3 ≤ v ∧ v ≤ 15) (hu : IntsAt H u t) (Post : Value → Heap → Prop) (h : Post (.bool (tripI v t)) H) :
    ACalls Try.prog 148 [.int .i64 v, u] H Post := by
  have hu' := hu
  obtain ⟨i, o, rfl, h1, hl⟩ := hu
  refine acalls_vc (rs := [.tmp 4]) Try.func148 rfl rfl Try.ntmps148 rfl rfl ?_
  simp (maxSteps := 1000000) [go_sem]
  refine AWp.draw mixed [(0, false), (1, false), (2, false), (3, false), (4, false), (5, false), (6, false), (7, false), (8, false), (9, false), (10, false), (11, false), (12, false), (13, false), (14, false), (15, false), (16, false), (17, false), (18, false), (19, false), (20, false), (21, false), (22, false), (23, false), (24, false), (25, false), (26, false), (27, false), (28, false), (29, false), (30, false), (31, false), (32, false), (33, false), (34, false), (35, false), (36, false), (37, false), (38, false), (39, false), (40, false), (41, false), (42, false)] (by kernel_rfl) ?_
  by_cases hn : t.length = 3
  · have hn' := hn
    obtain ⟨a, b, c, rfl⟩ := len3 hn
    have l0 : cellsAt H i o 1 = some [.int .i64 a] := by simpa using h1.cell (k := 0) (v := .int .i64 a) (by simp [ints])
    have l1 := h1.cell (k := 1) (v := .int .i64 b) (by simp [ints])
    have l2 := h1.cell (k := 2) (v := .int .i64 c) (by simp [ints])
    simp (maxSteps := 1000000) [go_sem, undef, l0, l1, l2]
    refine rises_ok (n := v) hu' (by omega) (by omega) _ ?_
    intro r hr
    by_cases hR : Rises v [a, b, c]
    · have hg := good_iff.1 ((rises_block v ⟨a, b, c⟩).1 hR)
      simp only at hg
      obtain rfl : r = true := hr.2 hR
      by_cases c1 : 1 ≤ a
      · have w1 : IntKind.i64.wrap (a + b) = a + b := i64w (by omega) (by omega)
        have w2 : IntKind.i64.wrap (a + b + c) = a + b + c := i64w (by omega) (by omega)
        have c2 : a < b := by omega
        have c3 : b < c := by omega
        have c4 : c < v := by omega
        by_cases c5 : a + b = c
        · have c5' : (a + b == c) = true := beq_iff_eq.2 c5
          simp (maxSteps := 1000000) [go_sem, undef, l0, l1, l2, c1, c5', w1, w2]
          simpa [tripI, c1, c2, c3, c4, c5] using h
        · have c5' : (a + b == c) = false := beq_eq_false_iff_ne.2 c5
          simp (maxSteps := 1000000) [go_sem, undef, l0, l1, l2, c1, c5', w1, w2]
          rw [show (a + b + c == v) = decide (a + b + c = v) from rfl]
          simpa [tripI, c1, c2, c3, c4, c5] using h
      · simp (maxSteps := 1000000) [go_sem, undef, l0, l1, l2, c1]
        simpa [tripI, c1] using h
    · obtain rfl : r = false := by cases r with | false => rfl | true => exact absurd (hr.1 rfl) hR
      have e : tripI v [a, b, c] = false := by
        cases ht : tripI v [a, b, c] with
        | false => rfl
        | true =>
          simp only [tripI, Bool.and_eq_true, decide_eq_true_eq] at ht
          exact absurd ((rises_block v ⟨a, b, c⟩).2 (good_iff.2 (by simp only; omega))) hR
      rw [e] at h
      simp (maxSteps := 1000000) [go_sem, undef, l0, l1, l2]
      exact h
  · rw [tripI_len hn] at h
    obtain ⟨n, hnn⟩ : ∃ n, t.length = n := ⟨_, rfl⟩
    rw [hnn] at hn ⊢
    have hni : ((n : Int) == 3) = false := beq_eq_false_iff_ne.2 (by omega)
    simp (maxSteps := 1000000) [go_sem, undef, hni]
    exact h

end Go.Proofs.Ytdfeoccjllljiaa
end

section
/- Difference families: there is one for each number. Plain. -/
set_option linter.all false
set_option maxRecDepth 20000
set_option maxHeartbeats 8000000
namespace Go.Proofs.Ytdfeoccjllljiaa
open Go.Ab Go.Sort

def NumB (v : Int) : Prop := v = 7 ∨ v = 13 ∨ v = 15
def preF (v : Int) : List Int := if v = 15 then [5] else []
def famOf (v : Int) : List (List Int) := if v = 7 then [[1, 2, 3]] else if v = 13 then [[1, 3, 4], [2, 5, 6]] else [[1, 3, 4], [2, 6, 7]]
def diffL (v : Int) : List Int := if v = 7 then [1, 2, 3] else if v = 13 then [1, 2, 3, 4, 5, 6] else [1, 2, 3, 4, 6, 7]
def hd (t : List Int) : Int := t.headD 0
structure IsFam (v : Int) (xs : List (List Int)) : Prop where
  trip : ∀ t ∈ xs, tripS v t = true
  ord : ∀ (i : Nat) (x y : List Int), xs[i]? = some x → xs[i + 1]? = some y → hd x < hd y
  nod : (preF v ++ xs.flatten).Nodup
  cnt : (3 * (xs.length : Int)) = (v - 1) / 2 - (if v = 15 then 1 else 0)
structure IsFamI (v : Int) (xs : List (List Int)) : Prop where
  trip : ∀ t ∈ xs, tripI v t = true
  ord : ∀ (i : Nat) (x y : List Int), xs[i]? = some x → xs[i + 1]? = some y → lexC x y < 0
  perm : xs.flatten.Perm (diffL v)

def L8 : List Int := [0, 1, 2, 3, 4, 5, 6, 7]
theorem fam7 : ∀ a ∈ L8, ∀ b ∈ L8, ∀ c ∈ L8, tripS 7 [a, b, c] = true → [[a, b, c]] = famOf 7 := by decide +kernel
theorem fam13 : ∀ a ∈ L8, ∀ b ∈ L8, ∀ c ∈ L8, tripS 13 [a, b, c] = true → ∀ d ∈ L8, ∀ e ∈ L8, ∀ f ∈ L8, tripS 13 [d, e, f] = true → a < d → [a, b, c, d, e, f].Nodup → [[a, b, c], [d, e, f]] = famOf 13 := by decide +kernel
theorem fam15 : ∀ a ∈ L8, ∀ b ∈ L8, ∀ c ∈ L8, tripS 15 [a, b, c] = true → ∀ d ∈ L8, ∀ e ∈ L8, ∀ f ∈ L8, tripS 15 [d, e, f] = true → a < d → [5, a, b, c, d, e, f].Nodup → [[a, b, c], [d, e, f]] = famOf 15 := by decide +kernel

theorem mem_L8 {x : Int} (h : 0 ≤ x ∧ x ≤ 7) : x ∈ L8 := by
  have : x = 0 ∨ x = 1 ∨ x = 2 ∨ x = 3 ∨ x = 4 ∨ x = 5 ∨ x = 6 ∨ x = 7 := by omega
  simpa [L8] using this
theorem tripS_iff {v a b c : Int} : tripS v [a, b, c] = true ↔ 1 ≤ a ∧ a < b ∧ b < c ∧ c ≤ (v - 1) / 2 ∧ (a + b = c ∨ a + b + c = v) := by
  simp only [tripS, Bool.and_eq_true, Bool.or_eq_true, decide_eq_true_eq, and_assoc]
theorem tripI_iff {v a b c : Int} : tripI v [a, b, c] = true ↔ 1 ≤ a ∧ a < b ∧ b < c ∧ c < v ∧ (a + b = c ∨ a + b + c = v) := by
  simp only [tripI, Bool.and_eq_true, Bool.or_eq_true, decide_eq_true_eq, and_assoc]
theorem tripS_three {v : Int} {t : List Int} (h : tripS v t = true) : ∃ a b c, t = [a, b, c] :=
  len3 (Classical.byContradiction fun e => by rw [tripS_len e] at h; cases h)
theorem tripI_three {v : Int} {t : List Int} (h : tripI v t = true) : ∃ a b c, t = [a, b, c] :=
  len3 (Classical.byContradiction fun e => by rw [tripI_len e] at h; cases h)

theorem fam_to {v : Int} {xs : List (List Int)} (hv : NumB v) (h : IsFam v xs) : xs = famOf v := by
  have hc := h.cnt
  have bd : ∀ {a b c : Int}, tripS v [a, b, c] = true → a ∈ L8 ∧ b ∈ L8 ∧ c ∈ L8 := by
    intro a b c ht
    have := tripS_iff.1 ht
    exact ⟨mem_L8 (by unfold NumB at hv; omega), mem_L8 (by unfold NumB at hv; omega), mem_L8 (by unfold NumB at hv; omega)⟩
  rcases hv with rfl | rfl | rfl
  · have hl : xs.length = 1 := by simp at hc; omega
    match xs, hl, h with
    | [t], _, h =>
      have h1 := h.trip t (by simp)
      obtain ⟨a, b, c, rfl⟩ := tripS_three h1
      obtain ⟨m1, m2, m3⟩ := bd h1
      exact fam7 a m1 b m2 c m3 h1
  · have hl : xs.length = 2 := by simp at hc; omega
    match xs, hl, h with
    | [t, u], _, h =>
      have h1 := h.trip t (by simp)
      have h2 := h.trip u (by simp)
      obtain ⟨a, b, c, rfl⟩ := tripS_three h1
      obtain ⟨d, e, f, rfl⟩ := tripS_three h2
      obtain ⟨m1, m2, m3⟩ := bd h1
      obtain ⟨m4, m5, m6⟩ := bd h2
      exact fam13 a m1 b m2 c m3 h1 d m4 e m5 f m6 h2 (h.ord 0 _ _ rfl rfl) h.nod
  · have hl : xs.length = 2 := by simp at hc; omega
    match xs, hl, h with
    | [t, u], _, h =>
      have h1 := h.trip t (by simp)
      have h2 := h.trip u (by simp)
      obtain ⟨a, b, c, rfl⟩ := tripS_three h1
      obtain ⟨d, e, f, rfl⟩ := tripS_three h2
      obtain ⟨m1, m2, m3⟩ := bd h1
      obtain ⟨m4, m5, m6⟩ := bd h2
      exact fam15 a m1 b m2 c m3 h1 d m4 e m5 f m6 h2 (h.ord 0 _ _ rfl rfl) h.nod
theorem ord_one {R : List Int → List Int → Prop} (x0 : List Int) : ∀ (i : Nat) (x y : List Int), [x0][i]? = some x → [x0][i + 1]? = some y → R x y := by
  intro i x y _ h2; simp at h2
theorem ord_two {R : List Int → List Int → Prop} {x0 y0 : List Int} (h : R x0 y0) : ∀ (i : Nat) (x y : List Int), [x0, y0][i]? = some x → [x0, y0][i + 1]? = some y → R x y := by
  intro i x y h1 h2
  match i with
  | 0 => simp at h1 h2; subst h1; subst h2; exact h
  | i + 1 => simp at h2
theorem fam_is {v : Int} (hv : NumB v) : IsFam v (famOf v) := by
  rcases hv with rfl | rfl | rfl
  · exact ⟨by decide, ord_one _, by decide, by decide⟩
  · exact ⟨by decide, ord_two (by decide), by decide, by decide⟩
  · exact ⟨by decide, ord_two (by decide), by decide, by decide⟩
theorem famI_is {v : Int} (hv : NumB v) : IsFamI v (famOf v) := by
  rcases hv with rfl | rfl | rfl
  · exact ⟨by decide, ord_one _, by decide⟩
  · exact ⟨by decide, ord_two (by decide), by decide⟩
  · exact ⟨by decide, ord_two (by decide), by decide⟩
theorem diffL_in {v : Int} (hv : NumB v) {x : Int} (h : x ∈ diffL v) : x ≤ (v - 1) / 2 := by
  rcases hv with rfl | rfl | rfl <;> simp [diffL] at h <;> omega
theorem diffL_nod {v : Int} (hv : NumB v) : (preF v ++ diffL v).Nodup := by
  rcases hv with rfl | rfl | rfl <;> decide
theorem diffL_asc {v : Int} (hv : NumB v) : AscI (diffL v) := by
  rcases hv with rfl | rfl | rfl <;> (unfold AscI diffL; decide)
theorem diffL_len {v : Int} (hv : NumB v) : ((diffL v).length : Int) = (v - 1) / 2 - (if v = 15 then 1 else 0) := by
  rcases hv with rfl | rfl | rfl <;> decide
theorem flat3 {v : Int} : ∀ {xs : List (List Int)}, (∀ t ∈ xs, tripI v t = true) → xs.flatten.length = 3 * xs.length
  | [], _ => rfl
  | t :: xs, h => by
    obtain ⟨a, b, c, rfl⟩ := tripI_three (h t (by simp))
    rw [List.flatten_cons, List.length_append, flat3 (fun t ht => h t (by simp [ht]))]
    simp only [List.length_cons, List.length_nil]; omega
theorem famI_to {v : Int} {xs : List (List Int)} (hv : NumB v) (h : IsFamI v xs) : xs = famOf v := by
  refine fam_to hv ⟨?_, ?_, ?_, ?_⟩
  · intro t ht
    have h1 := h.trip t ht
    obtain ⟨a, b, c, rfl⟩ := tripI_three h1
    have h2 := tripI_iff.1 h1
    have hc : c ∈ xs.flatten := List.mem_flatten.2 ⟨_, ht, by simp⟩
    have := diffL_in hv (h.perm.mem_iff.1 hc)
    exact tripS_iff.2 ⟨h2.1, h2.2.1, h2.2.2.1, this, h2.2.2.2.2⟩
  · intro i x y hx hy
    have hlt := h.ord i x y hx hy
    have mx : x ∈ xs := List.mem_of_getElem? hx
    have my : y ∈ xs := List.mem_of_getElem? hy
    obtain ⟨a, b, c, rfl⟩ := tripI_three (h.trip x mx)
    obtain ⟨d, e, f, rfl⟩ := tripI_three (h.trip y my)
    have had : a ≤ d := by
      simp only [lexC] at hlt
      by_cases h1 : a < d
      · omega
      · by_cases h2 : d < a
        · rw [if_neg h1, if_pos h2] at hlt; omega
        · omega
    have hne : a ≠ d := by
      rintro rfl
      obtain ⟨hi, hxe⟩ := List.getElem?_eq_some_iff.1 hx
      obtain ⟨hi', hye⟩ := List.getElem?_eq_some_iff.1 hy
      have hd1 : xs.drop i = [a, b, c] :: [a, e, f] :: xs.drop (i + 2) := by
        rw [List.drop_eq_getElem_cons hi, hxe, List.drop_eq_getElem_cons hi', hye]
      have hn : xs.flatten.Nodup := h.perm.nodup_iff.2 (List.nodup_append.1 (diffL_nod hv)).2.1
      have e1 : xs.flatten = (xs.take i).flatten ++ ([a, b, c] ++ ([a, e, f] ++ (xs.drop (i + 2)).flatten)) := by
        conv => lhs; rw [← List.take_append_drop i xs, List.flatten_append, hd1]
        simp
      rw [e1] at hn
      have h2 := (List.nodup_append.1 hn).2.1
      simp at h2
    show a < d
    omega
  · have := h.perm.append_left (preF v)
    exact this.nodup_iff.2 (diffL_nod hv)
  · rw [← diffL_len hv, ← h.perm.length_eq, flat3 h.trip]; omega

end Go.Proofs.Ytdfeoccjllljiaa
end

section
/- slices.Grow and slices.Concat over numbers. -/
set_option linter.all false
set_option maxRecDepth 20000
set_option maxHeartbeats 8000000
namespace Go.Proofs.Ytdfeoccjllljiaa
open Go.Ab

theorem growI_ok {H : Heap} {n : Nat} (hn : n ≤ 1048576) (Post : Value → Heap → Prop) (h : ∀ H' v, H <+: H' → OE 1 H.length H' v [] 0 → Post v H') :
    ACalls Try.prog 180 [.slice none 0 0, .int .i64 n] H Post := by
  refine acalls_vc (rs := [.tmp 4]) Try.func180 rfl rfl Try.ntmps180 rfl rfl ?_
  have hw : IntKind.i64.wrap (n : Int) = n := i64w (by omega) (by omega)
  have hneg : decide ((n : Int) < 0) = false := by simp
  by_cases h0 : n = 0
  · subst h0
    simp (maxSteps := 1000000) [go_sem, i64w (n := 0)]
    exact h H _ (List.prefix_refl _) (OE.nil _ _ _)
  · have hpos : 0 < n := by omega
    have hw0 : IntKind.i64.wrap 0 = 0 := i64w (by omega) (by omega)
    simp (maxSteps := 1000000) [go_sem, hw, hw0, hneg, hpos, sliceV, boundV, lenV]
    refine andK_intro (by omega) ?_
    refine h _ _ (List.prefix_append _ _) ⟨by simp, .inr (.inr ⟨H.length, Nat.le_refl _, rfl, .inl ⟨rfl, .inr ?_⟩⟩)⟩
    simp [ownAt]

theorem concatI_ok {H : Heap} {oi oo : Nat} {vs : List Value} {bss : List (List Int)} (hat : At H oi oo vs) (hl : vs.length = bss.length) (hb : ∀ (k : Nat) (v : Value) (bs : List Int), vs[k]? = some v → bss[k]? = some bs → IntsAt H v bs)
    (hsz : bss.flatten.length ≤ 1048576) (hn : bss.length ≤ 1048576) (Post : Value → Heap → Prop) (h : ∀ H' w, H <+: H' → IntsIn H.length H'.length H' w bss.flatten → Post w H') :
    ACalls Try.prog 153 [lv 1 oi oo bss.length] H Post := by
  refine ACalls.res ?_
  refine acalls_vc (rs := [.tmp 2]) Try.func153 rfl rfl Try.ntmps153 rfl rfl ?_
  simp (maxSteps := 1000000) [go_sem]
  have hpart : ∀ s, (bss.take s).flatten.length ≤ bss.flatten.length := by
    intro s
    conv => rhs; rw [← List.take_append_drop s bss, List.flatten_append, List.length_append]
    omega
  have hsucc : ∀ {s : Nat} {bs : List Int}, bss[s]? = some bs → (bss.take (s + 1)).flatten = (bss.take s).flatten ++ bs := by
    intro s bs hx
    obtain ⟨hlt, rfl⟩ := List.getElem?_eq_some_iff.1 hx
    rw [List.take_succ_eq_append_getElem hlt, List.flatten_append]; simp
  refine AWp.loopVc (fun s : Nat => [(0, lv 1 oi oo bss.length), (3, .int .i64 (bss.take s).flatten.length), (9, lv 1 oi oo bss.length), (10, .int .i64 bss.length), (11, .int .i64 s)])
    (fun s H' => s ≤ bss.length ∧ H' = H) (fun s => bss.length - s) 0 ?_ ?_ ?_
  · simp [upF, Fr.get, Up.refl]
  · simp
  · rintro K s H' ⟨hs, rfl⟩ hK
    by_cases hlt : s < bss.length
    · have hx : bss[s]? = some bss[s] := List.getElem?_eq_getElem hlt
      have hv : vs[s]? = some (vs[s]'(by omega)) := List.getElem?_eq_getElem _
      have c1 := hat.cell hv
      obtain ⟨i, o, he, h1, h2⟩ := hb s _ _ hv hx
      rw [he] at c1
      have hw_s : IntKind.i64.wrap ((s : Int) + 1) = (s : Int) + 1 := i64w (by omega) (by omega)
      have hsn := hsucc hx
      have h3 := hpart (s + 1)
      rw [hsn, List.length_append] at h3
      obtain ⟨T, hT⟩ : ∃ T, T = (bss.take s).flatten.length := ⟨_, rfl⟩
      rw [← hT] at h3
      have hw2 : IntKind.i64.wrap ((T : Int) + (bss[s].length : Int)) = ((T + bss[s].length : Nat) : Int) := by rw [i64w (by omega) (by omega)]; omega
      have hneg : decide (((T + bss[s].length : Nat) : Int) < 0) = false := by simp only [decide_eq_false_iff_not]; omega
      rw [← hT]
      simp (maxSteps := 1000000) only [Int.natCast_add] at hw2 hneg
      simp (maxSteps := 1000000) [go_sem, hlt, c1, hw_s, hw2, hneg]
      refine hK (s + 1) _ _ (by omega) ?_ ⟨by omega, rfl⟩
      have e : (((bss.take (s + 1)).flatten.length : Nat) : Int) = (T : Int) + (bss[s].length : Int) := by rw [hsn, List.length_append, hT]; omega
      simp only [upF, Fr.get]
      refine ⟨⟨_, rfl, Up.refl _ _⟩, ⟨_, rfl, ?_⟩, ⟨_, rfl, Up.refl _ _⟩, ⟨_, rfl, Up.refl _ _⟩, ⟨_, rfl, Up.refl _ _⟩, trivial⟩
      rw [e]; exact Up.refl _ _
    · have : s = bss.length := by omega
      subst this
      simp (maxSteps := 1000000) [go_sem, -List.length_flatten]
      refine growI_ok hsz _ ?_
      intro H1 v0 hp1 he1
      simp (maxSteps := 1000000) [go_sem]
      refine AWp.loopVc (St := Nat × Value) (fun s => [(6, s.2), (25, lv 1 oi oo bss.length), (26, .int .i64 bss.length), (27, .int .i64 s.1)])
        (fun s H2 => s.1 ≤ bss.length ∧ H' <+: H2 ∧ OE 1 H'.length H2 s.2 (ints (bss.take s.1).flatten) (bss.take s.1).flatten.length) (fun s => bss.length - s.1) (0, v0) ?_ ?_ ?_
      · simp [upF, Fr.get, Up.refl]
      · exact ⟨by simp, hp1, by simpa [ints] using he1⟩
      · rintro K2 ⟨s, v⟩ H2 ⟨hs2, hp2, he2⟩ hK2
        simp only at hs2 he2
        by_cases hlt2 : s < bss.length
        · have hx : bss[s]? = some bss[s] := List.getElem?_eq_getElem hlt2
          have hv : vs[s]? = some (vs[s]'(by omega)) := List.getElem?_eq_getElem _
          have c1 := (hat.pre hp2).cell hv
          obtain ⟨i, o, he, h1, h2⟩ := hb s _ _ hv hx
          rw [he] at c1
          have hw_s : IntKind.i64.wrap ((s : Int) + 1) = (s : Int) + 1 := i64w (by omega) (by omega)
          have hsn := hsucc hx
          have h3 := hpart (s + 1)
          rw [hsn, List.length_append] at h3
          have hsrc := (h1.pre hp2).src (e := 1) (n := bss[s].length) (s := some 1) (by rw [ints_length]; omega) (by omega) bss[s].length
          simp only [srcCells, Nat.mul_one] at hsrc
          obtain ⟨v3, H3, hap, he3, hk3, hl3⟩ := he2.append (m := bss[s].length) (news := ints bss[s]) (by omega) hp2.length_le (by rw [ints_length]; omega)
          obtain ⟨a2, rfl⟩ := he2.shape
          generalize hT : (bss.take s).flatten.length = T at *
          generalize hm : (bss[s]).length = m at c1 hsrc hap h3 h2
          simp (maxSteps := 1000000) [go_sem, hlt2, c1, hw_s, hsrc, hap]
          refine andK_intro (by omega) (hK2 (s + 1, v3) _ _ (by simp only; omega) (by simp [upF, Fr.get, Up.refl]) ⟨by simp only; omega, KeepL.prefix hp2 (Nat.le_refl _) hk3 hl3, ?_⟩)
          simp only [hsn]
          rw [← ints_append, List.length_append, hT, hm]
          rw [hm] at he3
          exact he3
        · have : s = bss.length := by omega
          subst this
          simp (maxSteps := 1000000) [go_sem]
          rw [List.take_length] at he2
          obtain ⟨w, hup, hw⟩ := he2.ints (by omega)
          exact ⟨w, hup, h _ w hp2 hw⟩

end Go.Proofs.Ytdfeoccjllljiaa
end

section
/- Difference families: the implementation's side. -/
set_option linter.all false
set_option maxRecDepth 20000
set_option maxHeartbeats 8000000
namespace Go.Proofs.Ytdfeoccjllljiaa
open Go.Ab Go.Sort

def numB (v : Int) : Bool := decide (v = 7) || decide (v = 13) || decide (v = 15)
theorem numB_iff {v : Int} : numB v = true ↔ NumB v := by simp [numB, NumB, or_assoc]
theorem isCyclic_ok {H : Heap} {v : Int} (Post : Value → Heap → Prop) (h : Post (.bool (numB v)) H) : ACalls Try.prog 104 [.int .i64 v] H Post := by
  refine acalls_vc (rs := [.tmp 2]) Try.func104 rfl rfl Try.ntmps104 rfl rfl ?_
  by_cases c1 : v = 7
  · subst c1
    simp (maxSteps := 1000000) [go_sem, undef]; exact h
  by_cases c2 : v = 13
  · subst c2
    simp (maxSteps := 1000000) [go_sem, undef]; exact h
  have e1 : (v == 7) = false := beq_eq_false_iff_ne.2 c1
  have e2 : (v == 13) = false := beq_eq_false_iff_ne.2 c2
  have e3 : (v == 15) = decide (v = 15) := rfl
  have hn : numB v = decide (v = 15) := by simp [numB, c1, c2]
  rw [hn] at h
  simp (maxSteps := 1000000) [go_sem, undef, e1, e2]
  rw [e3]; exact h

def dfK (v : Int) (k : Nat) : List Int := ((upTo 1 k).filter fun n => decide (v ≠ 15 ∨ n ≠ 5)).map fun n : Nat => (n : Int)
theorem dfK_succ {v : Int} {k : Nat} (h : 1 ≤ k) : dfK v (k + 1) = dfK v k ++ (if v ≠ 15 ∨ k ≠ 5 then [(k : Int)] else []) := by
  unfold dfK
  rw [upTo_succ h, List.filter_append, List.map_append]
  congr 1
  by_cases hc : v ≠ 15 ∨ k ≠ 5
  · rw [if_pos hc]; simp [hc]
  · rw [if_neg hc]; simp [hc]
theorem dfK_len (v : Int) (k : Nat) : (dfK v k).length ≤ k := by
  unfold dfK; rw [List.length_map]
  refine Nat.le_trans (List.length_filter_le _ _) ?_
  rw [upTo_length]; omega

theorem differences_ok {H : Heap} {v : Int} (hv : NumB v) (Post : Value → Heap → Prop) (h : ∀ H' w, H <+: H' → IntsIn H.length H'.length H' w (diffL v) → Post w H') : ACalls Try.prog 109 [.int .i64 v] H Post := by
  refine ACalls.res ?_
  refine acalls_vc (rs := [.tmp 2]) Try.func109 rfl rfl Try.ntmps109 rfl rfl ?_
  simp (maxSteps := 1000000) [go_sem]
  refine AWp.addGhost ?_
  have hbl0 := Bl.ghost 1 H
  generalize H ++ [(⟨[], false, false⟩ : Blk)] = HG at hbl0 ⊢
  obtain ⟨m, hm, hm7, hd⟩ : ∃ m : Nat, (v - 1) / 2 = m ∧ m ≤ 7 ∧ dfK v (m + 1) = diffL v := by
    rcases hv with rfl | rfl | rfl
    · exact ⟨3, rfl, by omega, by decide⟩
    · exact ⟨6, rfl, by omega, by decide⟩
    · exact ⟨7, rfl, by omega, by decide⟩
  have hvb : 7 ≤ v ∧ v ≤ 15 := by unfold NumB at hv; omega
  have wv : IntKind.i64.wrap (v - 1) = v - 1 := i64w (by omega) (by omega)
  have hq : (v - 1).tdiv 2 = m := by rw [Int.tdiv_eq_ediv_of_nonneg (by omega), hm]
  have wh : IntKind.i64.wrap (m : Int) = m := i64w (by omega) (by omega)
  refine AWp.loopVc (St := Nat × Nat × List Int) (fun s => [(0, .int .i64 v), (3, lv 1 s.2.1 0 s.2.2.length), (4, .int .i64 s.1)])
    (fun s H' => 1 ≤ s.1 ∧ s.1 ≤ m + 1 ∧ s.2.2 = dfK v s.1 ∧ Bl 1 H H' s.2.1 (ints s.2.2) s.2.2.length) (fun s => m + 1 - s.1) (1, H.length, []) ?_ ?_ ?_
  · simp [upF, Fr.get, Up.refl, Up.nil]
  · exact ⟨by simp, by simp, by simp [dfK, upTo_self], by simpa [ints] using hbl0⟩
  · rintro K ⟨s, id, acc⟩ H' ⟨h1, hs, hacc, hbl⟩ hK
    simp only at h1 hs hacc hbl
    have hla : acc.length ≤ 10 := by rw [hacc]; have := dfK_len v s; omega
    by_cases hlt : s ≤ m
    · have hw_s : IntKind.i64.wrap ((s : Int) + 1) = (s : Int) + 1 := i64w (by omega) (by omega)
      have hsn := dfK_succ (v := v) (k := s) h1
      rw [← hacc] at hsn
      have hlti : (s : Int) ≤ m := by omega
      obtain ⟨hsrc, H5, hap, hbl5⟩ := hbl.push (xs := ints [(s : Int)]) (by omega) (by simp [ints])
      simp only [ints, List.map_cons, List.map_nil] at hsrc hap
      have yes : (v ≠ 15 ∨ s ≠ 5) → ∀ fr', upF H5 [(0, .int .i64 v), (3, lv 1 (H'.length + 1) 0 (acc.length + 1)), (4, .int .i64 (s + 1))] fr' → K fr' H5 := fun hc fr' hf =>
        hK (s + 1, H'.length + 1, acc ++ [(s : Int)]) _ _ (by simp only; omega) (by simpa using hf) ⟨by simp only; omega, by simp only; omega, by simp only [hsn]; rw [if_pos hc], by
          rw [ints_append] at hbl5; simpa using hbl5⟩
      by_cases c15 : v = 15
      · have b15 : (v != 15) = false := by simp [c15]
        by_cases c5 : s = 5
        · have no : ∀ fr', upF H' [(0, .int .i64 v), (3, lv 1 id 0 acc.length), (4, .int .i64 (s + 1))] fr' → K fr' H' := fun fr' hf =>
            hK (s + 1, id, acc) _ _ (by simp only; omega) (by simpa using hf) ⟨by simp only; omega, by simp only; omega, by simp only [hsn]; rw [if_neg (by omega)]; simp, hbl⟩
          have b5 : ((s : Int) != 5) = false := by simp; omega
          simp (maxSteps := 1000000) [go_sem, undef, wv, hq, wh, hlt, hlti, b15, b5, hw_s]
          exact no _ (by simp [upF, Fr.get, Up.refl])
        · have b5 : ((s : Int) != 5) = true := by simp; omega
          simp (maxSteps := 1000000) [go_sem, undef, wv, hq, wh, hlt, hlti, b15, b5, hw_s, hsrc, hap]
          exact andK_intro (by omega) (yes (.inr c5) _ (by simp [upF, Fr.get, Up.refl]))
      · have b15 : (v != 15) = true := by simp [c15]
        simp (maxSteps := 1000000) [go_sem, undef, wv, hq, wh, hlt, hlti, b15, hw_s, hsrc, hap]
        exact andK_intro (by omega) (yes (.inl c15) _ (by simp [upF, Fr.get, Up.refl]))
    · have : s = m + 1 := by omega
      subst this
      have hge : ¬ ((m : Int) + 1 ≤ m) := by omega
      simp (maxSteps := 1000000) [go_sem, wv, hq, wh, hge]
      refine ⟨_, Up.refl _ _, h H' _ hbl.1 ?_⟩
      rw [← hd, ← hacc]
      exact OwnInts.inn (OwnInts.of_ol hbl.2.1 (by omega)) hbl.2.2

theorem isFamily_ok {H : Heap} {u : Value} {v : Int} {xs : List (List Int)} (hv : NumB v) (hu : IntssAt H u xs) (hl : xs.length + xs.flatten.length ≤ 1048576) (Post : Value → Heap → Prop) (h : ∀ H', H <+: H' → Post (.bool (decide (xs = famOf v))) H') :
    ACalls Try.prog 105 [.int .i64 v, u] H Post := by
  obtain ⟨i, o, rfl⟩ : ∃ i o, u = lv 1 i o xs.length := by obtain ⟨i, o, _, e, _⟩ := hu; exact ⟨i, o, e⟩
  have hvb : 7 ≤ v ∧ v ≤ 15 := by unfold NumB at hv; omega
  have no : ¬ IsFamI v xs → ∀ H', H <+: H' → Post (.bool false) H' := by
    intro hn H' hp
    have := h H' hp
    rwa [decide_eq_false (fun e : xs = famOf v => hn (by rw [e]; exact famI_is hv))] at this
  refine acalls_vc (rs := [.tmp 4]) Try.func105 rfl rfl Try.ntmps105 rfl rfl ?_
  simp (maxSteps := 1000000) [go_sem]
  refine AWp.loopVc (fun s : Nat => [(0, .int .i64 v), (1, lv 1 i o xs.length), (7, lv 1 i o xs.length), (8, .int .i64 xs.length), (9, .int .i64 s)])
    (fun s H' => s ≤ xs.length ∧ H <+: H' ∧ (∀ t ∈ xs.take s, tripI v t = true) ∧ ∀ (j : Nat) (x y : List Int), j + 1 < s → xs[j]? = some x → xs[j + 1]? = some y → lexC x y < 0) (fun s => xs.length - s) 0 ?_ ?_ ?_
  · simp [upF, Fr.get, Up.refl]
  · exact ⟨by omega, List.prefix_refl _, by simp, fun j x y hj => by omega⟩
  · rintro K s H' ⟨hs, hp, htr, hor⟩ hK
    by_cases hlt : s < xs.length
    · have hx : xs[s]? = some xs[s] := List.getElem?_eq_getElem hlt
      have hmem : xs[s] ∈ xs := List.getElem_mem hlt
      obtain ⟨i0, o0, ee, row⟩ := row_at hu hlt
      cases ee
      obtain ⟨i', o', c1, hrow⟩ := row hp
      have hw_s : IntKind.i64.wrap ((s : Int) + 1) = (s : Int) + 1 := i64w (by omega) (by omega)
      have tsn := List.take_succ_eq_append_getElem hlt
      obtain ⟨t, ht⟩ : ∃ t, xs[s] = t := ⟨_, rfl⟩
      rw [ht] at c1 hrow hx hmem tsn
      simp (maxSteps := 1000000) [go_sem, hlt, c1]
      refine isTriple_ok (by omega) hrow _ ?_
      cases htI : tripI v t with
      | false =>
        simp (maxSteps := 1000000) [go_sem, undef]
        exact no (fun hh => by have := hh.trip t hmem; rw [htI] at this; cases this) _ hp
      | true =>
        have htr' : ∀ r ∈ xs.take (s + 1), tripI v r = true := by
          intro r hr
          rw [tsn, List.mem_append, List.mem_singleton] at hr
          rcases hr with hr | rfl
          · exact htr r hr
          · exact htI
        by_cases hs0 : s = 0
        · subst hs0
          have w1 : IntKind.i64.wrap 1 = 1 := i64w (by omega) (by omega)
          simp (maxSteps := 1000000) [go_sem, undef, hlt, w1]
          exact hK 1 _ _ (by omega) (by simp [upF, Fr.get, Up.refl]) ⟨by omega, hp, htr', fun j x y hj => by omega⟩
        · obtain ⟨s', rfl⟩ : ∃ s', s = s' + 1 := ⟨s - 1, by omega⟩
          obtain ⟨_, _, ee, row'⟩ := row_at hu (show s' < xs.length by omega)
          cases ee
          obtain ⟨i2, o2, c2, hrow2⟩ := row' hp
          have hx' : xs[s']? = some (xs[s']'(by omega)) := List.getElem?_eq_getElem (by omega)
          obtain ⟨t', ht'⟩ : ∃ t', xs[s']'(by omega) = t' := ⟨_, rfl⟩
          rw [ht'] at c2 hrow2 hx'
          have wm : IntKind.i64.wrap ((s' : Int) + 1 - 1) = s' := i64w (by omega) (by omega) |>.trans (by omega)
          have wm' : IntKind.i64.wrap (s' : Int) = s' := i64w (by omega) (by omega)
          have hpos : (0 : Int) < (s' : Int) + 1 := by omega
          have hlt' : s' < xs.length := by omega
          have ww : IntKind.i64.wrap ((s' : Int) + 1 + 1) = (s' : Int) + 2 := i64w (by omega) (by omega) |>.trans (by omega)
          simp (maxSteps := 1000000) [go_sem, undef, hlt, hpos, wm, wm', hlt', c2]
          refine slicesCompare_ok hrow2 hrow _ ?_
          by_cases hc : lexC t' t < 0
          · have hc' : ¬ (0 ≤ lexC t' t) := by omega
            simp (maxSteps := 1000000) [go_sem, undef, hc', hw_s]
            refine hK (s' + 2) _ _ (by omega) (by simp [upF, Fr.get, Up.refl, ww]) ⟨by omega, hp, htr', fun j x y hj hjx hjy => ?_⟩
            by_cases hjs : j = s'
            · subst hjs
              rw [hx'] at hjx; rw [hx] at hjy
              cases hjx; cases hjy; exact hc
            · exact hor j x y (by omega) hjx hjy
          · have hc' : 0 ≤ lexC t' t := by omega
            simp (maxSteps := 1000000) [go_sem, undef, hc']
            exact no (fun hh => hc (hh.ord s' t' t hx' hx)) _ hp
    · have : s = xs.length := by omega
      subst this
      rw [List.take_length] at htr
      obtain ⟨_, _, vs, e1, e2, e3, e4, e5⟩ := hu.pre hp
      cases e1
      simp (maxSteps := 1000000) [go_sem]
      refine concatI_ok e3 e2 e4 (by omega) (by omega) _ ?_
      intro H1 w hp1 hw
      have hw' := hw.read
      obtain ⟨i3, o3, rfl, hw3⟩ : ∃ i3 o3, w = lv 1 i3 o3 xs.flatten.length ∧ IntsAt H1 w xs.flatten := by obtain ⟨i3, o3, e, _⟩ := id hw'; exact ⟨i3, o3, e, hw'⟩
      obtain ⟨fl, hfl⟩ : ∃ fl, xs.flatten = fl := ⟨_, rfl⟩
      rw [hfl] at hw3 hl ⊢
      simp (maxSteps := 1000000) [go_sem]
      refine values_ok _ ?_
      have hpb : H1 <+: H1 ++ [⟨[lv 1 i3 o3 fl.length], true, true⟩] := List.prefix_append _ _
      have hxb := Holds.last H1 [lv 1 i3 o3 fl.length]
      simp (maxSteps := 1000000) [go_sem]
      generalize H1 ++ [(⟨[lv 1 i3 o3 fl.length], true, true⟩ : Blk)] = H2 at hpb hxb ⊢
      refine sortedI_ok hxb (hw3.pre hpb) (by omega) _ ?_
      intro H3 z ys hp3 hz hperm hasc
      simp (maxSteps := 1000000) [go_sem]
      refine differences_ok hv _ ?_
      intro H4 dd hp4 hdd
      simp (maxSteps := 1000000) [go_sem]
      refine equalI_ok (hz.read.pre hp4) hdd.read _ ?_
      have fin := h H4 (hp.trans (hp1.trans (hpb.trans (hp3.trans hp4))))
      have he : decide (ys = diffL v) = decide (xs = famOf v) := by
        rw [decide_eq_decide]
        constructor
        · intro e
          refine famI_to hv ⟨htr, fun j x y hx hy => hor j x y ?_ hx hy, ?_⟩
          · exact (List.getElem?_eq_some_iff.1 hy).1
          · rw [hfl, ← e]; exact hperm.symm
        · intro e
          have := (show IsFamI v xs by rw [e]; exact famI_is hv).perm
          rw [hfl] at this
          exact int_uniq (hperm.trans this) hasc (diffL_asc hv)
      rw [he]
      simp (maxSteps := 1000000) [go_sem]
      exact fin

end Go.Proofs.Ytdfeoccjllljiaa
end
