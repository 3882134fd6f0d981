/- Part 11 of what the proof of the law FnExactTypesOf rests on: contracts of functions of the program, for every argument that each names; no statement of the seat is proved here. -/
import Derived.Test.YtakkmkinfeddeaaFnExactTypesOfPart10

section
/- Rows in memory; all types of a system, sorted: the tested program. -/
set_option linter.all false
set_option maxRecDepth 20000
set_option maxHeartbeats 8000000
namespace Go.Proofs.Ytakkmkinfeddeaa
open Go.Ab Go.Sort

def Apart (r t : Nat × List Int) : Prop := r.2 ≠ [] → t.2 ≠ [] → r.1 ≠ t.1
theorem apart_iff {rows : List (Nat × List Int)} : (∀ (a b : Nat) (r t : Nat × List Int), rows[a]? = some r → rows[b]? = some t → a ≠ b → r.2 ≠ [] → t.2 ≠ [] → r.1 ≠ t.1) ↔ rows.Pairwise Apart := by
  rw [List.pairwise_iff_getElem]
  constructor
  · intro h i j hi hj hij
    exact h i j _ _ (List.getElem?_eq_getElem hi) (List.getElem?_eq_getElem hj) (by omega)
  · intro h a b r t ha hb hab hr ht
    obtain ⟨ha1, rfl⟩ := List.getElem?_eq_some_iff.1 ha
    obtain ⟨hb1, rfl⟩ := List.getElem?_eq_some_iff.1 hb
    rcases Nat.lt_or_gt_of_ne hab with h1 | h1
    · exact h a b ha1 hb1 h1 hr ht
    · exact fun e => h b a hb1 ha1 h1 ht hr e.symm
theorem rows1_perm {H : Heap} {rows rows' : List (Nat × List Int)} (h : Rows1 H rows) (hp : rows'.Perm rows) : Rows1 H rows' :=
  ⟨fun r hr => h.1 r (hp.mem_iff.1 hr), apart_iff.2 ((hp.pairwise_iff (fun {a b} (h : Apart a b) (h1 : b.2 ≠ []) (h2 : a.2 ≠ []) e => h h2 h1 e.symm)).2 (apart_iff.1 h.2))⟩
/-- Other lists of the same rows, none twice. -/
theorem rows1_sub {H : Heap} {rows ts : List (Nat × List Int)} (h : Rows1 H rows) (hm : ∀ r ∈ ts, r ∈ rows) (hn : (ts.map (·.2)).Nodup) : Rows1 H ts := by
  refine ⟨fun r hr => h.1 r (hm r hr), fun a b r t ha hb hab hr ht => ?_⟩
  have hr1 := hm r (List.mem_of_getElem? ha)
  have ht1 := hm t (List.mem_of_getElem? hb)
  have hne : r.2 ≠ t.2 := by
    intro e
    obtain ⟨ha1, rfl⟩ := List.getElem?_eq_some_iff.1 ha
    obtain ⟨hb1, rfl⟩ := List.getElem?_eq_some_iff.1 hb
    have := (List.getElem_inj (i := a) (j := b) (xs := ts.map (·.2)) (h₀ := by simpa using ha1) (h₁ := by simpa using hb1) hn).1 (by simpa using e)
    exact hab this
  obtain ⟨x, hx⟩ := List.mem_iff_getElem?.1 hr1
  obtain ⟨y, hy⟩ := List.mem_iff_getElem?.1 ht1
  exact h.2 x y r t hx hy (by rintro rfl; rw [hx] at hy; cases hy; exact hne rfl) hr ht

/-- Lists of numbers in memory of this call. -/
structure RW (H0 H : Heap) (rows : List (Nat × List Int)) : Prop where
  rows1 : Rows1 H rows
  ids : ∀ r ∈ rows, r.2 ≠ [] → H0.length ≤ r.1 ∧ r.1 < H.length
theorem RW.keep {H0 H H' : Heap} {rows : List (Nat × List Int)} (h : RW H0 H rows) {S : Nat → Prop} (hs : Same S H H') (hd : ∀ r ∈ rows, r.2 ≠ [] → ¬ S r.1) : RW H0 H' rows := by
  refine ⟨⟨fun r hr => ?_, h.rows1.2⟩, fun r hr hn => ⟨(h.ids r hr hn).1, Nat.lt_of_lt_of_le (h.ids r hr hn).2 hs.1⟩⟩
  by_cases hn : r.2 = []
  · exact .inl hn
  · exact .inr (hs.get ((h.rows1.1 r hr).resolve_left hn) (hd r hr hn))
theorem RW.pre {H0 H H' : Heap} {rows : List (Nat × List Int)} (h : RW H0 H rows) (hp : H <+: H') : RW H0 H' rows := h.keep (S := fun _ => False) (Same.of_prefix hp) (fun _ _ _ h => h)
theorem RW.read {H0 H : Heap} {rows : List (Nat × List Int)} (h : RW H0 H rows) {r : Nat × List Int} (hr : r ∈ rows) (hl : r.2.length ≤ 140737488355328) : IntsAt H (rowVal r) r.2 := by
  refine ⟨r.1, 0, rfl, ?_, hl⟩
  rcases h.rows1.1 r hr with e | e
  · left; rw [e]; rfl
  · right; rw [cellsAt_of e rfl (by simp)]; simp only [ints, List.length_map, List.drop_zero]; rw [List.take_of_length_le (by simp)]
theorem RW.push {H0 H H2 : Heap} {rows : List (Nat × List Int)} {w : Value} {xs : List Int} (h : RW H0 H rows) (h0 : H0.length ≤ H.length) (hp : H <+: H2) (hw : IntsIn H.length H2.length H2 w xs) :
    ∃ rid, w = lv 1 rid 0 xs.length ∧ RW H0 H2 (rows ++ [(rid, xs)]) ∧ (xs ≠ [] → H.length ≤ rid ∧ rid < H2.length) := by
  obtain ⟨rid, ⟨e1, e2, e3⟩, e4⟩ := hw
  have h2 := h.pre hp
  refine ⟨rid, e1, ⟨⟨fun r hr => ?_, apart_iff.2 (List.pairwise_append.2 ⟨apart_iff.1 h.rows1.2, by simp, fun r hr t ht hrn htn => ?_⟩)⟩, fun r hr hn => ?_⟩, e4⟩
  · rcases List.mem_append.1 hr with hr | hr
    · exact h2.rows1.1 r hr
    · simp at hr; subst hr; exact e2
  · simp at ht; subst ht
    have a1 := (h.ids r hr hrn).2
    have a2 := (e4 htn).1
    simp only; omega
  · rcases List.mem_append.1 hr with hr | hr
    · exact h2.ids r hr hn
    · simp at hr; subst hr
      have a2 := e4 hn
      exact ⟨by have := a2.1; simp only; omega, a2.2⟩
/-- A slice of such rows. -/
structure RB (H0 H : Heap) (id : Nat) (rows : List (Nat × List Int)) : Prop where
  rw_ : RW H0 H rows
  bl : Bl 1 H0 H id (rows.map rowVal) rows.length
  ne : ∀ r ∈ rows, r.2 ≠ [] → r.1 ≠ id
theorem RB.push {H0 H H2 : Heap} {id : Nat} {rows : List (Nat × List Int)} {w : Value} {xs : List Int} (h : RB H0 H id rows) (hp : H <+: H2) (hw : IntsIn H.length H2.length H2 w xs) :
    ∃ rid, w = lv 1 rid 0 xs.length ∧ cellsAt (H2 ++ [⟨[lv 1 rid 0 xs.length], true, true⟩]) H2.length 0 1 = some [lv 1 rid 0 xs.length] ∧
      ∃ H4, appendH (H2 ++ [⟨[lv 1 rid 0 xs.length], true, true⟩]) 1 (lv 1 id 0 rows.length) 1 [lv 1 rid 0 xs.length] = some (lv 1 (H2.length + 1) 0 (rows.length + 1), H4) ∧ RB H0 H4 (H2.length + 1) (rows ++ [(rid, xs)]) := by
  have hle := hp.length_le
  have hid := h.bl.2.1.lt
  obtain ⟨rid, e1, hrw, hr4⟩ := h.rw_.push h.bl.1.length_le hp hw
  have hbl := h.bl.pre hp
  obtain ⟨hsrc, H4, hap, hol, hsame, hlen⟩ := hbl.2.1.push (xs := [lv 1 rid 0 xs.length]) (by omega) rfl
  refine ⟨rid, e1, hsrc, H4, hap, hrw.keep hsame ?_, ⟨((Same.of_prefix hbl.1).trans hsame).prefix (by have := hbl.2.2; intro j hj e; omega), ?_, by have := hbl.1.length_le; omega⟩, ?_⟩
  · intro r hr hn
    rcases List.mem_append.1 hr with hr | hr
    · exact h.ne r hr hn
    · simp at hr; subst hr
      have := hr4 hn
      simp only; omega
  · rw [List.map_append, List.length_append]; exact hol
  · intro r hr hn
    have := hrw.ids r hr hn
    omega
theorem RB.start (H : Heap) : RB H (H ++ [⟨[], false, false⟩]) H.length [] := ⟨⟨⟨by simp, by simp⟩, by simp⟩, Bl.ghost 1 H, by simp⟩
theorem RB.inn {H0 H : Heap} {id a : Nat} {rows : List (Nat × List Int)} (h : RB H0 H id rows) (ha : a ≤ H0.length) (hl : (rows.map (·.2)).flatten.length ≤ 140737488355328) (hl' : rows.length ≤ 140737488355328) : RowsIn a H.length H (lv 1 id 0 rows.length) (rows.map (·.2)) :=
  ⟨id, rows, rfl, h.bl.2.1.at, h.rw_.rows1, fun r hr hn => ⟨h.ne r hr hn, by have := h.rw_.ids r hr hn; exact ⟨by omega, this.2⟩⟩, rfl, fun _ => ⟨by have := h.bl.2.2; omega, h.bl.2.1.lt⟩, hl, hl'⟩

theorem flat_bound {xss : List (List Int)} {k n : Nat} (h : ∀ x ∈ xss, x.length ≤ k) (hn : xss.length ≤ n) : xss.flatten.length ≤ n * k := by
  have : xss.flatten.length ≤ xss.length * k := by
    clear hn
    induction xss with
    | nil => simp
    | cons x l ih =>
      have := h x List.mem_cons_self
      have := ih fun y hy => h y (List.mem_cons_of_mem _ hy)
      simp only [List.flatten_cons, List.length_append, List.length_cons, Nat.succ_mul]; omega
  exact Nat.le_trans this (Nat.mul_le_mul_right _ hn)

def toRow (r : Nat × List Int) : Row := ⟨r.1, 0, r.2⟩
theorem toRow_cells (rows : List (Nat × List Int)) : (rows.map toRow).flatMap Row.cells = rows.map rowVal := by
  induction rows with
  | nil => rfl
  | cons r l ih => simp only [List.map_cons, List.flatMap_cons, ih]; rfl
theorem ofRow {l : List Row} (h : ∀ x ∈ l, x.o = 0) : (l.map fun x => (x.id, x.xs)).map toRow = l := by
  rw [List.map_map]
  refine Eq.trans (List.map_congr_left (g := _root_.id) fun x hx => ?_) (List.map_id l)
  have := h x hx
  cases x; simp only at this; subst this; rfl

def ltR (x y : Row) : Bool := ltL x.xs y.xs
theorem swoR : SWO ltR := ⟨fun x => ltL_irrefl _, fun x y z => ltL_trans _ _ _, fun x y z => swoL.ntrans _ _ _⟩
theorem rowCmp {H0 H : Heap} {id : Nat} {rows : List (Nat × List Int)} (h : RB H0 H id rows) (hl : ∀ r ∈ rows, r.2.length ≤ 140737488355328) : Cmp Try.prog Row.val ltR 168 [] [] (fun x => ∃ r ∈ rows, x = toRow r) id H := by
  intro H' x y Post hs hx hy hP
  obtain ⟨r, hr, rfl⟩ := hx
  obtain ⟨t, ht, rfl⟩ := hy
  have h2 := h.rw_.keep hs h.ne
  exact slicesCompare_ok (h2.read hr (hl r hr)) (h2.read ht (hl t ht)) _ (hP H' _ (List.prefix_refl _) rfl)

theorem prA_step (v s : Nat) : ((upTo 0 (s + 1)).flatMap fun a => (upTo (a + 1) v).map fun b => (a, b)) = ((upTo 0 s).flatMap fun a => (upTo (a + 1) v).map fun b => (a, b)) ++ (upTo (s + 1) v).map fun b => (s, b) := by
  rw [upTo_succ (Nat.zero_le _), List.flatMap_append]; simp

theorem types_ok {H : Heap} {u : Value} {v : Nat} {bs : List Bk} (hu : BlocksAt H u bs) (hS : IsSys v bs) (hf : fullB v bs = true) (Post : Value → Heap → Prop)
    (h : ∀ H' w l, H <+: H' → l.Perm (tys1 v bs) → l.Pairwise (fun x y => ltL y x = false) → RowsIn H.length H'.length H' w l → Post w H') :
    ACalls Try.prog 147 [sysV v u] H Post := by
  have hv := hS.1
  refine ACalls.res ?_
  refine acalls_vc (rs := [.tmp 2]) Try.func147 rfl rfl Try.ntmps147 rfl rfl ?_
  simp (maxSteps := 1000000) [go_sem, sysV, hu.one]
  have hp0 : H <+: H ++ [⟨[.int .i64 v, u], true, true⟩] := List.prefix_append _ _
  have hx0 := Holds.last H [.int .i64 v, u]
  generalize H ++ [(⟨[.int .i64 v, u], true, true⟩ : Blk)] = H0 at hp0 hx0 ⊢
  refine sysGrid_ok (hu.pre hp0) hS.good15 hS.2.2.2 _ ?_
  intro H1 gid gs hp1 _ hga hgo
  obtain ⟨d0, d1, d2⟩ := (hx0.pre hp1).sys
  simp (maxSteps := 1000000) [go_sem, d0, d1]
  refine AWp.addGhost ?_
  refine AWp.loopVc (St := Nat × Nat × List (Nat × List Int)) (fun s => [(1, .pointer (some ⟨H.length, 0, none⟩)), (3, .pointer (some ⟨gid, 0, none⟩)), (4, lv 1 s.2.1 0 s.2.2.length), (10, .int .i64 v), (11, .int .i64 s.1)])
    (fun s H' => s.1 ≤ v ∧ RB H1 H' s.2.1 s.2.2 ∧ s.2.2.map (·.2) = ((upTo 0 s.1).flatMap fun a => (upTo (a + 1) v).map fun b => (a, b)).map (typ v bs) ∧ s.2.2.length ≤ s.1 * 15) (fun s => v - s.1) (0, H1.length, []) ?_ ?_ ?_
  · simp [upF, Fr.get, Up.refl, Up.nil]
  · exact ⟨by simp, RB.start H1, by simp [upTo], by simp⟩
  · rintro K ⟨s, id, rows⟩ H' ⟨hs, hrb, hrows, hrl⟩ hK
    simp only at hs hrb hrows hrl
    by_cases hlt : s < v
    · have hw_s : IntKind.i64.wrap ((s : Int) + 1) = (s : Int) + 1 := i64w (by omega) (by omega)
      have hlt' : (s : Int) < v := by omega
      simp (maxSteps := 1000000) [go_sem, hlt, hw_s]
      refine AWp.loopVc (St := Nat × Nat × List (Nat × List Int)) (fun t => [(1, .pointer (some ⟨H.length, 0, none⟩)), (3, .pointer (some ⟨gid, 0, none⟩)), (4, lv 1 t.2.1 0 t.2.2.length), (5, .int .i64 s), (6, .int .i64 t.1), (10, .int .i64 v), (11, .int .i64 s)])
        (fun t H' => s + 1 ≤ t.1 ∧ t.1 ≤ v ∧ RB H1 H' t.2.1 t.2.2 ∧ t.2.2.map (·.2) = ((upTo 0 s).flatMap fun a => (upTo (a + 1) v).map fun b => (a, b)).map (typ v bs) ++ ((upTo (s + 1) t.1).map fun b => (s, b)).map (typ v bs) ∧ t.2.2.length + s + 1 ≤ s * 15 + t.1) (fun t => v - t.1) (s + 1, id, rows) ?_ ?_ ?_
      · simp [upF, Fr.get, Up.refl]
      · refine ⟨by simp, by simp only; omega, hrb, ?_, by simp only; omega⟩
        simp only; rw [upTo_self (Nat.le_refl _), hrows]; simp
      · rintro K2 ⟨t, id, rows⟩ H' ⟨ht0, ht, hrb, hrows, hrl⟩ hK2
        simp only at ht0 ht hrb hrows hrl
        obtain ⟨d0, d1, d2⟩ := (hx0.pre (hp1.trans hrb.bl.1)).sys
        by_cases hlt2 : t < v
        · have hw_t : IntKind.i64.wrap ((t : Int) + 1) = (t : Int) + 1 := i64w (by omega) (by omega)
          have hlt2' : (t : Int) < v := by omega
          simp (maxSteps := 1000000) [go_sem, hlt2, d0, d1, d2]
          refine typeOf_ok hu.one hS hf (hga.keep hrb.bl.1) hgo (by omega) (by omega) (by omega) _ ?_
          intro H2 w hp2 hw
          obtain ⟨rid, rfl, hsrc, H4, hap, hrb4⟩ := hrb.push hp2 hw
          have hrows4 : (rows ++ [(rid, descI (cycLens v s t bs))]).map (·.2) = ((upTo 0 s).flatMap fun a => (upTo (a + 1) v).map fun b => (a, b)).map (typ v bs) ++ ((upTo (s + 1) (t + 1)).map fun b => (s, b)).map (typ v bs) := by
            rw [upTo_succ (by omega), List.map_append, hrows]
            simp [typ]
          generalize descI (cycLens v s t bs) = xs at *
          simp (maxSteps := 1000000) [go_sem, hsrc, hap, hw_t]
          exact andK_intro (by omega) (hK2 (t + 1, H2.length + 1, rows ++ [(rid, xs)]) _ _ (by simp only; omega) (by simp [upF, Fr.get, Up.refl]) ⟨by simp only; omega, by simp only; omega, hrb4, hrows4, by simp; omega⟩)
        · have : t = v := by omega
          subst this
          simp (maxSteps := 1000000) [go_sem, d0, d1, hw_s]
          refine hK (s + 1, id, rows) _ _ (by simp only; omega) (by simp [upF, Fr.get, Up.refl]) ⟨by simp only; omega, hrb, ?_, by simp only; omega⟩
          simp only; rw [hrows, prA_step, List.map_append]
    · have : s = v := by omega
      subst this
      have hrows : rows.map (·.2) = tys1 s bs := hrows
      have hlen : ∀ r ∈ rows, r.2.length ≤ s := by
        intro r hr
        have : r.2 ∈ tys1 s bs := by rw [← hrows]; exact List.mem_map_of_mem hr
        obtain ⟨p, _, e⟩ := List.mem_map.1 this
        rw [← e]; exact typ_length _ _ _
      have hol := hrb.bl.2.1
      rw [← toRow_cells] at hol
      simp (maxSteps := 1000000) [go_sem]
      refine sortFuncS_ok (fs := []) (cs := []) (Q := fun x => ∃ r ∈ rows, x = toRow r) (l := rows.map toRow) swoR hol (by simp) (by omega) (fun x hx => by obtain ⟨r, hr, rfl⟩ := List.mem_map.1 hx; exact ⟨r, hr, rfl⟩) (rowCmp hrb (fun r hr => by have := hlen r hr; omega)) _ ?_
      intro H2 l2 hs2 hol2 hperm hsorted
      have ho : ∀ x ∈ l2, x.o = 0 := by
        intro x hx
        obtain ⟨r, _, rfl⟩ := List.mem_map.1 (hperm.mem_iff.1 hx)
        rfl
      obtain ⟨rows2, hr2⟩ : ∃ r, r = l2.map fun x => (x.id, x.xs) := ⟨_, rfl⟩
      have el2 : l2 = rows2.map toRow := by rw [hr2, ofRow ho]
      have hperm2 : rows2.Perm rows := by
        have := hperm.map fun x : Row => (x.id, x.xs)
        rw [← hr2, List.map_map] at this
        exact this.trans (List.Perm.of_eq (Eq.trans (List.map_congr_left (g := _root_.id) fun r _ => rfl) (List.map_id rows)))
      have hl2 := hperm2.length_eq
      rw [el2, toRow_cells, ← hl2] at hol2
      have hrw2 : RW H1 H2 rows2 := by
        have h1 := hrb.rw_.keep hs2 hrb.ne
        exact ⟨rows1_perm h1.rows1 hperm2, fun r hr => h1.ids r (hperm2.mem_iff.1 hr)⟩
      have hrb2 : RB H1 H2 id rows2 := ⟨hrw2, ⟨((Same.of_prefix hrb.bl.1).trans hs2).prefix (by have := hrb.bl.2.2; intro j hj e; omega), hol2, hrb.bl.2.2⟩, fun r hr => hrb.ne r (hperm2.mem_iff.1 hr)⟩
      have hpp := hp0.trans hp1
      have e2 : (rows2.map (·.2)).Perm (tys1 s bs) := by rw [← hrows]; exact hperm2.map _
      have hfb : (rows2.map (·.2)).flatten.length ≤ 140737488355328 := by
        have hb := flat_bound (xss := rows2.map (·.2)) (k := 15) (n := 225) (fun x hx => by
          obtain ⟨r, hr, rfl⟩ := List.mem_map.1 hx
          have := hlen r (hperm2.mem_iff.1 hr)
          omega) (by rw [List.length_map, hl2]; omega)
        omega
      have hin := hrb2.inn (a := H.length) hpp.length_le hfb (by omega)
      rw [hl2] at hin
      have fin := h H2 _ _ (hpp.trans hrb2.bl.1) e2 (by rw [List.pairwise_map]; rw [el2, List.pairwise_map] at hsorted; exact hsorted) hin
      simp (maxSteps := 1000000) [go_sem]
      exact ⟨_, Up.refl _ _, fin⟩

end Go.Proofs.Ytakkmkinfeddeaa
end

section
/- All types of a system: the tested program's TypesOf. -/
set_option linter.all false
set_option maxRecDepth 20000
set_option maxHeartbeats 8000000
namespace Go.Proofs.Ytakkmkinfeddeaa
open Go.Ab Go.Sort

theorem cntL_length (ts l : List (List Int)) : (cntL ts l).length = ts.length := by simp [cntL]
theorem cntL_new {ts m : List (List Int)} {x : List Int} (hts : ∀ t ∈ ts, t ∈ m) (hx : x ∉ m) : cntL (ts ++ [x]) (m ++ [x]) = cntL ts m ++ [1] := by
  simp only [cntL, List.map_append, List.map_cons, List.map_nil]
  congr 1
  · refine List.map_congr_left fun t ht => ?_
    have hne : t ≠ x := by rintro rfl; exact hx (hts _ ht)
    rw [List.count_append, List.count_singleton, if_neg (by simpa using fun e : x = t => hne e.symm)]; simp
  · rw [List.count_append, List.count_singleton_self, List.count_eq_zero.2 hx]; rfl
theorem cntL_more {ts m : List (List Int)} {x : List Int} {k : Nat} (hA : ts.Nodup) (hk : k < ts.length) (hx : ts[k] = x) : cntL ts (m ++ [x]) = (cntL ts m).set k ((m.count x : Int) + 1) := by
  apply List.ext_getElem
  · simp [cntL_length]
  · intro i h1 h2
    rw [List.getElem_set]
    simp only [cntL, List.getElem_map]
    have hi : i < ts.length := by simpa [cntL_length] using h1
    split
    · rename_i e; subst e
      rw [hx, List.count_append, List.count_singleton_self]; simp
    · rename_i e
      have hne : ts[i] ≠ x := by
        intro e2
        rw [← hx] at e2
        exact e ((List.getElem_inj hA).1 e2).symm
      rw [List.count_append, List.count_singleton, if_neg (by simpa using fun e : x = ts[i] => hne e.symm)]; simp
theorem AscL.nodup {l : List (List Int)} (h : AscL l) : l.Nodup := List.Pairwise.imp (fun {a b} e => by rintro rfl; rw [ltL_irrefl] at e; simp at e) h

theorem implTypesOf_ok {H : Heap} {u : Value} {p : Int} {bs : List Bk} (hu : BlocksAt H u bs) (hl : bs.length ≤ 1048576) (Post : Value → Heap → Prop)
    (h : ∀ H' w k c, H <+: H' → H.length ≤ c → c ≤ H'.length → RowsIn H.length c H' w (rTys p bs).1 → IntsIn c H'.length H' k (rTys p bs).2.1 → Post (.tuple #[w, k, .int .i64 (rTys p bs).2.2]) H') :
    ACalls Try.prog 76 [sysV p u] H Post := by
  refine ACalls.res ?_
  refine acalls_vc (rs := [.tmp 2, .tmp 3, .tmp 4]) Try.func76 rfl rfl Try.ntmps76 rfl rfl ?_
  simp (maxSteps := 1000000) [go_sem, sysV, hu.one]
  have hp0 : H <+: H ++ [⟨[.int .i64 p, u], true, true⟩] := List.prefix_append _ _
  have hx0 := Holds.last H [.int .i64 p, u]
  generalize H ++ [(⟨[.int .i64 p, u], true, true⟩ : Blk)] = H0 at hp0 hx0 ⊢
  have bad : ∀ (H' : Heap) (c : Int), H <+: H' → rTys p bs = ([], [], c) → ∃ v', Up H' (.tuple #[.slice none 0 0, .slice none 0 0, .int .i64 c]) v' ∧ Post v' H' := by
    intro H' c hp hr
    refine ⟨_, Up.tuple (ys := #[lv 1 0 0 0, lv 1 0 0 0, .int .i64 c]) ⟨Up.nil _ _ _ _, Up.nil _ _ _ _, Up.refl _ _, trivial⟩, ?_⟩
    have := h H' (lv 1 0 0 0) (lv 1 0 0 0) H.length hp (Nat.le_refl _) hp.length_le (by rw [hr]; exact RowsIn.nil _ _ _) (by rw [hr]; exact IntsIn.nil _ _ _)
    rwa [hr] at this
  refine implIsSystem_ok (hu.pre hp0) _ ?_
  intro H1 b hp1 hb
  have hb := sysB_eq hb
  subst hb
  obtain ⟨d0, d1, d2⟩ := (hx0.pre hp1).sys
  cases hsb : sysB p bs with
  | false =>
    simp (maxSteps := 1000000) [go_sem]
    exact bad H1 1 (hp0.trans hp1) (by simp [rTys, hsb])
  | true =>
    have hS := sysB_iff.1 hsb
    have hp := hS.1
    simp (maxSteps := 1000000) [go_sem, d0]
    refine fullCode_ok (hu.pre (hp0.trans hp1)) hp hl _ ?_
    intro H2 hp2
    obtain ⟨d0, d1, d2⟩ := (hx0.pre (hp1.trans hp2)).sys
    cases hf : fullB p bs with
    | false =>
      simp (maxSteps := 1000000) [go_sem]
      exact bad H2 5 (hp0.trans (hp1.trans hp2)) (by simp [rTys, hsb, hf])
    | true =>
      obtain ⟨v, rfl⟩ : ∃ n : Nat, p = n := ⟨p.toNat, by omega⟩
      have hv : v < 16 := by omega
      simp (maxSteps := 1000000) [go_sem, d0]
      refine types_ok (hu.pre (hp0.trans (hp1.trans hp2))) hS hf _ ?_
      intro H3 w l hp3 hperm hsorted hrows
      have hll : l.length ≤ 105 := by rw [hperm.length_eq]; exact tys1_length hv
      have hr : rTys v bs = (onceL l, cntL (onceL l) l, 0) := by simp [rTys, hsb, hf, once_perm hperm, cntL_perm hperm]
      have hxl : ∀ x ∈ l, x.length ≤ 15 := by
        intro x hx
        obtain ⟨q, _, rfl⟩ := List.mem_map.1 (hperm.mem_iff.1 hx)
        have := typ_length v bs q
        omega
      obtain ⟨id, rows, rfl, hat, hr1, hne, hrl, hsp, _, _⟩ := hrows
      have hpre : H <+: H3 := hp0.trans (hp1.trans (hp2.trans hp3))
      have h23 := (hp0.trans (hp1.trans hp2)).length_le
      have hrlen : rows.length = l.length := by rw [← hrl, List.length_map]
      have hRW : RW H2 H3 rows := ⟨hr1, fun r hr hn => (hne r hr hn).2⟩
      have hxr : ∀ r ∈ rows, r.2.length ≤ 15 := fun r hr => hxl _ (by rw [← hrl]; exact List.mem_map_of_mem hr)
      simp (maxSteps := 1000000) [go_sem]
      refine AWp.addGhost (AWp.addGhost ?_)
      have bl1 : Bl 1 H3 ((H3 ++ [⟨[], false, false⟩]) ++ [⟨[], false, false⟩]) H3.length [] 0 := (Bl.ghost 1 H3).pre (List.prefix_append _ _)
      have bl2 : Bl 1 H3 ((H3 ++ [⟨[], false, false⟩]) ++ [⟨[], false, false⟩]) (H3.length + 1) [] 0 := by
        have := Bl.ghost 1 (H3 ++ [⟨[], false, false⟩])
        refine ⟨(List.prefix_append _ _).trans this.1, ?_, by omega⟩
        simpa using this.2.1
      generalize (H3 ++ [(⟨[], false, false⟩ : Blk)]) ++ [⟨[], false, false⟩] = HX at bl1 bl2 ⊢
      refine AWp.loopVc (St := Nat × Nat × Nat × List (Nat × List Int)) (fun s => [(6, lv 1 s.2.1 0 s.2.2.2.length), (7, lv 1 s.2.2.1 0 s.2.2.2.length), (20, lv 1 id 0 rows.length), (21, .int .i64 rows.length), (22, .int .i64 s.1)])
        (fun s H' => s.1 ≤ rows.length ∧ s.2.2.2.length ≤ s.1 ∧ Bl 1 H3 H' s.2.1 (s.2.2.2.map rowVal) s.2.2.2.length ∧ Bl 1 H3 H' s.2.2.1 (ints (cntL (s.2.2.2.map (·.2)) (l.take s.1))) s.2.2.2.length ∧ s.2.1 < s.2.2.1 ∧
          (∀ r ∈ s.2.2.2, r ∈ rows) ∧ AscL (s.2.2.2.map (·.2)) ∧ ∀ x, x ∈ s.2.2.2.map (·.2) ↔ x ∈ l.take s.1) (fun s => rows.length - s.1) (0, H3.length, H3.length + 1, []) ?_ ?_ ?_
      · simp [upF, Fr.get, Up.refl, Up.nil]
      · exact ⟨by simp, by simp, bl1, bl2, by simp only; omega, by simp, List.Pairwise.nil, by simp⟩
      · rintro K ⟨s, tid, cid, ts⟩ H' ⟨hs, htl, hbt, hbc, htc, hmem, hasc, hin⟩ hK
        simp only at hs htl hbt hbc htc hmem hasc hin
        by_cases hlt : s < rows.length
        · have hw_s : IntKind.i64.wrap ((s : Int) + 1) = (s : Int) + 1 := i64w (by omega) (by omega)
          have hls : s < l.length := by omega
          have hes : rows[s].2 = l[s] := by simp only [← hrl, List.getElem_map]
          have hmr : rows[s] ∈ rows := List.getElem_mem hlt
          have cr : ∀ {H'' : Heap}, H3 <+: H'' → cellsAt H'' id s 1 = some [lv 1 rows[s].1 0 rows[s].2.length] := by
            intro H'' hpx
            have := (hat.pre hpx).cell (k := s) (v := rowVal rows[s]) (by simp [hlt])
            simpa [rowVal] using this
          have htk : l.take (s + 1) = l.take s ++ [l[s]] := List.take_succ_eq_append_getElem hls
          have hrw := hRW.pre hbt.1
          have rd : IntsAt H' (lv 1 rows[s].1 0 rows[s].2.length) rows[s].2 := hrw.read hmr (by have := hxr _ hmr; omega)
          have push : (∀ (hn : ts.map (·.2) ≠ []), (ts.map (·.2)).getLast hn ≠ l[s]) → ∃ H5 H6,
              cellsAt (H' ++ [⟨[lv 1 rows[s].1 0 rows[s].2.length], true, true⟩]) H'.length 0 1 = some [lv 1 rows[s].1 0 rows[s].2.length] ∧
              appendH (H' ++ [⟨[lv 1 rows[s].1 0 rows[s].2.length], true, true⟩]) 1 (lv 1 tid 0 ts.length) 1 [lv 1 rows[s].1 0 rows[s].2.length] = some (lv 1 (H'.length + 1) 0 (ts.length + 1), H5) ∧
              H5.length = H'.length + 2 ∧ cellsAt (H5 ++ [⟨[.int .i64 1], true, true⟩]) (H'.length + 2) 0 1 = some [.int .i64 1] ∧
              appendH (H5 ++ [⟨[.int .i64 1], true, true⟩]) 1 (lv 1 cid 0 ts.length) 1 [.int .i64 1] = some (lv 1 (H'.length + 3) 0 (ts.length + 1), H6) ∧
              Bl 1 H3 H6 (H'.length + 1) ((ts ++ [rows[s]]).map rowVal) (ts.length + 1) ∧ Bl 1 H3 H6 (H'.length + 3) (ints (cntL ((ts ++ [rows[s]]).map (·.2)) (l.take (s + 1)))) (ts.length + 1) ∧
              AscL ((ts ++ [rows[s]]).map (·.2)) ∧ ∀ x, x ∈ (ts ++ [rows[s]]).map (·.2) ↔ x ∈ l.take (s + 1) := by
            intro hlast
            obtain ⟨hnew, hasc2⟩ := run_end hsorted hls hasc hin hlast
            have hci := hbc.2.1.lt
            obtain ⟨hsrc, H5, hap, hol5, hsame5, hlen5⟩ := hbt.2.1.push (xs := [lv 1 rows[s].1 0 rows[s].2.length]) (by omega) rfl
            have hbc5 := hbc.2.1.keep hsame5 (by omega)
            obtain ⟨hsrc6, H6, hap6, hol6, hsame6, hlen6⟩ := hbc5.push (xs := [.int .i64 1]) (by omega) rfl
            rw [hlen5] at hsrc6 hap6 hol6 hlen6
            have hp5 : H3 <+: H5 := ((Same.of_prefix hbt.1).trans hsame5).prefix (by have := hbt.2.2; intro j hj e; omega)
            have hp6 : H3 <+: H6 := ((Same.of_prefix hp5).trans hsame6).prefix (by have := hbc.2.2; intro j hj e; omega)
            have hle := hbt.1.length_le
            refine ⟨H5, H6, hsrc, hap, hlen5, hsrc6, hap6, ⟨hp6, ?_, by omega⟩, ⟨hp6, ?_, by omega⟩, ?_, ?_⟩
            · have := hol5.keep hsame6 (by omega)
              simpa [rowVal] using this
            · rw [List.map_append, List.map_cons, List.map_nil, hes, htk, cntL_new (fun t ht => (hin t).1 ht) hnew, ← ints_append]
              exact hol6
            · rw [List.map_append, List.map_cons, List.map_nil, hes]; exact hasc2
            · intro x
              rw [List.map_append, List.map_cons, List.map_nil, hes, htk, List.mem_append, List.mem_append, hin]
          by_cases h0 : ts = []
          · subst h0
            obtain ⟨H5, H6, q1, q2, q3, q4, q5, q6, q7, q8, q9⟩ := push (by simp)
            simp only [List.length_nil] at q2 q5
            have crs := cr hbt.1
            generalize hrs : rows[s] = r at *
            simp (maxSteps := 1000000) [go_sem, undef, hlt, crs, q1, q2, q3, q4, q5, hw_s]
            exact hK (s + 1, H'.length + 1, H'.length + 3, [r]) _ _ (by simp only; omega) (by simp [upF, Fr.get, Up.refl]) ⟨by simp only; omega, by simp, q6, q7, by simp only; omega, by simp; exact hmr, q8, q9⟩
          · obtain ⟨n, hn⟩ : ∃ n, ts.length = n + 1 := ⟨ts.length - 1, by have := List.length_pos_iff.2 h0; omega⟩
            have hnl : n < ts.length := by omega
            have hlast : ∀ (hne : ts.map (·.2) ≠ []), (ts.map (·.2)).getLast hne = ts[n].2 := by
              intro hne
              rw [List.getLast_eq_getElem, List.getElem_map]
              congr 2
              rw [List.length_map]; omega
            have hmt := hmem _ (List.getElem_mem hnl)
            have rt : IntsAt H' (lv 1 ts[n].1 0 ts[n].2.length) ts[n].2 := hrw.read hmt (by have := hxr _ hmt; omega)
            have ct : cellsAt H' tid n 1 = some [lv 1 ts[n].1 0 ts[n].2.length] := by
              have := hbt.2.1.at.cell (k := n) (v := rowVal ts[n]) (by simp [hnl])
              simpa [rowVal] using this
            have crs := cr hbt.1
            have hwn : IntKind.i64.wrap ((n : Int)) = (n : Int) := i64w (by omega) (by omega)
            by_cases he : ts[n].2 = rows[s].2
            · have hcn : (cntL (ts.map (·.2)) (l.take s)).length = n + 1 := by rw [cntL_length, List.length_map, hn]
              have hmore : cntL (ts.map (·.2)) (l.take (s + 1)) = (cntL (ts.map (·.2)) (l.take s)).set n (((l.take s).count l[s] : Nat) + 1) := by
                rw [htk]
                exact cntL_more hasc.nodup (by simpa using hnl) (by rw [List.getElem_map, he, hes])
              have hbl := hbc.2.1.2.resolve_left (by rintro ⟨e, _⟩; omega)
              have hcv : (cntL (ts.map (·.2)) (l.take s))[n]? = some ((l.take s).count l[s] : Int) := by
                rw [List.getElem?_eq_getElem (by omega)]
                simp only [cntL, List.getElem_map, he, hes]
              have cc : cellsAt H' cid n 1 = some [.int .i64 ((l.take s).count l[s] : Int)] := hbc.2.1.at.cell (k := n) (by simp only [ints, List.getElem?_map, hcv]; rfl) |> fun h => by simpa using h
              have hcb : (l.take s).count l[s] ≤ s := Nat.le_trans List.count_le_length (by simp; omega)
              have hin2 : ∀ x, x ∈ ts.map (·.2) ↔ x ∈ l.take (s + 1) := by
                intro x
                rw [htk, List.mem_append, List.mem_singleton, ← hin]
                refine ⟨.inl, fun h => h.elim (fun h => h) ?_⟩
                rintro rfl
                rw [← hes, ← he]; exact List.mem_map_of_mem (List.getElem_mem hnl)
              have st := storeI (y := (((l.take s).count l[s] : Nat) : Int) + 1) hbl (show n < _ by omega)
              rw [← hmore] at st
              have hsame : Same (fun j => j = cid) H' (H'.set cid ⟨ints (cntL (ts.map (·.2)) (l.take (s + 1))), true, true⟩) := same_set
              have hlt3 := (List.getElem?_eq_some_iff.1 hbl).1
              have nb : Bl 1 H3 (H'.set cid ⟨ints (cntL (ts.map (·.2)) (l.take (s + 1))), true, true⟩) tid (ts.map rowVal) ts.length := ⟨((Same.of_prefix hbt.1).trans hsame).prefix (by have := hbc.2.2; intro j hj e; omega), hbt.2.1.keep hsame (by omega), hbt.2.2⟩
              have nc : Bl 1 H3 (H'.set cid ⟨ints (cntL (ts.map (·.2)) (l.take (s + 1))), true, true⟩) cid (ints (cntL (ts.map (·.2)) (l.take (s + 1)))) ts.length := ⟨nb.1, ⟨by rw [ints_length, cntL_length, List.length_map]; omega, .inr (List.getElem?_set_self hlt3)⟩, hbc.2.2⟩
              generalize (H'.set cid ⟨ints (cntL (ts.map (·.2)) (l.take (s + 1))), true, true⟩) = H5 at *
              generalize (l.take s).count l[s] = c at *
              have hw_c : IntKind.i64.wrap ((c : Int) + 1) = (c : Int) + 1 := i64w (by omega) (by omega)
              generalize ts[n] = q at *
              generalize rows[s] = r at *
              rw [hn] at nb nc
              simp (maxSteps := 1000000) [go_sem, undef, hlt, hn, crs, ct, hwn]
              refine andK_intro (by omega) (equalI_ok rt rd _ ?_)
              rw [decide_eq_true he]
              simp (maxSteps := 1000000) [go_sem, undef, hlt, hn, crs, ct, cc, hwn, hw_c, st, hw_s]
              exact andK_intro (by omega) (andK_intro (by omega) (hK (s + 1, tid, cid, ts) _ _ (by simp only; omega) (by simp [upF, Fr.get, Up.refl, hn]) ⟨by simp only; omega, by simp only; omega, by rw [hn]; exact nb, by rw [hn]; exact nc, htc, hmem, hasc, hin2⟩))
            · obtain ⟨H5, H6, q1, q2, q3, q4, q5, q6, q7, q8, q9⟩ := push (fun hne => by rw [hlast hne, ← hes]; exact he)
              rw [hn] at q2 q5 q6 q7
              generalize ts[n] = q at *
              generalize hrs : rows[s] = r at *
              simp (maxSteps := 1000000) [go_sem, undef, hlt, hn, crs, ct, hwn]
              refine andK_intro (by omega) (equalI_ok rt rd _ ?_)
              rw [decide_eq_false he]
              simp (maxSteps := 1000000) [go_sem, undef, hlt, hn, q1, q2, q3, q4, q5, hw_s]
              have hmem2 : ∀ x ∈ ts ++ [r], x ∈ rows := by
                intro x hx
                rcases List.mem_append.1 hx with hx | hx
                · exact hmem x hx
                · simp at hx; subst hx; exact hmr
              exact andK_intro (by omega) (andK_intro (by omega) (hK (s + 1, H'.length + 1, H'.length + 3, ts ++ [r]) _ _ (by simp only; omega) (by simp [upF, Fr.get, Up.refl, hn]) ⟨by simp only; omega, by simp; omega, by simpa [hn] using q6, by simpa [hn] using q7, by simp only; omega, hmem2, q8, q9⟩))
        · have : s = rows.length := by omega
          subst this
          rw [List.take_of_length_le (by omega)] at hbc hin
          have eo : ts.map (·.2) = onceL l := once_uniq hasc hin
          rw [eo] at hbc
          have htlen : ts.length = (onceL l).length := by rw [← eo, List.length_map]
          have hmt : ∀ r ∈ ts, r.2.length ≤ 15 := fun r hr => hxr _ (hmem r hr)
          have htid := hbt.2.1.lt
          have hcid := hbc.2.1.lt
          have hfl := flat_bound (xss := ts.map (·.2)) (k := 15) (n := 225) (fun x hx => by
            obtain ⟨r, hr, rfl⟩ := List.mem_map.1 hx
            exact hmt r hr) (by rw [List.length_map]; omega)
          have hRi : RowsIn H.length (tid + 1) H' (lv 1 tid 0 ts.length) (onceL l) := by
            refine ⟨tid, ts, rfl, hbt.2.1.at, rows1_sub (hRW.pre hbt.1).rows1 hmem hasc.nodup, fun r hr hn => ?_, eo, fun _ => ⟨by have := hbt.2.2; have := hpre.length_le; omega, by omega⟩, by rw [← eo]; omega, by omega⟩
            have := hRW.ids r (hmem r hr) hn
            have := hbt.2.2
            exact ⟨by omega, by omega, by omega⟩
          have hIi : IntsIn (tid + 1) H'.length H' (lv 1 cid 0 ts.length) (cntL (onceL l) l) := by
            refine ⟨cid, ⟨by rw [cntL_length, htlen], ?_, by rw [cntL_length, ← htlen]; omega⟩, fun _ => ⟨by omega, hcid⟩⟩
            rcases hbc.2.1.2 with ⟨e, _⟩ | e
            · left; exact List.eq_nil_of_length_eq_zero (by rw [cntL_length, ← htlen]; exact e)
            · right; exact e
          have fin := h H' _ _ (tid + 1) (hpre.trans hbt.1) (by have := hbt.2.2; have := hpre.length_le; omega) (by omega) (by rw [hr]; exact hRi) (by rw [hr]; exact hIi)
          rw [hr] at fin
          simp (maxSteps := 1000000) [go_sem]
          exact ⟨_, Up.refl _ _, fin⟩

end Go.Proofs.Ytakkmkinfeddeaa
end

section
/- A list put among others: the specification's l03Put. -/
set_option linter.all false
set_option maxRecDepth 20000
set_option maxHeartbeats 8000000
namespace Go.Proofs.Ytakkmkinfeddeaa
open Go.Ab Go.Sort

theorem storeV {H : Heap} {id : Nat} {cs : List Value} {s : Nat} {y : Value} (hb : H[id]? = some ⟨cs, true, true⟩) (hs : s < cs.length) (hy : y.oneCell' = true) : storeAt H id s [y] = some (H.set id ⟨cs.set s y, true, true⟩) := by
  rw [storeAt_of hb rfl rfl (by simp; omega) (by simp [hy])]
  congr 3
  rw [List.set_eq_take_append_cons_drop, if_pos hs]
  simp [over]
theorem rowVal_one (r : Nat × List Int) : (rowVal r).oneCell' = true := rfl

theorem l03Put_ok {H : Heap} {tid : Nat} {ts : List (Nat × List Int)} {r : Nat × List Int} (ho : OL 1 H tid (ts.map rowVal) ts.length) (hA : AscL (ts.map (·.2))) (hr : IntsAt H (rowVal r) r.2) (hts : ∀ t ∈ ts, IntsAt H (rowVal t) t.2) (hl : ts.length ≤ 1048576) (Post : Value → Heap → Prop)
    (h : ∀ (H' : Heap) (tid' : Nat) (ts' : List (Nat × List Int)), Same (fun j => j = tid) H H' → (tid' = tid ∨ H.length < tid') → OL 1 H' tid' (ts'.map rowVal) ts'.length → AscL (ts'.map (·.2)) → (∀ x ∈ ts', x = r ∨ x ∈ ts) →
      (∀ x, x ∈ ts'.map (·.2) ↔ x = r.2 ∨ x ∈ ts.map (·.2)) → ts'.length ≤ ts.length + 1 → Post (lv 1 tid' 0 ts'.length) H') :
    ACalls Try.prog 191 [lv 1 tid 0 ts.length, rowVal r] H Post := by
  obtain ⟨n, hn⟩ : ∃ n, n = ts.length := ⟨_, rfl⟩
  have hcell : ∀ q, (hq : q < ts.length) → cellsAt H tid q 1 = some [lv 1 ts[q].1 0 ts[q].2.length] := by
    intro q hq
    have := ho.at.cell (k := q) (v := rowVal ts[q]) (by simp [hq])
    simpa [rowVal] using this
  refine ACalls.res ?_
  refine acalls_vc (rs := [.tmp 4]) Try.func191 rfl rfl Try.ntmps191 rfl rfl ?_
  simp (maxSteps := 1000000) [go_sem, rowVal]
  rw [← hn]
  refine AWp.loopCut (St := Nat) (St' := Nat) 0 (fun s => [(0, lv 1 tid 0 n), (1, lv 1 r.1 0 r.2.length), (5, .int .i64 s)])
    (fun s H' => s ≤ n ∧ H' = H ∧ ∀ j (hj : j < (ts.map (·.2)).length), s ≤ j → ltL r.2 (ts.map (·.2))[j] = true) (fun s => s) n
    (fun s => [(0, lv 1 tid 0 n), (1, lv 1 r.1 0 r.2.length), (5, .int .i64 s)])
    (fun s H' => H' = H ∧ PutAt (ts.map (·.2)) r.2 s) ?_ ?_ ?_ ?_
  · simp [upF, Fr.get, Up.refl]
  · exact ⟨Nat.le_refl _, rfl, fun j hj hs => by rw [List.length_map] at hj; omega⟩
  · rintro K KE s H' ⟨hs, rfl, hgt⟩ hK hKE
    cases s with
    | zero =>
      simp (maxSteps := 1000000) [go_sem, undef]
      exact hKE 0 _ _ (by simp [upF, Fr.get, Up.refl]) ⟨rfl, by simp, hgt, fun h => by omega⟩
    | succ q =>
      have hq : q < ts.length := by omega
      have c1 := hcell q hq
      have hw0 : IntKind.i64.wrap (q : Int) = (q : Int) := i64w (by omega) (by omega)
      have rt : IntsAt H' (lv 1 ts[q].1 0 ts[q].2.length) ts[q].2 := hts _ (List.getElem_mem hq)
      have hqn : (q : Int) < n := by omega
      have hqn' : q < n := by omega
      simp (maxSteps := 1000000) [go_sem, undef, c1, hw0, hqn, hqn']
      refine l03Less_ok hr rt _ ?_
      cases hlt : ltL r.2 ts[q].2 with
      | true =>
        simp (maxSteps := 1000000) [go_sem, undef, c1, hw0]
        refine hK q _ _ (by omega) (by simp [upF, Fr.get, Up.refl]) ⟨by omega, rfl, fun j hj hs => ?_⟩
        by_cases hjq : j = q
        · subst hjq; rw [List.getElem_map]; exact hlt
        · exact hgt j hj (by omega)
      | false =>
        simp (maxSteps := 1000000) [go_sem, undef, c1, hw0]
        refine hKE (q + 1) _ _ (by simp [upF, Fr.get, Up.refl]) ⟨rfl, by simp; omega, hgt, fun h1 h2 => ?_⟩
        simp only [Nat.add_sub_cancel, List.getElem_map]; exact hlt
  · rintro s H' ⟨rfl, hput⟩
    have hsn : s ≤ n := by have := hput.1; rw [List.length_map] at this; omega
    have hlen : (ts.map (·.2)).length = n := by simp [hn]
    have ins : (∀ (h' : s - 1 < (ts.map (·.2)).length), 0 < s → (ts.map (·.2))[s - 1] ≠ r.2) → ∃ H4, cellsAt (H' ++ [⟨[.slice none 0 0], true, true⟩]) H'.length 0 1 = some [.slice none 0 0] ∧
        appendH (H' ++ [⟨[.slice none 0 0], true, true⟩]) 1 (lv 1 tid 0 n) 1 [.slice none 0 0] = some (lv 1 (H'.length + 1) 0 (n + 1), H4) ∧
        H4[H'.length + 1]? = some ⟨ts.map rowVal ++ [.slice none 0 0], true, true⟩ ∧ Same (fun j => j = tid) H' H4 ∧ AscL ((ts.take s ++ r :: ts.drop s).map (·.2)) ∧ ∀ x, x ∈ (ts.take s ++ r :: ts.drop s).map (·.2) ↔ x = r.2 ∨ x ∈ ts.map (·.2) := by
      intro hne
      obtain ⟨hsrc, H4, hap, hol, hsame, hl4⟩ := ho.push (xs := [.slice none 0 0]) (by omega) rfl
      rw [← hn] at hap hol
      refine ⟨H4, hsrc, hap, hol.2.resolve_left (by rintro ⟨e, _⟩; omega), hsame, ?_, ?_⟩
      · have := hput.asc hA hne
        rw [List.map_append, List.map_cons, List.map_take, List.map_drop]
        exact this
      · intro x
        rw [List.map_append, List.map_cons, List.map_take, List.map_drop, List.mem_append, List.mem_cons]
        have e := List.take_append_drop s (ts.map (·.2))
        constructor
        · rintro (h | h | h)
          · exact .inr (List.mem_of_mem_take h)
          · exact .inl h
          · exact .inr (List.mem_of_mem_drop h)
        · rintro (h | h)
          · exact .inr (.inl h)
          · rw [← e, List.mem_append] at h
            exact h.imp (fun h => h) .inr
    by_cases h0 : s = 0
    · subst h0
      obtain ⟨H4, q1, q2, q3, q4, q5, q6⟩ := ins (fun h1 h2 => by omega)
      have hwn : IntKind.i64.wrap (n : Int) = (n : Int) := i64w (by omega) (by omega)
      simp (maxSteps := 1000000) [go_sem, undef, q1, q2, hwn]
      refine andK_intro (by omega) ?_
      obtain ⟨nid, hnid⟩ : ∃ nid, nid = H'.length + 1 := ⟨_, rfl⟩
      rw [← hnid] at q3 ⊢
      have htid := ho.lt
      refine AWp.loopVc (St := Nat × List Value) (fun s => [(0, lv 1 nid 0 (n + 1)), (1, lv 1 r.1 0 r.2.length), (5, .int .i64 (0 : Nat)), (6, .int .i64 s.1)])
        (fun s H2 => 0 ≤ s.1 ∧ s.1 ≤ n ∧ s.2.length = n + 1 ∧ H2[nid]? = some ⟨s.2, true, true⟩ ∧ Same (fun j => j = tid) H' H2 ∧ s.2.take s.1 = (ts.map rowVal).take s.1 ∧ s.2.drop (s.1 + 1) = (ts.map rowVal).drop s.1) (fun s => s.1) (n, ts.map rowVal ++ [.slice none 0 0]) ?_ ?_ ?_
      · simp [upF, Fr.get, Up.refl]
      · refine ⟨by simp only; omega, Nat.le_refl _, by simp [hn], q3, q4, ?_, ?_⟩
        · simp only; rw [List.take_append_of_le_length (by simp [hn])]
        · simp only; rw [List.drop_eq_nil_of_le (by simp [hn]), List.drop_eq_nil_of_le (by simp [hn])]
      · rintro K2 ⟨i, cs⟩ H2 ⟨hi0, hin, hcl, hb2, hs2, htk, hdr⟩ hK2
        simp only at hi0 hin hcl hb2 hs2 htk hdr
        have hlt2 := (List.getElem?_eq_some_iff.1 hb2).1
        have hset : ∀ {cs' : List Value}, Same (fun j => j = tid) H' (H2.set nid ⟨cs', true, true⟩) := by
          intro cs'
          exact ⟨by rw [List.length_set]; exact hs2.1, fun j hj hS => by rw [List.getElem?_set_ne (by omega)]; exact hs2.2 j hj hS⟩
        by_cases hgt : 0 < i
        · obtain ⟨m, rfl⟩ : ∃ m, i = m + 1 := ⟨i - 1, by omega⟩
          have hmt : m < ts.length := by omega
          have hwm : IntKind.i64.wrap (m : Int) = (m : Int) := i64w (by omega) (by omega)
          have hcm : cs[m]? = some (rowVal ts[m]) := by
            have := congrArg (·[m]?) htk
            simp only [List.getElem?_take, Nat.lt_succ_self, if_true] at this
            rw [this]; simp [hmt]
          have c1 : cellsAt H2 nid m 1 = some [lv 1 ts[m].1 0 ts[m].2.length] := by
            have := Holds.at ⟨true, hb2⟩ |>.cell hcm
            simpa [rowVal] using this
          have st := storeV (y := rowVal ts[m]) (s := m + 1) hb2 (by omega) rfl
          simp only [rowVal] at st
          have hmn : (m : Int) < (n : Int) + 1 := by omega
          have hmn' : m < n := by omega
          have hmn2 : m < n + 1 := by omega
          have hgt' : ((0 : Nat) : Int) < (m : Int) + 1 := by omega
          have fin : (cs.set (m + 1) (lv 1 ts[m].1 0 ts[m].2.length)).length = n + 1 ∧ (H2.set nid ⟨cs.set (m + 1) (lv 1 ts[m].1 0 ts[m].2.length), true, true⟩)[nid]? = some ⟨cs.set (m + 1) (lv 1 ts[m].1 0 ts[m].2.length), true, true⟩ ∧ Same (fun j => j = tid) H' (H2.set nid ⟨cs.set (m + 1) (lv 1 ts[m].1 0 ts[m].2.length), true, true⟩) ∧
              (cs.set (m + 1) (lv 1 ts[m].1 0 ts[m].2.length)).take m = (ts.map rowVal).take m ∧ (cs.set (m + 1) (lv 1 ts[m].1 0 ts[m].2.length)).drop (m + 1) = (ts.map rowVal).drop m := by
            refine ⟨by rw [List.length_set]; exact hcl, List.getElem?_set_self hlt2, hset, ?_, ?_⟩
            · rw [List.take_set_of_le (by omega)]
              have := congrArg (List.take m) htk
              rwa [List.take_take, List.take_take, show min m (m + 1) = m by omega] at this
            · rw [List.drop_eq_getElem_cons (by rw [List.length_set]; omega), List.getElem_set_self, List.drop_set_of_lt (by omega), hdr]
              rw [List.drop_eq_getElem_cons (l := ts.map rowVal) (i := m) (by simp; exact hmt), List.getElem_map]; rfl
          obtain ⟨f1, f2, f3, f4, f5⟩ := fin
          generalize cs.set (m + 1) (lv 1 ts[m].1 0 ts[m].2.length) = cs2 at *
          generalize H2.set nid ⟨cs2, true, true⟩ = H5 at *
          simp (maxSteps := 1000000) [go_sem, undef, c1, st, hwm, hmn, hmn', hmn2, hgt, hgt']
          refine andK_intro (by omega) ?_
          exact (hK2 (m, cs2) _ _ (by simp only; omega) (by simp [upF, Fr.get, Up.refl]) ⟨by simp only; omega, by simp only; omega, f1, f2, f3, f4, f5⟩)
        · have hie : i = 0 := by omega
          subst hie
          have st := storeV (y := rowVal r) (s := 0) hb2 (by omega) rfl
          have e : cs.set (0) (rowVal r) = (ts.take (0) ++ r :: ts.drop (0)).map rowVal := by
            rw [List.set_eq_take_append_cons_drop, if_pos (by omega), htk, hdr, List.map_append, List.map_cons, List.map_take, List.map_drop]
          rw [e] at st
          simp only [rowVal] at st
          have hlf : (ts.take (0) ++ r :: ts.drop (0)).length = n + 1 := by simp [← hn] <;> omega
          have fin := h (H2.set nid ⟨(ts.take (0) ++ r :: ts.drop (0)).map rowVal, true, true⟩) nid (ts.take (0) ++ r :: ts.drop (0)) hset (.inr (by omega)) ⟨by rw [List.length_map]; omega, .inr (List.getElem?_set_self hlt2)⟩ q5
            (fun x hx => by
              rcases List.mem_append.1 hx with hx | hx
              · exact .inr (List.mem_of_mem_take hx)
              · exact (List.mem_cons.1 hx).imp (fun h => h) List.mem_of_mem_drop) q6 (by omega)
          rw [hlf] at fin
          try simp only [rowVal] at fin
          have hsl : 0 < n + 1 := by omega
          have hsl' : ((0 : Nat) : Int) < (n : Int) + 1 := by omega
          generalize H2.set nid ⟨(ts.take (0) ++ r :: ts.drop (0)).map (fun r => lv 1 r.1 0 r.2.length), true, true⟩ = H5 at *
          generalize ts.take (0) ++ r :: ts.drop (0) = ts5 at *
          simp (maxSteps := 1000000) [go_sem, undef, st, hsl, hsl']
          first | exact ⟨_, Up.refl _ _, fin⟩ | exact andK_intro (by omega) ⟨_, Up.refl _ _, fin⟩
    · obtain ⟨q, rfl⟩ : ∃ q, s = q + 1 := ⟨s - 1, by omega⟩
      have hq : q < ts.length := by omega
      have c1 := hcell q hq
      have hw0 : IntKind.i64.wrap (q : Int) = (q : Int) := i64w (by omega) (by omega)
      have rt : IntsAt H' (lv 1 ts[q].1 0 ts[q].2.length) ts[q].2 := hts _ (List.getElem_mem hq)
      have hqn : (q : Int) < n := by omega
      have hqn' : q < n := by omega
      simp (maxSteps := 1000000) [go_sem, undef, c1, hw0, hqn, hqn']
      refine l03Same_ok rt hr _ ?_
      by_cases he : ts[q].2 = r.2
      · rw [decide_eq_true he]
        simp (maxSteps := 1000000) [go_sem, undef, c1, hw0]
        have fin := h H' tid ts (Same.of_prefix (List.prefix_refl _)) (.inl rfl) ho hA (fun x hx => .inr hx) (fun x => ⟨.inr, fun h => h.elim (fun e => by rw [e, ← he]; exact List.mem_map_of_mem (List.getElem_mem hq)) (fun h => h)⟩) (by omega)
        rw [← hn] at fin
        exact ⟨_, Up.refl _ _, fin⟩
      · rw [decide_eq_false he]
        simp (maxSteps := 1000000) [go_sem, undef, c1, hw0]
        obtain ⟨H4, q1, q2, q3, q4, q5, q6⟩ := ins (fun h1 h2 => by simp only [Nat.add_sub_cancel, List.getElem_map]; exact he)
        have hwn : IntKind.i64.wrap (n : Int) = (n : Int) := i64w (by omega) (by omega)
        simp (maxSteps := 1000000) [go_sem, undef, q1, q2, hwn]
        refine andK_intro (by omega) ?_
        obtain ⟨nid, hnid⟩ : ∃ nid, nid = H'.length + 1 := ⟨_, rfl⟩
        rw [← hnid] at q3 ⊢
        have htid := ho.lt
        refine AWp.loopVc (St := Nat × List Value) (fun s => [(0, lv 1 nid 0 (n + 1)), (1, lv 1 r.1 0 r.2.length), (5, .int .i64 (q + 1 : Nat)), (6, .int .i64 s.1)])
          (fun s H2 => q + 1 ≤ s.1 ∧ s.1 ≤ n ∧ s.2.length = n + 1 ∧ H2[nid]? = some ⟨s.2, true, true⟩ ∧ Same (fun j => j = tid) H' H2 ∧ s.2.take s.1 = (ts.map rowVal).take s.1 ∧ s.2.drop (s.1 + 1) = (ts.map rowVal).drop s.1) (fun s => s.1) (n, ts.map rowVal ++ [.slice none 0 0]) ?_ ?_ ?_
        · simp [upF, Fr.get, Up.refl]
        · refine ⟨by simp only; omega, Nat.le_refl _, by simp [hn], q3, q4, ?_, ?_⟩
          · simp only; rw [List.take_append_of_le_length (by simp [hn])]
          · simp only; rw [List.drop_eq_nil_of_le (by simp [hn]), List.drop_eq_nil_of_le (by simp [hn])]
        · rintro K2 ⟨i, cs⟩ H2 ⟨hi0, hin, hcl, hb2, hs2, htk, hdr⟩ hK2
          simp only at hi0 hin hcl hb2 hs2 htk hdr
          have hlt2 := (List.getElem?_eq_some_iff.1 hb2).1
          have hset : ∀ {cs' : List Value}, Same (fun j => j = tid) H' (H2.set nid ⟨cs', true, true⟩) := by
            intro cs'
            exact ⟨by rw [List.length_set]; exact hs2.1, fun j hj hS => by rw [List.getElem?_set_ne (by omega)]; exact hs2.2 j hj hS⟩
          by_cases hgt : q + 1 < i
          · obtain ⟨m, rfl⟩ : ∃ m, i = m + 1 := ⟨i - 1, by omega⟩
            have hmt : m < ts.length := by omega
            have hwm : IntKind.i64.wrap (m : Int) = (m : Int) := i64w (by omega) (by omega)
            have hcm : cs[m]? = some (rowVal ts[m]) := by
              have := congrArg (·[m]?) htk
              simp only [List.getElem?_take, Nat.lt_succ_self, if_true] at this
              rw [this]; simp [hmt]
            have c1 : cellsAt H2 nid m 1 = some [lv 1 ts[m].1 0 ts[m].2.length] := by
              have := Holds.at ⟨true, hb2⟩ |>.cell hcm
              simpa [rowVal] using this
            have st := storeV (y := rowVal ts[m]) (s := m + 1) hb2 (by omega) rfl
            simp only [rowVal] at st
            have hmn : (m : Int) < (n : Int) + 1 := by omega
            have hmn' : m < n := by omega
            have hmn2 : m < n + 1 := by omega
            have hgt' : ((q + 1 : Nat) : Int) < (m : Int) + 1 := by omega
            have fin : (cs.set (m + 1) (lv 1 ts[m].1 0 ts[m].2.length)).length = n + 1 ∧ (H2.set nid ⟨cs.set (m + 1) (lv 1 ts[m].1 0 ts[m].2.length), true, true⟩)[nid]? = some ⟨cs.set (m + 1) (lv 1 ts[m].1 0 ts[m].2.length), true, true⟩ ∧ Same (fun j => j = tid) H' (H2.set nid ⟨cs.set (m + 1) (lv 1 ts[m].1 0 ts[m].2.length), true, true⟩) ∧
                (cs.set (m + 1) (lv 1 ts[m].1 0 ts[m].2.length)).take m = (ts.map rowVal).take m ∧ (cs.set (m + 1) (lv 1 ts[m].1 0 ts[m].2.length)).drop (m + 1) = (ts.map rowVal).drop m := by
              refine ⟨by rw [List.length_set]; exact hcl, List.getElem?_set_self hlt2, hset, ?_, ?_⟩
              · rw [List.take_set_of_le (by omega)]
                have := congrArg (List.take m) htk
                rwa [List.take_take, List.take_take, show min m (m + 1) = m by omega] at this
              · rw [List.drop_eq_getElem_cons (by rw [List.length_set]; omega), List.getElem_set_self, List.drop_set_of_lt (by omega), hdr]
                rw [List.drop_eq_getElem_cons (l := ts.map rowVal) (i := m) (by simp; exact hmt), List.getElem_map]; rfl
            obtain ⟨f1, f2, f3, f4, f5⟩ := fin
            generalize cs.set (m + 1) (lv 1 ts[m].1 0 ts[m].2.length) = cs2 at *
            generalize H2.set nid ⟨cs2, true, true⟩ = H5 at *
            have hqm : q < m := by omega
            simp (maxSteps := 1000000) [go_sem, undef, c1, st, hwm, hmn, hmn', hmn2, hgt, hgt', hqm]
            refine andK_intro (by omega) ?_
            exact (hK2 (m, cs2) _ _ (by simp only; omega) (by simp [upF, Fr.get, Up.refl]) ⟨by simp only; omega, by simp only; omega, f1, f2, f3, f4, f5⟩)
          · have hie : i = q + 1 := by omega
            subst hie
            have st := storeV (y := rowVal r) (s := q + 1) hb2 (by omega) rfl
            have e : cs.set (q + 1) (rowVal r) = (ts.take (q + 1) ++ r :: ts.drop (q + 1)).map rowVal := by
              rw [List.set_eq_take_append_cons_drop, if_pos (by omega), htk, hdr, List.map_append, List.map_cons, List.map_take, List.map_drop]
            rw [e] at st
            simp only [rowVal] at st
            have hlf : (ts.take (q + 1) ++ r :: ts.drop (q + 1)).length = n + 1 := by simp [← hn] <;> omega
            have fin := h (H2.set nid ⟨(ts.take (q + 1) ++ r :: ts.drop (q + 1)).map rowVal, true, true⟩) nid (ts.take (q + 1) ++ r :: ts.drop (q + 1)) hset (.inr (by omega)) ⟨by rw [List.length_map]; omega, .inr (List.getElem?_set_self hlt2)⟩ q5
              (fun x hx => by
                rcases List.mem_append.1 hx with hx | hx
                · exact .inr (List.mem_of_mem_take hx)
                · exact (List.mem_cons.1 hx).imp (fun h => h) List.mem_of_mem_drop) q6 (by omega)
            rw [hlf] at fin
            try simp only [rowVal] at fin
            have hsl : q + 1 < n + 1 := by omega
            have hsl' : ((q + 1 : Nat) : Int) < (n : Int) + 1 := by omega
            generalize H2.set nid ⟨(ts.take (q + 1) ++ r :: ts.drop (q + 1)).map (fun r => lv 1 r.1 0 r.2.length), true, true⟩ = H5 at *
            generalize ts.take (q + 1) ++ r :: ts.drop (q + 1) = ts5 at *
            simp (maxSteps := 1000000) [go_sem, undef, st, hsl, hsl']
            first | exact ⟨_, Up.refl _ _, fin⟩ | exact andK_intro (by omega) ⟨_, Up.refl _ _, fin⟩

end Go.Proofs.Ytakkmkinfeddeaa
end

section
/- All types of a system: the specification's l03Types. -/
set_option linter.all false
set_option maxRecDepth 20000
set_option maxHeartbeats 8000000
namespace Go.Proofs.Ytakkmkinfeddeaa
open Go.Ab Go.Sort

theorem prD_step (s : Nat) : ((upTo 0 (s + 1)).flatMap fun a => (upTo 0 a).map fun b => (a, b)) = ((upTo 0 s).flatMap fun a => (upTo 0 a).map fun b => (a, b)) ++ (upTo 0 s).map fun b => (s, b) := by
  rw [upTo_succ (Nat.zero_le _), List.flatMap_append]; simp

/-- The types met and the list of all, while they grow. -/
structure TL (H0 H : Heap) (tid lid : Nat) (ts rows : List (Nat × List Int)) : Prop where
  rw_ : RW H0 H rows
  bt : Bl 1 H0 H tid (ts.map rowVal) ts.length
  bl : Bl 1 H0 H lid (rows.map rowVal) rows.length
  ne : tid ≠ lid
  away : ∀ r ∈ rows, r.2 ≠ [] → r.1 ≠ tid ∧ r.1 ≠ lid
  sub : ∀ t ∈ ts, t ∈ rows
  asc : AscL (ts.map (·.2))
  mem : ∀ x, x ∈ ts.map (·.2) ↔ x ∈ rows.map (·.2)
  le : ts.length ≤ rows.length

theorem made_ints (n : Nat) : (madeCells #[Value.int .i64 0] n).toList = List.replicate n (.int .i64 0) := by
  apply List.ext_getElem?
  intro k
  by_cases hk : k < n
  · simp [madeCells, hk, Nat.mod_one]
  · rw [List.getElem?_eq_none (by simp [madeCells]; omega), List.getElem?_eq_none (by simp; omega)]

theorem l03Types_ok {H : Heap} {u : Value} {v : Nat} {bs : List Bk} (hu : BlocksAt H u bs) (hS : IsSys v bs) (hf : fullB v bs = true) (Post : Value → Heap → Prop)
    (h : ∀ H' w k c, H <+: H' → H.length ≤ c → c ≤ H'.length → RowsIn H.length c H' w (onceL (tys1 v bs)) → IntsIn c H'.length H' k (cntL (onceL (tys1 v bs)) (tys1 v bs)) → Post (.tuple #[w, k]) H') :
    ACalls Try.prog 144 [sysV v u] H Post := by
  have hv := hS.1
  refine ACalls.res ?_
  refine acalls_vc (rs := [.tmp 2, .tmp 3]) Try.func144 rfl rfl Try.ntmps144 rfl rfl ?_
  simp (maxSteps := 1000000) [go_sem, sysV, hu.one]
  have hp0 : H <+: H ++ [⟨[.int .i64 v, u], true, true⟩] := List.prefix_append _ _
  have hx0 := Holds.last H [.int .i64 v, u]
  have hpx : H ++ [(⟨[.int .i64 v, u], true, true⟩ : Blk)] <+: H ++ [(⟨[.int .i64 v, u], true, true⟩ : Blk), ⟨[], true, true⟩, ⟨[], true, true⟩] := ⟨[⟨[], true, true⟩, ⟨[], true, true⟩], by simp⟩
  have tl0 : TL (H ++ [(⟨[.int .i64 v, u], true, true⟩ : Blk)]) (H ++ [(⟨[.int .i64 v, u], true, true⟩ : Blk), ⟨[], true, true⟩, ⟨[], true, true⟩]) (H.length + 1) (H.length + 2) [] [] :=
    ⟨⟨⟨by simp, by simp⟩, by simp⟩, ⟨hpx, ⟨rfl, .inr (by simp)⟩, by simp⟩, ⟨hpx, ⟨rfl, .inr (by simp)⟩, by simp⟩, by omega, by simp, by simp, List.Pairwise.nil, by simp, by simp⟩
  have hlen0 : (H ++ [(⟨[.int .i64 v, u], true, true⟩ : Blk)]).length = H.length + 1 := by simp
  generalize H ++ [(⟨[.int .i64 v, u], true, true⟩ : Blk), ⟨[], true, true⟩, ⟨[], true, true⟩] = HX at tl0 ⊢
  generalize H ++ [(⟨[.int .i64 v, u], true, true⟩ : Blk)] = H0 at *
  refine AWp.loopVc (St := Nat × Nat × Nat × List (Nat × List Int) × List (Nat × List Int)) (fun s => [(1, .pointer (some ⟨H.length, 0, none⟩)), (4, lv 1 s.2.1 0 s.2.2.2.1.length), (5, lv 1 s.2.2.1 0 s.2.2.2.2.length), (6, .int .i64 s.1)])
    (fun s H' => s.1 ≤ v ∧ TL H0 H' s.2.1 s.2.2.1 s.2.2.2.1 s.2.2.2.2 ∧ s.2.2.2.2.map (·.2) = ((upTo 0 s.1).flatMap fun a => (upTo 0 a).map fun b => (a, b)).map (typ v bs) ∧ s.2.2.2.2.length ≤ s.1 * 15) (fun s => v - s.1) (0, H.length + 1, H.length + 2, [], []) ?_ ?_ ?_
  · simp [upF, Fr.get, Up.refl, Up.ex0]
  · exact ⟨by simp, tl0, by simp [upTo], by simp⟩
  · rintro K ⟨s, tid, lid, ts, rows⟩ H' ⟨hs, htl, hrows, hrl⟩ hK
    simp only at hs htl hrows hrl
    obtain ⟨d0, d1, d2⟩ := (hx0.pre htl.bt.1).sys
    by_cases hlt : s < v
    · have hw_s : IntKind.i64.wrap ((s : Int) + 1) = (s : Int) + 1 := i64w (by omega) (by omega)
      have hlt' : (s : Int) < v := by omega
      simp (maxSteps := 1000000) [go_sem, hlt, hlt', d0, d1, hw_s]
      refine AWp.loopVc (St := Nat × Nat × Nat × List (Nat × List Int) × List (Nat × List Int)) (fun s' => [(1, .pointer (some ⟨H.length, 0, none⟩)), (4, lv 1 s'.2.1 0 s'.2.2.2.1.length), (5, lv 1 s'.2.2.1 0 s'.2.2.2.2.length), (6, .int .i64 s), (7, .int .i64 s'.1)])
        (fun s' H' => s'.1 ≤ s ∧ TL H0 H' s'.2.1 s'.2.2.1 s'.2.2.2.1 s'.2.2.2.2 ∧ s'.2.2.2.2.map (·.2) = ((upTo 0 s).flatMap fun a => (upTo 0 a).map fun b => (a, b)).map (typ v bs) ++ ((upTo 0 s'.1).map fun b => (s, b)).map (typ v bs) ∧ s'.2.2.2.2.length ≤ s * 15 + s'.1) (fun s' => s - s'.1) (0, tid, lid, ts, rows) ?_ ?_ ?_
      · simp [upF, Fr.get, Up.refl]
      · refine ⟨by simp, htl, ?_, by simp only; omega⟩
        simp only; rw [hrows]; simp [upTo]
      · rintro K2 ⟨t, tid, lid, ts, rows⟩ H' ⟨ht, htl, hrows, hrl⟩ hK2
        simp only at ht htl hrows hrl
        obtain ⟨d0, d1, d2⟩ := (hx0.pre htl.bt.1).sys
        by_cases hlt2 : t < s
        · have hw_t : IntKind.i64.wrap ((t : Int) + 1) = (t : Int) + 1 := i64w (by omega) (by omega)
          have hlt2' : (t : Int) < s := by omega
          simp (maxSteps := 1000000) [go_sem, hlt2, d0, d1]
          refine l03Type_ok (hu.pre (hp0.trans htl.bt.1)) hS hf (by omega) (by omega) (by omega) _ ?_
          intro H2 w hp2 hw
          have hle := htl.bt.1.length_le
          obtain ⟨rid, rfl, hrw2, hrid⟩ := htl.rw_.push hle hp2 hw
          have hrd := hw.read
          have hrows2 : (rows ++ [(rid, descI (cycLens v s t bs))]).map (·.2) = ((upTo 0 s).flatMap fun a => (upTo 0 a).map fun b => (a, b)).map (typ v bs) ++ ((upTo 0 (t + 1)).map fun b => (s, b)).map (typ v bs) := by
            rw [upTo_succ (by omega), List.map_append, hrows]
            simp [typ]
          have hlen2 : ∀ r ∈ rows ++ [(rid, descI (cycLens v s t bs))], r.2.length ≤ 15 := by
            intro r hr
            have := List.mem_map_of_mem (f := (·.2)) hr
            rw [hrows2, ← List.map_append] at this
            obtain ⟨q, _, e⟩ := List.mem_map.1 this
            rw [← e]; have := typ_length v bs q; omega
          generalize descI (cycLens v s t bs) = xs at *
          have hbt2 := htl.bt.pre hp2
          have hbl2 := htl.bl.pre hp2
          have htid := htl.bt.2.1.lt
          have hlid := htl.bl.2.1.lt
          simp (maxSteps := 1000000) [go_sem]
          refine l03Put_ok (r := (rid, xs)) hbt2.2.1 htl.asc hrd (fun t' ht' => hrw2.read (List.mem_append_left _ (htl.sub t' ht')) (by have := hlen2 t' (List.mem_append_left _ (htl.sub t' ht')); omega)) (by have := htl.le; omega) _ ?_
          intro H3 tid3 ts3 hs3 ht3 ho3 hasc3 hsub3 hmem3 hlen3
          have hbl3 := hbl2.2.1.keep hs3 (by have := htl.ne; omega)
          obtain ⟨hsrc, H4, hap, hol, hsame, hl4⟩ := hbl3.push (xs := [lv 1 rid 0 xs.length]) (by omega) rfl
          have hle2 := hp2.length_le
          have hle3 := hs3.1
          have htid3 := ho3.lt
          have hnl : tid3 ≠ lid := by
            rcases ht3 with rfl | e
            · exact htl.ne
            · omega
          have hge3 : H0.length ≤ tid3 := by
            rcases ht3 with rfl | e
            · exact htl.bt.2.2
            · omega
          have hp3 : H0 <+: H3 := ((Same.of_prefix (htl.bt.1.trans hp2)).trans hs3).prefix (by have := htl.bt.2.2; intro j hj e; omega)
          have hp4 : H0 <+: H4 := ((Same.of_prefix hp3).trans hsame).prefix (by have := htl.bl.2.2; intro j hj e; omega)
          have haway : ∀ r ∈ rows ++ [(rid, xs)], r.2 ≠ [] → r.1 ≠ tid ∧ r.1 ≠ lid ∧ r.1 < H2.length := by
            intro r hr hn
            refine ⟨?_, ?_, (hrw2.ids r hr hn).2⟩ <;> rcases List.mem_append.1 hr with hr | hr
            · exact (htl.away r hr hn).1
            · simp at hr; subst hr; have := hrid hn; simp only; omega
            · exact (htl.away r hr hn).2
            · simp at hr; subst hr; have := hrid hn; simp only; omega
          have htl4 : TL H0 H4 tid3 (H3.length + 1) ts3 (rows ++ [(rid, xs)]) := by
            refine ⟨(hrw2.keep hs3 (fun r hr hn => (haway r hr hn).1)).keep hsame (fun r hr hn => (haway r hr hn).2.1), ⟨hp4, ho3.keep hsame hnl, hge3⟩, ⟨hp4, ?_, by omega⟩, by omega, ?_, ?_, hasc3, ?_, ?_⟩
            · rw [List.map_append, List.length_append]; exact hol
            · intro r hr hn
              have := haway r hr hn
              omega
            · intro t' ht'
              rcases hsub3 t' ht' with rfl | e
              · simp
              · exact List.mem_append_left _ (htl.sub _ e)
            · intro x
              rw [hmem3, List.map_append, List.mem_append, htl.mem]
              simp only [List.map_cons, List.map_nil, List.mem_singleton]
              exact Or.comm
            · have := htl.le; simp; omega
          simp (maxSteps := 1000000) [go_sem, hsrc, hap, hw_t]
          exact andK_intro (by omega) (hK2 (t + 1, tid3, H3.length + 1, ts3, rows ++ [(rid, xs)]) _ _ (by simp only; omega) (by simp [upF, Fr.get, Up.refl]) ⟨by simp only; omega, htl4, hrows2, by simp; omega⟩)
        · have : t = s := by omega
          subst this
          simp (maxSteps := 1000000) [go_sem, d0, d1, hw_s]
          refine hK (t + 1, tid, lid, ts, rows) _ _ (by simp only; omega) (by simp [upF, Fr.get, Up.refl]) ⟨by simp only; omega, htl, ?_, by simp only; omega⟩
          simp only; rw [hrows, prD_step, List.map_append]
    · have : s = v := by omega
      subst this
      have hrows : rows.map (·.2) = tys2 s bs := hrows
      have hperm := tys_perm hS hf
      have hll : rows.length ≤ 225 := by omega
      have hle := htl.le
      have hxr : ∀ r ∈ rows, r.2.length ≤ 15 := by
        intro r hr
        have := List.mem_map_of_mem (f := (·.2)) hr
        rw [hrows] at this
        obtain ⟨q, _, e⟩ := List.mem_map.1 this
        rw [← e]; have := typ_length s bs q; omega
      have hb1 : (ts.length : Int) ≤ 281474976710656 ∧ (ts.length : Int) ≤ 9223372036854775807 := by omega
      simp (maxSteps := 1000000) [go_sem, d0, d1, madeB, hb1]
      refine andK_intro (by omega) ?_
      have hT : (ts.map (·.2)).length = ts.length := List.length_map _
      have hpm : H' <+: H' ++ [⟨(madeCells #[.int .i64 0] ts.length).toList, true, true⟩] := List.prefix_append _ _
      have hcell0 : (madeCells #[Value.int .i64 0] ts.length).toList = ints (cntL (ts.map (·.2)) ((rows.map (·.2)).take 0)) := by
        rw [made_ints]
        simp only [List.take_zero, cntL, List.count_nil, ints, List.map_map]
        refine (List.eq_replicate_iff.2 ⟨?_, ?_⟩).symm
        · simp
        · intro b hb; obtain ⟨t, _, rfl⟩ := List.mem_map.1 hb; rfl
      have hcc : (cellsAt (H' ++ [⟨(madeCells #[.int .i64 0] ts.length).toList, true, true⟩]) H'.length 0 (ts.length * 1)).isSome = true := by
        rw [cellsAt_of (b := ⟨(madeCells #[.int .i64 0] ts.length).toList, true, true⟩) (by simp) rfl (by rw [hcell0, ints_length, cntL_length, hT]; simp)]; rfl
      have hcb : (H' ++ [⟨(madeCells #[.int .i64 0] ts.length).toList, true, true⟩])[H'.length]? = some ⟨ints (cntL (ts.map (·.2)) ((rows.map (·.2)).take 0)), true, true⟩ := by rw [← hcell0]; simp
      have htl8 := htl
      generalize H' ++ [(⟨(madeCells #[.int .i64 0] ts.length).toList, true, true⟩ : Blk)] = H8 at *
      obtain ⟨cid, hcid⟩ : ∃ c, c = H'.length := ⟨_, rfl⟩
      rw [← hcid] at hcc hcb ⊢
      have htid := htl.bt.2.1.lt
      have hlid := htl.bl.2.1.lt
      have hids : ∀ r ∈ rows, r.2 ≠ [] → r.1 < cid := fun r hr hn => by have := htl.rw_.ids r hr hn; omega
      -- all that is read stays while only the counts change
      have hcell : ∀ {H9 : Heap}, Same (fun j => j = cid) H8 H9 → (∀ i (hi : i < rows.length), cellsAt H9 lid i 1 = some [lv 1 rows[i].1 0 rows[i].2.length]) ∧ (∀ k (hk : k < ts.length), cellsAt H9 tid k 1 = some [lv 1 ts[k].1 0 ts[k].2.length]) ∧ RW H0 H9 rows := by
        intro H9 hs9
        refine ⟨fun i hi => ?_, fun k hk => ?_, (htl.rw_.pre hpm).keep hs9 (fun r hr hn => by have := hids r hr hn; omega)⟩
        · have := ((htl.bl.pre hpm).2.1.keep hs9 (by omega)).at.cell (k := i) (v := rowVal rows[i]) (by simp [hi])
          simpa [rowVal] using this
        · have := ((htl.bt.pre hpm).2.1.keep hs9 (by omega)).at.cell (k := k) (v := rowVal ts[k]) (by simp [hk])
          simpa [rowVal] using this
      refine AWp.loopVc (St := Nat) (fun i => [(4, lv 1 tid 0 ts.length), (5, lv 1 lid 0 rows.length), (9, lv 1 cid 0 ts.length), (10, .int .i64 i)])
        (fun i H9 => i ≤ rows.length ∧ Same (fun j => j = cid) H8 H9 ∧ H9[cid]? = some ⟨ints (cntL (ts.map (·.2)) ((rows.map (·.2)).take i)), true, true⟩) (fun i => rows.length - i) 0 ?_ ?_ ?_
      · simp [upF, Fr.get, Up.refl]
        exact Up.ex (by omega) (.inr hcc)
      · exact ⟨by omega, Same.of_prefix (List.prefix_refl _), hcb⟩
      · rintro K i H9 ⟨hi, hs9, hb9⟩ hK
        obtain ⟨cr, ct, hrw9⟩ := hcell hs9
        by_cases hlt : i < rows.length
        · have hw_i : IntKind.i64.wrap ((i : Int) + 1) = (i : Int) + 1 := i64w (by omega) (by omega)
          have htk : (rows.map (·.2)).take (i + 1) = (rows.map (·.2)).take i ++ [rows[i].2] := by
            rw [List.take_succ_eq_append_getElem (by simpa using hlt), List.getElem_map]
          obtain ⟨xs, hxs⟩ : ∃ xs, xs = rows[i].2 := ⟨_, rfl⟩
          rw [← hxs] at htk
          obtain ⟨old, hold⟩ : ∃ o, o = cntL (ts.map (·.2)) ((rows.map (·.2)).take i) := ⟨_, rfl⟩
          obtain ⟨new, hnew⟩ : ∃ o, o = cntL (ts.map (·.2)) ((rows.map (·.2)).take (i + 1)) := ⟨_, rfl⟩
          have hol : old.length = ts.length := by rw [hold, cntL_length, hT]
          have hnl : new.length = ts.length := by rw [hnew, cntL_length, hT]
          have hstep : ∀ k (hk : k < ts.length) (h1 : k < old.length) (h2 : k < new.length), new[k] = (if ts[k].2 = xs then old[k] + 1 else old[k]) ∧ 0 ≤ old[k] ∧ old[k] ≤ i := by
            intro k hk h1 h2
            subst hold hnew
            simp only [cntL, List.getElem_map, htk, List.count_append, List.count_singleton]
            have hcb : List.count ts[k].2 ((rows.map (·.2)).take i) ≤ i := Nat.le_trans List.count_le_length (by simp; omega)
            refine ⟨?_, by omega, by omega⟩
            by_cases e : ts[k].2 = xs
            · rw [if_pos e, if_pos (by simp [e])]; omega
            · rw [if_neg e, if_neg (by simp; exact fun h => e h.symm)]; omega
          rw [← hold] at hb9
          simp (maxSteps := 1000000) [go_sem, hlt]
          refine AWp.loopVc (St := Nat) (fun k => [(4, lv 1 tid 0 ts.length), (5, lv 1 lid 0 rows.length), (9, lv 1 cid 0 ts.length), (10, .int .i64 i), (11, .int .i64 k)])
            (fun k H9 => k ≤ ts.length ∧ Same (fun j => j = cid) H8 H9 ∧ H9[cid]? = some ⟨ints (new.take k ++ old.drop k), true, true⟩) (fun k => ts.length - k) 0 ?_ ?_ ?_
          · simp [upF, Fr.get, Up.refl]
          · exact ⟨by omega, hs9, by simpa using hb9⟩
          · rintro K2 k H9 ⟨hk, hs9, hb9⟩ hK2
            obtain ⟨cr, ct, hrw9⟩ := hcell hs9
            by_cases hlt2 : k < ts.length
            · have hw_k : IntKind.i64.wrap ((k : Int) + 1) = (k : Int) + 1 := i64w (by omega) (by omega)
              have c1 := cr i hlt
              have c2 := ct k hlt2
              have r1 : IntsAt H9 (lv 1 rows[i].1 0 rows[i].2.length) rows[i].2 := hrw9.read (List.getElem_mem hlt) (by have := hxr _ (List.getElem_mem hlt); omega)
              have r2 : IntsAt H9 (lv 1 ts[k].1 0 ts[k].2.length) ts[k].2 := hrw9.read (htl.sub _ (List.getElem_mem hlt2)) (by have := hxr _ (htl.sub _ (List.getElem_mem hlt2)); omega)
              obtain ⟨hst, hst0, hst1⟩ := hstep k hlt2 (by omega) (by omega)
              have hml : (new.take k ++ old.drop k).length = ts.length := by simp; omega
              have hmk : (new.take k ++ old.drop k)[k]? = some (old[k]'(by omega)) := by
                rw [List.getElem?_append_right (by simp; omega), List.length_take, List.getElem?_drop, show k + (k - min k new.length) = k by omega, List.getElem?_eq_getElem (by omega)]
              have hmn : new.take (k + 1) ++ old.drop (k + 1) = (new.take k ++ old.drop k).set k (new[k]'(by omega)) := by
                have hA : new.take (k + 1) = new.take k ++ [new[k]'(by omega)] := List.take_succ_eq_append_getElem (by omega)
                have hB : old.drop k = old[k]'(by omega) :: old.drop (k + 1) := List.drop_eq_getElem_cons (by omega)
                have hC : (new.take k).length = k := by rw [List.length_take]; omega
                rw [hA, hB]
                generalize new.take k = A at hC ⊢
                rw [List.set_append_right _ _ (by omega), hC, Nat.sub_self, List.set_cons_zero, List.append_assoc]
                rfl
              generalize new[k]'(by omega) = nk at *
              generalize old[k]'(by omega) = ok at *
              simp (maxSteps := 1000000) [go_sem, hlt2]
              refine AWp.draw mixed [(0, false), (1, false), (2, false), (3, false), (4, false), (5, false), (6, false), (7, false), (8, false)] (by kernel_rfl) ?_
              simp (maxSteps := 1000000) [go_sem, hlt, hlt2, c1, c2]
              refine l03Same_ok r2 r1 _ ?_
              by_cases e : ts[k].2 = xs
              · rw [if_pos e] at hst
                have he : ts[k].2 = rows[i].2 := by rw [e, hxs]
                rw [decide_eq_true he]
                have c3 : cellsAt H9 cid k 1 = some [.int .i64 ok] := by
                  have := Holds.at ⟨true, hb9⟩ |>.cell (k := k) (v := .int .i64 ok) (by simp only [ints, List.getElem?_map, hmk]; rfl)
                  simpa using this
                have st := storeI (y := ok + 1) hb9 (show k < _ by omega)
                rw [← hst, ← hmn] at st
                have hw1 : IntKind.i64.wrap (ok + 1) = nk := by rw [hst]; exact i64w (by omega) (by omega)
                have hlt3 := (List.getElem?_eq_some_iff.1 hb9).1
                have hs10 : Same (fun j => j = cid) H8 (H9.set cid ⟨ints (new.take (k + 1) ++ old.drop (k + 1)), true, true⟩) := hs9.trans same_set
                have hb10 : (H9.set cid ⟨ints (new.take (k + 1) ++ old.drop (k + 1)), true, true⟩)[cid]? = some ⟨ints (new.take (k + 1) ++ old.drop (k + 1)), true, true⟩ := List.getElem?_set_self hlt3
                generalize H9.set cid ⟨ints (new.take (k + 1) ++ old.drop (k + 1)), true, true⟩ = H10 at *
                simp (maxSteps := 1000000) [go_sem, hlt, hlt2, c1, c2, c3, hw1, st, hw_k]
                exact hK2 (k + 1) _ _ (by omega) (by simp [upF, Fr.get, Up.refl]) ⟨by omega, hs10, hb10⟩
              · rw [if_neg e] at hst
                have he : ts[k].2 ≠ rows[i].2 := by rw [← hxs]; exact e
                rw [decide_eq_false he]
                have hb10 : H9[cid]? = some ⟨ints (new.take (k + 1) ++ old.drop (k + 1)), true, true⟩ := by
                  rw [hmn, hst, hb9]
                  congr 3
                  apply List.ext_getElem?
                  intro j
                  rw [List.getElem?_set]
                  split
                  · rename_i e; subst e; rw [hmk, if_pos (by omega)]
                  · rfl
                simp (maxSteps := 1000000) [go_sem, hlt, hlt2, c1, c2, hw_k]
                exact hK2 (k + 1) _ _ (by omega) (by simp [upF, Fr.get, Up.refl]) ⟨by omega, hs9, hb10⟩
            · have : k = ts.length := by omega
              subst this
              rw [List.take_of_length_le (by omega), List.drop_eq_nil_of_le (by omega), List.append_nil, hnew] at hb9
              simp (maxSteps := 1000000) [go_sem, hw_i]
              exact hK (i + 1) _ _ (by omega) (by simp [upF, Fr.get, Up.refl]) ⟨by omega, hs9, hb9⟩
        · have : i = rows.length := by omega
          subst this
          rw [List.take_of_length_le (by simp)] at hb9
          have eo : ts.map (·.2) = onceL (tys1 s bs) := by
            rw [← once_perm hperm, ← hrows]; exact once_uniq htl.asc htl.mem
          have ec : cntL (ts.map (·.2)) (rows.map (·.2)) = cntL (onceL (tys1 s bs)) (tys1 s bs) := by
            rw [eo, hrows]; exact cntL_perm hperm
          rw [ec] at hb9
          have htlen : ts.length = (onceL (tys1 s bs)).length := by rw [← eo, List.length_map]
          have hbt9 := (htl.bt.pre hpm).2.1.keep hs9 (by omega)
          have hfl := flat_bound (xss := ts.map (·.2)) (k := 15) (n := 225) (fun x hx => by
            obtain ⟨r, hr, rfl⟩ := List.mem_map.1 hx
            exact hxr _ (htl.sub _ hr)) (by rw [List.length_map]; omega)
          have hcl := (List.getElem?_eq_some_iff.1 hb9).1
          have h0len := hp0.length_le
          have hRi : RowsIn H.length cid H9 (lv 1 tid 0 ts.length) (onceL (tys1 s bs)) := by
            refine ⟨tid, ts, rfl, hbt9.at, rows1_sub hrw9.rows1 htl.sub htl.asc.nodup, fun r hr hn => ?_, eo, fun _ => ⟨by have := htl.bt.2.2; omega, by omega⟩, by rw [← eo]; omega, by omega⟩
            have h1 := htl.rw_.ids r (htl.sub r hr) hn
            have h2 := hids r (htl.sub r hr) hn
            have h3 := htl.away r (htl.sub r hr) hn
            exact ⟨h3.1, by omega, h2⟩
          have hIi : IntsIn cid H9.length H9 (lv 1 cid 0 ts.length) (cntL (onceL (tys1 s bs)) (tys1 s bs)) := by
            refine ⟨cid, ⟨by rw [cntL_length, htlen], .inr hb9, by rw [cntL_length, ← htlen]; omega⟩, fun _ => ⟨by omega, hcl⟩⟩
          have hp9 : H <+: H9 := ((Same.of_prefix (hp0.trans (htl.bt.1.trans hpm))).trans hs9).prefix (by have := htl.bt.1.length_le; intro j hj e; omega)
          have fin := h H9 _ _ cid hp9 (by have := htl.bt.1.length_le; omega) (by omega) hRi hIi
          simp (maxSteps := 1000000) [go_sem]
          exact ⟨_, Up.refl _ _, fin⟩

end Go.Proofs.Ytakkmkinfeddeaa
end

section
/- TypesOf, IsUniform, IsPerfect on both sides; slices.ContainsFunc over lists. -/
set_option linter.all false
set_option maxRecDepth 20000
set_option maxHeartbeats 8000000
namespace Go.Proofs.Ytakkmkinfeddeaa
open Go.Ab Go.Sort

/-- A function value that tells of lists of numbers. -/
def TellsL (g : FuncId) (fs cs : List Value) (Q : List Int → Prop) (P : List Int → Bool) (H : Heap) : Prop :=
  ∀ (H' : Heap) (w : Value) (x : List Int) (Post : Value → Heap → Prop), H <+: H' → Q x → IntsAt H' w x → (∀ H'', H' <+: H'' → Post (.bool (P x)) H'') → ACalls Try.prog g (fs ++ w :: cs) H' Post

theorem indexFuncL_ok {H : Heap} {u : Value} {xs : List (List Int)} {g : FuncId} {fs cs : List Value} {P : List Int → Bool} (hu : IntssAt H u xs) (hl : xs.length ≤ 140737488355328) (hf : TellsL g fs cs (· ∈ xs) P H) (Post : Value → Heap → Prop)
    (h : ∀ H' n, H <+: H' → IdxP xs P n → Post (.int .i64 n) H') : ACalls Try.prog 166 [u, .func (.func g) fs.toArray cs.toArray] H Post := by
  obtain ⟨i, o, rfl⟩ : ∃ i o, u = lv 1 i o xs.length := by obtain ⟨i, o, _, e, _⟩ := hu; exact ⟨i, o, e⟩
  refine acalls_vc (rs := [.tmp 4]) Try.func166 rfl rfl Try.ntmps166 rfl rfl ?_
  simp (maxSteps := 1000000) [go_sem]
  refine AWp.loopVc (fun s : Nat => [(0, lv 1 i o xs.length), (1, .func (.func g) fs.toArray cs.toArray), (7, .int .i64 xs.length), (8, .int .i64 s)])
    (fun s H' => s ≤ xs.length ∧ H <+: H' ∧ ∀ y ∈ xs.take s, P y = false) (fun s => xs.length - s) 0 ?_ ?_ ?_
  · simp [upF, Fr.get, Up.refl]
  · exact ⟨by omega, List.prefix_refl _, by simp⟩
  · rintro K s H' ⟨hs, hp, hall⟩ hK
    by_cases hlt : s < xs.length
    · have hx : xs[s]? = some xs[s] := List.getElem?_eq_getElem hlt
      obtain ⟨i2, o2, e2, hrow⟩ := row_at hu hlt
      obtain ⟨rfl, rfl⟩ := lv_inj e2
      obtain ⟨i', o', c1, hr⟩ := hrow hp
      have htk := List.take_succ_eq_append_getElem hlt
      have hxm := List.getElem_mem hlt
      generalize xs[s] = x at *
      have hw_s : IntKind.i64.wrap ((s : Int) + 1) = (s : Int) + 1 := i64w (by omega) (by omega)
      simp (maxSteps := 1000000) [go_sem, hlt, c1]
      refine hf H' _ x _ hp hxm hr ?_
      intro H2 hp2
      cases hP : P x with
      | true =>
        simp (maxSteps := 1000000) [go_sem]
        exact h H2 s (hp.trans hp2) (.inr ⟨s, x, rfl, hx, hP, hall⟩)
      | false =>
        simp (maxSteps := 1000000) [go_sem, hw_s]
        refine hK (s + 1) _ _ (by omega) (by simp [upF, Fr.get, Up.refl]) ⟨by omega, hp.trans hp2, ?_⟩
        intro y hy
        rw [htk, List.mem_append] at hy
        rcases hy with hy | hy
        · exact hall y hy
        · simp at hy; subst hy; exact hP
    · have : s = xs.length := by omega
      subst this
      rw [List.take_length] at hall
      simp (maxSteps := 1000000) [go_sem]
      exact h H' (-1) hp (.inl ⟨rfl, hall⟩)
theorem containsFuncL_ok {H : Heap} {u : Value} {xs : List (List Int)} {g : FuncId} {fs cs : List Value} {P : List Int → Bool} (hu : IntssAt H u xs) (hl : xs.length ≤ 140737488355328) (hf : TellsL g fs cs (· ∈ xs) P H) (Post : Value → Heap → Prop)
    (h : ∀ H', H <+: H' → Post (.bool (xs.any P)) H') : ACalls Try.prog 113 [u, .func (.func g) fs.toArray cs.toArray] H Post := by
  refine acalls_vc (rs := [.tmp 4]) Try.func113 rfl rfl Try.ntmps113 rfl rfl ?_
  simp (maxSteps := 1000000) [go_sem]
  refine indexFuncL_ok hu hl hf _ ?_
  intro H' n hp hn
  have e := hn.pos
  simp (maxSteps := 1000000) [go_sem, e]
  exact h H' hp

/- The code of a full system. -/
noncomputable def wholeC (p : Int) (bs : List Bk) : Int := if sysB p bs then (if fullB p bs then 0 else 5) else 1
theorem l03Whole_ok {H : Heap} {u : Value} {p : Int} {bs : List Bk} (hu : BlocksAt H u bs) (hl : bs.length ≤ 1048576) (Post : Value → Heap → Prop) (h : ∀ H', H <+: H' → Post (.int .i64 (wholeC p bs)) H') :
    ACalls Try.prog 143 [sysV p u] H Post := by
  refine acalls_vc (rs := [.tmp 2]) Try.func143 rfl rfl Try.ntmps143 rfl rfl ?_
  simp (maxSteps := 1000000) [go_sem, sysV, hu.one]
  have hp0 : H <+: H ++ [⟨[.int .i64 p, u], true, true⟩] := List.prefix_append _ _
  have hx0 := Holds.last H [.int .i64 p, u]
  generalize H ++ [(⟨[.int .i64 p, u], true, true⟩ : Blk)] = H0 at hp0 hx0 ⊢
  refine l01Is' (hu.pre hp0) hl _ ?_
  intro H1 hp1
  obtain ⟨d0, d1, d2⟩ := (hx0.pre hp1).sys
  cases hsb : sysB p bs with
  | false =>
    have := h H1 (hp0.trans hp1)
    simp only [wholeC, hsb] at this
    simp (maxSteps := 1000000) [go_sem]
    simpa using this
  | true =>
    have hp := (sysB_iff.1 hsb).1
    simp (maxSteps := 1000000) [go_sem, d0]
    refine l01Full_ok (hu.pre (hp0.trans hp1)) hp hl _ ?_
    intro H2 hp2
    have := h H2 (hp0.trans (hp1.trans hp2))
    cases hf : fullB p bs with
    | false => simp only [wholeC, hsb, hf] at this; simp (maxSteps := 1000000) [go_sem]; simpa using this
    | true => simp only [wholeC, hsb, hf] at this; simp (maxSteps := 1000000) [go_sem]; simpa using this

theorem specTypesOf_ok {H : Heap} {u : Value} {p : Int} {bs : List Bk} (hu : BlocksAt H u bs) (hl : bs.length ≤ 1048576) (Post : Value → Heap → Prop)
    (h : ∀ H' w k c, H <+: H' → H.length ≤ c → c ≤ H'.length → RowsIn H.length c H' w (rTys p bs).1 → IntsIn c H'.length H' k (rTys p bs).2.1 → Post (.tuple #[w, k, .int .i64 (rTys p bs).2.2]) H') :
    ACalls Try.prog 75 [sysV p u] H Post := by
  refine ACalls.res ?_
  refine acalls_vc (rs := [.tmp 2, .tmp 3, .tmp 4]) Try.func75 rfl rfl Try.ntmps75 rfl rfl ?_
  simp (maxSteps := 1000000) [go_sem, sysV, hu.one]
  have hp0 : H <+: H ++ [⟨[.int .i64 p, u], true, true⟩] := List.prefix_append _ _
  have hx0 := Holds.last H [.int .i64 p, u]
  generalize H ++ [(⟨[.int .i64 p, u], true, true⟩ : Blk)] = H0 at hp0 hx0 ⊢
  have bad : ∀ (H' : Heap) (c : Int), H <+: H' → rTys p bs = ([], [], c) → ∃ v', Up H' (.tuple #[.slice none 0 0, .slice none 0 0, .int .i64 c]) v' ∧ Post v' H' := by
    intro H' c hp hr
    refine ⟨_, Up.tuple (ys := #[lv 1 0 0 0, lv 1 0 0 0, .int .i64 c]) ⟨Up.nil _ _ _ _, Up.nil _ _ _ _, Up.refl _ _, trivial⟩, ?_⟩
    have := h H' (lv 1 0 0 0) (lv 1 0 0 0) H.length hp (Nat.le_refl _) hp.length_le (by rw [hr]; exact RowsIn.nil _ _ _) (by rw [hr]; exact IntsIn.nil _ _ _)
    rwa [hr] at this
  refine l03Whole_ok (hu.pre hp0) hl _ ?_
  intro H1 hp1
  obtain ⟨d0, d1, d2⟩ := (hx0.pre hp1).sys
  cases hsb : sysB p bs with
  | false =>
    simp (maxSteps := 1000000) [go_sem, wholeC, hsb]
    exact bad H1 1 (hp0.trans hp1) (by simp [rTys, hsb])
  | true =>
    have hS := sysB_iff.1 hsb
    have hp := hS.1
    cases hf : fullB p bs with
    | false =>
      simp (maxSteps := 1000000) [go_sem, wholeC, hsb, hf]
      exact bad H1 5 (hp0.trans hp1) (by simp [rTys, hsb, hf])
    | true =>
      obtain ⟨v, rfl⟩ : ∃ n : Nat, p = n := ⟨p.toNat, by omega⟩
      simp (maxSteps := 1000000) [go_sem, wholeC, hsb, hf, d0]
      refine l03Types_ok (hu.pre (hp0.trans hp1)) hS hf _ ?_
      intro H2 w k c hp2 hc1 hc2 hw hk
      have hle := (hp0.trans hp1).length_le
      have hr : rTys v bs = (onceL (tys1 v bs), cntL (onceL (tys1 v bs)) (tys1 v bs), 0) := by simp [rTys, hsb, hf]
      have fin := h H2 w k c (hp0.trans (hp1.trans hp2)) (by omega) hc2 (by rw [hr]; exact hw.wider hle) (by rw [hr]; exact hk)
      rw [hr] at fin
      simp (maxSteps := 1000000) [go_sem]
      exact ⟨_, Up.refl _ _, fin⟩

noncomputable def rUni (p : Int) (bs : List Bk) : Bool × Int := (decide ((rTys p bs).2.2 = 0) && decide ((rTys p bs).1.length = 1), (rTys p bs).2.2)
noncomputable def rPerf (p : Int) (bs : List Bk) : Bool × Int := (decide ((rTys p bs).2.2 = 0) && !(rTys p bs).1.any (fun t => decide (t.length ≠ 1)), (rTys p bs).2.2)

theorem rTys_len {p : Int} {bs : List Bk} : (rTys p bs).1.length ≤ 105 ∧ ∀ x ∈ (rTys p bs).1, x.length ≤ 15 := by
  unfold rTys
  split
  · rename_i hsb
    have hS := sysB_iff.1 hsb
    have hp := hS.1
    split
    · refine ⟨?_, fun x hx => ?_⟩
      · have := onceL_length (tys1 p.toNat bs)
        have := tys1_length (bs := bs) (show p.toNat < 16 by omega)
        simp only; omega
      · obtain ⟨q, _, rfl⟩ := List.mem_map.1 (mem_onceL.1 hx)
        have := typ_length p.toNat bs q
        omega
    · simp
  · simp

theorem rTys_flat {p : Int} {bs : List Bk} : (rTys p bs).1.flatten.length ≤ 1048576 := by
  have h := rTys_len (p := p) (bs := bs)
  have := flat_bound (n := 105) h.2 h.1
  omega
theorem implIsUniform_ok {H : Heap} {u : Value} {p : Int} {bs : List Bk} (hu : BlocksAt H u bs) (hl : bs.length ≤ 1048576) (Post : Value → Heap → Prop)
    (h : ∀ H', H <+: H' → Post (.tuple #[.bool (rUni p bs).1, .int .i64 (rUni p bs).2]) H') :
    ACalls Try.prog 70 [sysV p u] H Post := by
  refine acalls_vc (rs := [.tmp 2, .tmp 3]) Try.func70 rfl rfl Try.ntmps70 rfl rfl ?_
  simp (maxSteps := 1000000) [go_sem, sysV, hu.one]
  have hp0 : H <+: H ++ [⟨[.int .i64 p, u], true, true⟩] := List.prefix_append _ _
  generalize H ++ [(⟨[.int .i64 p, u], true, true⟩ : Blk)] = H0 at hp0 ⊢
  refine implTypesOf_ok (hu.pre hp0) hl _ ?_
  intro H1 w k c hp1 hc1 hc2 hw hk
  obtain ⟨i, o, ew⟩ : ∃ i o, w = lv 1 i o (rTys p bs).1.length := by obtain ⟨i, o, _, e, _⟩ := hw.read; exact ⟨i, o, e⟩
  have hlen := (rTys_len (p := p) (bs := bs)).1
  subst ew
  have fin := h H1 (hp0.trans hp1)
  simp only [rUni] at fin
  generalize (rTys p bs).1.length = n at *
  generalize (rTys p bs).2.2 = e at *
  by_cases he : e = 0
  · subst he
    simp (maxSteps := 1000000) [go_sem, undef]
    have e1 : ((n : Int) == 1) = decide (n = 1) := by by_cases h : n = 1 <;> simp [h]; omega
    first | exact (by simpa using fin) | (rw [e1]; simpa using fin)
  · have he' : (e == 0) = false := by simpa using he
    simp (maxSteps := 1000000) [go_sem, undef, he, he']
    simpa [he] using fin

theorem implIsPerfect_ok {H : Heap} {u : Value} {p : Int} {bs : List Bk} (hu : BlocksAt H u bs) (hl : bs.length ≤ 1048576) (Post : Value → Heap → Prop)
    (h : ∀ H', H <+: H' → Post (.tuple #[.bool (rPerf p bs).1, .int .i64 (rPerf p bs).2]) H') :
    ACalls Try.prog 72 [sysV p u] H Post := by
  refine acalls_vc (rs := [.tmp 2, .tmp 3]) Try.func72 rfl rfl Try.ntmps72 rfl rfl ?_
  simp (maxSteps := 1000000) [go_sem, sysV, hu.one]
  have hp0 : H <+: H ++ [⟨[.int .i64 p, u], true, true⟩] := List.prefix_append _ _
  generalize H ++ [(⟨[.int .i64 p, u], true, true⟩ : Blk)] = H0 at hp0 ⊢
  refine implTypesOf_ok (hu.pre hp0) hl _ ?_
  intro H1 w k c hp1 hc1 hc2 hw hk
  have hlen := rTys_len (p := p) (bs := bs)
  have fin := fun H' hp => h H' (hp0.trans (hp1.trans hp))
  simp only [rPerf] at fin
  have hread := hw.read
  generalize (rTys p bs).1 = l at *
  generalize (rTys p bs).2.2 = e at *
  by_cases he : e = 0
  · subst he
    simp (maxSteps := 1000000) [go_sem, undef]
    refine containsFuncL_ok (fs := []) (cs := []) (P := fun t => decide (t.length ≠ 1)) hread (by omega) ?_ _ ?_
    · intro H' w x Post' hp' hx hr hP
      obtain ⟨i, o, rfl, _, hxl⟩ := hr
      show ACalls Try.prog 145 [lv 1 i o x.length] H' Post'
      refine acalls_vc (rs := [.tmp 2]) Try.func145 rfl rfl Try.ntmps145 rfl rfl ?_
      simp (maxSteps := 1000000) [go_sem]
      have := hP H' (List.prefix_refl _)
      have e1 : ((x.length : Int) != 1) = decide (x.length ≠ 1) := by by_cases h : x.length = 1 <;> simp [h]; omega
      rw [e1]
      exact this
    · intro H2 hp2
      have fin := fin H2 hp2
      simp (maxSteps := 1000000) [go_sem]
      simpa using fin
  · have fin := fin H1 (List.prefix_refl _)
    have he' : (e == 0) = false := by simpa using he
    simp (maxSteps := 1000000) [go_sem, undef, he, he']
    simpa [he] using fin

theorem specIsUniform_ok {H : Heap} {u : Value} {p : Int} {bs : List Bk} (hu : BlocksAt H u bs) (hl : bs.length ≤ 1048576) (Post : Value → Heap → Prop)
    (h : ∀ H', H <+: H' → Post (.tuple #[.bool (rUni p bs).1, .int .i64 (rUni p bs).2]) H') :
    ACalls Try.prog 69 [sysV p u] H Post := by
  refine acalls_vc (rs := [.tmp 2, .tmp 3]) Try.func69 rfl rfl Try.ntmps69 rfl rfl ?_
  simp (maxSteps := 1000000) [go_sem, sysV, hu.one]
  have hp0 : H <+: H ++ [⟨[.int .i64 p, u], true, true⟩] := List.prefix_append _ _
  have hx0 := Holds.last H [.int .i64 p, u]
  generalize H ++ [(⟨[.int .i64 p, u], true, true⟩ : Blk)] = H0 at hp0 hx0 ⊢
  refine l03Whole_ok (hu.pre hp0) hl _ ?_
  intro H1 hp1
  obtain ⟨d0, d1, d2⟩ := (hx0.pre hp1).sys
  cases hsb : sysB p bs with
  | false =>
    have fin := h H1 (hp0.trans hp1)
    simp only [rUni, rTys, hsb] at fin
    simp (maxSteps := 1000000) [go_sem, wholeC, hsb]
    simpa using fin
  | true =>
    have hS := sysB_iff.1 hsb
    have hp := hS.1
    cases hf : fullB p bs with
    | false =>
      have fin := h H1 (hp0.trans hp1)
      simp only [rUni, rTys, hsb, hf] at fin
      simp (maxSteps := 1000000) [go_sem, wholeC, hsb, hf]
      simpa using fin
    | true =>
      obtain ⟨v, rfl⟩ : ∃ n : Nat, p = n := ⟨p.toNat, by omega⟩
      simp (maxSteps := 1000000) [go_sem, wholeC, hsb, hf, d0]
      refine l03Types_ok (hu.pre (hp0.trans hp1)) hS hf _ ?_
      intro H2 w k c hp2 hc1 hc2 hw hk
      obtain ⟨i, o, ew⟩ : ∃ i o, w = lv 1 i o (onceL (tys1 v bs)).length := by obtain ⟨i, o, _, e, _⟩ := hw.read; exact ⟨i, o, e⟩
      have hlen := (rTys_len (p := (v : Int)) (bs := bs)).1
      subst ew
      have fin := h H2 (hp0.trans (hp1.trans hp2))
      have hr : rTys v bs = (onceL (tys1 v bs), cntL (onceL (tys1 v bs)) (tys1 v bs), 0) := by simp [rTys, hsb, hf]
      simp only [rUni, hr] at fin hlen
      generalize (onceL (tys1 v bs)).length = n at *
      have e1 : ((n : Int) == 1) = decide (n = 1) := by by_cases h : n = 1 <;> simp [h]; omega
      simp (maxSteps := 1000000) [go_sem]
      first | exact (by simpa using fin) | (rw [e1]; simpa using fin)

theorem specIsPerfect_ok {H : Heap} {u : Value} {p : Int} {bs : List Bk} (hu : BlocksAt H u bs) (hl : bs.length ≤ 1048576) (Post : Value → Heap → Prop)
    (h : ∀ H', H <+: H' → Post (.tuple #[.bool (rPerf p bs).1, .int .i64 (rPerf p bs).2]) H') :
    ACalls Try.prog 71 [sysV p u] H Post := by
  refine acalls_vc (rs := [.tmp 2, .tmp 3]) Try.func71 rfl rfl Try.ntmps71 rfl rfl ?_
  simp (maxSteps := 1000000) [go_sem, sysV, hu.one]
  have hp0 : H <+: H ++ [⟨[.int .i64 p, u], true, true⟩] := List.prefix_append _ _
  have hx0 := Holds.last H [.int .i64 p, u]
  generalize H ++ [(⟨[.int .i64 p, u], true, true⟩ : Blk)] = H0 at hp0 hx0 ⊢
  refine l03Whole_ok (hu.pre hp0) hl _ ?_
  intro H1 hp1
  obtain ⟨d0, d1, d2⟩ := (hx0.pre hp1).sys
  cases hsb : sysB p bs with
  | false =>
    have fin := h H1 (hp0.trans hp1)
    simp only [rPerf, rTys, hsb] at fin
    simp (maxSteps := 1000000) [go_sem, wholeC, hsb]
    simpa using fin
  | true =>
    have hS := sysB_iff.1 hsb
    have hp := hS.1
    cases hf : fullB p bs with
    | false =>
      have fin := h H1 (hp0.trans hp1)
      simp only [rPerf, rTys, hsb, hf] at fin
      simp (maxSteps := 1000000) [go_sem, wholeC, hsb, hf]
      simpa using fin
    | true =>
      obtain ⟨v, rfl⟩ : ∃ n : Nat, p = n := ⟨p.toNat, by omega⟩
      simp (maxSteps := 1000000) [go_sem, wholeC, hsb, hf, d0]
      refine l03Types_ok (hu.pre (hp0.trans hp1)) hS hf _ ?_
      intro H2 w k c hp2 hc1 hc2 hw hk
      have fin := h H2 (hp0.trans (hp1.trans hp2))
      have hlen := rTys_len (p := (v : Int)) (bs := bs)
      have hr : rTys v bs = (onceL (tys1 v bs), cntL (onceL (tys1 v bs)) (tys1 v bs), 0) := by simp [rTys, hsb, hf]
      simp only [rPerf, hr] at fin hlen
      have hread := hw.read
      generalize onceL (tys1 v bs) = l at *
      obtain ⟨i, o, rfl⟩ : ∃ i o, w = lv 1 i o l.length := by obtain ⟨i, o, _, e, _⟩ := hread; exact ⟨i, o, e⟩
      simp (maxSteps := 1000000) [go_sem]
      refine AWp.loopVc (St := Nat) (fun s => [(5, lv 1 i o l.length), (7, .int .i64 s)]) (fun s H' => s ≤ l.length ∧ H' = H2 ∧ ∀ t ∈ l.take s, t.length = 1) (fun s => l.length - s) 0 ?_ ?_ ?_
      · simp [upF, Fr.get, Up.refl]
      · exact ⟨by omega, rfl, by simp⟩
      · rintro K s H' ⟨hs, rfl, hall⟩ hK
        by_cases hlt : s < l.length
        · obtain ⟨i2, o2, e2, hrow⟩ := row_at hread hlt
          obtain ⟨rfl, rfl⟩ := lv_inj e2
          obtain ⟨i', o', c1, hr⟩ := hrow (List.prefix_refl _)
          have htk := List.take_succ_eq_append_getElem hlt
          have hxm := List.getElem_mem hlt
          generalize l[s] = x at *
          have hw_s : IntKind.i64.wrap ((s : Int) + 1) = (s : Int) + 1 := i64w (by omega) (by omega)
          by_cases hx1 : x.length = 1
          · simp (maxSteps := 1000000) [go_sem, hlt, c1, hx1, hw_s]
            refine hK (s + 1) _ _ (by omega) (by simp [upF, Fr.get, Up.refl]) ⟨by omega, rfl, ?_⟩
            intro t ht
            rw [htk, List.mem_append] at ht
            rcases ht with ht | ht
            · exact hall t ht
            · simp at ht; subst ht; exact hx1
          · have hx1' : ((x.length : Int) != 1) = true := by simp; omega
            have hx1'' : ¬ (x.length : Int) = 1 := by omega
            have e1 : l.any (fun t => decide (t.length ≠ 1)) = true := List.any_eq_true.2 ⟨x, hxm, by simp [hx1]⟩
            rw [e1] at fin
            simp (maxSteps := 1000000) [go_sem, hlt, c1, hx1, hx1', hx1'']
            simpa using fin
        · have : s = l.length := by omega
          subst this
          rw [List.take_length] at hall
          have e1 : l.any (fun t => decide (t.length ≠ 1)) = false := by
            rw [List.any_eq_false]; intro t ht; simp [hall t ht]
          rw [e1] at fin
          simp (maxSteps := 1000000) [go_sem]
          simpa using fin

end Go.Proofs.Ytakkmkinfeddeaa
end

section
/- The law on TypesOf, in abstract terms: its code returns true, for every input. -/
set_option linter.all false
set_option maxRecDepth 20000
namespace Go.Proofs.Ytakkmkinfeddeaa
open Go.Ab

theorem lawFnExactTypesOf (H : Heap) (avs : List Value) (h : argsSay [shSystem] H avs) : ACalls Try.prog 19 avs H fun v _ => v = .bool true := by
  obtain ⟨_, _, rfl, a0, rfl⟩ := h
  obtain ⟨p0, u0, b0, rfl, hp00, hz0, hw0⟩ := says_shSystem a0
  have one0 : u0.oneCell' = true := by obtain ⟨i, o, rfl, _⟩ := hz0; rfl
  refine acalls_vc (rs := [.tmp 2]) Try.func19 rfl rfl Try.ntmps19 rfl rfl ?_
  try simp (maxSteps := 1000000) [go_sem, one0, sysV]
  have hp1 : H <+: H ++ [(⟨[.int .i64 p0, u0], true, true⟩ : Blk)] := List.prefix_append _ _
  have bx0 : Holds (H ++ [(⟨[.int .i64 p0, u0], true, true⟩ : Blk)]) (H.length) [.int .i64 p0, u0] := ⟨true, by simp⟩
  have hbH1 : (H ++ [(⟨[.int .i64 p0, u0], true, true⟩ : Blk)]).length = H.length + 1 := by simp
  generalize H ++ [(⟨[.int .i64 p0, u0], true, true⟩ : Blk)] = H1 at hp1 hbH1 bx0 ⊢
  have hlH1 := hp1.length_le
  have qz0 := hp1
  obtain ⟨d0a, d0b, d0c⟩ := bx0.sys
  refine szSystem0_ok (hz0.pre qz0) (by omega) (by omega) _ ?_
  intro H2 hp2
  replace bx0 := bx0.pre hp2
  replace qz0 := qz0.trans hp2
  have hlH2 := hp2.length_le
  obtain ⟨d0a, d0b, d0c⟩ := bx0.sys
  by_cases hbig0 : (1048576 : Int) < b0.length
  · simp (maxSteps := 1000000) [go_sem, hbig0, one0, sysV]
  have hneg0 : decide ((1048576 : Int) - b0.length < 0) = false := by simp; omega
  have hl0 : b0.length ≤ 1048576 := by omega
  have hq0 := hz0.at (by omega)
  try simp (maxSteps := 1000000) [go_sem, hbig0, hneg0, one0, sysV, d0a, d0b, d0c]
  refine toSys_ok (hq0.pre qz0) hl0 _ ?_
  intro H3 wo3 hp3 hoo3
  replace bx0 := bx0.pre hp3
  replace qz0 := qz0.trans hp3
  have hlH3 := hp3.length_le
  obtain ⟨d0a, d0b, d0c⟩ := bx0.sys
  try simp (maxSteps := 1000000) [go_sem, hbig0, hneg0, one0, sysV, d0a, d0b, d0c]
  refine specTypesOf_ok hoo3.read hl0 _ ?_
  intro H4 wH4_0 wH4_1 cH4 hp4 hcH4a hcH4b hoH4_0 hoH4_1
  replace bx0 := bx0.pre hp4
  replace hoo3 := hoo3.pre hp4
  replace qz0 := qz0.trans hp4
  have hlH4 := hp4.length_le
  obtain ⟨d0a, d0b, d0c⟩ := bx0.sys
  try simp (maxSteps := 1000000) [go_sem, hbig0, hneg0, one0, sysV, d0a, d0b, d0c]
  refine toSys_ok (hq0.pre qz0) hl0 _ ?_
  intro H5 wo5 hp5 hoo5
  replace bx0 := bx0.pre hp5
  replace hoo3 := hoo3.pre hp5
  replace hoH4_0 := hoH4_0.pre hp5
  replace hoH4_1 := hoH4_1.pre hp5
  replace qz0 := qz0.trans hp5
  have hlH5 := hp5.length_le
  obtain ⟨d0a, d0b, d0c⟩ := bx0.sys
  have one_o5 : wo5.oneCell' = true := hoo5.read.one
  try simp (maxSteps := 1000000) [go_sem, hbig0, hneg0, one0, one_o5, sysV, d0a, d0b, d0c]
  have bxo5 := Holds.last H5 [.int .i64 p0, wo5]
  have hp6 : H5 <+: H5 ++ [(⟨[.int .i64 p0, wo5], true, true⟩ : Blk)] := List.prefix_append _ _
  have hbH6 : (H5 ++ [(⟨[.int .i64 p0, wo5], true, true⟩ : Blk)]).length = H5.length + 1 := by simp
  generalize H5 ++ [(⟨[.int .i64 p0, wo5], true, true⟩ : Blk)] = H6 at bxo5 hp6 hbH6 ⊢
  replace bx0 := bx0.pre hp6
  replace hoo3 := hoo3.pre hp6
  replace hoH4_0 := hoH4_0.pre hp6
  replace hoH4_1 := hoH4_1.pre hp6
  replace hoo5 := hoo5.pre hp6
  replace qz0 := qz0.trans hp6
  have hlH6 := hp6.length_le
  obtain ⟨d0a, d0b, d0c⟩ := bx0.sys
  obtain ⟨eo5a, eo5b, eo5c⟩ := bxo5.sys
  try simp (maxSteps := 1000000) [go_sem, hbig0, hneg0, one0, one_o5, sysV, d0a, d0b, d0c, eo5a, eo5b, eo5c]
  refine implTypesOf_ok hoo5.read hl0 _ ?_
  intro H7 wH7_0 wH7_1 cH7 hp7 hcH7a hcH7b hoH7_0 hoH7_1
  replace bx0 := bx0.pre hp7
  replace bxo5 := bxo5.pre hp7
  replace hoo3 := hoo3.pre hp7
  replace hoH4_0 := hoH4_0.pre hp7
  replace hoH4_1 := hoH4_1.pre hp7
  replace hoo5 := hoo5.pre hp7
  replace qz0 := qz0.trans hp7
  have hlH7 := hp7.length_le
  obtain ⟨d0a, d0b, d0c⟩ := bx0.sys
  obtain ⟨eo5a, eo5b, eo5c⟩ := bxo5.sys
  try simp (maxSteps := 1000000) [go_sem, hbig0, hneg0, one0, one_o5, sysV, d0a, d0b, d0c, eo5a, eo5b, eo5c]
  refine eqInt64SS_ok hoH7_0.read hoH4_0.read _ ?_
  try simp (maxSteps := 1000000) [go_sem, hbig0, hneg0, one0, one_o5, sysV, d0a, d0b, d0c, eo5a, eo5b, eo5c]
  refine eqInt64S_ok hoH7_1.read hoH4_1.read _ ?_
  try simp (maxSteps := 1000000) [go_sem, hbig0, hneg0, one0, one_o5, sysV, d0a, d0b, d0c, eo5a, eo5b, eo5c]
  refine AWp.draw mixed [(0, false), (1, false), (2, true), (3, false), (4, false)] (by kernel_rfl) ?_
  try simp (maxSteps := 1000000) [go_sem, hbig0, hneg0, one0, one_o5, sysV, d0a, d0b, d0c, eo5a, eo5b, eo5c]
  refine toSys_ok (hq0.pre qz0) hl0 _ ?_
  intro H8 wo8 hp8 hoo8
  replace bx0 := bx0.pre hp8
  replace bxo5 := bxo5.pre hp8
  replace hoo3 := hoo3.pre hp8
  replace hoH4_0 := hoH4_0.pre hp8
  replace hoH4_1 := hoH4_1.pre hp8
  replace hoo5 := hoo5.pre hp8
  replace hoH7_0 := hoH7_0.pre hp8
  replace hoH7_1 := hoH7_1.pre hp8
  replace qz0 := qz0.trans hp8
  have hlH8 := hp8.length_le
  obtain ⟨d0a, d0b, d0c⟩ := bx0.sys
  obtain ⟨eo5a, eo5b, eo5c⟩ := bxo5.sys
  try simp (maxSteps := 1000000) [go_sem, hbig0, hneg0, hp8, one0, one_o5, sysV, d0a, d0b, d0c, eo5a, eo5b, eo5c]
  refine eqSystem_ok hoo5.read hoo8.read _ ?_
  intro H9 hp9
  replace bx0 := bx0.pre hp9
  replace bxo5 := bxo5.pre hp9
  replace hoo3 := hoo3.pre hp9
  replace hoH4_0 := hoH4_0.pre hp9
  replace hoH4_1 := hoH4_1.pre hp9
  replace hoo5 := hoo5.pre hp9
  replace hoH7_0 := hoH7_0.pre hp9
  replace hoH7_1 := hoH7_1.pre hp9
  replace hoo8 := hoo8.pre hp9
  replace qz0 := qz0.trans hp9
  have hlH9 := hp9.length_le
  obtain ⟨d0a, d0b, d0c⟩ := bx0.sys
  obtain ⟨eo5a, eo5b, eo5c⟩ := bxo5.sys
  try simp (maxSteps := 1000000) [go_sem, hbig0, hneg0, hp8, one0, one_o5, sysV, d0a, d0b, d0c, eo5a, eo5b, eo5c]
  refine markSys_ok hoo5 (by omega) (by omega) _ ?_
  intro H10 hs10 mk10
  replace bx0 := bx0.keepS hs10 (by rintro ⟨h1, h2⟩; omega)
  replace bxo5 := bxo5.keepS hs10 (by rintro ⟨h1, h2⟩; omega)
  replace hoo3 := hoo3.keep hs10 (by rintro j ⟨h1, h2⟩ ⟨h3, h4⟩; omega)
  replace hoH4_0 := hoH4_0.keep hs10 (by rintro j ⟨h1, h2⟩ ⟨h3, h4⟩; omega)
  replace hoH4_1 := hoH4_1.keep hs10 (by rintro j ⟨h1, h2⟩ ⟨h3, h4⟩; omega)
  replace hoH7_0 := hoH7_0.keep hs10 (by rintro j ⟨h1, h2⟩ ⟨h3, h4⟩; omega)
  replace hoH7_1 := hoH7_1.keep hs10 (by rintro j ⟨h1, h2⟩ ⟨h3, h4⟩; omega)
  replace hoo8 := hoo8.keep hs10 (by rintro j ⟨h1, h2⟩ ⟨h3, h4⟩; omega)
  replace qz0 := ((Same.of_prefix qz0).trans hs10).prefix (by rintro j hj ⟨h1, h2⟩; omega)
  have hlH10 := hs10.1
  obtain ⟨d0a, d0b, d0c⟩ := bx0.sys
  obtain ⟨eo5a, eo5b, eo5c⟩ := bxo5.sys
  have hng10 : decide ((1 : Int) + ((b0).length * 3 : Nat) < 0) = false := by simp only [decide_eq_false_iff_not]; omega
  try simp only [Int.natCast_mul, Int.cast_ofNat_Int] at hng10
  try simp (maxSteps := 1000000) [go_sem, hbig0, hneg0, hng10, hp8, one0, one_o5, sysV, d0a, d0b, d0c, eo5a, eo5b, eo5c]
  refine eqInt64SS_ok hoH7_0.read hoH4_0.read _ ?_
  try simp (maxSteps := 1000000) [go_sem, hbig0, hneg0, hng10, hp8, one0, one_o5, sysV, d0a, d0b, d0c, eo5a, eo5b, eo5c]
  refine eqInt64S_ok hoH7_1.read hoH4_1.read _ ?_
  try simp (maxSteps := 1000000) [go_sem, hbig0, hneg0, hng10, hp8, one0, one_o5, sysV, d0a, d0b, d0c, eo5a, eo5b, eo5c]
  obtain ⟨TrH7_0, hTrH7_0⟩ : ∃ T : Nat, T = ((rTys p0 b0).1).flatten.length := ⟨_, rfl⟩
  have hTbrH7_0 : TrH7_0 ≤ 1048576 := by rw [hTrH7_0]; exact rTys_flat
  refine markIntss_ok hoH7_0 hTrH7_0 (by omega) (by omega) _ ?_
  intro H11 hs11 mk11
  replace bx0 := bx0.keepS hs11 (by rintro ⟨h1, h2⟩; omega)
  replace bxo5 := bxo5.keepS hs11 (by rintro ⟨h1, h2⟩; omega)
  replace hoo3 := hoo3.keep hs11 (by rintro j ⟨h1, h2⟩ ⟨h3, h4⟩; omega)
  replace hoH4_0 := hoH4_0.keep hs11 (by rintro j ⟨h1, h2⟩ ⟨h3, h4⟩; omega)
  replace hoH4_1 := hoH4_1.keep hs11 (by rintro j ⟨h1, h2⟩ ⟨h3, h4⟩; omega)
  replace mk10 := mk10.keep hs11 (by rintro j ⟨h1, h2⟩ ⟨h3, h4⟩; omega)
  replace hoH7_1 := hoH7_1.keep hs11 (by rintro j ⟨h1, h2⟩ ⟨h3, h4⟩; omega)
  replace hoo8 := hoo8.keep hs11 (by rintro j ⟨h1, h2⟩ ⟨h3, h4⟩; omega)
  replace qz0 := ((Same.of_prefix qz0).trans hs11).prefix (by rintro j hj ⟨h1, h2⟩; omega)
  have hlH11 := hs11.1
  obtain ⟨d0a, d0b, d0c⟩ := bx0.sys
  obtain ⟨eo5a, eo5b, eo5c⟩ := bxo5.sys
  have hng11 : decide ((1 : Int) + (TrH7_0 : Int) < 0) = false := by simp only [decide_eq_false_iff_not]; omega
  try simp only [Int.natCast_mul, Int.cast_ofNat_Int] at hng11
  try simp (maxSteps := 1000000) [go_sem, hbig0, hneg0, hng10, hng11, hp8, one0, one_o5, sysV, d0a, d0b, d0c, eo5a, eo5b, eo5c]
  refine markInts_ok hoH7_1 (by omega) (by omega) _ ?_
  intro H12 hs12 mk12
  replace bx0 := bx0.keepS hs12 (by rintro ⟨h1, h2⟩; omega)
  replace bxo5 := bxo5.keepS hs12 (by rintro ⟨h1, h2⟩; omega)
  replace hoo3 := hoo3.keep hs12 (by rintro j ⟨h1, h2⟩ ⟨h3, h4⟩; omega)
  replace hoH4_0 := hoH4_0.keep hs12 (by rintro j ⟨h1, h2⟩ ⟨h3, h4⟩; omega)
  replace hoH4_1 := hoH4_1.keep hs12 (by rintro j ⟨h1, h2⟩ ⟨h3, h4⟩; omega)
  replace mk10 := mk10.keep hs12 (by rintro j ⟨h1, h2⟩ ⟨h3, h4⟩; omega)
  replace mk11 := mk11.keep hs12 (by rintro j ⟨h1, h2⟩ ⟨h3, h4⟩; omega)
  replace hoo8 := hoo8.keep hs12 (by rintro j ⟨h1, h2⟩ ⟨h3, h4⟩; omega)
  replace qz0 := ((Same.of_prefix qz0).trans hs12).prefix (by rintro j hj ⟨h1, h2⟩; omega)
  have hlH12 := hs12.1
  obtain ⟨d0a, d0b, d0c⟩ := bx0.sys
  obtain ⟨eo5a, eo5b, eo5c⟩ := bxo5.sys
  have hng12 : decide ((1 : Int) + (TrH7_0 : Int) + (((rTys p0 b0).2.1).length : Nat) < 0) = false := by simp only [decide_eq_false_iff_not]; omega
  try simp only [Int.natCast_mul, Int.cast_ofNat_Int] at hng12
  try simp (maxSteps := 1000000) [go_sem, hbig0, hneg0, hng10, hng11, hng12, hp8, one0, one_o5, sysV, d0a, d0b, d0c, eo5a, eo5b, eo5c]
  refine heldIntss_ok mk11 hTrH7_0 (by omega) (by omega) _ ?_
  try simp (maxSteps := 1000000) [go_sem, hbig0, hneg0, hng10, hng11, hng12, hp8, one0, one_o5, sysV, d0a, d0b, d0c, eo5a, eo5b, eo5c]
  refine heldInts_ok mk12 (by omega) (by omega) _ ?_
  try simp (maxSteps := 1000000) [go_sem, hbig0, hneg0, hng10, hng11, hng12, hp8, one0, one_o5, sysV, d0a, d0b, d0c, eo5a, eo5b, eo5c]
  refine toSys_ok (hq0.pre qz0) hl0 _ ?_
  intro H13 wo13 hp13 hoo13
  replace bx0 := bx0.pre hp13
  replace bxo5 := bxo5.pre hp13
  replace hoo3 := hoo3.pre hp13
  replace hoH4_0 := hoH4_0.pre hp13
  replace hoH4_1 := hoH4_1.pre hp13
  replace mk10 := mk10.pre hp13
  replace mk11 := mk11.pre hp13
  replace mk12 := mk12.pre hp13
  replace hoo8 := hoo8.pre hp13
  replace qz0 := qz0.trans hp13
  have hlH13 := hp13.length_le
  obtain ⟨d0a, d0b, d0c⟩ := bx0.sys
  obtain ⟨eo5a, eo5b, eo5c⟩ := bxo5.sys
  try simp (maxSteps := 1000000) [go_sem, hbig0, hneg0, hng10, hng11, hng12, hp8, one0, one_o5, sysV, d0a, d0b, d0c, eo5a, eo5b, eo5c]
  refine implTypesOf_ok hoo13.read hl0 _ ?_
  intro H14 wH14_0 wH14_1 cH14 hp14 hcH14a hcH14b hoH14_0 hoH14_1
  replace bx0 := bx0.pre hp14
  replace bxo5 := bxo5.pre hp14
  replace hoo3 := hoo3.pre hp14
  replace hoH4_0 := hoH4_0.pre hp14
  replace hoH4_1 := hoH4_1.pre hp14
  replace mk10 := mk10.pre hp14
  replace mk11 := mk11.pre hp14
  replace mk12 := mk12.pre hp14
  replace hoo8 := hoo8.pre hp14
  replace hoo13 := hoo13.pre hp14
  replace qz0 := qz0.trans hp14
  have hlH14 := hp14.length_le
  obtain ⟨d0a, d0b, d0c⟩ := bx0.sys
  obtain ⟨eo5a, eo5b, eo5c⟩ := bxo5.sys
  try simp (maxSteps := 1000000) [go_sem, hbig0, hneg0, hng10, hng11, hng12, hp8, one0, one_o5, sysV, d0a, d0b, d0c, eo5a, eo5b, eo5c]
  refine eqInt64SS_ok hoH14_0.read hoH4_0.read _ ?_
  try simp (maxSteps := 1000000) [go_sem, hbig0, hneg0, hng10, hng11, hng12, hp8, one0, one_o5, sysV, d0a, d0b, d0c, eo5a, eo5b, eo5c]
  refine eqInt64S_ok hoH14_1.read hoH4_1.read _ ?_
  try simp (maxSteps := 1000000) [go_sem, hbig0, hneg0, hng10, hng11, hng12, hp8, one0, one_o5, sysV, d0a, d0b, d0c, eo5a, eo5b, eo5c]
  refine heldIntss_ok mk11 hTrH7_0 (by omega) (by omega) _ ?_
  try simp (maxSteps := 1000000) [go_sem, hbig0, hneg0, hng10, hng11, hng12, hp8, one0, one_o5, sysV, d0a, d0b, d0c, eo5a, eo5b, eo5c]
  refine heldInts_ok mk12 (by omega) (by omega) _ ?_
  try simp (maxSteps := 1000000) [go_sem, hbig0, hneg0, hng10, hng11, hng12, hp8, one0, one_o5, sysV, d0a, d0b, d0c, eo5a, eo5b, eo5c]

end Go.Proofs.Ytakkmkinfeddeaa
end
