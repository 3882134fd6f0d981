/- Lists that a call builds for itself: appending, marking, what stays as it was. No statement of the seat is proved here; it holds for every program. -/
import Derived.Test.YtkgjdmbmdnmilaaLists
set_option linter.all false
namespace Go.Ab

/-- All blocks but those of S are as they were. -/
def Same (S : Nat → Prop) (H H' : Heap) : Prop := H.length ≤ H'.length ∧ ∀ j, j < H.length → ¬ S j → H'[j]? = H[j]?

theorem Same.refl (S : Nat → Prop) (H : Heap) : Same S H H := ⟨Nat.le_refl _, fun _ _ _ => rfl⟩
theorem Same.trans {S : Nat → Prop} {H H' H'' : Heap} (h : Same S H H') (h' : Same S H' H'') : Same S H H'' :=
  ⟨Nat.le_trans h.1 h'.1, fun j hj hs => (h'.2 j (Nat.lt_of_lt_of_le hj h.1) hs).trans (h.2 j hj hs)⟩
theorem Same.mono {S T : Nat → Prop} {H H' : Heap} (h : Same S H H') (hst : ∀ j, j < H.length → S j → T j) : Same T H H' :=
  ⟨h.1, fun j hj hs => h.2 j hj fun hS => hs (hst j hj hS)⟩
theorem Same.of_prefix {S : Nat → Prop} {H H' : Heap} (h : H <+: H') : Same S H H' := by
  obtain ⟨t, rfl⟩ := h
  exact ⟨by simp, fun j hj _ => List.getElem?_append_left hj⟩
theorem Same.prefix {S : Nat → Prop} {H H' : Heap} (h : Same S H H') (hs : ∀ j, j < H.length → ¬ S j) : H <+: H' := by
  rw [List.prefix_iff_eq_take]
  apply List.ext_getElem?
  intro j
  by_cases hj : j < H.length
  · rw [List.getElem?_take, if_pos hj, h.2 j hj (hs j hj)]
  · rw [List.getElem?_take, if_neg hj, List.getElem?_eq_none (by omega)]
theorem Same.get {S : Nat → Prop} {H H' : Heap} (h : Same S H H') {j : Nat} {b : Blk} (hb : H[j]? = some b) (hs : ¬ S j) : H'[j]? = some b := by
  rw [h.2 j (List.getElem?_eq_some_iff.1 hb).1 hs]; exact hb

/-- A list of n elements of e cells that the call holds alone. -/
def OL (e : Nat) (H : Heap) (id : Nat) (cs : List Value) (n : Nat) : Prop :=
  cs.length = n * e ∧ ((n = 0 ∧ ghostAt H id = true) ∨ H[id]? = some ⟨cs, true, true⟩)

theorem OL.lt {e : Nat} {H : Heap} {id : Nat} {cs : List Value} {n : Nat} (h : OL e H id cs n) : id < H.length := by
  rcases h.2 with ⟨_, h⟩ | h
  · obtain ⟨b, hb, _⟩ := ghostAt_inv h
    exact (List.getElem?_eq_some_iff.1 hb).1
  · exact (List.getElem?_eq_some_iff.1 h).1

theorem OL.at {e : Nat} {H : Heap} {id : Nat} {cs : List Value} {n : Nat} (h : OL e H id cs n) : At H id 0 cs := by
  rcases h.2 with ⟨h0, _⟩ | h'
  · left; subst h0; exact List.eq_nil_of_length_eq_zero (by simpa using h.1)
  · exact Holds.at ⟨true, h'⟩

theorem OL.ghost (e : Nat) (H : Heap) : OL e (H ++ [⟨[], false, false⟩]) H.length [] 0 :=
  ⟨by simp, .inl ⟨rfl, by simp [ghostAt]⟩⟩

theorem OL.keep {e : Nat} {H H' : Heap} {id : Nat} {cs : List Value} {n : Nat} (h : OL e H id cs n) {S : Nat → Prop} (hs : Same S H H') (hi : ¬ S id) : OL e H' id cs n := by
  refine ⟨h.1, ?_⟩
  rcases h.2 with ⟨h0, h'⟩ | h'
  · left
    obtain ⟨b, hb, h1, h2⟩ := ghostAt_inv h'
    refine ⟨h0, ?_⟩
    have := hs.get hb hi
    simp [ghostAt, this, h1, h2]
  · right; exact hs.get h' hi

/-- append to such a list. -/
theorem OL.append {e : Nat} {H : Heap} {id : Nat} {cs : List Value} {n : Nat} (h : OL e H id cs n) (he : 0 < e) {m : Nat} (hm : 0 < m) {news : List Value} (hn : news.length = m * e) :
    ∃ H', appendH H e (lv e id 0 n) m news = some (lv e H.length 0 (n + m), H') ∧ OL e H' H.length (cs ++ news) (n + m) ∧ Same (fun j => j = id) H H' ∧ H'.length = H.length + 1 := by
  rcases h.2 with ⟨h0, hg⟩ | hb
  · subst h0
    have : cs = [] := List.eq_nil_of_length_eq_zero (by simpa using h.1)
    subst this
    refine ⟨H ++ [⟨news, true, true⟩], ?_, ⟨by simpa using hn, .inr (by simp)⟩, Same.of_prefix (List.prefix_append _ _), by simp⟩
    simp [appendH, show ¬ m = 0 by omega, he, hg]
  · have hc : cellsAt H id 0 (n * e) = some cs := by rw [← h.1, cellsAt_of hb rfl (by simp)]; simp
    have hown : ownAt H id = true := by simp [ownAt, hb]
    have hng : ghostAt H id = false := by simp [ghostAt, hb]
    refine ⟨H.kill id ++ [⟨cs ++ news, true, true⟩], ?_, ⟨by simp [h.1, hn, Nat.add_mul], .inr (by rw [List.getElem?_append_right (by rw [Heap.kill_length]; exact Nat.le_refl _), Heap.kill_length]; simp)⟩, ⟨by simp [Heap.kill_length], fun j hj hs => ?_⟩, by simp [Heap.kill_length]⟩
    · simp [appendH, show ¬ m = 0 by omega, hown, hng, hc]
    · rw [List.getElem?_append_left (by rw [Heap.kill_length]; exact hj)]
      unfold Heap.kill
      rw [hb]
      exact List.getElem?_set_ne (fun e => hs e.symm)

/-- 'append(s, x)': the text builds a slice of one element first. -/
theorem OL.push {e : Nat} {H : Heap} {id : Nat} {cs : List Value} {n : Nat} (h : OL e H id cs n) (he : 0 < e) {xs : List Value} (hx : xs.length = e) :
    cellsAt (H ++ [⟨xs, true, true⟩]) H.length 0 e = some xs ∧ ∃ H', appendH (H ++ [⟨xs, true, true⟩]) e (lv e id 0 n) 1 xs = some (lv e (H.length + 1) 0 (n + 1), H') ∧ OL e H' (H.length + 1) (cs ++ xs) (n + 1) ∧ Same (fun j => j = id) H H' ∧ H'.length = H.length + 2 := by
  have hid := h.lt
  have hk : OL e (H ++ [⟨xs, true, true⟩]) id cs n := h.keep (S := fun _ => False) (Same.of_prefix (List.prefix_append _ _)) (fun hh => hh)
  obtain ⟨H', h1, h2, h3, h4⟩ := hk.append he (m := 1) (by omega) (news := xs) (by simpa using hx)
  refine ⟨?_, H', by simpa using h1, by simpa using h2, ?_, by simpa using h4⟩
  · rw [cellsAt_of (b := ⟨xs, true, true⟩) (by simp) rfl (by simp [hx])]
    simp [← hx]
  · exact (Same.of_prefix (S := fun j => j = id) (List.prefix_append H [⟨xs, true, true⟩])).trans h3

theorem Up.tuple {H : Heap} {xs ys : Array Value} (h : Ups H xs.toList ys.toList) : Up H (.tuple xs) (.tuple ys) := by
  intro B w0 ρ w cv hR hv
  obtain ⟨zs, rfl, hz⟩ := hv.tuple_inv
  exact VR.tuple_of (h.vrs hR hz)

/-- The result may be said less of. -/
theorem ACalls.res {P : Program} {f : FuncId} {args : List Value} {H : Heap} {Post : Value → Heap → Prop} (h : ACalls P f args H fun v H' => ∃ v', Up H' v v' ∧ Post v' H') : ACalls P f args H Post :=
  ⟨h.1, fun B w0 ρ w cargs hR hv => (h.2 B w0 ρ w cargs hR hv).mono fun e w' hp => by
    obtain ⟨ρ', H', v, cv, h1, h2, h3, h4, v', h5, h6⟩ := hp
    exact ⟨ρ', H', v', cv, h1, h2, h3, h5 _ _ _ _ _ h3 h4, h6⟩⟩

theorem ACalls.addGhost {P : Program} {f : FuncId} {args : List Value} {H : Heap} {Post : Value → Heap → Prop} (h : ACalls P f args (H ++ [⟨[], false, false⟩]) Post) : ACalls P f args H Post :=
  ⟨h.1, fun B w0 ρ w cargs hR hv => (h.2 B w0 _ w cargs hR.addGhost (hv.mono (List.prefix_append _ _))).mono fun e w' hp => by
    obtain ⟨ρ', H', v, cv, h1, h2, h3⟩ := hp
    exact ⟨ρ', H', v, cv, h1, (List.prefix_append _ _).trans h2, h3⟩⟩

/-- The numbers from k on. -/
def upFrom (k : Int) (n : Nat) : List Int := (List.range n).map fun j : Nat => k + (j : Int)

theorem upFrom_length (k : Int) (n : Nat) : (upFrom k n).length = n := by simp [upFrom]
theorem upFrom_get {k : Int} {n j : Nat} (h : j < n) : (upFrom k n)[j]? = some (k + (j : Int)) := by simp [upFrom, h]
theorem upFrom_append (k : Int) (m n : Nat) : upFrom k m ++ upFrom (k + (m : Int)) n = upFrom k (m + n) := by
  simp only [upFrom, List.range_add, List.map_append, List.map_map]
  congr 1
  apply List.map_congr_left
  intro a _
  simp only [Function.comp, Int.natCast_add]
  omega

/-- A block's numbers replaced. -/
def setInts (H : Heap) (i : Nat) (xs : List Int) : Heap := if xs = [] then H else H.set i ⟨ints xs, true, true⟩

/-- Lists of numbers that the call holds alone, each by its block. -/
def Rows1 (H : Heap) (rows : List (Nat × List Int)) : Prop :=
  (∀ r ∈ rows, r.2 = [] ∨ H[r.1]? = some ⟨ints r.2, true, true⟩) ∧ ∀ (a b : Nat) (r t : Nat × List Int), rows[a]? = some r → rows[b]? = some t → a ≠ b → r.2 ≠ [] → t.2 ≠ [] → r.1 ≠ t.1

def rowVal (r : Nat × List Int) : Value := lv 1 r.1 0 r.2.length

/-- A list of such lists. -/
def OwnRows (H : Heap) (v : Value) (rows : List (Nat × List Int)) : Prop :=
  ∃ id, v = lv 1 id 0 rows.length ∧ At H id 0 (rows.map rowVal) ∧ Rows1 H rows ∧ (∀ r ∈ rows, r.2 ≠ [] → r.1 ≠ id) ∧ rows.length ≤ 140737488355328 ∧ ∀ r ∈ rows, r.2.length ≤ 140737488355328

/-- A list of lists of numbers, to be read. -/
def IntssAt (H : Heap) (v : Value) (xss : List (List Int)) : Prop :=
  ∃ (i o : Nat) (vs : List Value), v = lv 1 i o xss.length ∧ vs.length = xss.length ∧ At H i o vs ∧ (∀ (k : Nat) (u : Value) (xs : List Int), vs[k]? = some u → xss[k]? = some xs → IntsAt H u xs) ∧ xss.length ≤ 140737488355328

theorem IntssAt.pre {H H' : Heap} (hp : H <+: H') {v : Value} {xss : List (List Int)} (h : IntssAt H v xss) : IntssAt H' v xss := by
  obtain ⟨i, o, vs, h1, h2, h3, h4, h5⟩ := h
  exact ⟨i, o, vs, h1, h2, h3.pre hp, fun k u xs a b => (h4 k u xs a b).pre hp, h5⟩

theorem OwnRows.read {H : Heap} {v : Value} {rows : List (Nat × List Int)} (h : OwnRows H v rows) : IntssAt H v (rows.map (·.2)) := by
  obtain ⟨id, h1, h2, h3, h4, h5, h6⟩ := h
  refine ⟨id, 0, rows.map rowVal, by simpa using h1, by simp, h2, ?_, by simpa using h5⟩
  intro k u xs hu hx
  simp only [List.getElem?_map, Option.map_eq_some_iff] at hu hx
  obtain ⟨r, hr, rfl⟩ := hu
  obtain ⟨r', hr', rfl⟩ := hx
  rw [hr] at hr'; cases hr'
  have hm := List.mem_of_getElem? hr
  refine ⟨r.1, 0, rfl, ?_, h6 r hm⟩
  rcases h3.1 r hm with h | h
  · left; simp [h, ints]
  · exact Holds.at ⟨true, h⟩

/-- How many numbers stand ahead of the list s. -/
def off (xss : List (List Int)) (s : Nat) : Nat := (xss.take s).flatten.length

theorem off_zero (xss : List (List Int)) : off xss 0 = 0 := by simp [off]
theorem off_succ {xss : List (List Int)} {s : Nat} {xs : List Int} (h : xss[s]? = some xs) : off xss (s + 1) = off xss s + xs.length := by
  obtain ⟨hlt, he⟩ := List.getElem?_eq_some_iff.1 h
  simp only [off, List.take_succ_eq_append_getElem hlt, List.flatten_append, List.length_append, he]
  simp
theorem off_all (xss : List (List Int)) : off xss xss.length = xss.flatten.length := by simp [off]
theorem off_le (xss : List (List Int)) (s : Nat) : off xss s ≤ xss.flatten.length := by
  unfold off
  conv => rhs; rw [← List.take_append_drop s xss]
  simp only [List.flatten_append, List.length_append]
  omega
theorem off_le' {xss : List (List Int)} {s : Nat} {xs : List Int} (h : xss[s]? = some xs) : off xss s + xs.length ≤ xss.flatten.length := by
  rw [← off_succ h]; exact off_le _ _

/-- The lists, each number in place of what was there. -/
def marked : Int → List (List Int) → List (List Int)
  | _, [] => []
  | k, xs :: xss => upFrom k xs.length :: marked (k + (xs.length : Int)) xss

theorem marked_length : ∀ (k : Int) (xss : List (List Int)), (marked k xss).length = xss.length
  | _, [] => rfl
  | k, xs :: xss => by simp [marked, marked_length]
theorem marked_get : ∀ (k : Int) (xss : List (List Int)) (s : Nat), (marked k xss)[s]? = xss[s]?.map fun xs => upFrom (k + (off xss s : Int)) xs.length
  | _, [], s => by simp [marked]
  | k, xs :: xss, 0 => by simp [marked, off]
  | k, xs :: xss, s + 1 => by
    simp only [marked, List.getElem?_cons_succ]
    rw [marked_get (k + (xs.length : Int)) xss s]
    congr 1
    funext ys
    congr 1
    simp only [off, List.take_succ_cons, List.flatten_cons, List.length_append, Int.natCast_add]
    omega
theorem marked_off (k : Int) (xss : List (List Int)) (s : Nat) : off (marked k xss) s = off xss s := by
  induction xss generalizing k s with
  | nil => simp [marked]
  | cons xs xss ih =>
    cases s with
    | zero => simp [off]
    | succ s =>
      have := ih (k + (xs.length : Int)) s
      simp only [off, marked, List.take_succ_cons, List.flatten_cons, List.length_append, upFrom_length] at this ⊢
      omega
theorem marked_total (k : Int) (xss : List (List Int)) : (marked k xss).flatten.length = xss.flatten.length := by
  rw [← off_all, ← off_all, marked_off, marked_length]

/-- A list of lists while it is built. -/
structure Build (H0 H : Heap) (oid : Nat) (rows : List (Nat × List Int)) : Prop where
  pre : H0 <+: H
  ol : OL 1 H oid (rows.map rowVal) rows.length
  ge : H0.length ≤ oid
  rows1 : Rows1 H rows
  ids : ∀ r ∈ rows, H0.length ≤ r.1 ∧ r.1 < H.length ∧ r.1 ≠ oid

theorem Build.start (H : Heap) : Build H (H ++ [⟨[], false, false⟩]) H.length [] :=
  ⟨List.prefix_append _ _, OL.ghost 1 H, Nat.le_refl _, ⟨by simp, by simp⟩, by simp⟩

theorem Build.of_ol {H0 H : Heap} {oid : Nat} (hp : H0 <+: H) (h : OL 1 H oid [] 0) (hg : H0.length ≤ oid) : Build H0 H oid [] :=
  ⟨hp, h, hg, ⟨by simp, by simp⟩, by simp⟩

theorem Build.push {H0 H1 H2 : Heap} {oid rid : Nat} {rows : List (Nat × List Int)} {xs : List Int} (h : Build H0 H1 oid rows) (hp : H1 <+: H2) (hr : OL 1 H2 rid (ints xs) xs.length) (hrid : H1.length ≤ rid) :
    cellsAt (H2 ++ [⟨[lv 1 rid 0 xs.length], true, true⟩]) H2.length 0 1 = some [lv 1 rid 0 xs.length] ∧
    ∃ H4, appendH (H2 ++ [⟨[lv 1 rid 0 xs.length], true, true⟩]) 1 (lv 1 oid 0 rows.length) 1 [lv 1 rid 0 xs.length] = some (lv 1 (H2.length + 1) 0 (rows.length + 1), H4) ∧ Build H0 H4 (H2.length + 1) (rows ++ [(rid, xs)]) := by
  have hol' : OL 1 H2 oid (rows.map rowVal) rows.length := h.ol.keep (S := fun _ => False) (Same.of_prefix hp) (fun h => h)
  obtain ⟨hsrc, H4, hap, hol4, hsame4, hlen4⟩ := hol'.push (xs := [lv 1 rid 0 xs.length]) (by omega) rfl
  have hoid := h.ol.lt
  have hle := hp.length_le
  have hle0 := h.pre.length_le
  have hlt := hr.lt
  refine ⟨hsrc, H4, hap, ⟨(show Same (fun j => j = oid) H0 H4 from (Same.of_prefix (h.pre.trans hp)).trans hsame4).prefix (by have := h.ge; omega), by simpa [rowVal] using hol4, by omega, ⟨?_, ?_⟩, ?_⟩⟩
  · intro r hm
    rcases List.mem_append.1 hm with hm | hm
    · refine (h.rows1.1 r hm).imp (fun h => h) fun hb => ?_
      exact hsame4.get (Same.get (S := fun _ => False) (Same.of_prefix hp) hb (fun h => h)) (h.ids r hm).2.2
    · simp at hm; subst hm
      rcases hr.2 with ⟨h0, _⟩ | h0
      · exact .inl (List.eq_nil_of_length_eq_zero h0)
      · right
        exact hsame4.get h0 (by simp only; omega)
  · intro a b r t ha hb hab hrn htn
    have key : ∀ (a : Nat) (r : Nat × List Int), (rows ++ [(rid, xs)])[a]? = some r → (a < rows.length ∧ rows[a]? = some r) ∨ (a = rows.length ∧ r = (rid, xs)) := by
      intro a r ha
      rcases Nat.lt_or_ge a rows.length with h | h
      · rw [List.getElem?_append_left h] at ha; exact .inl ⟨h, ha⟩
      · rw [List.getElem?_append_right h] at ha
        cases hk : a - rows.length with
        | zero => rw [hk] at ha; simp at ha; exact .inr ⟨by omega, ha.symm⟩
        | succ k => rw [hk] at ha; simp at ha
    rcases key a r ha with ⟨h1, h1'⟩ | ⟨h1, rfl⟩
    · rcases key b t hb with ⟨h2, h2'⟩ | ⟨h2, rfl⟩
      · exact h.rows1.2 a b r t h1' h2' hab hrn htn
      · have := (h.ids r (List.mem_of_getElem? h1')).2.1; simp only; omega
    · rcases key b t hb with ⟨h2, h2'⟩ | ⟨h2, rfl⟩
      · have := (h.ids t (List.mem_of_getElem? h2')).2.1; simp only; omega
      · omega
  · intro r hm
    rcases List.mem_append.1 hm with hm | hm
    · have := h.ids r hm
      omega
    · simp at hm; subst hm; simp only; omega

theorem Build.own {H0 H : Heap} {oid : Nat} {rows : List (Nat × List Int)} (h : Build H0 H oid rows) (hl : rows.length ≤ 140737488355328) (hls : ∀ r ∈ rows, r.2.length ≤ 140737488355328) : OwnRows H (lv 1 oid 0 rows.length) rows :=
  ⟨oid, rfl, h.ol.at, h.rows1, fun r hr _ => (h.ids r hr).2.2, hl, hls⟩

theorem OwnRows.keep {H H' : Heap} (hp : H <+: H') {v : Value} {rows : List (Nat × List Int)} (h : OwnRows H v rows) : OwnRows H' v rows := by
  obtain ⟨id, h1, h2, h3, h4, h5, h6⟩ := h
  refine ⟨id, h1, h2.pre hp, ⟨fun r hr => (h3.1 r hr).imp (fun h => h) fun hb => ?_, h3.2⟩, h4, h5, h6⟩
  exact Same.get (S := fun _ => False) (Same.of_prefix hp) hb (fun h => h)

theorem OwnRows.nil (H : Heap) : OwnRows H (lv 1 0 0 0) [] := ⟨0, rfl, .inl rfl, ⟨by simp, by simp⟩, by simp, by simp, by simp⟩

end Go.Ab
