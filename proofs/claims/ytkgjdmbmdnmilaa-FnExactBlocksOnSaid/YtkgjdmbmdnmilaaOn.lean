/- The part of a system on some points: plain words, and the specification's side. -/
import Derived.Test.YtkgjdmbmdnmilaaSort
set_option linter.all false
set_option maxRecDepth 20000
set_option maxHeartbeats 4000000
namespace Go.Proofs.Ytkgjdmbmdnmilaa
open Go.Ab

/-- The place of a number in a list, or -1. -/
def plc : List Int → Int → Int
  | [], _ => -1
  | x :: xs, q => if x = q then 0 else (if plc xs q = -1 then -1 else plc xs q + 1)
theorem plc_ge : ∀ (xs : List Int) (q : Int), -1 ≤ plc xs q
  | [], _ => by simp [plc]
  | x :: xs, q => by have := plc_ge xs q; simp only [plc]; split; omega; split <;> omega
theorem plc_none : ∀ {xs : List Int} {q : Int}, (∀ x ∈ xs, x ≠ q) → plc xs q = -1
  | [], _, _ => rfl
  | x :: xs, q, h => by
    simp only [plc, if_neg (h x List.mem_cons_self), plc_none fun y hy => h y (List.mem_cons_of_mem _ hy), if_true]
theorem plc_at : ∀ {xs : List Int} {q : Int} {k : Nat}, xs[k]? = some q → (∀ y ∈ xs.take k, y ≠ q) → plc xs q = k
  | [], _, _, h, _ => by simp at h
  | x :: xs, q, 0, h, _ => by simp at h; simp [plc, h]
  | x :: xs, q, k + 1, h, hn => by
    have h1 : x ≠ q := hn x (by simp)
    have h2 := plc_at (xs := xs) (q := q) (k := k) (by simpa using h) fun y hy => hn y (by simp [hy])
    simp only [plc, if_neg h1, h2]
    rw [if_neg (by omega)]; rfl
theorem plc_get : ∀ {xs : List Int} {q : Int}, 0 ≤ plc xs q → xs[(plc xs q).toNat]? = some q
  | [], _, h => by simp [plc] at h
  | x :: xs, q, h => by
    simp only [plc] at h ⊢
    split
    · rename_i e; simp [e]
    · rename_i e
      simp only [if_neg e] at h
      split at h
      · omega
      · rename_i e2
        rw [if_neg e2]
        have := plc_ge xs q
        have h3 : 0 ≤ plc xs q := by omega
        rw [show (plc xs q + 1).toNat = (plc xs q).toNat + 1 by omega, List.getElem?_cons_succ]
        exact plc_get h3

/-- Blocks as they stand on some points. -/
def onB (xs : List Int) (bs : List Bk) : List Bk :=
  bs.flatMap fun b => if decide (0 ≤ plc xs b.a) && (decide (0 ≤ plc xs b.b) && decide (0 ≤ plc xs b.c)) then [⟨plc xs b.a, plc xs b.b, plc xs b.c⟩] else []
theorem onB_snoc (xs : List Int) (bs : List Bk) (b : Bk) : onB xs (bs ++ [b]) = onB xs bs ++ (if decide (0 ≤ plc xs b.a) && (decide (0 ≤ plc xs b.b) && decide (0 ≤ plc xs b.c)) then [⟨plc xs b.a, plc xs b.b, plc xs b.c⟩] else []) := by simp [onB]
theorem onB_length (xs : List Int) (bs : List Bk) : (onB xs bs).length ≤ bs.length := by
  induction bs with
  | nil => simp [onB]
  | cons b bs ih =>
    have : (onB xs (b :: bs)).length = (if decide (0 ≤ plc xs b.a) && (decide (0 ≤ plc xs b.b) && decide (0 ≤ plc xs b.c)) then [(⟨plc xs b.a, plc xs b.b, plc xs b.c⟩ : Bk)] else []).length + (onB xs bs).length := by simp [onB]
    rw [this, List.length_cons]
    split <;> simp <;> omega

/-- Blocks that ascend, each against all behind it. -/
def Asc (bs : List Bk) : Prop := bs.Pairwise fun x y => before x y = true
theorem before_iff {x y : Bk} : before x y = true ↔ x.a < y.a ∨ (x.a = y.a ∧ (x.b < y.b ∨ (x.b = y.b ∧ x.c < y.c))) := by
  unfold before
  by_cases h1 : x.a = y.a
  · by_cases h2 : x.b = y.b
    · simp [h1, h2]
    · simp [h1, h2]
  · simp [h1]
theorem before_trans {x y z : Bk} (h1 : before x y = true) (h2 : before y z = true) : before x z = true := by
  rw [before_iff] at *; omega
theorem before_asymm {x y : Bk} (h1 : before x y = true) : before y x = false := by
  cases h : before y x with
  | false => rfl
  | true => rw [before_iff] at h h1; omega
theorem asc_of {p : Int} : ∀ (n : Nat) {bs : List Bk}, bs.length = n → Sorted p bs → Asc bs
  | 0, bs, hn, _ => by rw [List.eq_nil_of_length_eq_zero hn]; exact List.Pairwise.nil
  | n + 1, bs, hn, hs => by
    have hne : bs ≠ [] := by rintro rfl; simp at hn
    obtain ⟨l, x, rfl⟩ : ∃ l x, bs = l ++ [x] := ⟨bs.dropLast, bs.getLast hne, (List.dropLast_concat_getLast hne).symm⟩
    have hl : l.length = n := by simpa using hn
    have ih : Asc l := asc_of n hl fun i y hy => by
      have hi := (List.getElem?_eq_some_iff.1 hy).1
      have := hs i y (by rw [List.getElem?_append_left hi]; exact hy)
      exact ⟨this.1, fun z h0 hz => this.2 z h0 (by rw [List.getElem?_append_left (by omega)]; exact hz)⟩
    refine List.pairwise_append.2 ⟨ih, List.pairwise_singleton _ _, ?_⟩
    intro y hy z hz
    simp at hz; subst hz
    have hlast := hs l.length z (by simp)
    by_cases h0 : l = []
    · subst h0; simp at hy
    · obtain ⟨l', w, rfl⟩ : ∃ l' w, l = l' ++ [w] := ⟨l.dropLast, l.getLast h0, (List.dropLast_concat_getLast h0).symm⟩
      have hw := hlast.2 w (by simp) (by simp)
      rcases List.mem_append.1 hy with hy | hy
      · exact before_trans ((List.pairwise_append.1 ih).2.2 y hy w (by simp)) hw
      · simp at hy; subst hy; exact hw
theorem rises_lt {p : Int} {xs : List Int} (h : Rises p xs) : ∀ (k j : Nat) (x y : Int), j < k → xs[k]? = some x → xs[j]? = some y → y < x
  | 0, j, _, _, hj, _, _ => by omega
  | k + 1, j, x, y, hj, hx, hy => by
    have hk := (List.getElem?_eq_some_iff.1 hx).1
    have h2 : xs[k]? = some (xs[k]'(by omega)) := List.getElem?_eq_getElem _
    have h1 := (h (k + 1) x hx).2 _ (by omega) (by rw [Nat.add_sub_cancel]; exact h2)
    by_cases e : j = k
    · subst e; rw [hy] at h2; rw [Option.some.inj h2]; exact h1
    · have := rises_lt h k j _ y (by omega) h2 hy; omega
theorem plc_lt {p : Int} {xs : List Int} (h : Rises p xs) {q r : Int} (hq : 0 ≤ plc xs q) (hr : 0 ≤ plc xs r) (hqr : q < r) : plc xs q < plc xs r := by
  have h1 := plc_get hq
  have h2 := plc_get hr
  rcases Nat.lt_trichotomy (plc xs q).toNat (plc xs r).toNat with h3 | h3 | h3
  · omega
  · rw [h3, h2] at h1; have := Option.some.inj h1; omega
  · have := rises_lt h _ _ _ _ h3 h1 h2; omega
theorem onB_asc {p : Int} {xs : List Int} {bs : List Bk} (h : Rises p xs) (ha : Asc bs) : Asc (onB xs bs) := by
  induction bs with
  | nil => exact List.Pairwise.nil
  | cons b bs ih =>
    have ha' := List.pairwise_cons.1 ha
    have e : onB xs (b :: bs) = (if decide (0 ≤ plc xs b.a) && (decide (0 ≤ plc xs b.b) && decide (0 ≤ plc xs b.c)) then [(⟨plc xs b.a, plc xs b.b, plc xs b.c⟩ : Bk)] else []) ++ onB xs bs := by simp [onB]
    rw [e]
    split
    · rename_i hb
      simp only [Bool.and_eq_true, decide_eq_true_eq] at hb
      refine List.pairwise_cons.2 ⟨?_, ih ha'.2⟩
      intro y hy
      obtain ⟨d, hd, hy⟩ := List.mem_flatMap.1 (show y ∈ bs.flatMap _ from hy)
      split at hy
      · rename_i hd'
        simp only [Bool.and_eq_true, decide_eq_true_eq] at hd'
        simp at hy; subst hy
        have hbd := before_iff.1 (ha'.1 d hd)
        rw [before_iff]
        simp only
        rcases hbd with h1 | ⟨h1, h2 | ⟨h2, h3⟩⟩
        · exact .inl (plc_lt h hb.1 hd'.1 h1)
        · exact .inr ⟨by rw [h1], .inl (plc_lt h hb.2.1 hd'.2.1 h2)⟩
        · exact .inr ⟨by rw [h1], .inr ⟨by rw [h2], plc_lt h hb.2.2 hd'.2.2 h3⟩⟩
      · simp at hy
    · simpa using ih ha'.2
theorem sortB_asc {bs : List Bk} (h : Asc bs) : sortB bs = bs := by
  have := sortB_same (bs := bs) (fun r x y hy hx => ?_) bs.length
  · rwa [List.take_of_length_le (Nat.le_refl _)] at this
  · obtain ⟨h1, rfl⟩ := List.getElem?_eq_some_iff.1 hy
    obtain ⟨h2, rfl⟩ := List.getElem?_eq_some_iff.1 hx
    exact before_asymm (List.pairwise_iff_getElem.1 h r (r + 1) h1 h2 (by omega))

noncomputable def rOn (p : Int) (bs : List Bk) (xs : List Int) : (Int × List Bk) × Int :=
  if setCode p bs xs = 0 then (if 3 ≤ xs.length then ((xs.length, onB xs bs), 0) else ((0, []), 2)) else ((0, []), setCode p bs xs)

theorem l01Place_ok {H : Heap} {v : Value} {xs : List Int} {q : Int} (hv : IntsAt H v xs) (Post : Value → Heap → Prop) (h : Post (.int .i64 (plc xs q)) H) : ACalls Try.prog 186 [v, .int .i64 q] H Post := by
  obtain ⟨i, o, rfl, h1, h2⟩ := hv
  refine acalls_vc (rs := [.tmp 4]) Try.func186 rfl rfl Try.ntmps186 rfl rfl ?_
  simp (maxSteps := 1000000) [go_sem]
  refine AWp.loopVc (fun s : Nat => [(0, lv 1 i o xs.length), (1, .int .i64 q), (5, .int .i64 s)])
    (fun s H' => s ≤ xs.length ∧ H' = H ∧ ∀ y ∈ xs.take s, y ≠ q) (fun s => xs.length - s) 0 ?_ ?_ ?_
  · simp [upF, Fr.get, Up.refl]
  · exact ⟨by omega, rfl, by simp⟩
  · rintro K s H' ⟨hs, rfl, hall⟩ hK
    by_cases hlt : s < xs.length
    · have hx : xs[s]? = some xs[s] := List.getElem?_eq_getElem hlt
      have c1 := h1.cell (k := s) (v := .int .i64 xs[s]) (by simp [ints_get, hlt])
      have hw_s : IntKind.i64.wrap ((s : Int) + 1) = (s : Int) + 1 := i64w (by omega) (by omega)
      by_cases he : xs[s] = q
      · have e : (xs[s] == q) = true := by simpa using he
        simp (maxSteps := 1000000) [go_sem, hlt, c1, e]
        rwa [plc_at (k := s) (by rw [hx, he]) hall] at h
      · have e : (xs[s] == q) = false := by simpa using he
        simp (maxSteps := 1000000) [go_sem, hlt, c1, e, hw_s]
        refine hK (s + 1) _ _ (by omega) (by simp [upF, Fr.get, Up.refl]) ⟨by omega, rfl, ?_⟩
        intro y hy
        rw [List.take_succ_eq_append_getElem hlt, List.mem_append] at hy
        rcases hy with hy | hy
        · exact hall y hy
        · simp at hy; subst hy; exact he
    · have : s = xs.length := by omega
      subst this
      rw [List.take_length] at hall
      simp (maxSteps := 1000000) [go_sem]
      rwa [plc_none hall] at h

theorem l01Made_ok {H : Heap} {u : Value} {v : Int} {bs : List Bk} (hu : BlocksAt H u bs) (hl : bs.length ≤ 1048576) (Post : Value → Heap → Prop)
    (h : ∀ H' w, H <+: H' → BlocksIn H.length H'.length H' w (sortB bs) → Post (sysV v w) H') : ACalls Try.prog 134 [.int .i64 v, u] H Post := by
  refine acalls_vc (rs := [.cell 4 36]) Try.func134 rfl rfl Try.ntmps134 rfl rfl ?_
  simp (maxSteps := 1000000) [go_sem, hu.one]
  have hp0 : H <+: H ++ [⟨[.int .i64 0, .slice none 0 0], true, true⟩] := List.prefix_append _ _
  have hb0 : (H ++ [(⟨[.int .i64 0, .slice none 0 0], true, true⟩ : Blk)])[H.length]? = some ⟨[.int .i64 0, .slice none 0 0], true, true⟩ := by simp
  generalize H ++ [(⟨[.int .i64 0, .slice none 0 0], true, true⟩ : Blk)] = H0 at hp0 hb0 ⊢
  refine l01Sort_ok (hu.pre hp0) hl _ ?_
  intro H1 w hp1 hw
  have hb1 := Same.get (S := fun _ => False) (Same.of_prefix hp1) hb0 (fun h => h)
  have hlt := (List.getElem?_eq_some_iff.1 hb1).1
  obtain ⟨id, rfl⟩ : ∃ id, w = lv 3 id 0 (sortB bs).length := by obtain ⟨id, h, _⟩ := hw; exact ⟨id, h.1⟩
  have ho := hw.one
  have hst : storeAt H1 H.length 0 [.int .i64 v, lv 3 id 0 (sortB bs).length] = some (H1.set H.length ⟨[.int .i64 v, lv 3 id 0 (sortB bs).length], true, true⟩) := by
    rw [storeAt_of hb1 rfl rfl (by simp) (by simp [Value.oneCell'])]; simp [over]
  have hld : cellsAt (H1.set H.length ⟨[.int .i64 v, lv 3 id 0 (sortB bs).length], true, true⟩) H.length 0 2 = some [.int .i64 v, lv 3 id 0 (sortB bs).length] := by
    have := Holds.cells (n := 2) (o := 0) (H := H1.set H.length ⟨[.int .i64 v, lv 3 id 0 (sortB bs).length], true, true⟩) ⟨true, List.getElem?_set_self hlt⟩ (by simp)
    rw [this]; rfl
  simp (maxSteps := 1000000) [go_sem, ho, hst, hld]
  have hsame : Same (fun j => j = H.length) H1 (H1.set H.length ⟨[.int .i64 v, lv 3 id 0 (sortB bs).length], true, true⟩) := ⟨by simp, fun j hj hS => List.getElem?_set_ne (fun e => hS e.symm)⟩
  have hle0 := hp0.length_le
  have hlt0 := (List.getElem?_eq_some_iff.1 hb0).1
  have := h (H1.set H.length ⟨[.int .i64 v, lv 3 id 0 (sortB bs).length], true, true⟩) _ (((Same.of_prefix (hp0.trans hp1)).trans hsame).prefix (by intro j hj e; omega))
    (by
      have := (hw.keep hsame (by rintro j ⟨h1, h2⟩ e; omega)).wider hle0
      rwa [List.length_set])
  exact this

end Go.Proofs.Ytkgjdmbmdnmilaa
