/- Contracts of the laws' own helpers: copies of lists of numbers, marks over blocks and systems. -/
import Derived.Test.YtkgjdmbmdnmilaaFull
set_option linter.all false
set_option maxRecDepth 20000
namespace Go.Proofs.Ytkgjdmbmdnmilaa
open Go.Ab

/-- A slice of numbers that the call holds alone. -/
def OwnInts (H : Heap) (v : Value) (id : Nat) (xs : List Int) : Prop := v = lv 1 id 0 xs.length ∧ (xs = [] ∨ H[id]? = some ⟨ints xs, true, true⟩) ∧ xs.length ≤ 140737488355328
theorem OwnInts.read {H : Heap} {v : Value} {id : Nat} {xs : List Int} (h : OwnInts H v id xs) : IntsAt H v xs := by
  obtain ⟨h1, h2, h3⟩ := h
  refine ⟨id, 0, h1, ?_, h3⟩
  rcases h2 with rfl | h2
  · exact .inl rfl
  · exact Holds.at ⟨true, h2⟩
theorem OwnInts.keep {H H' : Heap} {v : Value} {id : Nat} {xs : List Int} (h : OwnInts H v id xs) {S : Nat → Prop} (hs : Same S H H') (hi : ¬ S id) : OwnInts H' v id xs :=
  ⟨h.1, h.2.1.imp (fun h => h) fun hb => hs.get hb hi, h.2.2⟩
theorem OwnInts.pre {H H' : Heap} (hp : H <+: H') {v : Value} {id : Nat} {xs : List Int} (h : OwnInts H v id xs) : OwnInts H' v id xs := h.keep (S := fun _ => False) (Same.of_prefix hp) (fun h => h)
theorem OwnInts.of_ol {H : Heap} {id : Nat} {xs : List Int} (h : OL 1 H id (ints xs) xs.length) (hl : xs.length ≤ 140737488355328) : OwnInts H (lv 1 id 0 xs.length) id xs :=
  ⟨rfl, h.2.imp (fun h => List.eq_nil_of_length_eq_zero h.1) (fun h => h), hl⟩
theorem OwnInts.one {H : Heap} {v : Value} {id : Nat} {xs : List Int} (h : OwnInts H v id xs) : v.oneCell' = true := h.read.one
theorem _root_.Go.Ab.OwnBlocks.pre {H H' : Heap} (hp : H <+: H') {v : Value} {id : Nat} {bs : List Bk} (h : OwnBlocks H v id bs) : OwnBlocks H' v id bs := h.keep (S := fun _ => False) (Same.of_prefix hp) (fun h => h)
theorem _root_.Go.Ab.OwnBlocks.one {H : Heap} {v : Value} {id : Nat} {bs : List Bk} (h : OwnBlocks H v id bs) : v.oneCell' = true := h.read.one
theorem _root_.Go.Ab.OwnBlocks.of_ol {H : Heap} {id : Nat} {bs : List Bk} (h : OL 3 H id (tri bs) bs.length) (hl : bs.length ≤ 140737488355328) : OwnBlocks H (lv 3 id 0 bs.length) id bs :=
  ⟨rfl, h.2.imp (fun h => List.eq_nil_of_length_eq_zero h.1) (fun h => h), hl⟩
theorem _root_.Go.Ab.OwnBlocks.lt {H : Heap} {v : Value} {id : Nat} {bs : List Bk} (h : OwnBlocks H v id bs) : bs = [] ∨ id < H.length := h.2.1.imp (fun h => h) fun h => (List.getElem?_eq_some_iff.1 h).1

theorem _root_.Go.Ab.Holds.keepS {H H' : Heap} {i : Nat} {cs : List Value} (h : Holds H i cs) {S : Nat → Prop} (hs : Same S H H') (hi : ¬ S i) : Holds H' i cs := by
  obtain ⟨o, h⟩ := h; exact ⟨o, hs.get h hi⟩
theorem _root_.Go.Ab.Holds.sys {H : Heap} {i : Nat} {p : Int} {u : Value} (h : Holds H i [.int .i64 p, u]) : cellsAt H i 0 2 = some [.int .i64 p, u] ∧ cellsAt H i 0 1 = some [.int .i64 p] ∧ cellsAt H i 1 1 = some [u] :=
  ⟨by simpa using h.cells (n := 2) (o := 0) (by simp), h.cell rfl, h.cell rfl⟩
theorem _root_.Go.Ab.Holds.bk {H : Heap} {i : Nat} {a b c : Int} (h : Holds H i [.int .i64 a, .int .i64 b, .int .i64 c]) : cellsAt H i 0 3 = some [.int .i64 a, .int .i64 b, .int .i64 c] ∧ cellsAt H i 0 1 = some [.int .i64 a] ∧ cellsAt H i 1 1 = some [.int .i64 b] ∧ cellsAt H i 2 1 = some [.int .i64 c] :=
  ⟨by simpa using h.cells (n := 3) (o := 0) (by simp), h.cell rfl, h.cell rfl, h.cell rfl⟩
theorem _root_.Go.Ab.Holds.last (H : Heap) (cs : List Value) : Holds (H ++ [⟨cs, true, true⟩]) H.length cs := ⟨true, by simp⟩

theorem toInt64S_ok {H : Heap} {u : Value} {xs : List Int} (hu : IntsAt H u xs) (Post : Value → Heap → Prop) (hb : xs.length ≤ 1048576) (h : ∀ H' v id, H <+: H' → H.length ≤ id → OwnInts H' v id xs → Post v H') :
    ACalls Try.prog 63 [u] H Post := by
  obtain ⟨i, o, rfl, h1, h2⟩ := hu
  refine ACalls.res ?_
  refine acalls_vc (rs := [.tmp 2]) Try.func63 rfl rfl Try.ntmps63 rfl rfl ?_
  have hm : ∀ n, (madeCells #[Value.int .i64 0] n).toList = ints (List.replicate n 0) := by
    intro n
    rw [made_same (v := .int .i64 0) (by simp) (by intro i hi; simp at hi; subst hi; rfl)]
    simp [ints]
  simp (maxSteps := 1000000) [go_sem, hm]
  refine andK_intro (by omega) ?_
  refine AWp.loopVc (fun s : Nat => [(0, lv 1 i o xs.length), (3, .slice (some ⟨H.length, 0, none⟩) xs.length xs.length), (4, .int .i64 s)])
    (fun s H' => s ≤ xs.length ∧ H <+: H' ∧ H'[H.length]? = some ⟨ints (xs.take s ++ List.replicate (xs.length - s) 0), true, true⟩) (fun s => xs.length - s) 0 ?_ ?_ ?_
  · simp [upF, Fr.get, Up.refl]
  · refine ⟨by omega, List.prefix_append _ _, by simp⟩
  · rintro K s H' ⟨hs, hp, hc⟩ hK
    by_cases hlt : s < xs.length
    · have c1 := (h1.pre hp).cell (k := s) (v := .int .i64 xs[s]) (by simp [ints_get, hlt])
      have hw_s : IntKind.i64.wrap ((s : Int) + 1) = (s : Int) + 1 := i64w (by omega) (by omega)
      have hlt2 : H.length < H'.length := (List.getElem?_eq_some_iff.1 hc).1
      have hst : storeAt H' H.length s [.int .i64 xs[s]] = some (H'.set H.length ⟨ints (xs.take (s + 1) ++ List.replicate (xs.length - (s + 1)) 0), true, true⟩) := by
        rw [storeAt_of hc rfl rfl (by simp only [ints_length, List.length_append, List.length_take, List.length_replicate, List.length_singleton]; omega) (by simp [Value.oneCell']), over_one (by simp only [ints_length, List.length_append, List.length_take, List.length_replicate]; omega), ints_set]
        congr 4
        rw [List.set_append_right _ _ (by simp; omega), List.length_take, Nat.min_eq_left hs, Nat.sub_self, show xs.length - s = (xs.length - (s + 1)) + 1 by omega, List.replicate_succ, List.set_cons_zero, List.take_succ_eq_append_getElem hlt, List.append_assoc]
        rfl
      simp (maxSteps := 1000000) [go_sem, hlt, c1, hst, hw_s]
      refine hK (s + 1) _ _ (by omega) (by simp [upF, Fr.get, Up.refl]) ⟨by omega, ?_, by rw [List.getElem?_set_self hlt2]⟩
      exact (show Same (fun j => j = H.length) H _ from (Same.of_prefix hp).trans Same.set).prefix (by omega)
    · have : s = xs.length := by omega
      subst this
      simp (maxSteps := 1000000) [go_sem]
      simp only [List.take_length, Nat.sub_self, List.replicate_zero, List.append_nil] at hc
      refine ⟨lv 1 H.length 0 xs.length, Up.ex (by omega) ?_, h H' _ H.length hp (Nat.le_refl _) ⟨rfl, .inr hc, by omega⟩⟩
      right
      rw [(Holds.cells ⟨true, hc⟩ (by rw [ints_length]; omega))]; rfl

/-- The numbers of some blocks, one behind the other. -/
def nums (bs : List Bk) : List Int := bs.flatMap fun b => [b.a, b.b, b.c]
theorem tri_nums (bs : List Bk) : tri bs = ints (nums bs) := by
  induction bs with
  | nil => rfl
  | cons b bs ih => rw [tri_cons, ih]; simp [nums, ints, Bk.cells]
theorem nums_length (bs : List Bk) : (nums bs).length = bs.length * 3 := by
  have := tri_length bs; rw [tri_nums, ints_length] at this; exact this

theorem mark_set {k : Int} {ys : List Int} {m : Nat} (h : m < ys.length) : (upFrom k m ++ ys.drop m).set m (k + m) = upFrom k (m + 1) ++ ys.drop (m + 1) := by
  rw [List.set_append_right _ _ (by rw [upFrom_length]; exact Nat.le_refl _), upFrom_length, Nat.sub_self, List.drop_eq_getElem_cons h, List.set_cons_zero, ← upFrom_append k m 1]
  simp [upFrom]

theorem mark_store {H : Heap} {i : Nat} {k : Int} {ys : List Int} {m : Nat} (hm : m < ys.length) (hb : H[i]? = some ⟨ints (upFrom k m ++ ys.drop m), true, true⟩) :
    storeAt H i m [.int .i64 (k + m)] = some (H.set i ⟨ints (upFrom k (m + 1) ++ ys.drop (m + 1)), true, true⟩) := by
  rw [storeAt_of hb rfl rfl (by simp only [ints_length, List.length_append, upFrom_length, List.length_drop, List.length_singleton]; omega) (by simp [Value.oneCell']), over_one (by simp only [ints_length, List.length_append, upFrom_length, List.length_drop]; omega), ints_set, mark_set hm]

theorem markBlockS_ok {H : Heap} {i : Nat} {k : Int} {bs : List Bk} (hu : bs = [] ∨ H[i]? = some ⟨tri bs, true, true⟩) (hl : bs.length ≤ 140737488355328) (hk0 : 0 ≤ k) (hk : k ≤ 1000000000) (Post : Value → Heap → Prop)
    (h : ∀ H', H'.length = H.length → Same (fun j => bs ≠ [] ∧ j = i) H H' → At H' i 0 (ints (upFrom k (bs.length * 3))) → Post (.int .i64 (k + (bs.length * 3 : Nat))) H') :
    ACalls Try.prog 53 [lv 3 i 0 bs.length, .int .i64 k] H Post := by
  refine acalls_vc (rs := [.tmp 4]) Try.func53 rfl rfl Try.ntmps53 rfl rfl ?_
  simp (maxSteps := 1000000) [go_sem]
  have hnl := nums_length bs
  refine AWp.loopVc (fun s : Nat => [(0, lv 3 i 0 bs.length), (1, .int .i64 (k + (s * 3 : Nat))), (5, .int .i64 s)])
    (fun s H' => s ≤ bs.length ∧ H'.length = H.length ∧ Same (fun j => bs ≠ [] ∧ j = i) H H' ∧ (bs ≠ [] → H'[i]? = some ⟨ints (upFrom k (s * 3) ++ (nums bs).drop (s * 3)), true, true⟩)) (fun s => bs.length - s) 0 ?_ ?_ ?_
  · simp [upF, Fr.get, Up.refl]
  · refine ⟨by omega, rfl, Same.refl _ _, fun hne => ?_⟩
    rw [hu.resolve_left hne, tri_nums]; simp [upFrom]
  · rintro K s H' ⟨hs, hlen, hsame, hc⟩ hK
    by_cases hlt : s < bs.length
    · have hne : bs ≠ [] := by rintro rfl; simp at hlt
      simp (maxSteps := 1000000) [go_sem, hlt]
      refine AWp.loopVc (fun t : Nat => [(0, lv 3 i 0 bs.length), (1, .int .i64 (k + (s * 3 + t : Nat))), (5, .int .i64 s), (6, .int .i64 t)])
        (fun t H2 => t ≤ 3 ∧ H2.length = H.length ∧ Same (fun j => bs ≠ [] ∧ j = i) H H2 ∧ H2[i]? = some ⟨ints (upFrom k (s * 3 + t) ++ (nums bs).drop (s * 3 + t)), true, true⟩) (fun t => 3 - t) 0 ?_ ?_ ?_
      · simp [upF, Fr.get, Up.refl]
      · exact ⟨by omega, hlen, hsame, hc hne⟩
      · rintro K2 t H2 ⟨ht, hlen2, hsame2, hc2⟩ hK2
        by_cases htl : t < 3
        · have htl' : (t : Int) < 3 := by omega
          have hw_t : IntKind.i64.wrap ((t : Int) + 1) = (t : Int) + 1 := i64w (by omega) (by omega)
          have hw2 : IntKind.i64.wrap (k + ((s : Int) * 3 + t) + 1) = k + (s * 3 + (t + 1)) := by rw [i64w (by omega) (by omega)]; omega
          have hst := mark_store (k := k) (ys := nums bs) (by omega) hc2
          have e1 : ((s * 3 + t : Nat) : Int) = s * 3 + t := by omega
          rw [e1] at hst
          simp (maxSteps := 1000000) [go_sem, hlt, htl, htl', hst, hw_t, hw2]
          refine hK2 (t + 1) _ _ (by omega) (by simp [upF, Fr.get, Up.refl]) ⟨by omega, by simp [hlen2], hsame2.trans ⟨by simp, fun j hj hjs => List.getElem?_set_ne (fun e => hjs ⟨hne, e.symm⟩)⟩, ?_⟩
          rw [List.getElem?_set_self (List.getElem?_eq_some_iff.1 hc2).1]; rfl
        · have : t = 3 := by omega
          subst this
          have hw_s : IntKind.i64.wrap ((s : Int) + 1) = (s : Int) + 1 := i64w (by omega) (by omega)
          simp (maxSteps := 1000000) [go_sem, hw_s]
          refine hK (s + 1) _ _ (by omega) ?_ ⟨by omega, hlen2, hsame2, fun _ => ?_⟩
          · have e : k + ((s : Int) * 3 + 3) = k + ((s : Int) + 1) * 3 := by omega
            simp [upF, Fr.get, Up.refl, e]
          · rw [Nat.add_mul]; exact hc2
    · have : s = bs.length := by omega
      subst this
      simp (maxSteps := 1000000) [go_sem]
      have := h H' hlen hsame ?_
      · simpa using this
      · by_cases hne : bs = []
        · subst hne; exact .inl rfl
        · have := hc hne
          rw [List.drop_eq_nil_of_le (by omega), List.append_nil] at this
          exact Holds.at ⟨true, this⟩

theorem heldBlockS_ok {H : Heap} {i o : Nat} {k : Int} {n : Nat} (hu : At H i o (ints (upFrom k (n * 3)))) (hl : n ≤ 140737488355328) (hk0 : 0 ≤ k) (hk : k ≤ 1000000000) (Post : Value → Heap → Prop) (h : Post (.int .i64 (k + (n * 3 : Nat))) H) :
    ACalls Try.prog 54 [lv 3 i o n, .int .i64 k] H Post := by
  refine acalls_vc (rs := [.tmp 4]) Try.func54 rfl rfl Try.ntmps54 rfl rfl ?_
  simp (maxSteps := 1000000) [go_sem]
  refine AWp.loopVc (fun s : Nat => [(0, lv 3 i o n), (1, .int .i64 (k + (s * 3 : Nat))), (5, .int .i64 s)])
    (fun s H' => s ≤ n ∧ H' = H) (fun s => n - s) 0 ?_ ?_ ?_
  · simp [upF, Fr.get, Up.refl]
  · simp
  · rintro K s H' ⟨hs, rfl⟩ hK
    by_cases hlt : s < n
    · simp (maxSteps := 1000000) [go_sem, hlt]
      refine AWp.loopVc (fun t : Nat => [(0, lv 3 i o n), (1, .int .i64 (k + (s * 3 + t : Nat))), (5, .int .i64 s), (6, .int .i64 t)])
        (fun t H2 => t ≤ 3 ∧ H2 = H') (fun t => 3 - t) 0 ?_ ?_ ?_
      · simp [upF, Fr.get, Up.refl]
      · simp
      · rintro K2 t H2 ⟨ht, rfl⟩ hK2
        by_cases htl : t < 3
        · have htl' : (t : Int) < 3 := by omega
          have hw_t : IntKind.i64.wrap ((t : Int) + 1) = (t : Int) + 1 := i64w (by omega) (by omega)
          have hw2 : IntKind.i64.wrap (k + ((s : Int) * 3 + t) + 1) = k + (s * 3 + (t + 1)) := by rw [i64w (by omega) (by omega)]; omega
          have c1 := hu.cell (k := s * 3 + t) (v := .int .i64 (k + (s * 3 + t : Nat))) (by rw [ints_get, upFrom_get (by omega)]; rfl)
          rw [← Nat.add_assoc] at c1
          have e1 : ((s * 3 + t : Nat) : Int) = s * 3 + t := by omega
          rw [e1] at c1
          simp (maxSteps := 1000000) [go_sem, hlt, htl, htl', c1, hw_t, hw2]
          exact hK2 (t + 1) _ _ (by omega) (by simp [upF, Fr.get, Up.refl]) ⟨by omega, rfl⟩
        · have : t = 3 := by omega
          subst this
          have hw_s : IntKind.i64.wrap ((s : Int) + 1) = (s : Int) + 1 := i64w (by omega) (by omega)
          simp (maxSteps := 1000000) [go_sem, hw_s]
          refine hK (s + 1) _ _ (by omega) ?_ ⟨by omega, rfl⟩
          have e : k + ((s : Int) * 3 + 3) = k + ((s : Int) + 1) * 3 := by omega
          simp [upF, Fr.get, Up.refl, e]
    · have : s = n := by omega
      subst this
      simp (maxSteps := 1000000) [go_sem]
      simpa using h

theorem markSystem_ok {H : Heap} {i : Nat} {p k : Int} {bs : List Bk} (hu : bs = [] ∨ H[i]? = some ⟨tri bs, true, true⟩) (hl : bs.length ≤ 140737488355328) (hk0 : 0 ≤ k) (hk : k ≤ 1000000000) (Post : Value → Heap → Prop)
    (h : ∀ H', Same (fun j => bs ≠ [] ∧ j = i) H H' → At H' i 0 (ints (upFrom k (bs.length * 3))) → Post (.int .i64 (k + (bs.length * 3 : Nat))) H') :
    ACalls Try.prog 47 [sysV p (lv 3 i 0 bs.length), .int .i64 k] H Post := by
  refine acalls_vc (rs := [.tmp 4]) Try.func47 rfl rfl Try.ntmps47 rfl rfl ?_
  simp (maxSteps := 1000000) [go_sem, sysV]
  refine markBlockS_ok ?_ hl hk0 hk _ ?_
  · exact hu.imp (fun h => h) fun hb => Same.get (S := fun _ => False) (Same.of_prefix (List.prefix_append _ _)) hb (fun h => h)
  intro H' _ hs ha
  simp (maxSteps := 1000000) [go_sem]
  have := h H' ((Same.of_prefix (List.prefix_append _ _)).trans hs) ha
  simpa using this

theorem heldSystem_ok {H : Heap} {i o : Nat} {p k : Int} {n : Nat} (hu : At H i o (ints (upFrom k (n * 3)))) (hl : n ≤ 140737488355328) (hk0 : 0 ≤ k) (hk : k ≤ 1000000000) (Post : Value → Heap → Prop) (h : ∀ H', H <+: H' → Post (.int .i64 (k + (n * 3 : Nat))) H') :
    ACalls Try.prog 59 [sysV p (lv 3 i o n), .int .i64 k] H Post := by
  refine acalls_vc (rs := [.tmp 4]) Try.func59 rfl rfl Try.ntmps59 rfl rfl ?_
  simp (maxSteps := 1000000) [go_sem, sysV]
  refine heldBlockS_ok (hu.pre (List.prefix_append _ _)) hl hk0 hk _ ?_
  have hneg : decide (k + (n * 3 : Nat) < 0) = false := by simp; omega
  have := h _ (List.prefix_append H [⟨[.int .i64 p, lv 3 i o n], true, true⟩])
  simp only [Int.natCast_mul, Int.cast_ofNat_Int] at this hneg ⊢
  simp (maxSteps := 1000000) [go_sem, hneg]
  exact this

end Go.Proofs.Ytkgjdmbmdnmilaa
