/- Part 5 of what the proof of the law FnExactTypesOf rests on: contracts of functions of the program, for every argument that each names; no statement of the seat is proved here. -/
import Derived.Test.YtakkmkinfeddeaaFnExactTypesOfPart4

section
/- Contracts of the laws' own helpers: copies of lists of numbers, marks over blocks and systems. -/
set_option linter.all false
set_option maxRecDepth 20000
namespace Go.Proofs.Ytakkmkinfeddeaa
open Go.Ab

/-- A slice of numbers that the call holds alone. -/
def OwnInts (H : Heap) (v : Value) (id : Nat) (xs : List Int) : Prop := v = lv 1 id 0 xs.length ∧ (xs = [] ∨ H[id]? = some ⟨ints xs, true, true⟩) ∧ xs.length ≤ 140737488355328
theorem OwnInts.read {H : Heap} {v : Value} {id : Nat} {xs : List Int} (h : OwnInts H v id xs) : IntsAt H v xs := by
  obtain ⟨h1, h2, h3⟩ := h
  refine ⟨id, 0, h1, ?_, h3⟩
  rcases h2 with rfl | h2
  · exact .inl rfl
  · exact Holds.at ⟨true, h2⟩
theorem OwnInts.keep {H H' : Heap} {v : Value} {id : Nat} {xs : List Int} (h : OwnInts H v id xs) {S : Nat → Prop} (hs : Same S H H') (hi : ¬ S id) : OwnInts H' v id xs :=
  ⟨h.1, h.2.1.imp (fun h => h) fun hb => hs.get hb hi, h.2.2⟩
theorem OwnInts.pre {H H' : Heap} (hp : H <+: H') {v : Value} {id : Nat} {xs : List Int} (h : OwnInts H v id xs) : OwnInts H' v id xs := h.keep (S := fun _ => False) (Same.of_prefix hp) (fun h => h)
theorem OwnInts.of_ol {H : Heap} {id : Nat} {xs : List Int} (h : OL 1 H id (ints xs) xs.length) (hl : xs.length ≤ 140737488355328) : OwnInts H (lv 1 id 0 xs.length) id xs :=
  ⟨rfl, h.2.imp (fun h => List.eq_nil_of_length_eq_zero h.1) (fun h => h), hl⟩
theorem OwnInts.one {H : Heap} {v : Value} {id : Nat} {xs : List Int} (h : OwnInts H v id xs) : v.oneCell' = true := h.read.one
theorem _root_.Go.Ab.OwnBlocks.pre {H H' : Heap} (hp : H <+: H') {v : Value} {id : Nat} {bs : List Bk} (h : OwnBlocks H v id bs) : OwnBlocks H' v id bs := h.keep (S := fun _ => False) (Same.of_prefix hp) (fun h => h)
theorem _root_.Go.Ab.OwnBlocks.one {H : Heap} {v : Value} {id : Nat} {bs : List Bk} (h : OwnBlocks H v id bs) : v.oneCell' = true := h.read.one
theorem _root_.Go.Ab.OwnBlocks.of_ol {H : Heap} {id : Nat} {bs : List Bk} (h : OL 3 H id (tri bs) bs.length) (hl : bs.length ≤ 140737488355328) : OwnBlocks H (lv 3 id 0 bs.length) id bs :=
  ⟨rfl, h.2.imp (fun h => List.eq_nil_of_length_eq_zero h.1) (fun h => h), hl⟩
theorem _root_.Go.Ab.OwnBlocks.lt {H : Heap} {v : Value} {id : Nat} {bs : List Bk} (h : OwnBlocks H v id bs) : bs = [] ∨ id < H.length := h.2.1.imp (fun h => h) fun h => (List.getElem?_eq_some_iff.1 h).1

theorem _root_.Go.Ab.Holds.keepS {H H' : Heap} {i : Nat} {cs : List Value} (h : Holds H i cs) {S : Nat → Prop} (hs : Same S H H') (hi : ¬ S i) : Holds H' i cs := by
  obtain ⟨o, h⟩ := h; exact ⟨o, hs.get h hi⟩
theorem _root_.Go.Ab.Holds.sys {H : Heap} {i : Nat} {p : Int} {u : Value} (h : Holds H i [.int .i64 p, u]) : cellsAt H i 0 2 = some [.int .i64 p, u] ∧ cellsAt H i 0 1 = some [.int .i64 p] ∧ cellsAt H i 1 1 = some [u] :=
  ⟨by simpa using h.cells (n := 2) (o := 0) (by simp), h.cell rfl, h.cell rfl⟩
theorem _root_.Go.Ab.Holds.bk {H : Heap} {i : Nat} {a b c : Int} (h : Holds H i [.int .i64 a, .int .i64 b, .int .i64 c]) : cellsAt H i 0 3 = some [.int .i64 a, .int .i64 b, .int .i64 c] ∧ cellsAt H i 0 1 = some [.int .i64 a] ∧ cellsAt H i 1 1 = some [.int .i64 b] ∧ cellsAt H i 2 1 = some [.int .i64 c] :=
  ⟨by simpa using h.cells (n := 3) (o := 0) (by simp), h.cell rfl, h.cell rfl, h.cell rfl⟩
theorem _root_.Go.Ab.Holds.last (H : Heap) (cs : List Value) : Holds (H ++ [⟨cs, true, true⟩]) H.length cs := ⟨true, by simp⟩

theorem toInt64S_ok {H : Heap} {u : Value} {xs : List Int} (hu : IntsAt H u xs) (Post : Value → Heap → Prop) (hb : xs.length ≤ 1048576) (h : ∀ H' v id, H <+: H' → H.length ≤ id → OwnInts H' v id xs → Post v H') :
    ACalls Try.prog 111 [u] H Post := by
  obtain ⟨i, o, rfl, h1, h2⟩ := hu
  refine ACalls.res ?_
  refine acalls_vc (rs := [.tmp 2]) Try.func111 rfl rfl Try.ntmps111 rfl rfl ?_
  have hm : ∀ n, (madeCells #[Value.int .i64 0] n).toList = ints (List.replicate n 0) := by
    intro n
    rw [made_same (v := .int .i64 0) (by simp) (by intro i hi; simp at hi; subst hi; rfl)]
    simp [ints]
  simp (maxSteps := 1000000) [go_sem, hm]
  refine andK_intro (by omega) ?_
  refine AWp.loopVc (fun s : Nat => [(0, lv 1 i o xs.length), (3, .slice (some ⟨H.length, 0, none⟩) xs.length xs.length), (4, .int .i64 s)])
    (fun s H' => s ≤ xs.length ∧ H <+: H' ∧ H'[H.length]? = some ⟨ints (xs.take s ++ List.replicate (xs.length - s) 0), true, true⟩) (fun s => xs.length - s) 0 ?_ ?_ ?_
  · simp [upF, Fr.get, Up.refl]
  · refine ⟨by omega, List.prefix_append _ _, by simp⟩
  · rintro K s H' ⟨hs, hp, hc⟩ hK
    by_cases hlt : s < xs.length
    · have c1 := (h1.pre hp).cell (k := s) (v := .int .i64 xs[s]) (by simp [ints_get, hlt])
      have hw_s : IntKind.i64.wrap ((s : Int) + 1) = (s : Int) + 1 := i64w (by omega) (by omega)
      have hlt2 : H.length < H'.length := (List.getElem?_eq_some_iff.1 hc).1
      have hst : storeAt H' H.length s [.int .i64 xs[s]] = some (H'.set H.length ⟨ints (xs.take (s + 1) ++ List.replicate (xs.length - (s + 1)) 0), true, true⟩) := by
        rw [storeAt_of hc rfl rfl (by simp only [ints_length, List.length_append, List.length_take, List.length_replicate, List.length_singleton]; omega) (by simp [Value.oneCell']), over_one (by simp only [ints_length, List.length_append, List.length_take, List.length_replicate]; omega), ints_set]
        congr 4
        rw [List.set_append_right _ _ (by simp; omega), List.length_take, Nat.min_eq_left hs, Nat.sub_self, show xs.length - s = (xs.length - (s + 1)) + 1 by omega, List.replicate_succ, List.set_cons_zero, List.take_succ_eq_append_getElem hlt, List.append_assoc]
        rfl
      simp (maxSteps := 1000000) [go_sem, hlt, c1, hst, hw_s]
      refine hK (s + 1) _ _ (by omega) (by simp [upF, Fr.get, Up.refl]) ⟨by omega, ?_, by rw [List.getElem?_set_self hlt2]⟩
      exact (show Same (fun j => j = H.length) H _ from (Same.of_prefix hp).trans Same.set).prefix (by omega)
    · have : s = xs.length := by omega
      subst this
      simp (maxSteps := 1000000) [go_sem]
      simp only [List.take_length, Nat.sub_self, List.replicate_zero, List.append_nil] at hc
      refine ⟨lv 1 H.length 0 xs.length, Up.ex (by omega) ?_, h H' _ H.length hp (Nat.le_refl _) ⟨rfl, .inr hc, by omega⟩⟩
      right
      rw [(Holds.cells ⟨true, hc⟩ (by rw [ints_length]; omega))]; rfl

/-- The numbers of some blocks, one behind the other. -/
def nums (bs : List Bk) : List Int := bs.flatMap fun b => [b.a, b.b, b.c]
theorem tri_nums (bs : List Bk) : tri bs = ints (nums bs) := by
  induction bs with
  | nil => rfl
  | cons b bs ih => rw [tri_cons, ih]; simp [nums, ints, Bk.cells]
theorem nums_length (bs : List Bk) : (nums bs).length = bs.length * 3 := by
  have := tri_length bs; rw [tri_nums, ints_length] at this; exact this

theorem mark_set {k : Int} {ys : List Int} {m : Nat} (h : m < ys.length) : (upFrom k m ++ ys.drop m).set m (k + m) = upFrom k (m + 1) ++ ys.drop (m + 1) := by
  rw [List.set_append_right _ _ (by rw [upFrom_length]; exact Nat.le_refl _), upFrom_length, Nat.sub_self, List.drop_eq_getElem_cons h, List.set_cons_zero, ← upFrom_append k m 1]
  simp [upFrom]

theorem mark_store {H : Heap} {i : Nat} {k : Int} {ys : List Int} {m : Nat} (hm : m < ys.length) (hb : H[i]? = some ⟨ints (upFrom k m ++ ys.drop m), true, true⟩) :
    storeAt H i m [.int .i64 (k + m)] = some (H.set i ⟨ints (upFrom k (m + 1) ++ ys.drop (m + 1)), true, true⟩) := by
  rw [storeAt_of hb rfl rfl (by simp only [ints_length, List.length_append, upFrom_length, List.length_drop, List.length_singleton]; omega) (by simp [Value.oneCell']), over_one (by simp only [ints_length, List.length_append, upFrom_length, List.length_drop]; omega), ints_set, mark_set hm]

theorem markBlockS_ok {H : Heap} {i : Nat} {k : Int} {bs : List Bk} (hu : bs = [] ∨ H[i]? = some ⟨tri bs, true, true⟩) (hl : bs.length ≤ 140737488355328) (hk0 : 0 ≤ k) (hk : k ≤ 1000000000) (Post : Value → Heap → Prop)
    (h : ∀ H', H'.length = H.length → Same (fun j => bs ≠ [] ∧ j = i) H H' → At H' i 0 (ints (upFrom k (bs.length * 3))) → Post (.int .i64 (k + (bs.length * 3 : Nat))) H') :
    ACalls Try.prog 91 [lv 3 i 0 bs.length, .int .i64 k] H Post := by
  refine acalls_vc (rs := [.tmp 4]) Try.func91 rfl rfl Try.ntmps91 rfl rfl ?_
  simp (maxSteps := 1000000) [go_sem]
  have hnl := nums_length bs
  refine AWp.loopVc (fun s : Nat => [(0, lv 3 i 0 bs.length), (1, .int .i64 (k + (s * 3 : Nat))), (5, .int .i64 s)])
    (fun s H' => s ≤ bs.length ∧ H'.length = H.length ∧ Same (fun j => bs ≠ [] ∧ j = i) H H' ∧ (bs ≠ [] → H'[i]? = some ⟨ints (upFrom k (s * 3) ++ (nums bs).drop (s * 3)), true, true⟩)) (fun s => bs.length - s) 0 ?_ ?_ ?_
  · simp [upF, Fr.get, Up.refl]
  · refine ⟨by omega, rfl, Same.refl _ _, fun hne => ?_⟩
    rw [hu.resolve_left hne, tri_nums]; simp [upFrom]
  · rintro K s H' ⟨hs, hlen, hsame, hc⟩ hK
    by_cases hlt : s < bs.length
    · have hne : bs ≠ [] := by rintro rfl; simp at hlt
      simp (maxSteps := 1000000) [go_sem, hlt]
      refine AWp.loopVc (fun t : Nat => [(0, lv 3 i 0 bs.length), (1, .int .i64 (k + (s * 3 + t : Nat))), (5, .int .i64 s), (6, .int .i64 t)])
        (fun t H2 => t ≤ 3 ∧ H2.length = H.length ∧ Same (fun j => bs ≠ [] ∧ j = i) H H2 ∧ H2[i]? = some ⟨ints (upFrom k (s * 3 + t) ++ (nums bs).drop (s * 3 + t)), true, true⟩) (fun t => 3 - t) 0 ?_ ?_ ?_
      · simp [upF, Fr.get, Up.refl]
      · exact ⟨by omega, hlen, hsame, hc hne⟩
      · rintro K2 t H2 ⟨ht, hlen2, hsame2, hc2⟩ hK2
        by_cases htl : t < 3
        · have htl' : (t : Int) < 3 := by omega
          have hw_t : IntKind.i64.wrap ((t : Int) + 1) = (t : Int) + 1 := i64w (by omega) (by omega)
          have hw2 : IntKind.i64.wrap (k + ((s : Int) * 3 + t) + 1) = k + (s * 3 + (t + 1)) := by rw [i64w (by omega) (by omega)]; omega
          have hst := mark_store (k := k) (ys := nums bs) (by omega) hc2
          have e1 : ((s * 3 + t : Nat) : Int) = s * 3 + t := by omega
          rw [e1] at hst
          simp (maxSteps := 1000000) [go_sem, hlt, htl, htl', hst, hw_t, hw2]
          refine hK2 (t + 1) _ _ (by omega) (by simp [upF, Fr.get, Up.refl]) ⟨by omega, by simp [hlen2], hsame2.trans ⟨by simp, fun j hj hjs => List.getElem?_set_ne (fun e => hjs ⟨hne, e.symm⟩)⟩, ?_⟩
          rw [List.getElem?_set_self (List.getElem?_eq_some_iff.1 hc2).1]; rfl
        · have : t = 3 := by omega
          subst this
          have hw_s : IntKind.i64.wrap ((s : Int) + 1) = (s : Int) + 1 := i64w (by omega) (by omega)
          simp (maxSteps := 1000000) [go_sem, hw_s]
          refine hK (s + 1) _ _ (by omega) ?_ ⟨by omega, hlen2, hsame2, fun _ => ?_⟩
          · have e : k + ((s : Int) * 3 + 3) = k + ((s : Int) + 1) * 3 := by omega
            simp [upF, Fr.get, Up.refl, e]
          · rw [Nat.add_mul]; exact hc2
    · have : s = bs.length := by omega
      subst this
      simp (maxSteps := 1000000) [go_sem]
      have := h H' hlen hsame ?_
      · simpa using this
      · by_cases hne : bs = []
        · subst hne; exact .inl rfl
        · have := hc hne
          rw [List.drop_eq_nil_of_le (by omega), List.append_nil] at this
          exact Holds.at ⟨true, this⟩

theorem heldBlockS_ok {H : Heap} {i o : Nat} {k : Int} {n : Nat} (hu : At H i o (ints (upFrom k (n * 3)))) (hl : n ≤ 140737488355328) (hk0 : 0 ≤ k) (hk : k ≤ 1000000000) (Post : Value → Heap → Prop) (h : Post (.int .i64 (k + (n * 3 : Nat))) H) :
    ACalls Try.prog 108 [lv 3 i o n, .int .i64 k] H Post := by
  refine acalls_vc (rs := [.tmp 4]) Try.func108 rfl rfl Try.ntmps108 rfl rfl ?_
  simp (maxSteps := 1000000) [go_sem]
  refine AWp.loopVc (fun s : Nat => [(0, lv 3 i o n), (1, .int .i64 (k + (s * 3 : Nat))), (5, .int .i64 s)])
    (fun s H' => s ≤ n ∧ H' = H) (fun s => n - s) 0 ?_ ?_ ?_
  · simp [upF, Fr.get, Up.refl]
  · simp
  · rintro K s H' ⟨hs, rfl⟩ hK
    by_cases hlt : s < n
    · simp (maxSteps := 1000000) [go_sem, hlt]
      refine AWp.loopVc (fun t : Nat => [(0, lv 3 i o n), (1, .int .i64 (k + (s * 3 + t : Nat))), (5, .int .i64 s), (6, .int .i64 t)])
        (fun t H2 => t ≤ 3 ∧ H2 = H') (fun t => 3 - t) 0 ?_ ?_ ?_
      · simp [upF, Fr.get, Up.refl]
      · simp
      · rintro K2 t H2 ⟨ht, rfl⟩ hK2
        by_cases htl : t < 3
        · have htl' : (t : Int) < 3 := by omega
          have hw_t : IntKind.i64.wrap ((t : Int) + 1) = (t : Int) + 1 := i64w (by omega) (by omega)
          have hw2 : IntKind.i64.wrap (k + ((s : Int) * 3 + t) + 1) = k + (s * 3 + (t + 1)) := by rw [i64w (by omega) (by omega)]; omega
          have c1 := hu.cell (k := s * 3 + t) (v := .int .i64 (k + (s * 3 + t : Nat))) (by rw [ints_get, upFrom_get (by omega)]; rfl)
          rw [← Nat.add_assoc] at c1
          have e1 : ((s * 3 + t : Nat) : Int) = s * 3 + t := by omega
          rw [e1] at c1
          simp (maxSteps := 1000000) [go_sem, hlt, htl, htl', c1, hw_t, hw2]
          exact hK2 (t + 1) _ _ (by omega) (by simp [upF, Fr.get, Up.refl]) ⟨by omega, rfl⟩
        · have : t = 3 := by omega
          subst this
          have hw_s : IntKind.i64.wrap ((s : Int) + 1) = (s : Int) + 1 := i64w (by omega) (by omega)
          simp (maxSteps := 1000000) [go_sem, hw_s]
          refine hK (s + 1) _ _ (by omega) ?_ ⟨by omega, rfl⟩
          have e : k + ((s : Int) * 3 + 3) = k + ((s : Int) + 1) * 3 := by omega
          simp [upF, Fr.get, Up.refl, e]
    · have : s = n := by omega
      subst this
      simp (maxSteps := 1000000) [go_sem]
      simpa using h

theorem markSystem_ok {H : Heap} {i : Nat} {p k : Int} {bs : List Bk} (hu : bs = [] ∨ H[i]? = some ⟨tri bs, true, true⟩) (hl : bs.length ≤ 140737488355328) (hk0 : 0 ≤ k) (hk : k ≤ 1000000000) (Post : Value → Heap → Prop)
    (h : ∀ H', Same (fun j => bs ≠ [] ∧ j = i) H H' → At H' i 0 (ints (upFrom k (bs.length * 3))) → Post (.int .i64 (k + (bs.length * 3 : Nat))) H') :
    ACalls Try.prog 27 [sysV p (lv 3 i 0 bs.length), .int .i64 k] H Post := by
  refine acalls_vc (rs := [.tmp 4]) Try.func27 rfl rfl Try.ntmps27 rfl rfl ?_
  simp (maxSteps := 1000000) [go_sem, sysV]
  refine markBlockS_ok ?_ hl hk0 hk _ ?_
  · exact hu.imp (fun h => h) fun hb => Same.get (S := fun _ => False) (Same.of_prefix (List.prefix_append _ _)) hb (fun h => h)
  intro H' _ hs ha
  simp (maxSteps := 1000000) [go_sem]
  have := h H' ((Same.of_prefix (List.prefix_append _ _)).trans hs) ha
  simpa using this

theorem heldSystem_ok {H : Heap} {i o : Nat} {p k : Int} {n : Nat} (hu : At H i o (ints (upFrom k (n * 3)))) (hl : n ≤ 140737488355328) (hk0 : 0 ≤ k) (hk : k ≤ 1000000000) (Post : Value → Heap → Prop) (h : ∀ H', H <+: H' → Post (.int .i64 (k + (n * 3 : Nat))) H') :
    ACalls Try.prog 37 [sysV p (lv 3 i o n), .int .i64 k] H Post := by
  refine acalls_vc (rs := [.tmp 4]) Try.func37 rfl rfl Try.ntmps37 rfl rfl ?_
  simp (maxSteps := 1000000) [go_sem, sysV]
  refine heldBlockS_ok (hu.pre (List.prefix_append _ _)) hl hk0 hk _ ?_
  have hneg : decide (k + (n * 3 : Nat) < 0) = false := by simp; omega
  have := h _ (List.prefix_append H [⟨[.int .i64 p, lv 3 i o n], true, true⟩])
  simp only [Int.natCast_mul, Int.cast_ofNat_Int] at this hneg ⊢
  simp (maxSteps := 1000000) [go_sem, hneg]
  exact this

end Go.Proofs.Ytakkmkinfeddeaa
end

section
/- The third point of two: both sides. -/
set_option linter.all false
set_option maxRecDepth 20000
namespace Go.Proofs.Ytakkmkinfeddeaa
open Go.Ab

theorem _root_.Go.Ab.IsSys.good {p : Int} {bs : List Bk} (h : IsSys p bs) : ∀ x ∈ bs, good p x = true := by
  intro x hx
  obtain ⟨k, hk⟩ := List.mem_iff_getElem?.1 hx
  exact (h.2.2.1 k x hk).1
theorem _root_.Go.Ab.IsSys.good15 {p : Int} {bs : List Bk} (h : IsSys p bs) : ∀ x ∈ bs, Ab.good 15 x = true := by
  intro x hx
  have := h.good x hx
  have := h.1
  rw [good_iff] at *
  omega
theorem sysB_of {p : Int} {bs : List Bk} (h : sysB p bs = true) : IsSys p bs := sysB_iff.1 h

/-- A point of a system. -/
def inP (p x : Int) : Bool := decide (0 ≤ x) && decide (x ≤ p - 1)
theorem inP_iff {p x : Int} : inP p x = true ↔ 0 ≤ x ∧ x ≤ p - 1 := by simp [inP]
theorem inP_false {p x : Int} : inP p x = false ↔ ¬ (0 ≤ x ∧ x ≤ p - 1) := by rw [← inP_iff]; simp

theorem l01With_ok {H : Heap} {b : Bk} {p : Int} (Post : Value → Heap → Prop) (h : ∀ H', H <+: H' → Post (.bool (b.has p)) H') :
    ACalls Try.prog 194 [b.val, .int .i64 p] H Post := by
  refine acalls_vc (rs := [.tmp 4]) Try.func194 rfl rfl Try.ntmps194 rfl rfl ?_
  obtain ⟨a, b, c⟩ := b
  have h := h _ (List.prefix_append H [⟨[.int .i64 a, .int .i64 b, .int .i64 c], true, true⟩])
  simp only [Bk.has] at h
  by_cases h1 : a = p
  · have e1 : (a == p) = true := by simpa using h1
    simp (maxSteps := 1000000) [go_sem, Bk.val, e1]
    simpa [h1] using h
  · have e1 : (a == p) = false := by simpa using h1
    by_cases h2 : b = p
    · have e2 : (b == p) = true := by simpa using h2
      simp (maxSteps := 1000000) [go_sem, Bk.val, e1, e2]
      simpa [h1, h2] using h
    · have e2 : (b == p) = false := by simpa using h2
      simp (maxSteps := 1000000) [go_sem, Bk.val, e1, e2]
      have e3 : (c == p) = decide (c = p) := rfl
      rw [e3]
      simpa [h1, h2] using h

theorem l01Third_ok {H : Heap} {u : Value} {p q r : Int} {bs : List Bk} (hu : BlocksAt H u bs) (hg : ∀ x ∈ bs, good 15 x = true) (Post : Value → Heap → Prop) (h : ∀ H', H <+: H' → Post (.int .i64 (third bs q r)) H') :
    ACalls Try.prog 150 [sysV p u, .int .i64 q, .int .i64 r] H Post := by
  obtain ⟨i, o, rfl, h1, h2⟩ := hu
  refine acalls_vc (rs := [.tmp 6]) Try.func150 rfl rfl Try.ntmps150 rfl rfl ?_
  simp (maxSteps := 1000000) [go_sem, sysV]
  have hx0 := Holds.last H [.int .i64 p, lv 3 i o bs.length]
  have hp0 : H <+: H ++ [⟨[.int .i64 p, lv 3 i o bs.length], true, true⟩] := List.prefix_append _ _
  generalize H ++ [(⟨[.int .i64 p, lv 3 i o bs.length], true, true⟩ : Blk)] = H0 at hx0 hp0 ⊢
  refine AWp.loopVc (fun s : Nat => [(1, .int .i64 q), (2, .int .i64 r), (3, .pointer (some ⟨H.length, 0, none⟩)), (7, .int .i64 s)])
    (fun s H' => s ≤ bs.length ∧ H0 <+: H' ∧ (bs.take s).find? (fun c => c.has q && c.has r) = none) (fun s => bs.length - s) 0 ?_ ?_ ?_
  · simp [upF, Fr.get, Up.refl]
  · exact ⟨by omega, List.prefix_refl _, by simp⟩
  · rintro K s H' ⟨hs, hp, hf⟩ hK
    obtain ⟨d0, d1, d2⟩ := (hx0.pre hp).sys
    by_cases hlt : s < bs.length
    · have hbs : bs[s]? = some bs[s] := List.getElem?_eq_getElem hlt
      have c1 := (h1.pre (hp0.trans hp)).bk hbs
      simp only [Bk.cells] at c1
      have hw_s : IntKind.i64.wrap ((s : Int) + 1) = (s : Int) + 1 := i64w (by omega) (by omega)
      have hsucc : (bs.take (s + 1)).find? (fun c => c.has q && c.has r) = if bs[s].has q && bs[s].has r then some bs[s] else none := by
        rw [List.take_succ_eq_append_getElem hlt, List.find?_append, hf, List.find?_cons]
        cases bs[s].has q && bs[s].has r <;> rfl
      simp (maxSteps := 1000000) [go_sem, hlt, d2, c1]
      have hb0 := Holds.last H' [.int .i64 bs[s].a, .int .i64 bs[s].b, .int .i64 bs[s].c]
      refine l01With_ok (b := bs[s]) _ ?_
      intro H2 hp2
      obtain ⟨e0, e1, e2, e3⟩ := (hb0.pre hp2).bk
      cases hq : bs[s].has q with
      | false =>
        simp (maxSteps := 1000000) [go_sem, hw_s]
        exact hK (s + 1) _ _ (by omega) (by simp [upF, Fr.get, Up.refl]) ⟨by omega, hp.trans (pre_box hp2), by rw [hsucc, hq]; rfl⟩
      | true =>
        simp (maxSteps := 1000000) [go_sem, e0]
        refine l01With_ok (b := bs[s]) _ ?_
        intro H3 hp3
        obtain ⟨f0, f1, f2, f3⟩ := (hb0.pre (hp2.trans hp3)).bk
        cases hr : bs[s].has r with
        | false =>
          simp (maxSteps := 1000000) [go_sem, hw_s]
          exact hK (s + 1) _ _ (by omega) (by simp [upF, Fr.get, Up.refl]) ⟨by omega, hp.trans ((pre_box hp2).trans hp3), by rw [hsucc, hq, hr]; rfl⟩
        | true =>
          have hgd := hg _ (List.mem_of_getElem? hbs)
          rw [good_iff] at hgd
          rw [Bk.has_iff] at hq hr
          have w1 : IntKind.i64.wrap (bs[s].a + bs[s].b) = bs[s].a + bs[s].b := i64w (by omega) (by omega)
          have w2 : IntKind.i64.wrap (bs[s].a + bs[s].b + bs[s].c) = bs[s].a + bs[s].b + bs[s].c := i64w (by omega) (by omega)
          have w3 : IntKind.i64.wrap (bs[s].a + bs[s].b + bs[s].c - q) = bs[s].a + bs[s].b + bs[s].c - q := i64w (by omega) (by omega)
          have w4 : IntKind.i64.wrap (bs[s].a + bs[s].b + bs[s].c - q - r) = bs[s].a + bs[s].b + bs[s].c - q - r := i64w (by omega) (by omega)
          simp (maxSteps := 1000000) [go_sem, f1, f2, f3, w1, w2, w3, w4]
          have := h H3 (hp0.trans (hp.trans ((pre_box hp2).trans hp3)))
          rw [← Bk.has_iff] at hq hr
          have ht : third bs q r = bs[s].a + bs[s].b + bs[s].c - q - r := by
            have e : bs = bs.take (s + 1) ++ bs.drop (s + 1) := (List.take_append_drop _ _).symm
            unfold third
            conv => lhs; rw [e]
            rw [List.find?_append, hsucc, hq, hr]; rfl
          rw [ht] at this; exact this
    · have : s = bs.length := by omega
      subst this
      rw [List.take_length] at hf
      simp (maxSteps := 1000000) [go_sem, d2]
      have := h H' (hp0.trans hp)
      unfold third at this
      rw [hf] at this; exact this

noncomputable def ptsCode (p : Int) (bs : List Bk) (xs : List Int) : Int := if sysB p bs then (if xs.all (inP p) then 0 else 2) else 1

theorem l01Points_ok {H : Heap} {u v : Value} {p : Int} {bs : List Bk} {xs : List Int} (hu : BlocksAt H u bs) (hl : bs.length ≤ 1048576) (hv : IntsAt H v xs) (Post : Value → Heap → Prop) (h : ∀ H', H <+: H' → Post (.int .i64 (ptsCode p bs xs)) H') :
    ACalls Try.prog 149 [sysV p u, v] H Post := by
  obtain ⟨i, o, rfl, h1, h2⟩ := hv
  refine acalls_vc (rs := [.tmp 4]) Try.func149 rfl rfl Try.ntmps149 rfl rfl ?_
  simp (maxSteps := 1000000) [go_sem, sysV, hu.one]
  refine l01Is' (hu.pre (List.prefix_append _ _)) hl _ ?_
  intro H1 hp1
  have hx1 := (Holds.last H [.int .i64 p, u]).pre hp1
  cases hs : sysB p bs with
  | false =>
    simp (maxSteps := 1000000) [go_sem]
    simpa [ptsCode, hs] using h H1 (pre_box hp1)
  | true =>
    have hp := (sysB_of hs).1
    simp (maxSteps := 1000000) [go_sem]
    refine AWp.loopVc (fun s : Nat => [(1, lv 1 i o xs.length), (2, .pointer (some ⟨H.length, 0, none⟩)), (5, .int .i64 s)])
      (fun s H' => s ≤ xs.length ∧ H1 <+: H' ∧ (xs.take s).all (inP p) = true) (fun s => xs.length - s) 0 ?_ ?_ ?_
    · simp [upF, Fr.get, Up.refl]
    · exact ⟨by omega, List.prefix_refl _, by simp⟩
    · rintro K s H' ⟨hs', hp', hf⟩ hK
      obtain ⟨d0, d1, d2⟩ := (hx1.pre hp').sys
      by_cases hlt : s < xs.length
      · have c1 := (h1.pre ((pre_box hp1).trans hp')).cell (k := s) (v := .int .i64 xs[s]) (by simp [ints_get, hlt])
        have hw_s : IntKind.i64.wrap ((s : Int) + 1) = (s : Int) + 1 := i64w (by omega) (by omega)
        have hw2 : IntKind.i64.wrap (p - 1) = p - 1 := i64w (by omega) (by omega)
        simp (maxSteps := 1000000) [go_sem, hlt]
        refine AWp.draw mixed [(0, false), (1, false), (2, false), (3, false), (4, false), (5, false), (6, false), (7, false), (8, false)] (by kernel_rfl) ?_
        simp (maxSteps := 1000000) [go_sem, hlt, c1, d1, hw2]
        refine l01In_ok _ ?_
        cases hin : inP p xs[s] with
        | true =>
          have hin' := hin
          unfold inP at hin'
          rw [hin']
          simp (maxSteps := 1000000) [go_sem, hw_s]
          refine hK (s + 1) _ _ (by omega) (by simp [upF, Fr.get, Up.refl]) ⟨by omega, hp', ?_⟩
          rw [List.take_succ_eq_append_getElem hlt, List.all_append, hf]; simp [hin]
        | false =>
          have hin' := hin
          unfold inP at hin'
          rw [hin']
          simp (maxSteps := 1000000) [go_sem]
          have : xs.all (inP p) = false := by
            rw [List.all_eq_false]; exact ⟨xs[s], List.getElem_mem hlt, by simp [hin]⟩
          simpa [ptsCode, hs, this] using h H' ((pre_box hp1).trans hp')
      · have : s = xs.length := by omega
        subst this
        rw [List.take_length] at hf
        simp (maxSteps := 1000000) [go_sem]
        simpa [ptsCode, hs, hf] using h H' ((pre_box hp1).trans hp')

noncomputable def pairCode (p : Int) (bs : List Bk) (a b : Int) : Int := if sysB p bs then (if inP p a && inP p b && !decide (a = b) then 0 else 2) else 1
noncomputable def rThird (p : Int) (bs : List Bk) (a b : Int) : Int × Int :=
  if pairCode p bs a b = 0 then (if third bs a b = -1 then (0, 4) else (third bs a b, 0)) else (0, pairCode p bs a b)

theorem pairCode_good {p : Int} {bs : List Bk} {a b : Int} (h : pairCode p bs a b = 0) : IsSys p bs ∧ (0 ≤ a ∧ a ≤ p - 1) ∧ (0 ≤ b ∧ b ≤ p - 1) ∧ a ≠ b := by
  unfold pairCode at h
  split at h
  · rename_i hs
    split at h
    · rename_i hc
      simp only [Bool.and_eq_true, Bool.not_eq_true', decide_eq_false_iff_not] at hc
      exact ⟨sysB_of hs, inP_iff.1 hc.1.1, inP_iff.1 hc.1.2, hc.2⟩
    · omega
  · omega

theorem isPoint_ok {H : Heap} {u : Value} {p x : Int} (hu : u.oneCell' = true) (hp : 3 ≤ p ∧ p ≤ 15) (Post : Value → Heap → Prop) (h : ∀ H', H <+: H' → Post (.bool (inP p x)) H') :
    ACalls Try.prog 151 [sysV p u, .int .i64 x] H Post := by
  refine acalls_vc (rs := [.tmp 4]) Try.func151 rfl rfl Try.ntmps151 rfl rfl ?_
  have hw2 : IntKind.i64.wrap (p - 1) = p - 1 := i64w (by omega) (by omega)
  simp (maxSteps := 1000000) [go_sem, sysV, hu, hw2]
  refine within_ok _ ?_
  simp (maxSteps := 1000000) [go_sem]
  exact h _ (List.prefix_append _ _)

theorem pairCode_ok {H : Heap} {u : Value} {p a b : Int} {bs : List Bk} (hu : BlocksAt H u bs) (Post : Value → Heap → Prop) (h : ∀ H', H <+: H' → Post (.int .i64 (pairCode p bs a b)) H') :
    ACalls Try.prog 86 [sysV p u, .int .i64 a, .int .i64 b] H Post := by
  refine acalls_vc (rs := [.tmp 6]) Try.func86 rfl rfl Try.ntmps86 rfl rfl ?_
  simp (maxSteps := 1000000) [go_sem, sysV, hu.one]
  have hp0 : H <+: H ++ [⟨[.int .i64 p, u], true, true⟩] := List.prefix_append _ _
  have hx0 := Holds.last H [.int .i64 p, u]
  refine implIsSys (hu.pre hp0) _ ?_
  intro H1 hp1
  obtain ⟨d0, d1, d2⟩ := (hx0.pre hp1).sys
  cases hs : sysB p bs with
  | false =>
    simp (maxSteps := 1000000) [go_sem]
    simpa [pairCode, hs] using h H1 (hp0.trans hp1)
  | true =>
    have hp := (sysB_of hs).1
    simp (maxSteps := 1000000) [go_sem, d0]
    refine isPoint_ok hu.one hp _ ?_
    intro H2 hp2
    obtain ⟨e0, _, _⟩ := (hx0.pre (hp1.trans hp2)).sys
    cases ha : inP p a with
    | false =>
      simp (maxSteps := 1000000) [go_sem]
      simpa [pairCode, hs, ha] using h H2 (hp0.trans (hp1.trans hp2))
    | true =>
      simp (maxSteps := 1000000) [go_sem, e0]
      refine isPoint_ok hu.one hp _ ?_
      intro H3 hp3
      have fin := h H3 (hp0.trans (hp1.trans (hp2.trans hp3)))
      cases hb : inP p b with
      | false =>
        simp (maxSteps := 1000000) [go_sem]
        simpa [pairCode, hs, ha, hb] using fin
      | true =>
        by_cases hab : a = b
        · have e3 : (a == b) = true := by simpa using hab
          simp (maxSteps := 1000000) [go_sem, e3]
          simpa [pairCode, hs, ha, hb, hab] using fin
        · have e3 : (a == b) = false := by simpa using hab
          simp (maxSteps := 1000000) [go_sem, e3]
          simpa [pairCode, hs, ha, hb, hab] using fin

end Go.Proofs.Ytakkmkinfeddeaa
end

section
/- Ranges of numbers, and lists that a loop builds up over them. No program is in sight here. -/
set_option linter.all false
namespace Go.Ab

/-- The numbers from lo to below hi. -/
def upTo (lo hi : Nat) : List Nat := List.range' lo (hi - lo)
theorem upTo_succ {lo k : Nat} (h : lo ≤ k) : upTo lo (k + 1) = upTo lo k ++ [k] := by
  unfold upTo
  rw [show k + 1 - lo = (k - lo) + 1 by omega, List.range'_concat]
  congr 2; omega
theorem upTo_self {lo k : Nat} (h : k ≤ lo) : upTo lo k = [] := by
  unfold upTo; rw [show k - lo = 0 by omega]; rfl
theorem mem_upTo {lo hi k : Nat} : k ∈ upTo lo hi ↔ lo ≤ k ∧ k < hi := by
  unfold upTo; rw [List.mem_range'_1]; omega
theorem upTo_length (lo hi : Nat) : (upTo lo hi).length = hi - lo := by simp [upTo]

/-- All blocks of v points, in order. -/
def trip2 (v a b : Nat) (hi : Nat) : List Bk := (upTo (b + 1) hi).map fun c : Nat => ⟨a, b, c⟩
def trip1 (v a : Nat) (hi : Nat) : List Bk := (upTo (a + 1) hi).flatMap fun b => trip2 v a b v
def trip0 (v : Nat) (hi : Nat) : List Bk := (upTo 0 hi).flatMap fun a => trip1 v a v
def triples (v : Nat) : List Bk := trip0 v v

theorem trip2_succ {v a b k : Nat} (h : b + 1 ≤ k) : trip2 v a b (k + 1) = trip2 v a b k ++ [⟨a, b, k⟩] := by simp [trip2, upTo_succ h]
theorem trip1_succ {v a k : Nat} (h : a + 1 ≤ k) : trip1 v a (k + 1) = trip1 v a k ++ trip2 v a k v := by simp [trip1, upTo_succ h]
theorem trip0_succ {v k : Nat} : trip0 v (k + 1) = trip0 v k ++ trip1 v k v := by simp [trip0, upTo_succ (Nat.zero_le k)]
theorem trip2_start (v a b : Nat) : trip2 v a b (b + 1) = [] := by simp [trip2, upTo_self]
theorem trip1_start (v a : Nat) : trip1 v a (a + 1) = [] := by simp [trip1, upTo_self]
theorem trip0_start (v : Nat) : trip0 v 0 = [] := by simp [trip0, upTo_self]
theorem mem_triples {v : Nat} {b : Bk} (h : b ∈ triples v) : good v b = true ∧ ∃ x y z : Nat, b = ⟨x, y, z⟩ ∧ x < y ∧ y < z ∧ z < v := by
  simp only [triples, trip0, trip1, trip2, List.mem_flatMap, List.mem_map, mem_upTo] at h
  obtain ⟨x, h1, y, h2, z, h3, rfl⟩ := h
  refine ⟨?_, x, y, z, rfl, by omega, by omega, by omega⟩
  rw [good_iff]; simp only; omega

end Go.Ab
end

section
/- Degrees: both sides. -/
set_option linter.all false
set_option maxRecDepth 20000
namespace Go.Ab

/-- A list that a call builds, behind the memory H. -/
def Bl (e : Nat) (H H' : Heap) (id : Nat) (cs : List Value) (n : Nat) : Prop := H <+: H' ∧ OL e H' id cs n ∧ H.length ≤ id
theorem Bl.ghost (e : Nat) (H : Heap) : Bl e H (H ++ [⟨[], false, false⟩]) H.length [] 0 := ⟨List.prefix_append _ _, OL.ghost e H, Nat.le_refl _⟩
theorem Bl.nil (e : Nat) (H : Heap) : Bl e H (H ++ [⟨[], true, true⟩]) H.length [] 0 := ⟨List.prefix_append _ _, ⟨by simp, .inr (by simp)⟩, Nat.le_refl _⟩
theorem Bl.pre {e : Nat} {H H' H'' : Heap} {id n : Nat} {cs : List Value} (h : Bl e H H' id cs n) (hp : H' <+: H'') : Bl e H H'' id cs n :=
  ⟨h.1.trans hp, h.2.1.keep (S := fun _ => False) (Same.of_prefix hp) (fun h => h), h.2.2⟩
theorem Bl.push {e : Nat} {H H' : Heap} {id n : Nat} {cs xs : List Value} (h : Bl e H H' id cs n) (he : 0 < e) (hx : xs.length = e) :
    cellsAt (H' ++ [⟨xs, true, true⟩]) H'.length 0 e = some xs ∧ ∃ H3, appendH (H' ++ [⟨xs, true, true⟩]) e (lv e id 0 n) 1 xs = some (lv e (H'.length + 1) 0 (n + 1), H3) ∧ Bl e H H3 (H'.length + 1) (cs ++ xs) (n + 1) := by
  obtain ⟨h1, H3, h2, h3, h4, h5⟩ := h.2.1.push he hx
  refine ⟨h1, H3, h2, ((Same.of_prefix h.1).trans h4).prefix (by have := h.2.2; omega), h3, ?_⟩
  have := h.1.length_le
  omega

/-- The numbers of the blocks with a point. -/
def atL (bs : List Bk) (q : Int) : List Int := (bs.zipIdx.filter fun x => x.1.has q).map fun x => (x.2 : Int)
theorem atL_snoc (bs : List Bk) (b : Bk) (q : Int) : atL (bs ++ [b]) q = atL bs q ++ (if b.has q then [(bs.length : Int)] else []) := by
  unfold atL
  rw [List.zipIdx_append, List.filter_append, List.map_append]
  congr 1
  cases h : b.has q <;> simp [h]
theorem atL_length (bs : List Bk) (q : Int) : (atL bs q).length = bs.countP (·.has q) := by
  have key : ∀ (bs : List Bk) (k : Nat), ((bs.zipIdx k).filter fun x => x.1.has q).length = bs.countP (·.has q) := by
    intro bs
    induction bs with
    | nil => intro k; rfl
    | cons b bs ih => intro k; simp only [List.zipIdx_cons, List.filter_cons, List.countP_cons]; cases h : b.has q <;> simp [h, ih]
  rw [atL, List.length_map, key]
theorem atL_le (bs : List Bk) (q : Int) : (atL bs q).length ≤ bs.length := by rw [atL_length]; exact List.countP_le_length

def degrees (p : Nat) (bs : List Bk) : List Int := (List.range p).map fun q : Nat => ((bs.countP (·.has (q : Int)) : Nat) : Int)

/-- How often the first numbers are each point. -/
def tally (p : Nat) (xs : List Int) : List Int := (List.range p).map fun q : Nat => ((xs.count (q : Int) : Nat) : Int)
theorem tally_length (p : Nat) (xs : List Int) : (tally p xs).length = p := by simp [tally]
theorem tally_get {p : Nat} {xs : List Int} {q : Nat} (h : q < p) : (tally p xs)[q]? = some ((xs.count (q : Int) : Nat) : Int) := by simp [tally, h]
theorem tally_snoc {p : Nat} {xs : List Int} {x : Nat} : tally p (xs ++ [(x : Int)]) = (tally p xs).set x ((xs.count (x : Int) : Nat) + 1) := by
  apply List.ext_getElem?
  intro k
  rw [List.getElem?_set]
  by_cases hk : k < p
  · rw [tally_get hk]
    by_cases e : x = k
    · subst e
      rw [if_pos rfl, if_pos (by rw [tally_length]; exact hk), List.count_append]
      simp
    · rw [if_neg e, tally_get hk, List.count_append]
      have : ((x : Int) == (k : Int)) = false := by simp; omega
      simp [List.count_cons, this]
  · have h1 : (tally p (xs ++ [(x : Int)]))[k]? = none := List.getElem?_eq_none (by rw [tally_length]; omega)
    have h2 : (tally p xs)[k]? = none := List.getElem?_eq_none (by rw [tally_length]; omega)
    rw [h1, h2, tally_length]
    split
    · rw [if_neg (by omega)]
    · rfl
theorem tally_nil (p : Nat) : tally p [] = List.replicate p 0 := by
  apply List.ext_getElem?
  intro k
  by_cases hk : k < p
  · rw [tally_get hk, List.getElem?_replicate, if_pos hk]; simp
  · rw [List.getElem?_eq_none (by rw [tally_length]; omega), List.getElem?_eq_none (by rw [List.length_replicate]; omega)]

end Go.Ab
namespace Go.Proofs.Ytakkmkinfeddeaa
open Go.Ab

theorem nums_cons (b : Bk) (bs : List Bk) : nums (b :: bs) = [b.a, b.b, b.c] ++ nums bs := by simp [nums]
theorem nums_get : ∀ {bs : List Bk} {s t : Nat} {b : Bk}, bs[s]? = some b → t < 3 → (nums bs)[s * 3 + t]? = some (b.nth t)
  | [], s, t, b, h, _ => by simp at h
  | d :: bs, 0, t, b, h, ht => by
    simp at h; subst h
    rw [nums_cons, List.getElem?_append_left (by simp; omega)]
    have : t = 0 ∨ t = 1 ∨ t = 2 := by omega
    rcases this with rfl | rfl | rfl <;> rfl
  | d :: bs, s + 1, t, b, h, ht => by
    have := nums_get (bs := bs) (s := s) (b := b) (by simpa using h) ht
    rw [nums_cons, List.getElem?_append_right (by simp; omega), ← this]
    congr 1; simp; omega
theorem nums_count {v : Int} {q : Int} : ∀ {bs : List Bk}, (∀ x ∈ bs, good v x = true) → (nums bs).count q = bs.countP (·.has q)
  | [], _ => rfl
  | b :: bs, h => by
    rw [nums_cons, List.count_append, nums_count fun x hx => h x (List.mem_cons_of_mem _ hx), List.countP_cons]
    have hb := h b List.mem_cons_self
    rw [good_iff] at hb
    have e : [b.a, b.b, b.c].count q = if b.has q then 1 else 0 := by
      have h3 : b.has q = true ↔ (b.a = q ∨ b.b = q ∨ b.c = q) := Bk.has_iff
      simp only [List.count_cons, List.count_nil, beq_iff_eq]
      by_cases hh : b.has q = true
      · rw [if_pos hh]; rw [h3] at hh; split <;> split <;> split <;> omega
      · rw [if_neg hh]; rw [h3] at hh; split <;> split <;> split <;> omega
    rw [e]; omega
theorem tally_nums {p : Int} {bs : List Bk} (h : ∀ x ∈ bs, good p x = true) (n : Nat) : tally n (nums bs) = degrees n bs := by
  unfold tally degrees
  apply List.map_congr_left
  intro q _
  rw [nums_count h]

noncomputable def rDegrees (p : Int) (bs : List Bk) : List Int × Int := if sysB p bs then (degrees p.toNat bs, 0) else ([], 1)

end Go.Proofs.Ytakkmkinfeddeaa
end

section
/- Results that a call holds alone, told by the span of the blocks that they lie in; marks on them. -/
set_option linter.all false
set_option maxRecDepth 20000
namespace Go.Proofs.Ytakkmkinfeddeaa
open Go.Ab

/-- The blocks from a to below b. -/
def Span (a b : Nat) (j : Nat) : Prop := a ≤ j ∧ j < b

def IntsIn (a b : Nat) (H : Heap) (v : Value) (xs : List Int) : Prop := ∃ id, OwnInts H v id xs ∧ (xs ≠ [] → Span a b id)
def BlocksIn (a b : Nat) (H : Heap) (v : Value) (bs : List Bk) : Prop := ∃ id, OwnBlocks H v id bs ∧ (bs ≠ [] → Span a b id)
/-- A slice of numbers, marked from k on. -/
def MarkIn (e : Nat) (a b : Nat) (H : Heap) (v : Value) (k : Int) (n : Nat) : Prop := ∃ id, v = lv e id 0 n ∧ At H id 0 (ints (upFrom k (n * e))) ∧ n ≤ 140737488355328 ∧ (n ≠ 0 → Span a b id)

theorem OwnInts.inn {H H' : Heap} {v : Value} {id : Nat} {xs : List Int} (h : OwnInts H' v id xs) (hid : H.length ≤ id) : IntsIn H.length H'.length H' v xs :=
  ⟨id, h, fun hne => ⟨hid, (List.getElem?_eq_some_iff.1 (h.2.1.resolve_left hne)).1⟩⟩
theorem OwnBlocks.inn {H H' : Heap} {v : Value} {id : Nat} {bs : List Bk} (h : OwnBlocks H' v id bs) (hid : H.length ≤ id) : BlocksIn H.length H'.length H' v bs :=
  ⟨id, h, fun hne => ⟨hid, h.lt.resolve_left hne⟩⟩

theorem IntsIn.keep {a b : Nat} {H H' : Heap} {v : Value} {xs : List Int} (h : IntsIn a b H v xs) {S : Nat → Prop} (hs : Same S H H') (hd : ∀ j, Span a b j → ¬ S j) : IntsIn a b H' v xs := by
  obtain ⟨id, h1, h2⟩ := h
  by_cases hne : xs = []
  · subst hne; exact ⟨id, ⟨h1.1, .inl rfl, h1.2.2⟩, h2⟩
  · exact ⟨id, h1.keep hs (hd _ (h2 hne)), h2⟩
theorem BlocksIn.keep {a b : Nat} {H H' : Heap} {v : Value} {bs : List Bk} (h : BlocksIn a b H v bs) {S : Nat → Prop} (hs : Same S H H') (hd : ∀ j, Span a b j → ¬ S j) : BlocksIn a b H' v bs := by
  obtain ⟨id, h1, h2⟩ := h
  by_cases hne : bs = []
  · subst hne; exact ⟨id, ⟨h1.1, .inl rfl, h1.2.2⟩, h2⟩
  · exact ⟨id, OwnBlocks.keep h1 hs (hd _ (h2 hne)), h2⟩
theorem MarkIn.keep {e a b : Nat} {H H' : Heap} {v : Value} {k : Int} {n : Nat} (h : MarkIn e a b H v k n) {S : Nat → Prop} (hs : Same S H H') (hd : ∀ j, Span a b j → ¬ S j) : MarkIn e a b H' v k n := by
  obtain ⟨id, h1, h2, h3, h4⟩ := h
  refine ⟨id, h1, ?_, h3, h4⟩
  rcases h2 with h0 | h2
  · exact .inl h0
  · by_cases hn : n = 0
    · subst hn; left; simp [upFrom, ints]
    · right
      obtain ⟨blk, hb, hbl, hbn, he⟩ := cellsAt_inv h2
      rw [cellsAt_of (hs.get hb (hd _ (h4 hn))) hbl hbn, ← he]
theorem IntsIn.pre {a b : Nat} {H H' : Heap} (hp : H <+: H') {v : Value} {xs : List Int} (h : IntsIn a b H v xs) : IntsIn a b H' v xs := h.keep (S := fun _ => False) (Same.of_prefix hp) (fun _ _ h => h)
theorem BlocksIn.pre {a b : Nat} {H H' : Heap} (hp : H <+: H') {v : Value} {bs : List Bk} (h : BlocksIn a b H v bs) : BlocksIn a b H' v bs := h.keep (S := fun _ => False) (Same.of_prefix hp) (fun _ _ h => h)
theorem MarkIn.pre {e a b : Nat} {H H' : Heap} (hp : H <+: H') {v : Value} {k : Int} {n : Nat} (h : MarkIn e a b H v k n) : MarkIn e a b H' v k n := h.keep (S := fun _ => False) (Same.of_prefix hp) (fun _ _ h => h)
theorem IntsIn.read {a b : Nat} {H : Heap} {v : Value} {xs : List Int} (h : IntsIn a b H v xs) : IntsAt H v xs := by obtain ⟨id, h, _⟩ := h; exact h.read
theorem BlocksIn.read {a b : Nat} {H : Heap} {v : Value} {bs : List Bk} (h : BlocksIn a b H v bs) : BlocksAt H v bs := by obtain ⟨id, h, _⟩ := h; exact OwnBlocks.read h
theorem IntsIn.one {a b : Nat} {H : Heap} {v : Value} {xs : List Int} (h : IntsIn a b H v xs) : v.oneCell' = true := h.read.one
theorem BlocksIn.one {a b : Nat} {H : Heap} {v : Value} {bs : List Bk} (h : BlocksIn a b H v bs) : v.oneCell' = true := h.read.one
theorem IntsIn.nil (a b : Nat) (H : Heap) : IntsIn a b H (lv 1 0 0 0) [] := ⟨0, ⟨rfl, .inl rfl, by simp⟩, fun h => absurd rfl h⟩
theorem BlocksIn.nil (a b : Nat) (H : Heap) : BlocksIn a b H (lv 3 0 0 0) [] := ⟨0, ⟨rfl, .inl rfl, by simp⟩, fun h => absurd rfl h⟩
theorem IntsIn.wider {a b c : Nat} {H : Heap} {v : Value} {xs : List Int} (h : IntsIn a b H v xs) (hc : c ≤ a) : IntsIn c b H v xs := by
  obtain ⟨id, h1, h2⟩ := h; exact ⟨id, h1, fun hne => ⟨Nat.le_trans hc (h2 hne).1, (h2 hne).2⟩⟩
theorem BlocksIn.wider {a b c : Nat} {H : Heap} {v : Value} {bs : List Bk} (h : BlocksIn a b H v bs) (hc : c ≤ a) : BlocksIn c b H v bs := by
  obtain ⟨id, h1, h2⟩ := h; exact ⟨id, h1, fun hne => ⟨Nat.le_trans hc (h2 hne).1, (h2 hne).2⟩⟩

theorem markInts_ok {a b : Nat} {H : Heap} {v : Value} {xs : List Int} {k : Int} (h : IntsIn a b H v xs) (hk0 : 0 ≤ k) (hk : k ≤ 1000000000) (Post : Value → Heap → Prop)
    (hP : ∀ H', Same (Span a b) H H' → MarkIn 1 a b H' v k xs.length → Post (.int .i64 (k + xs.length)) H') : ACalls Try.prog 45 [v, .int .i64 k] H Post := by
  obtain ⟨id, ⟨rfl, h1, h2⟩, h3⟩ := h
  refine markInt64S_ok h1 h2 hk0 (by omega) _ (hP _ ?_ ⟨id, rfl, ?_, h2, fun hn => h3 (by rintro rfl; simp at hn)⟩)
  · refine ⟨by unfold setInts; split <;> simp, fun j hj hS => ?_⟩
    by_cases hne : xs = []
    · subst hne; simp [setInts, upFrom]
    · exact setInts_get (fun e => hS (e ▸ h3 hne))
  · rw [Nat.mul_one]
    by_cases hne : xs = []
    · subst hne; left; simp [upFrom, ints]
    · have hb := h1.resolve_left hne
      unfold setInts
      rw [if_neg (by intro e; have := congrArg List.length e; rw [upFrom_length] at this; exact hne (List.eq_nil_of_length_eq_zero this))]
      exact Holds.at ⟨true, by rw [List.getElem?_set_self (List.getElem?_eq_some_iff.1 hb).1]⟩
theorem heldInts_ok {a b : Nat} {H : Heap} {v : Value} {n : Nat} {k : Int} (h : MarkIn 1 a b H v k n) (hk0 : 0 ≤ k) (hk : k ≤ 1000000000) (Post : Value → Heap → Prop)
    (hP : Post (.int .i64 (k + n)) H) : ACalls Try.prog 46 [v, .int .i64 k] H Post := by
  obtain ⟨id, rfl, h1, h2, h3⟩ := h
  rw [Nat.mul_one] at h1
  exact heldInt64S_ok (n := n) ⟨id, 0, by rw [upFrom_length], h1, by rw [upFrom_length]; exact h2⟩ hk0 (by omega) _ hP
theorem markBlocks_ok {a b : Nat} {H : Heap} {v : Value} {bs : List Bk} {k : Int} (h : BlocksIn a b H v bs) (hk0 : 0 ≤ k) (hk : k ≤ 1000000000) (Post : Value → Heap → Prop)
    (hP : ∀ H', Same (Span a b) H H' → MarkIn 3 a b H' v k bs.length → Post (.int .i64 (k + (bs.length * 3 : Nat))) H') : ACalls Try.prog 91 [v, .int .i64 k] H Post := by
  obtain ⟨id, ⟨rfl, h1, h2⟩, h3⟩ := h
  refine markBlockS_ok h1 h2 hk0 hk _ fun H' _ hs ha => hP H' (hs.mono fun j _ ⟨hne, e⟩ => e ▸ h3 hne) ⟨id, rfl, ha, h2, fun hn => h3 (by rintro rfl; simp at hn)⟩
theorem heldBlocks_ok {a b : Nat} {H : Heap} {v : Value} {n : Nat} {k : Int} (h : MarkIn 3 a b H v k n) (hk0 : 0 ≤ k) (hk : k ≤ 1000000000) (Post : Value → Heap → Prop)
    (hP : Post (.int .i64 (k + (n * 3 : Nat))) H) : ACalls Try.prog 108 [v, .int .i64 k] H Post := by
  obtain ⟨id, rfl, h1, h2, h3⟩ := h
  exact heldBlockS_ok h1 h2 hk0 hk _ hP
theorem markSys_ok {a b : Nat} {H : Heap} {v : Value} {p : Int} {bs : List Bk} {k : Int} (h : BlocksIn a b H v bs) (hk0 : 0 ≤ k) (hk : k ≤ 1000000000) (Post : Value → Heap → Prop)
    (hP : ∀ H', Same (Span a b) H H' → MarkIn 3 a b H' v k bs.length → Post (.int .i64 (k + (bs.length * 3 : Nat))) H') : ACalls Try.prog 27 [sysV p v, .int .i64 k] H Post := by
  obtain ⟨id, ⟨rfl, h1, h2⟩, h3⟩ := h
  refine markSystem_ok h1 h2 hk0 hk _ fun H' hs ha => hP H' (hs.mono fun j _ ⟨hne, e⟩ => e ▸ h3 hne) ⟨id, rfl, ha, h2, fun hn => h3 (by rintro rfl; simp at hn)⟩
theorem heldSys_ok {a b : Nat} {H : Heap} {v : Value} {p : Int} {n : Nat} {k : Int} (h : MarkIn 3 a b H v k n) (hk0 : 0 ≤ k) (hk : k ≤ 1000000000) (Post : Value → Heap → Prop)
    (hP : ∀ H', H <+: H' → Post (.int .i64 (k + (n * 3 : Nat))) H') : ACalls Try.prog 37 [sysV p v, .int .i64 k] H Post := by
  obtain ⟨id, rfl, h1, h2, h3⟩ := h
  exact heldSystem_ok h1 h2 hk0 hk _ hP

/-- Copies of arguments. -/
theorem toSys_ok {H : Heap} {u : Value} {p : Int} {bs : List Bk} (hu : BlocksAt H u bs) (hb : bs.length ≤ 1048576) (Post : Value → Heap → Prop) (h : ∀ H' v, H <+: H' → BlocksIn H.length H'.length H' v bs → Post (sysV p v) H') :
    ACalls Try.prog 23 [sysV p u] H Post := toSystem_ok hu Post hb fun H' v id hp hid ho => h H' v hp (OwnBlocks.inn ho hid)
theorem toInts_ok {H : Heap} {u : Value} {xs : List Int} (hu : IntsAt H u xs) (hb : xs.length ≤ 1048576) (Post : Value → Heap → Prop) (h : ∀ H' v, H <+: H' → IntsIn H.length H'.length H' v xs → Post v H') :
    ACalls Try.prog 111 [u] H Post := toInt64S_ok hu Post hb fun H' v id hp hid ho => h H' v hp (OwnInts.inn ho hid)

end Go.Proofs.Ytakkmkinfeddeaa
end

section
/- Results that are lists of lists, held alone; marks on them. -/
set_option linter.all false
set_option maxRecDepth 20000
namespace Go.Proofs.Ytakkmkinfeddeaa
open Go.Ab

def RowsIn (a b : Nat) (H : Heap) (v : Value) (xss : List (List Int)) : Prop :=
  ∃ (id : Nat) (rows : List (Nat × List Int)), v = lv 1 id 0 rows.length ∧ At H id 0 (rows.map rowVal) ∧ Rows1 H rows ∧ (∀ r ∈ rows, r.2 ≠ [] → r.1 ≠ id ∧ Span a b r.1) ∧ rows.map (·.2) = xss ∧ (rows ≠ [] → Span a b id) ∧ xss.flatten.length ≤ 140737488355328 ∧ rows.length ≤ 140737488355328
/-- Lists of numbers that were marked. -/
def MarkRows (a b : Nat) (H : Heap) (v : Value) (k : Int) (xss : List (List Int)) : Prop :=
  ∃ (id : Nat) (rows : List (Nat × List Int)), v = lv 1 id 0 rows.length ∧ At H id 0 (rows.map rowVal) ∧ (∀ r ∈ rows, At H r.1 0 (ints r.2) ∧ (r.2 ≠ [] → Span a b r.1)) ∧ rows.map (·.2) = marked k xss ∧ (rows ≠ [] → Span a b id) ∧ xss.flatten.length ≤ 140737488355328 ∧ rows.length ≤ 140737488355328

theorem flat_le {rows : List (Nat × List Int)} {r : Nat × List Int} (h : r ∈ rows) : r.2.length ≤ (rows.map (·.2)).flatten.length := by
  exact (List.sublist_flatten_of_mem (List.mem_map_of_mem (f := fun r : Nat × List Int => r.2) h)).length_le
theorem At.keepS {H H' : Heap} {S : Nat → Prop} (hs : Same S H H') {i o : Nat} {cs : List Value} (h : At H i o cs) (hi : cs ≠ [] → ¬ S i) : At H' i o cs := by
  rcases h with h0 | h
  · exact .inl h0
  · by_cases hc : cs = []
    · exact .inl hc
    · right
      obtain ⟨blk, hb, hbl, hbn, he⟩ := cellsAt_inv h
      rw [cellsAt_of (hs.get hb (hi hc)) hbl hbn, ← he]
theorem RowsIn.own {a b : Nat} {H : Heap} {v : Value} {xss : List (List Int)} (h : RowsIn a b H v xss) : ∃ rows, OwnRows H v rows ∧ rows.map (·.2) = xss ∧ ∀ r ∈ rows, r.2 ≠ [] → Span a b r.1 := by
  obtain ⟨id, rows, h1, h2, h3, h4, h5, h6, h7, h8⟩ := h
  exact ⟨rows, ⟨id, h1, h2, h3, fun r hr hn => (h4 r hr hn).1, h8, fun r hr => by have := flat_le hr; rw [h5] at this; omega⟩, h5, fun r hr hn => (h4 r hr hn).2⟩
theorem RowsIn.keep {a b : Nat} {H H' : Heap} {v : Value} {xss : List (List Int)} (h : RowsIn a b H v xss) {S : Nat → Prop} (hs : Same S H H') (hd : ∀ j, Span a b j → ¬ S j) : RowsIn a b H' v xss := by
  obtain ⟨id, rows, h1, h2, h3, h4, h5, h6, h7, h8⟩ := h
  refine ⟨id, rows, h1, At.keepS hs h2 (fun hn => hd _ (h6 (by rintro rfl; exact hn rfl))), ⟨fun r hr => ?_, h3.2⟩, h4, h5, h6, h7, h8⟩
  by_cases hn : r.2 = []
  · exact .inl hn
  · exact .inr (hs.get ((h3.1 r hr).resolve_left hn) (hd _ (h4 r hr hn).2))
theorem MarkRows.keep {a b : Nat} {H H' : Heap} {v : Value} {k : Int} {xss : List (List Int)} (h : MarkRows a b H v k xss) {S : Nat → Prop} (hs : Same S H H') (hd : ∀ j, Span a b j → ¬ S j) : MarkRows a b H' v k xss := by
  obtain ⟨id, rows, h1, h2, h3, h5, h6, h7, h8⟩ := h
  refine ⟨id, rows, h1, At.keepS hs h2 (fun hn => hd _ (h6 (by rintro rfl; exact hn rfl))), fun r hr => ⟨At.keepS hs (h3 r hr).1 (fun hn => hd _ ((h3 r hr).2 (by intro e; rw [e] at hn; exact hn rfl))), (h3 r hr).2⟩, h5, h6, h7, h8⟩
theorem RowsIn.pre {a b : Nat} {H H' : Heap} (hp : H <+: H') {v : Value} {xss : List (List Int)} (h : RowsIn a b H v xss) : RowsIn a b H' v xss := h.keep (S := fun _ => False) (Same.of_prefix hp) (fun _ _ h => h)
theorem MarkRows.pre {a b : Nat} {H H' : Heap} (hp : H <+: H') {v : Value} {k : Int} {xss : List (List Int)} (h : MarkRows a b H v k xss) : MarkRows a b H' v k xss := h.keep (S := fun _ => False) (Same.of_prefix hp) (fun _ _ h => h)
theorem RowsIn.read {a b : Nat} {H : Heap} {v : Value} {xss : List (List Int)} (h : RowsIn a b H v xss) : IntssAt H v xss := by
  obtain ⟨rows, h1, h2, _⟩ := h.own; exact h2 ▸ h1.read
theorem RowsIn.one {a b : Nat} {H : Heap} {v : Value} {xss : List (List Int)} (h : RowsIn a b H v xss) : v.oneCell' = true := by
  obtain ⟨id, rows, rfl, _⟩ := h; rfl
theorem RowsIn.nil (a b : Nat) (H : Heap) : RowsIn a b H (lv 1 0 0 0) [] := ⟨0, [], rfl, .inl rfl, ⟨by simp, by simp⟩, by simp, rfl, fun h => absurd rfl h, by simp, by simp⟩
theorem RowsIn.wider {a b c : Nat} {H : Heap} {v : Value} {xss : List (List Int)} (h : RowsIn a b H v xss) (hc : c ≤ a) : RowsIn c b H v xss := by
  obtain ⟨id, rows, h1, h2, h3, h4, h5, h6, h7, h8⟩ := h
  exact ⟨id, rows, h1, h2, h3, fun r hr hn => ⟨(h4 r hr hn).1, Nat.le_trans hc (h4 r hr hn).2.1, (h4 r hr hn).2.2⟩, h5, fun hn => ⟨Nat.le_trans hc (h6 hn).1, (h6 hn).2⟩, h7, h8⟩
theorem MarkRows.one {a b : Nat} {H : Heap} {v : Value} {k : Int} {xss : List (List Int)} (h : MarkRows a b H v k xss) : v.oneCell' = true := by
  obtain ⟨id, rows, rfl, _⟩ := h; rfl
theorem MarkRows.read {a b : Nat} {H : Heap} {v : Value} {k : Int} {xss : List (List Int)} (h : MarkRows a b H v k xss) : IntssAt H v (marked k xss) := by
  obtain ⟨id, rows, rfl, h2, h3, h5, h6, h7, h8⟩ := h
  have hl : rows.length = (marked k xss).length := by rw [← h5, List.length_map]
  refine ⟨id, 0, rows.map rowVal, by rw [hl], by simp [hl], h2, ?_, by omega⟩
  intro j u ys hu hx
  rw [← h5] at hx
  simp only [List.getElem?_map, Option.map_eq_some_iff] at hu hx
  obtain ⟨r, hr, rfl⟩ := hu
  obtain ⟨r', hr', rfl⟩ := hx
  rw [hr] at hr'; cases hr'
  have hm := List.mem_of_getElem? hr
  refine ⟨r.1, 0, rfl, (h3 r hm).1, ?_⟩
  have := flat_le hm
  rw [h5, marked_total] at this; omega

/-- What a call has built. -/
theorem _root_.Go.Ab.Build.inn {H H' : Heap} {oid : Nat} {rows : List (Nat × List Int)} (h : Build H H' oid rows) (hl : (rows.map (·.2)).flatten.length ≤ 140737488355328) (hl' : rows.length ≤ 140737488355328) : RowsIn H.length H'.length H' (lv 1 oid 0 rows.length) (rows.map (·.2)) :=
  ⟨oid, rows, rfl, h.ol.at, h.rows1, fun r hr _ => ⟨(h.ids r hr).2.2, (h.ids r hr).1, (h.ids r hr).2.1⟩, rfl, fun _ => ⟨h.ge, h.ol.lt⟩, hl, hl'⟩

theorem lv_inj {e i j o q n : Nat} (h : lv e i o n = lv e j q n) : i = j ∧ o = q := by
  cases h; exact ⟨rfl, rfl⟩

theorem markIntss_ok {a b T : Nat} {H : Heap} {v : Value} {xss : List (List Int)} {k : Int} (h : RowsIn a b H v xss) (hT : T = xss.flatten.length) (hk0 : 0 ≤ k) (hk : k ≤ 1000000000) (Post : Value → Heap → Prop)
    (hP : ∀ H', Same (Span a b) H H' → MarkRows a b H' v k xss → Post (.int .i64 (k + T)) H') : ACalls Try.prog 28 [v, .int .i64 k] H Post := by
  subst hT
  obtain ⟨id, rows, rfl, h2, h3, h4, h5, h6, h7, h8⟩ := h
  have hown : OwnRows H (lv 1 id 0 rows.length) rows := ⟨id, rfl, h2, h3, fun r hr hn => (h4 r hr hn).1, h8, fun r hr => by have := flat_le hr; rw [h5] at this; omega⟩
  refine markInt64SS_ok hown hk0 (by rw [h5]; omega) _ ?_
  intro H' hl hs hm
  rw [h5] at hm ⊢
  have h2' : At H' id 0 (rows.map rowVal) := At.keepS hs h2 (fun _ => by rintro ⟨r, hr, hn, e⟩; exact (h4 r hr hn).1 e)
  refine hP H' (hs.mono fun j _ ⟨r, hr, hn, e⟩ => e ▸ (h4 r hr hn).2) ?_
  obtain ⟨i, o, vs, e1, e2, e3, e4, e5⟩ := hm
  have hml : (marked k xss).length = rows.length := by rw [marked_length, ← h5, List.length_map]
  rw [hml] at e1 e2 e5
  obtain ⟨rfl, rfl⟩ := lv_inj e1
  have hvs : vs = rows.map rowVal := by
    rcases h2' with hz | h2'
    · rw [hz]; have : rows.length = 0 := by simpa using congrArg List.length hz
      exact List.eq_nil_of_length_eq_zero (by omega)
    · rcases e3 with hz | e3
      · rw [hz] at e2 ⊢
        have : rows = [] := List.eq_nil_of_length_eq_zero (by simpa using e2.symm)
        rw [this]; rfl
      · rw [e2] at e3; rw [List.length_map] at h2'; rw [e3] at h2'; exact Option.some.inj h2'
  subst hvs
  have hrow : ∀ j, j < rows.length → ∃ r ys, rows[j]? = some r ∧ (marked k xss)[j]? = some ys ∧ ys.length = r.2.length := by
    intro j hj
    have hr : rows[j]? = some rows[j] := List.getElem?_eq_getElem hj
    have hx : xss[j]? = some rows[j].2 := by rw [← h5, List.getElem?_map, hr]; rfl
    refine ⟨rows[j], upFrom (k + (off xss j : Int)) rows[j].2.length, hr, by rw [marked_get, hx]; rfl, by rw [upFrom_length]⟩
  refine ⟨id, (List.range rows.length).map (fun j => ((rows.getD j (0, [])).1, (marked k xss).getD j [])), by simp, ?_, ?_, ?_, ?_, h7, by simpa using h8⟩
  · have e : ((List.range rows.length).map (fun j => ((rows.getD j (0, [])).1, (marked k xss).getD j []))).map rowVal = rows.map rowVal := by
      apply List.ext_getElem?
      intro j
      by_cases hj : j < rows.length
      · obtain ⟨r, ys, hr, hy, hyl⟩ := hrow j hj
        simp [List.getElem?_map, List.getElem?_range hj, hr, hy, rowVal, hyl, List.getD_eq_getElem?_getD]
      · rw [List.getElem?_eq_none (by simp; omega), List.getElem?_eq_none (by simp; omega)]
    rw [e]; exact h2'
  · intro r hr
    obtain ⟨j, hj, rfl⟩ := List.mem_map.1 hr
    rw [List.mem_range] at hj
    obtain ⟨r, ys, hr', hy, hyl⟩ := hrow j hj
    have hat := e4 j (rowVal r) ys (by rw [List.getElem?_map, hr']; rfl) hy
    obtain ⟨i', o', f1, f2, f3⟩ := hat
    rw [hyl] at f1
    obtain ⟨rfl, rfl⟩ := lv_inj (show lv 1 r.1 0 r.2.length = _ from f1)
    simp only [List.getD_eq_getElem?_getD, hr', hy, Option.getD_some]
    exact ⟨f2, fun hn => (h4 r (List.mem_of_getElem? hr') (by intro e; rw [e] at hyl; exact hn (List.eq_nil_of_length_eq_zero hyl))).2⟩
  · apply List.ext_getElem?
    intro j
    by_cases hj : j < rows.length
    · obtain ⟨r, ys, hr, hy, hyl⟩ := hrow j hj
      simp [List.getElem?_map, List.getElem?_range hj, hy, List.getD_eq_getElem?_getD]
    · rw [List.getElem?_eq_none (by simp; omega), List.getElem?_eq_none (by omega)]
  · intro hn
    exact h6 (by rintro rfl; exact hn rfl)

theorem heldIntss_ok {a b T : Nat} {H : Heap} {v : Value} {xss : List (List Int)} {k : Int} (h : MarkRows a b H v k xss) (hT : T = xss.flatten.length) (hk0 : 0 ≤ k) (hk : k ≤ 1000000000) (Post : Value → Heap → Prop)
    (hP : Post (.int .i64 (k + T)) H) : ACalls Try.prog 29 [v, .int .i64 k] H Post := by
  subst hT
  have h7 : xss.flatten.length ≤ 140737488355328 := by obtain ⟨_, _, _, _, _, _, _, h7, _⟩ := h; exact h7
  exact heldInt64SS_ok h.read hk0 (by omega) _ hP

end Go.Proofs.Ytakkmkinfeddeaa
end

section
/- Lists of lists that are built by literals; heaps of which less is said. No statement of the seat is proved here; it holds for every program. -/
set_option linter.all false
namespace Go.Ab

def upH (H H' : Heap) : Prop := ∀ B w0 ρ w, R B w0 ρ H w → R B w0 ρ H' w
theorem upH.refl (H : Heap) : upH H H := fun _ _ _ _ h => h
theorem upH.cells {H : Heap} {id : Nat} {cs cs' : List Value} {li ow : Bool} (hb : H[id]? = some ⟨cs, li, ow⟩) (hl : cs'.length = cs.length)
    (hu : ∀ (k : Nat) (v v' : Value), cs[k]? = some v → cs'[k]? = some v' → Up H v v') : upH H (H.set id ⟨cs', li, ow⟩) := by
  intro B w0 ρ w hR
  have hlt := (List.getElem?_eq_some_iff.1 hb).1
  have key : ∀ (i : Nat) (b : Blk), (H.set id ⟨cs', li, ow⟩)[i]? = some b → (i = id ∧ b = ⟨cs', li, ow⟩) ∨ (i ≠ id ∧ H[i]? = some b) := by
    intro i b h
    by_cases e : i = id
    · subst e; rw [List.getElem?_set_self hlt] at h; exact .inl ⟨rfl, (Option.some.inj h).symm⟩
    · rw [List.getElem?_set_ne (fun h => e h.symm)] at h; exact .inr ⟨e, h⟩
  -- the block that stood there
  have old : ∀ (i : Nat) (b : Blk), (H.set id ⟨cs', li, ow⟩)[i]? = some b → ∃ b', H[i]? = some b' ∧ b'.live = b.live ∧ b'.own = b.own := by
    intro i b h
    rcases key i b h with ⟨rfl, rfl⟩ | ⟨_, h⟩
    · exact ⟨_, hb, rfl, rfl⟩
    · exact ⟨b, h, rfl, rfl⟩
  refine ⟨by rw [List.length_set]; exact hR.len, hR.below, hR.base, ?_, ?_, ?_⟩
  · intro i b l h hl' hlive
    rcases key i b h with ⟨rfl, rfl⟩ | ⟨_, h⟩
    · obtain ⟨arr, elem, fz, h1, h2, h3, h4⟩ := hR.blk i _ l hb hl' hlive
      refine ⟨arr, elem, fz, h1, h2, ?_, h4⟩
      intro k v hk
      have hk' : k < cs.length := by have := (List.getElem?_eq_some_iff.1 hk).1; simp only at this; omega
      obtain ⟨h5, cv, h6, h7⟩ := h3 k cs[k] (List.getElem?_eq_getElem hk')
      have h8 := hu k _ v (List.getElem?_eq_getElem hk') hk _ _ _ _ _ hR h7
      exact ⟨by rw [h8.oneCell, ← h7.oneCell]; exact h5, cv, h6, h8⟩
    · exact hR.blk i b l h hl' hlive
  · intro i j b c l m hij h1 h2 h3 h4 h5 h6 h7
    obtain ⟨b', e1, e2, e3⟩ := old i b h1
    obtain ⟨c', f1, f2, f3⟩ := old j c h2
    exact hR.apart i j b' c' l m hij e1 f1 h3 h4 (by rw [e2]; exact h5) (by rw [f2]; exact h6) (by rw [e3]; exact h7)
  · intro i b l h1 h2 h3 h4
    obtain ⟨b', e1, e2, e3⟩ := old i b h1
    exact hR.ghost i b' l e1 h2 (by rw [e2]; exact h3) (by rw [e3]; exact h4)

/-- The result and the memory may be said less of. -/
theorem ACalls.resH {P : Program} {f : FuncId} {args : List Value} {H : Heap} {Post : Value → Heap → Prop} (h : ACalls P f args H fun v H' => ∃ v' H2, Up H' v v' ∧ upH H' H2 ∧ Post v' H2) : ACalls P f args H Post :=
  ⟨h.1, fun B w0 ρ w cargs hR hv => (h.2 B w0 ρ w cargs hR hv).mono fun e w' hp => by
    obtain ⟨ρ', H', v, cv, h1, h2, h3, h4, v', H2, h5, h6, h7⟩ := hp
    exact ⟨ρ', H2, v', cv, h1, h2, h6 _ _ _ _ h3, h5 _ _ _ _ _ h3 h4, h7⟩⟩

def rowX (r : Nat × List Int) : Value := .slice (some ⟨r.1, 0, none⟩) r.2.length r.2.length

/-- A list of lists while it is built. -/
structure BuildX (H0 H : Heap) (oid : Nat) (rows : List (Nat × List Int)) : Prop where
  pre : H0 <+: H
  ol : OL 1 H oid (rows.map rowX) rows.length
  ge : H0.length ≤ oid
  rows1 : Rows1 H rows
  ids : ∀ r ∈ rows, H0.length ≤ r.1 ∧ r.1 < H.length ∧ r.1 ≠ oid

theorem BuildX.start (H : Heap) : BuildX H (H ++ [⟨[], false, false⟩]) H.length [] :=
  ⟨List.prefix_append _ _, OL.ghost 1 H, Nat.le_refl _, ⟨by simp, by simp⟩, by simp⟩

theorem BuildX.of_ol {H0 H : Heap} {oid : Nat} (hp : H0 <+: H) (h : OL 1 H oid [] 0) (hg : H0.length ≤ oid) : BuildX H0 H oid [] :=
  ⟨hp, h, hg, ⟨by simp, by simp⟩, by simp⟩

theorem BuildX.push {H0 H1 H2 : Heap} {oid rid : Nat} {rows : List (Nat × List Int)} {xs : List Int} (h : BuildX H0 H1 oid rows) (hp : H1 <+: H2) (hr : OL 1 H2 rid (ints xs) xs.length) (hrid : H1.length ≤ rid) :
    cellsAt (H2 ++ [⟨[(.slice (some ⟨rid, 0, none⟩) xs.length xs.length)], true, true⟩]) H2.length 0 1 = some [(.slice (some ⟨rid, 0, none⟩) xs.length xs.length)] ∧
    ∃ H4, appendH (H2 ++ [⟨[(.slice (some ⟨rid, 0, none⟩) xs.length xs.length)], true, true⟩]) 1 (lv 1 oid 0 rows.length) 1 [(.slice (some ⟨rid, 0, none⟩) xs.length xs.length)] = some (lv 1 (H2.length + 1) 0 (rows.length + 1), H4) ∧ BuildX H0 H4 (H2.length + 1) (rows ++ [(rid, xs)]) := by
  have hol' : OL 1 H2 oid (rows.map rowX) rows.length := h.ol.keep (S := fun _ => False) (Same.of_prefix hp) (fun h => h)
  obtain ⟨hsrc, H4, hap, hol4, hsame4, hlen4⟩ := hol'.push (xs := [(.slice (some ⟨rid, 0, none⟩) xs.length xs.length)]) (by omega) rfl
  have hoid := h.ol.lt
  have hle := hp.length_le
  have hle0 := h.pre.length_le
  have hlt := hr.lt
  refine ⟨hsrc, H4, hap, ⟨(show Same (fun j => j = oid) H0 H4 from (Same.of_prefix (h.pre.trans hp)).trans hsame4).prefix (by have := h.ge; omega), by simpa [rowX] using hol4, by omega, ⟨?_, ?_⟩, ?_⟩⟩
  · intro r hm
    rcases List.mem_append.1 hm with hm | hm
    · refine (h.rows1.1 r hm).imp (fun h => h) fun hb => ?_
      exact hsame4.get (Same.get (S := fun _ => False) (Same.of_prefix hp) hb (fun h => h)) (h.ids r hm).2.2
    · simp at hm; subst hm
      rcases hr.2 with ⟨h0, _⟩ | h0
      · exact .inl (List.eq_nil_of_length_eq_zero h0)
      · right
        exact hsame4.get h0 (by simp only; omega)
  · intro a b r t ha hb hab hrn htn
    have key : ∀ (a : Nat) (r : Nat × List Int), (rows ++ [(rid, xs)])[a]? = some r → (a < rows.length ∧ rows[a]? = some r) ∨ (a = rows.length ∧ r = (rid, xs)) := by
      intro a r ha
      rcases Nat.lt_or_ge a rows.length with h | h
      · rw [List.getElem?_append_left h] at ha; exact .inl ⟨h, ha⟩
      · rw [List.getElem?_append_right h] at ha
        cases hk : a - rows.length with
        | zero => rw [hk] at ha; simp at ha; exact .inr ⟨by omega, ha.symm⟩
        | succ k => rw [hk] at ha; simp at ha
    rcases key a r ha with ⟨h1, h1'⟩ | ⟨h1, rfl⟩
    · rcases key b t hb with ⟨h2, h2'⟩ | ⟨h2, rfl⟩
      · exact h.rows1.2 a b r t h1' h2' hab hrn htn
      · have := (h.ids r (List.mem_of_getElem? h1')).2.1; simp only; omega
    · rcases key b t hb with ⟨h2, h2'⟩ | ⟨h2, rfl⟩
      · have := (h.ids t (List.mem_of_getElem? h2')).2.1; simp only; omega
      · omega
  · intro r hm
    rcases List.mem_append.1 hm with hm | hm
    · have := h.ids r hm
      omega
    · simp at hm; subst hm; simp only; omega


theorem BuildX.pushRow {H0 H1 : Heap} {oid : Nat} {rows : List (Nat × List Int)} {xs : List Int} (h : BuildX H0 H1 oid rows) :
    cellsAt (H1 ++ [⟨ints xs, true, true⟩, ⟨[.slice (some ⟨H1.length, 0, none⟩) xs.length xs.length], true, true⟩]) (H1.length + 1) 0 1 = some [.slice (some ⟨H1.length, 0, none⟩) xs.length xs.length] ∧
    ∃ H4, appendH (H1 ++ [⟨ints xs, true, true⟩, ⟨[.slice (some ⟨H1.length, 0, none⟩) xs.length xs.length], true, true⟩]) 1 (lv 1 oid 0 rows.length) 1 [.slice (some ⟨H1.length, 0, none⟩) xs.length xs.length] = some (lv 1 (H1.length + 2) 0 (rows.length + 1), H4) ∧ BuildX H0 H4 (H1.length + 2) (rows ++ [(H1.length, xs)]) := by
  have := h.push (H2 := H1 ++ [⟨ints xs, true, true⟩]) (rid := H1.length) (xs := xs) (List.prefix_append _ _) ⟨by simp [ints], .inr (by simp)⟩ (Nat.le_refl _)
  simpa using this
theorem BuildX.keep {H0 H H' : Heap} {oid : Nat} {rows : List (Nat × List Int)} (h : BuildX H0 H oid rows) (hp : H <+: H') : BuildX H0 H' oid rows :=
  ⟨h.pre.trans hp, h.ol.keep (S := fun _ => False) (Same.of_prefix hp) (fun h => h), h.ge, ⟨fun r hr => (h.rows1.1 r hr).imp (fun h => h) fun hb => Same.get (S := fun _ => False) (Same.of_prefix hp) hb (fun h => h), h.rows1.2⟩,
    fun r hr => ⟨(h.ids r hr).1, Nat.lt_of_lt_of_le (h.ids r hr).2.1 hp.length_le, (h.ids r hr).2.2⟩⟩
/-- The list built, its rows as slices of unknown room. -/
theorem BuildX.fin {H0 H : Heap} {oid : Nat} {rows : List (Nat × List Int)} (h : BuildX H0 H oid rows) : ∃ H2, upH H H2 ∧ Build H0 H2 oid rows := by
  obtain ⟨hl, h0 | hb⟩ := h.ol
  · have : rows = [] := List.eq_nil_of_length_eq_zero h0.1
    subst this
    exact ⟨H, upH.refl H, Build.of_ol h.pre ⟨rfl, .inl ⟨rfl, h0.2⟩⟩ h.ge⟩
  · have hlt := (List.getElem?_eq_some_iff.1 hb).1
    refine ⟨H.set oid ⟨rows.map rowVal, true, true⟩, upH.cells hb (by simp) ?_, ?_, ⟨by simp, .inr (List.getElem?_set_self hlt)⟩, h.ge, ⟨?_, h.rows1.2⟩, ?_⟩
    · intro k v v' hv hv'
      simp only [List.getElem?_map, Option.map_eq_some_iff] at hv hv'
      obtain ⟨r, hr, rfl⟩ := hv
      obtain ⟨r', hr', rfl⟩ := hv'
      rw [hr] at hr'; cases hr'
      refine Up.ex (by omega) ?_
      rcases h.rows1.1 r (List.mem_of_getElem? hr) with e | e
      · left; rw [e]; rfl
      · right
        rw [cellsAt_of e rfl (by simp [ints])]; rfl
    · have hs : Same (fun j => j = oid) H (H.set oid ⟨rows.map rowVal, true, true⟩) := ⟨by simp, fun j hj hS => List.getElem?_set_ne (fun e => hS e.symm)⟩
      exact ((Same.of_prefix h.pre).trans hs).prefix (by intro j hj e; have := h.ge; omega)
    · intro r hr
      refine (h.rows1.1 r hr).imp (fun h => h) fun hb' => ?_
      rw [List.getElem?_set_ne (fun e => (h.ids r hr).2.2 e.symm)]; exact hb'
    · intro r hr
      have := h.ids r hr
      rw [List.length_set]; exact this

end Go.Ab
end

section
/- Common blocks: both sides. -/
set_option linter.all false
set_option maxRecDepth 20000
namespace Go.Proofs.Ytakkmkinfeddeaa
open Go.Ab

theorem infoInt : (Try.prog.info? 2).map (·.size) = some 1 := by kernel_rfl
theorem intsOf3 (a b c : Int) : intsOf .i64 [.int .i64 a, .int .i64 b, .int .i64 c] = some [a, b, c] := by simp [intsOf]
attribute [go_sem] infoInt intsOf3

theorem Bk.eq3 (b d : Bk) : b = d ↔ b.a = d.a ∧ b.b = d.b ∧ b.c = d.c := by
  obtain ⟨b1, b2, b3⟩ := b; obtain ⟨d1, d2, d3⟩ := d; simp

/-- Membership, as a Boolean. -/
def memB (bs : List Bk) (b : Bk) : Bool := decide (b ∈ bs)

theorem l01Has_ok {H : Heap} {u : Value} {p : Int} {bs : List Bk} {b : Bk} (hu : BlocksAt H u bs) (Post : Value → Heap → Prop) (h : ∀ H', H <+: H' → Post (.bool (memB bs b)) H') :
    ACalls Try.prog 180 [sysV p u, b.val] H Post := by
  obtain ⟨i, o, rfl, h1, h2⟩ := hu
  refine acalls_vc (rs := [.tmp 4]) Try.func180 rfl rfl Try.ntmps180 rfl rfl ?_
  simp (maxSteps := 1000000) [go_sem, sysV, Bk.val]
  have hp0 : H <+: H ++ [⟨[.int .i64 p, lv 3 i o bs.length], true, true⟩, ⟨[.int .i64 b.a, .int .i64 b.b, .int .i64 b.c], true, true⟩] := List.prefix_append _ _
  have hx0 : Holds (H ++ [⟨[.int .i64 p, lv 3 i o bs.length], true, true⟩, ⟨[.int .i64 b.a, .int .i64 b.b, .int .i64 b.c], true, true⟩]) H.length [.int .i64 p, lv 3 i o bs.length] := ⟨true, by simp⟩
  have hx1 : Holds (H ++ [⟨[.int .i64 p, lv 3 i o bs.length], true, true⟩, ⟨[.int .i64 b.a, .int .i64 b.b, .int .i64 b.c], true, true⟩]) (H.length + 1) [.int .i64 b.a, .int .i64 b.b, .int .i64 b.c] := ⟨true, by simp⟩
  generalize H ++ [(⟨[.int .i64 p, lv 3 i o bs.length], true, true⟩ : Blk), ⟨[.int .i64 b.a, .int .i64 b.b, .int .i64 b.c], true, true⟩] = H0 at hp0 hx0 hx1 ⊢
  obtain ⟨d0, d1, d2⟩ := hx0.sys
  obtain ⟨e0, e1, e2, e3⟩ := hx1.bk
  refine AWp.loopVc (fun s : Nat => [(2, .pointer (some ⟨H.length, 0, none⟩)), (3, .pointer (some ⟨H.length + 1, 0, none⟩)), (5, .int .i64 s)])
    (fun s H' => s ≤ bs.length ∧ H' = H0 ∧ b ∉ bs.take s) (fun s => bs.length - s) 0 ?_ ?_ ?_
  · simp [upF, Fr.get, Up.refl]
  · exact ⟨by omega, rfl, by simp⟩
  · rintro K s H' ⟨hs, rfl, hf⟩ hK
    by_cases hlt : s < bs.length
    · have hbs : bs[s]? = some bs[s] := List.getElem?_eq_getElem hlt
      have c1 := (h1.pre hp0).bk hbs
      simp only [Bk.cells] at c1
      have hw_s : IntKind.i64.wrap ((s : Int) + 1) = (s : Int) + 1 := i64w (by omega) (by omega)
      simp (maxSteps := 1000000) [go_sem, hlt, d2]
      refine AWp.draw mixed [(0, false), (1, false), (2, false), (3, false), (4, false), (5, false), (6, false)] (by kernel_rfl) ?_
      by_cases he : bs[s] = b
      · have he' := (Bk.eq3 _ _).1 he
        simp (maxSteps := 1000000) [go_sem, hlt, d2, c1, e0, he'.1, he'.2.1, he'.2.2]
        have : memB bs b = true := by simp [memB, ← he]
        simpa [this] using h H' hp0
      · have he' : ¬ (bs[s].a = b.a ∧ bs[s].b = b.b ∧ bs[s].c = b.c) := fun hh => he ((Bk.eq3 _ _).2 hh)
        simp (maxSteps := 1000000) [go_sem, hlt, d2, c1, e0, hw_s]
        have he2 : decide (bs[s].a = b.a ∧ bs[s].b = b.b ∧ bs[s].c = b.c) = false := by simpa using he'
        try rw [he2]
        try simp only [condK_false]
        refine condK_intro (fun hh => absurd (by simpa using hh) he') (fun _ => ?_)
        refine hK (s + 1) _ _ (by omega) (by simp [upF, Fr.get, Up.refl]) ⟨by omega, rfl, ?_⟩
        rw [List.take_succ_eq_append_getElem hlt, List.mem_append]
        rintro (hh | hh)
        · exact hf hh
        · simp at hh; exact he hh.symm
    · have : s = bs.length := by omega
      subst this
      rw [List.take_length] at hf
      simp (maxSteps := 1000000) [go_sem, d2]
      have : memB bs b = false := by simp [memB, hf]
      simpa [this] using h H' hp0

/-- Where a thing stands first in a list, or -1. -/
def IdxIs {α : Type} (xs : List α) (x : α) (n : Int) : Prop := (n = -1 ∧ x ∉ xs) ∨ ∃ s : Nat, n = s ∧ xs[s]? = some x ∧ x ∉ xs.take s

theorem IdxIs.pos {α : Type} {xs : List α} {x : α} {n : Int} (h : IdxIs xs x n) : 0 ≤ n ↔ x ∈ xs := by
  rcases h with ⟨rfl, h⟩ | ⟨s, rfl, h, _⟩
  · constructor
    · intro hh; omega
    · intro hh; exact absurd hh h
  · exact ⟨fun _ => List.mem_of_getElem? h, fun _ => by omega⟩

theorem slicesIndexB_ok {H : Heap} {u : Value} {bs : List Bk} {b : Bk} (hu : BlocksAt H u bs) (Post : Value → Heap → Prop) (h : ∀ H' n, H <+: H' → IdxIs bs b n → Post (.int .i64 n) H') :
    ACalls Try.prog 203 [u, b.val] H Post := by
  obtain ⟨i, o, rfl, h1, h2⟩ := hu
  refine acalls_vc (rs := [.tmp 4]) Try.func203 rfl rfl Try.ntmps203 rfl rfl ?_
  simp (maxSteps := 1000000) [go_sem, Bk.val]
  have hp0 : H <+: H ++ [⟨[.int .i64 b.a, .int .i64 b.b, .int .i64 b.c], true, true⟩] := List.prefix_append _ _
  have hx0 := Holds.last H [.int .i64 b.a, .int .i64 b.b, .int .i64 b.c]
  generalize H ++ [(⟨[.int .i64 b.a, .int .i64 b.b, .int .i64 b.c], true, true⟩ : Blk)] = H0 at hp0 hx0 ⊢
  obtain ⟨e0, e1, e2, e3⟩ := hx0.bk
  refine AWp.loopVc (fun s : Nat => [(0, lv 3 i o bs.length), (3, .pointer (some ⟨H.length, 0, none⟩)), (7, .int .i64 bs.length), (8, .int .i64 s)])
    (fun s H' => s ≤ bs.length ∧ H' = H0 ∧ b ∉ bs.take s) (fun s => bs.length - s) 0 ?_ ?_ ?_
  · simp [upF, Fr.get, Up.refl]
  · exact ⟨by omega, rfl, by simp⟩
  · rintro K s H' ⟨hs, rfl, hf⟩ hK
    by_cases hlt : s < bs.length
    · have hbs : bs[s]? = some bs[s] := List.getElem?_eq_getElem hlt
      have c1 := (h1.pre hp0).bk hbs
      simp only [Bk.cells] at c1
      have hw_s : IntKind.i64.wrap ((s : Int) + 1) = (s : Int) + 1 := i64w (by omega) (by omega)
      simp (maxSteps := 1000000) [go_sem, hlt]
      refine AWp.draw mixed [(0, false), (1, false), (2, false), (3, false), (4, false), (5, false)] (by kernel_rfl) ?_
      simp (maxSteps := 1000000) [go_sem, hlt, c1, e0, hw_s]
      refine condK_intro (fun hh => ?_) (fun hh => ?_)
      · have he : b = bs[s] := (Bk.eq3 _ _).2 (by simpa using hh)
        exact h H' s hp0 (.inr ⟨s, rfl, by rw [hbs, ← he], hf⟩)
      · have he : b ≠ bs[s] := fun e => by have := (Bk.eq3 _ _).1 e; simp [this.1, this.2.1, this.2.2] at hh
        refine hK (s + 1) _ _ (by omega) (by simp [upF, Fr.get, Up.refl]) ⟨by omega, rfl, ?_⟩
        rw [List.take_succ_eq_append_getElem hlt, List.mem_append]
        rintro (hh | hh)
        · exact hf hh
        · simp at hh; exact he hh
    · have : s = bs.length := by omega
      subst this
      rw [List.take_length] at hf
      simp (maxSteps := 1000000) [go_sem]
      exact h H' (-1) hp0 (.inl ⟨rfl, hf⟩)

theorem slicesContainsB_ok {H : Heap} {u : Value} {bs : List Bk} {b : Bk} (hu : BlocksAt H u bs) (Post : Value → Heap → Prop) (h : ∀ H', H <+: H' → Post (.bool (memB bs b)) H') :
    ACalls Try.prog 174 [u, b.val] H Post := by
  refine acalls_vc (rs := [.tmp 4]) Try.func174 rfl rfl Try.ntmps174 rfl rfl ?_
  simp (maxSteps := 1000000) [go_sem, Bk.val]
  have hp0 : H <+: H ++ [⟨[.int .i64 b.a, .int .i64 b.b, .int .i64 b.c], true, true⟩] := List.prefix_append _ _
  refine slicesIndexB_ok (b := b) (hu.pre hp0) _ ?_
  intro H' n hp hn
  have e : decide (0 ≤ n) = memB bs b := by simp only [memB, hn.pos]
  simp (maxSteps := 1000000) [go_sem, e]
  exact h H' (hp0.trans hp)

noncomputable def rCommon (p : Int) (xs : List Bk) (q : Int) (ys : List Bk) : List Bk × Int :=
  if sysB p xs && sysB q ys then (if p = q then (xs.filter (memB ys), 0) else ([], 2)) else ([], 1)

theorem implCommon_ok {H : Heap} {u v : Value} {xs ys : List Bk} (hu : BlocksAt H u xs) (hv : BlocksAt H v ys) (hl : xs.length ≤ 1048576) (Post : Value → Heap → Prop)
    (h : ∀ H' w, H <+: H' → BlocksIn H.length H'.length H' w (xs.filter (memB ys)) → Post w H') :
    ACalls Try.prog 125 [u, v] H Post := by
  obtain ⟨i, o, rfl, h1, h2⟩ := hu
  refine ACalls.res ?_
  refine acalls_vc (rs := [.tmp 4]) Try.func125 rfl rfl Try.ntmps125 rfl rfl ?_
  simp (maxSteps := 1000000) [go_sem]
  refine AWp.addGhost ?_
  have hb0 := Bl.ghost 3 H
  generalize H ++ [(⟨[], false, false⟩ : Blk)] = H0 at hb0 ⊢
  refine AWp.loopVc (St := Nat × Nat) (fun s => [(1, v), (5, lv 3 s.2 0 ((xs.take s.1).filter (memB ys)).length), (8, lv 3 i o xs.length), (9, .int .i64 xs.length), (10, .int .i64 s.1)])
    (fun s H' => s.1 ≤ xs.length ∧ Bl 3 H H' s.2 (tri ((xs.take s.1).filter (memB ys))) ((xs.take s.1).filter (memB ys)).length) (fun s => xs.length - s.1) (0, H.length) ?_ ?_ ?_
  · simp [upF, Fr.get, Up.refl, Up.nil]
  · exact ⟨by simp, by simpa [tri] using hb0⟩
  · rintro K ⟨s, id⟩ H' ⟨hs, hbl⟩ hK
    simp only at hs hbl
    by_cases hlt : s < xs.length
    · have hbs : xs[s]? = some xs[s] := List.getElem?_eq_getElem hlt
      have c1 := (h1.pre hbl.1).bk hbs
      simp only [Bk.cells] at c1
      have hw_s : IntKind.i64.wrap ((s : Int) + 1) = (s : Int) + 1 := i64w (by omega) (by omega)
      have hle : ((xs.take s).filter (memB ys)).length ≤ s := Nat.le_trans (List.length_filter_le _ _) (by simp; omega)
      simp (maxSteps := 1000000) [go_sem, hlt, c1]
      have hpb : H' <+: H' ++ [⟨[.int .i64 xs[s].a, .int .i64 xs[s].b, .int .i64 xs[s].c], true, true⟩] := List.prefix_append _ _
      have hx0 := Holds.last H' [.int .i64 xs[s].a, .int .i64 xs[s].b, .int .i64 xs[s].c]
      refine slicesContainsB_ok (b := xs[s]) (hv.pre (hbl.1.trans hpb)) _ ?_
      intro H2 hp2
      obtain ⟨e0, _⟩ := (hx0.pre hp2).bk
      have hbl2 := (hbl.pre hpb).pre hp2
      cases hm : memB ys xs[s] with
      | false =>
        have hsn : (xs.take (s + 1)).filter (memB ys) = (xs.take s).filter (memB ys) := by rw [List.take_succ_eq_append_getElem hlt, List.filter_append]; simp [hm]
        simp (maxSteps := 1000000) [go_sem, hw_s]
        exact hK (s + 1, id) _ _ (by simp only; omega) (by simp [upF, Fr.get, Up.refl, hsn]) ⟨by simp only; omega, by simp only [hsn]; exact hbl2⟩
      | true =>
        have hsn : (xs.take (s + 1)).filter (memB ys) = (xs.take s).filter (memB ys) ++ [xs[s]] := by rw [List.take_succ_eq_append_getElem hlt, List.filter_append]; simp [hm]
        obtain ⟨hsrc, H3, hap, hbl3⟩ := hbl2.push (xs := xs[s].cells) (by omega) rfl
        simp only [Bk.cells] at hsrc hap hbl3
        simp (maxSteps := 1000000) [go_sem, hw_s, e0, hsrc, hap]
        refine andK_intro (by omega) (hK (s + 1, H2.length + 1) _ _ (by simp only; omega) (by simp [upF, Fr.get, Up.refl, hsn]) ⟨by simp only; omega, ?_⟩)
        simp only [hsn, List.length_append, List.length_singleton, tri_append, tri_one, Bk.cells]
        exact hbl3
    · have : s = xs.length := by omega
      subst this
      rw [List.take_length] at hbl
      simp (maxSteps := 1000000) [go_sem]
      have hle : (xs.filter (memB ys)).length ≤ xs.length := List.length_filter_le _ _
      exact ⟨_, Up.refl _ _, h H' _ hbl.1 (OwnBlocks.inn (OwnBlocks.of_ol hbl.2.1 (by omega)) hbl.2.2)⟩

end Go.Proofs.Ytakkmkinfeddeaa
end

section
/- Free blocks: both sides. -/
set_option linter.all false
set_option maxRecDepth 20000
namespace Go.Proofs.Ytakkmkinfeddeaa
open Go.Ab

/-- A function value that tells of blocks, with what it bears. -/
def TellsB (g : FuncId) (fs bs : List Value) (Q : Bk → Prop) (P : Bk → Bool) (H : Heap) : Prop :=
  ∀ (H' : Heap) (b : Bk) (Post : Value → Heap → Prop), H <+: H' → Q b → (∀ H'', H' <+: H'' → Post (.bool (P b)) H'') → ACalls Try.prog g (fs ++ b.val :: bs) H' Post

theorem triples_ok {H : Heap} {v : Nat} {g : FuncId} {fs bs : List Value} {P : Bk → Bool} (hv : v ≤ 15) (hf : TellsB g fs bs (fun b => b ∈ triples v) P H) (Post : Value → Heap → Prop)
    (h : ∀ H' w, H <+: H' → BlocksIn H.length H'.length H' w ((triples v).filter P) → Post w H') :
    ACalls Try.prog 105 [.int .i64 v, .func (.func g) fs.toArray bs.toArray] H Post := by
  refine ACalls.res ?_
  refine acalls_vc (rs := [.tmp 4]) Try.func105 rfl rfl Try.ntmps105 rfl rfl ?_
  simp (maxSteps := 1000000) [go_sem]
  refine AWp.addGhost ?_
  have hb0 := Bl.ghost 3 H
  generalize H ++ [(⟨[], false, false⟩ : Blk)] = H0 at hb0 ⊢
  have hmem : ∀ {a b c : Nat}, a < b → b < c → c < v → (⟨a, b, c⟩ : Bk) ∈ triples v := by
    intro a b c h1 h2 h3
    simp only [triples, trip0, trip1, trip2, List.mem_flatMap, List.mem_map, mem_upTo]
    exact ⟨a, by omega, b, by omega, c, by omega, rfl⟩
  have hle2 : ∀ a b k : Nat, (trip2 v a b k).length ≤ k := by intro a b k; rw [trip2, List.length_map, upTo_length]; omega
  have hle1 : ∀ a k : Nat, (trip1 v a k).length ≤ k * 15 := by
    intro a k
    induction k with
    | zero => simp [trip1, upTo_self]
    | succ k ih =>
      by_cases hak : a + 1 ≤ k
      · rw [trip1_succ hak, List.length_append]; have := hle2 a k v; omega
      · have : trip1 v a (k + 1) = [] := by unfold trip1; rw [upTo_self (by omega)]; rfl
        rw [this]; simp
  have hle0 : ∀ k : Nat, k ≤ 15 → (trip0 v k).length ≤ k * 225 := by
    intro k hk
    induction k with
    | zero => simp [trip0, upTo_self]
    | succ k ih => rw [trip0_succ, List.length_append]; have := ih (by omega); have := hle1 k v; omega
  -- a list that grows
  refine AWp.loopVc (St := Nat × Nat × List Bk) (fun s => [(0, .int .i64 v), (1, .func (.func g) fs.toArray bs.toArray), (5, lv 3 s.2.1 0 s.2.2.length), (9, .int .i64 v), (10, .int .i64 s.1)])
    (fun s H' => s.1 ≤ v ∧ s.2.2 = (trip0 v s.1).filter P ∧ Bl 3 H H' s.2.1 (tri s.2.2) s.2.2.length) (fun s => v - s.1) (0, H.length, []) ?_ ?_ ?_
  · simp [upF, Fr.get, Up.refl, Up.nil]
  · exact ⟨by simp, by simp [trip0_start], by simpa [tri] using hb0⟩
  · rintro K ⟨a, id, acc⟩ H' ⟨ha, hacc, hbl⟩ hK
    simp only at ha hacc hbl
    by_cases hlt : a < v
    · have hw_a : IntKind.i64.wrap ((a : Int) + 1) = (a : Int) + 1 := i64w (by omega) (by omega)
      simp (maxSteps := 1000000) [go_sem, hlt, hw_a]
      refine AWp.loopVc (St := Nat × Nat × List Bk) (fun s => [(0, .int .i64 v), (1, .func (.func g) fs.toArray bs.toArray), (5, lv 3 s.2.1 0 s.2.2.length), (6, .int .i64 a), (7, .int .i64 s.1), (9, .int .i64 v), (10, .int .i64 a)])
        (fun s H' => a + 1 ≤ s.1 ∧ s.1 ≤ v ∧ s.2.2 = (trip0 v a ++ trip1 v a s.1).filter P ∧ Bl 3 H H' s.2.1 (tri s.2.2) s.2.2.length) (fun s => v - s.1) (a + 1, id, acc) ?_ ?_ ?_
      · simp [upF, Fr.get, Up.refl]
      · exact ⟨by simp, by simp only; omega, by simp [trip1_start, hacc], hbl⟩
      · rintro K2 ⟨b, id2, acc2⟩ H2 ⟨hab, hb, hacc2, hbl2⟩ hK2
        simp only at hab hb hacc2 hbl2
        by_cases hlt2 : b < v
        · have hw_b : IntKind.i64.wrap ((b : Int) + 1) = (b : Int) + 1 := i64w (by omega) (by omega)
          simp (maxSteps := 1000000) [go_sem, hlt2, hw_b]
          refine AWp.loopVc (St := Nat × Nat × List Bk) (fun s => [(0, .int .i64 v), (1, .func (.func g) fs.toArray bs.toArray), (5, lv 3 s.2.1 0 s.2.2.length), (6, .int .i64 a), (7, .int .i64 b), (8, .int .i64 s.1), (9, .int .i64 v), (10, .int .i64 a)])
            (fun s H' => b + 1 ≤ s.1 ∧ s.1 ≤ v ∧ s.2.2 = (trip0 v a ++ trip1 v a b ++ trip2 v a b s.1).filter P ∧ Bl 3 H H' s.2.1 (tri s.2.2) s.2.2.length) (fun s => v - s.1) (b + 1, id2, acc2) ?_ ?_ ?_
          · simp [upF, Fr.get, Up.refl]
          · exact ⟨by simp, by simp only; omega, by simp [trip2_start, hacc2], hbl2⟩
          · rintro K3 ⟨c, id3, acc3⟩ H3 ⟨hbc, hc, hacc3, hbl3⟩ hK3
            simp only at hbc hc hacc3 hbl3
            by_cases hlt3 : c < v
            · have hw_c : IntKind.i64.wrap ((c : Int) + 1) = (c : Int) + 1 := i64w (by omega) (by omega)
              have hlen : acc3.length ≤ 10000 := by
                rw [hacc3]
                refine Nat.le_trans (List.length_filter_le _ _) ?_
                simp only [List.length_append]
                have := hle0 a (by omega); have := hle1 a b; have := hle2 a b c
                omega
              simp (maxSteps := 1000000) [go_sem, hlt3]
              refine hf H3 ⟨a, b, c⟩ _ hbl3.1 (hmem (by omega) (by omega) hlt3) ?_
              intro H4 hp4
              have hbl4 := hbl3.pre hp4
              have hsn : ∀ l : List Bk, (l ++ trip2 v a b (c + 1)).filter P = (l ++ trip2 v a b c).filter P ++ (if P ⟨a, b, c⟩ then [⟨a, b, c⟩] else []) := by
                intro l
                rw [trip2_succ hbc, ← List.append_assoc, List.filter_append (_ ++ _)]
                congr 1
                cases hP : P ⟨a, b, c⟩ <;> simp [hP]
              cases hP : P ⟨a, b, c⟩ with
              | false =>
                simp (maxSteps := 1000000) [go_sem, hw_c]
                exact hK3 (c + 1, id3, acc3) _ _ (by simp only; omega) (by simp [upF, Fr.get, Up.refl]) ⟨by simp only; omega, by simp only; omega, by simp only [hsn, hP, hacc3]; simp, hbl4⟩
              | true =>
                obtain ⟨hsrc, H5, hap, hbl5⟩ := hbl4.push (xs := (⟨a, b, c⟩ : Bk).cells) (by omega) rfl
                simp only [Bk.cells] at hsrc hap hbl5
                simp (maxSteps := 1000000) [go_sem, hw_c, hsrc, hap]
                refine andK_intro (by omega) (hK3 (c + 1, H4.length + 1, acc3 ++ [⟨a, b, c⟩]) _ _ (by simp only; omega) (by simp [upF, Fr.get, Up.refl]) ⟨by simp only; omega, by simp only; omega, by simp only [hsn, hP, hacc3]; simp, ?_⟩)
                simp only [List.length_append, List.length_singleton, tri_append, tri_one, Bk.cells]
                exact hbl5
            · have : c = v := by omega
              subst this
              simp (maxSteps := 1000000) [go_sem, hw_b]
              exact hK2 (b + 1, id3, acc3) _ _ (by simp only; omega) (by simp [upF, Fr.get, Up.refl]) ⟨by simp only; omega, by simp only; omega, by simp only [trip1_succ hab, ← List.append_assoc]; exact hacc3, hbl3⟩
        · have : b = v := by omega
          subst this
          simp (maxSteps := 1000000) [go_sem, hw_a]
          exact hK (a + 1, id2, acc2) _ _ (by simp only; omega) (by simp [upF, Fr.get, Up.refl]) ⟨by simp only; omega, by simp only [trip0_succ]; exact hacc2, hbl2⟩
    · have : a = v := by omega
      subst this
      simp (maxSteps := 1000000) [go_sem]
      have hlen : acc.length ≤ 10000 := by
        rw [hacc]
        refine Nat.le_trans (List.length_filter_le _ _) ?_
        have := hle0 a (by omega)
        omega
      refine ⟨_, Up.refl _ _, h H' _ hbl.1 ?_⟩
      have := OwnBlocks.inn (OwnBlocks.of_ol hbl.2.1 (by omega)) hbl.2.2
      rw [hacc] at this
      rw [hacc]
      exact this

noncomputable def rFree (p : Int) (bs : List Bk) : List Bk × Int := if sysB p bs then ((triples p.toNat).filter (leftB bs), 0) else ([], 1)

theorem l01Free_ok {H : Heap} {u : Value} {p w : Int} {bs : List Bk} {b : Bk} (hu : BlocksAt H u bs) (hg : ∀ x ∈ bs, good 15 x = true) (hb : good w b = true) (Post : Value → Heap → Prop) (h : ∀ H', H <+: H' → Post (.bool (leftB bs b)) H') :
    ACalls Try.prog 128 [sysV p u, b.val] H Post := by
  obtain ⟨i, o, rfl, h1, h2⟩ := hu
  refine acalls_vc (rs := [.tmp 4]) Try.func128 rfl rfl Try.ntmps128 rfl rfl ?_
  simp (maxSteps := 1000000) [go_sem, sysV, Bk.val]
  have hp0 : H <+: H ++ [⟨[.int .i64 p, lv 3 i o bs.length], true, true⟩, ⟨[.int .i64 b.a, .int .i64 b.b, .int .i64 b.c], true, true⟩] := List.prefix_append _ _
  have hx0 : Holds (H ++ [⟨[.int .i64 p, lv 3 i o bs.length], true, true⟩, ⟨[.int .i64 b.a, .int .i64 b.b, .int .i64 b.c], true, true⟩]) H.length [.int .i64 p, lv 3 i o bs.length] := ⟨true, by simp⟩
  have hx1 : Holds (H ++ [⟨[.int .i64 p, lv 3 i o bs.length], true, true⟩, ⟨[.int .i64 b.a, .int .i64 b.b, .int .i64 b.c], true, true⟩]) (H.length + 1) [.int .i64 b.a, .int .i64 b.b, .int .i64 b.c] := ⟨true, by simp⟩
  generalize H ++ [(⟨[.int .i64 p, lv 3 i o bs.length], true, true⟩ : Blk), ⟨[.int .i64 b.a, .int .i64 b.b, .int .i64 b.c], true, true⟩] = H0 at hp0 hx0 hx1 ⊢
  have hiff := leftB_iff hg hb
  refine AWp.loopVc (fun s : Nat => [(2, .pointer (some ⟨H.length, 0, none⟩)), (3, .pointer (some ⟨H.length + 1, 0, none⟩)), (5, .int .i64 s)])
    (fun s H' => s ≤ bs.length ∧ H0 <+: H' ∧ ∀ x ∈ bs.take s, common x b ≤ 1) (fun s => bs.length - s) 0 ?_ ?_ ?_
  · simp [upF, Fr.get, Up.refl]
  · exact ⟨by omega, List.prefix_refl _, by simp⟩
  · rintro K s H' ⟨hs, hp, hf⟩ hK
    obtain ⟨d0, d1, d2⟩ := (hx0.pre hp).sys
    obtain ⟨e0, e1, e2, e3⟩ := (hx1.pre hp).bk
    by_cases hlt : s < bs.length
    · have hbs : bs[s]? = some bs[s] := List.getElem?_eq_getElem hlt
      have c1 := (h1.pre (hp0.trans hp)).bk hbs
      simp only [Bk.cells] at c1
      have hw_s : IntKind.i64.wrap ((s : Int) + 1) = (s : Int) + 1 := i64w (by omega) (by omega)
      simp (maxSteps := 1000000) [go_sem, hlt, d2]
      refine AWp.draw mixed [(0, false), (1, false), (2, false), (3, false), (4, false), (5, false), (6, false), (7, false)] (by kernel_rfl) ?_
      simp (maxSteps := 1000000) [go_sem, hlt, d2, c1, e0]
      refine l01Common_ok (b := bs[s]) (d := b) _ ?_
      intro H2 hp2
      by_cases hc : common bs[s] b ≤ 1
      · have hc' : ¬ ((1 : Int) < (common bs[s] b : Int)) := by omega
        simp (maxSteps := 1000000) [go_sem, hc', hw_s]
        refine hK (s + 1) _ _ (by omega) (by simp [upF, Fr.get, Up.refl]) ⟨by omega, hp.trans hp2, ?_⟩
        intro x hx
        rw [List.take_succ_eq_append_getElem hlt, List.mem_append] at hx
        rcases hx with hx | hx
        · exact hf x hx
        · simp at hx; subst hx; exact hc
      · have hc' : (1 : Int) < (common bs[s] b : Int) := by omega
        simp (maxSteps := 1000000) [go_sem, hc']
        have : leftB bs b = false := by
          cases hl : leftB bs b with
          | false => rfl
          | true => exact absurd (hiff.1 hl _ (List.getElem_mem hlt)) hc
        simpa [this] using h H2 (hp0.trans (hp.trans hp2))
    · have : s = bs.length := by omega
      subst this
      rw [List.take_length] at hf
      simp (maxSteps := 1000000) [go_sem, d2]
      have : leftB bs b = true := hiff.2 hf
      simpa [this] using h H' (hp0.trans hp)

end Go.Proofs.Ytakkmkinfeddeaa
end

section
/- Free blocks, the specification's side. -/
set_option linter.all false
set_option maxRecDepth 20000
namespace Go.Proofs.Ytakkmkinfeddeaa
open Go.Ab

theorem trip_mem {v a b c : Nat} (h1 : a < b) (h2 : b < c) (h3 : c < v) : (⟨a, b, c⟩ : Bk) ∈ triples v := by
  simp only [triples, trip0, trip1, trip2, List.mem_flatMap, List.mem_map, mem_upTo]
  exact ⟨a, by omega, b, by omega, c, by omega, rfl⟩
theorem trip2_len (v a b k : Nat) : (trip2 v a b k).length ≤ k := by rw [trip2, List.length_map, upTo_length]; omega
theorem trip1_len {v : Nat} (hv : v ≤ 15) (a k : Nat) : (trip1 v a k).length ≤ k * 15 := by
  induction k with
  | zero => simp [trip1, upTo_self]
  | succ k ih =>
    by_cases hak : a + 1 ≤ k
    · rw [trip1_succ hak, List.length_append]; have := trip2_len v a k v; omega
    · have : trip1 v a (k + 1) = [] := by unfold trip1; rw [upTo_self (by omega)]; rfl
      rw [this]; simp
theorem trip0_len {v : Nat} (hv : v ≤ 15) (k : Nat) : (trip0 v k).length ≤ k * 225 := by
  induction k with
  | zero => simp [trip0, upTo_self]
  | succ k ih => rw [trip0_succ, List.length_append]; have := trip1_len hv k v; omega
theorem trip_snoc {v a b c : Nat} (h : b + 1 ≤ c) (P : Bk → Bool) (l : List Bk) : (l ++ trip2 v a b (c + 1)).filter P = (l ++ trip2 v a b c).filter P ++ (if P ⟨a, b, c⟩ then [⟨a, b, c⟩] else []) := by
  rw [trip2_succ h, ← List.append_assoc, List.filter_append (_ ++ _)]
  congr 1
  cases hP : P ⟨a, b, c⟩ <;> simp [hP]

end Go.Proofs.Ytakkmkinfeddeaa
end

section
/- The pairs that are left: both sides. -/
set_option linter.all false
set_option maxRecDepth 20000
namespace Go.Proofs.Ytakkmkinfeddeaa
open Go.Ab

/-- Pairs that a test lets pass, in order. -/
def prs1 (P : Nat → Nat → Bool) (a k : Nat) : List (List Int) := ((upTo (a + 1) k).filter (P a)).map fun b : Nat => [(a : Int), (b : Int)]
def prs0 (P : Nat → Nat → Bool) (v k : Nat) : List (List Int) := (upTo 0 k).flatMap fun a => prs1 P a v
theorem prs1_start (P : Nat → Nat → Bool) (a : Nat) : prs1 P a (a + 1) = [] := by simp [prs1, upTo_self]
theorem prs0_start (P : Nat → Nat → Bool) (v : Nat) : prs0 P v 0 = [] := by simp [prs0, upTo_self]
theorem prs1_succ {P : Nat → Nat → Bool} {a k : Nat} (h : a + 1 ≤ k) : prs1 P a (k + 1) = prs1 P a k ++ (if P a k then [[(a : Int), (k : Int)]] else []) := by
  simp only [prs1, upTo_succ h, List.filter_append, List.map_append]
  congr 1
  cases hP : P a k <;> simp [hP]
theorem prs0_succ {P : Nat → Nat → Bool} {v k : Nat} : prs0 P v (k + 1) = prs0 P v k ++ prs1 P k v := by simp [prs0, upTo_succ (Nat.zero_le k)]
theorem prs1_len (P : Nat → Nat → Bool) (a k : Nat) : (prs1 P a k).length ≤ k := by
  rw [prs1, List.length_map]
  refine Nat.le_trans (List.length_filter_le _ _) ?_
  rw [upTo_length]; omega
theorem prs0_len {P : Nat → Nat → Bool} {v : Nat} (hv : v ≤ 15) (k : Nat) : (prs0 P v k).length ≤ k * 15 := by
  induction k with
  | zero => simp [prs0_start]
  | succ k ih => rw [prs0_succ, List.length_append]; have := prs1_len P k v; omega
theorem prs1_two {P : Nat → Nat → Bool} {a k : Nat} : ∀ xs ∈ prs1 P a k, xs.length = 2 := by
  intro xs h
  simp only [prs1, List.mem_map] at h
  obtain ⟨b, _, rfl⟩ := h; rfl
theorem prs0_two {P : Nat → Nat → Bool} {v k : Nat} : ∀ xs ∈ prs0 P v k, xs.length = 2 := by
  intro xs h
  simp only [prs0, List.mem_flatMap] at h
  obtain ⟨a, _, h⟩ := h
  exact prs1_two xs h
theorem flat_two : ∀ {xss : List (List Int)}, (∀ xs ∈ xss, xs.length = 2) → xss.flatten.length = xss.length * 2
  | [], _ => rfl
  | xs :: xss, h => by
    rw [List.flatten_cons, List.length_append, h xs List.mem_cons_self, flat_two fun x hx => h x (List.mem_cons_of_mem _ hx), List.length_cons]; omega

/-- A pair is left. -/
def leftP (bs : List Bk) (a b : Nat) : Bool := decide (third bs a b = -1)
noncomputable def rLeft (p : Int) (bs : List Bk) : List (List Int) × Int := if sysB p bs then (prs0 (leftP bs) p.toNat p.toNat, 0) else ([], 1)

theorem leftRows_in {H H' : Heap} {oid v : Nat} {rows : List (Nat × List Int)} {P : Nat → Nat → Bool} (hv : v ≤ 15) (hb : Build H H' oid rows) (hr : rows.map (·.2) = prs0 P v v) : RowsIn H.length H'.length H' (lv 1 oid 0 rows.length) (prs0 P v v) := by
  have h1 := prs0_len (P := P) hv v
  have h2 : (prs0 P v v).flatten.length = (prs0 P v v).length * 2 := flat_two prs0_two
  have h3 : rows.length = (prs0 P v v).length := by rw [← hr, List.length_map]
  have := hb.inn (by rw [hr]; omega) (by omega)
  rwa [hr] at this

end Go.Proofs.Ytakkmkinfeddeaa
end

section
/- Two involutions without fixed points: going round by them in turn. Plain Lean, no program in sight. -/
set_option linter.all false
namespace Go.Ab

theorem nodup_len : ∀ (v : Nat) (l : List Nat), l.Nodup → (∀ x ∈ l, x < v) → l.length ≤ v
  | 0, l, _, h => by
    cases l with
    | nil => simp
    | cons x l => exact absurd (h x List.mem_cons_self) (by omega)
  | v + 1, l, hn, h => by
    by_cases hv : v ∈ l
    · have h1 := nodup_len v (l.erase v) (hn.erase v) fun x hx => by
        have := (List.Nodup.mem_erase_iff hn).1 hx
        have := h x this.2
        omega
      rw [List.length_erase_of_mem hv] at h1
      omega
    · have := nodup_len v l hn fun x hx => by
        have h2 := h x hx
        have : x ≠ v := fun e => hv (e ▸ hx)
        omega
      omega

/-- By f and by g in turn. -/
def alt (f g : Nat → Nat) (p : Nat) : Nat → Nat
  | 0 => p
  | k + 1 => if k % 2 = 0 then f (alt f g p k) else g (alt f g p k)

structure Turn (f g : Nat → Nat) (S : Nat → Prop) : Prop where
  fS : ∀ x, S x → S (f x)
  gS : ∀ x, S x → S (g x)
  ff : ∀ x, S x → f (f x) = x
  gg : ∀ x, S x → g (g x) = x
  fne : ∀ x, S x → f x ≠ x
  gne : ∀ x, S x → g x ≠ x

theorem alt_S {f g : Nat → Nat} {S : Nat → Prop} (h : Turn f g S) {p : Nat} (hp : S p) : ∀ k, S (alt f g p k)
  | 0 => hp
  | k + 1 => by
    simp only [alt]
    split
    · exact h.fS _ (alt_S h hp k)
    · exact h.gS _ (alt_S h hp k)
/-- As long as all are different, what comes next is new, or it is the first one, at an even place. -/
theorem alt_next {f g : Nat → Nat} {S : Nat → Prop} (h : Turn f g S) {p n : Nat} (hp : S p) (hd : ∀ i j, i < j → j ≤ n → alt f g p i ≠ alt f g p j) :
    (∀ j, j ≤ n → alt f g p j ≠ alt f g p (n + 1)) ∨ (alt f g p (n + 1) = p ∧ n % 2 = 1) := by
  by_cases hx : ∃ j, j ≤ n ∧ alt f g p j = alt f g p (n + 1)
  · obtain ⟨j, hj, e⟩ := hx
    right
    have inj : ∀ i k, i ≤ n → k ≤ n → alt f g p i = alt f g p k → i = k := by
      intro i k hi hk e
      rcases Nat.lt_trichotomy i k with h1 | h1 | h1
      · exact absurd e (hd i k h1 hk)
      · exact h1
      · exact absurd e.symm (hd k i h1 hi)
    have hS := alt_S h hp
    by_cases hn : n % 2 = 0
    · -- by f
      exfalso
      have e1 : alt f g p (n + 1) = f (alt f g p n) := by simp [alt, hn]
      rw [e1] at e
      by_cases hj2 : j % 2 = 0
      · -- j even: f of it is the next one
        have e2 : alt f g p (j + 1) = f (alt f g p j) := by simp [alt, hj2]
        have e3 : f (alt f g p j) = alt f g p n := by rw [e, h.ff _ (hS n)]
        by_cases hjn : j = n
        · subst hjn; exact h.fne _ (hS j) (by rw [e3])
        · rw [← e2] at e3
          have := inj (j + 1) n (by omega) (by omega) e3
          omega
      · obtain ⟨i, rfl⟩ : ∃ i, j = i + 1 := ⟨j - 1, by omega⟩
        have e2 : alt f g p (i + 1) = f (alt f g p i) := by simp only [alt]; rw [if_pos (by omega)]
        rw [e2] at e
        have := congrArg f e
        rw [h.ff _ (hS i), h.ff _ (hS n)] at this
        have := inj i n (by omega) (by omega) this
        omega
    · have e1 : alt f g p (n + 1) = g (alt f g p n) := by simp [alt, hn]
      rw [e1] at e ⊢
      by_cases hj0 : j = 0
      · subst hj0; exact ⟨e.symm, by omega⟩
      · exfalso
        by_cases hj2 : j % 2 = 1
        · have e2 : alt f g p (j + 1) = g (alt f g p j) := by simp only [alt]; rw [if_neg (by omega)]
          have e3 : g (alt f g p j) = alt f g p n := by rw [e, h.gg _ (hS n)]
          by_cases hjn : j = n
          · subst hjn; exact h.gne _ (hS j) (by rw [e3])
          · rw [← e2] at e3
            have := inj (j + 1) n (by omega) (by omega) e3
            omega
        · obtain ⟨i, rfl⟩ : ∃ i, j = i + 1 := ⟨j - 1, by omega⟩
          have e2 : alt f g p (i + 1) = g (alt f g p i) := by simp only [alt]; rw [if_neg (by omega)]
          rw [e2] at e
          have := congrArg g e
          rw [h.gg _ (hS i), h.gg _ (hS n)] at this
          have := inj i n (by omega) (by omega) this
          omega
  · left
    intro j hj e
    exact hx ⟨j, hj, e⟩
/-- The way comes back to its first point, at an even place, and all ahead are different. -/
theorem alt_back {f g : Nat → Nat} {S : Nat → Prop} (h : Turn f g S) {p v : Nat} (hp : S p) (hv : ∀ x, S x → x < v) :
    ∃ n, 2 ≤ n ∧ n % 2 = 0 ∧ n ≤ v ∧ alt f g p n = p ∧ ∀ i j, i < j → j < n → alt f g p i ≠ alt f g p j := by
  have len : ∀ n, (∀ i j, i < j → j < n → alt f g p i ≠ alt f g p j) → n ≤ v := by
    intro n hd
    have := nodup_len v ((List.range n).map (alt f g p)) ?_ ?_
    · simpa using this
    · refine List.pairwise_map.2 ?_
      rw [List.pairwise_iff_getElem]
      intro i j hi hj hij
      simp only [List.getElem_range]
      exact hd i j hij (by simpa using hj)
    · intro x hx
      obtain ⟨k, _, rfl⟩ := List.mem_map.1 hx
      exact hv _ (alt_S h hp k)
  -- going on until it comes back
  have go : ∀ m n, n + m = v → (∀ i j, i < j → j < n + 1 → alt f g p i ≠ alt f g p j) → ∃ n, 2 ≤ n ∧ n % 2 = 0 ∧ n ≤ v ∧ alt f g p n = p ∧ ∀ i j, i < j → j < n → alt f g p i ≠ alt f g p j := by
    intro m
    induction m with
    | zero => intro n hn hd; have := len (n + 1) hd; omega
    | succ m ih =>
      intro n hn hd
      rcases alt_next h hp (n := n) (fun i j hij hj => hd i j hij (by omega)) with h1 | ⟨h1, h2⟩
      · refine ih (n + 1) (by omega) ?_
        intro i j hij hj
        by_cases e : j = n + 1
        · subst e; exact h1 i (by omega)
        · exact hd i j hij (by omega)
      · exact ⟨n + 1, by omega, by omega, by have := len (n + 1) hd; omega, h1, hd⟩
  have hv0 := len 1 (by intro i j h1 h2; omega)
  exact go v 0 (by omega) (by intro i j h1 h2; omega)

end Go.Ab
end

section
/- A system with so many blocks has every pair: by counting. -/
set_option linter.all false
set_option maxRecDepth 20000
namespace Go.Proofs.Ytakkmkinfeddeaa
open Go.Ab

theorem sub_len : ∀ (l m : List Nat), l.Nodup → (∀ x ∈ l, x ∈ m) → l.length ≤ m.length
  | [], m, _, _ => by simp
  | x :: l, m, hn, h => by
    have hn' := List.nodup_cons.1 hn
    have hx := h x List.mem_cons_self
    have h1 := sub_len l (m.erase x) hn'.2 fun y hy => by
      have hne : y ≠ x := fun e => hn'.1 (e ▸ hy)
      exact (List.mem_erase_of_ne hne).2 (h y (List.mem_cons_of_mem _ hy))
    rw [List.length_erase_of_mem hx] at h1
    have := List.length_pos_of_mem hx
    rw [List.length_cons]; omega
theorem sub_all {l m : List Nat} (hn : l.Nodup) (h : ∀ x ∈ l, x ∈ m) (hlen : m.length ≤ l.length) {x : Nat} (hx : x ∈ m) : x ∈ l := by
  by_cases hxl : x ∈ l
  · exact hxl
  · have := sub_len (x :: l) m (List.nodup_cons.2 ⟨hxl, hn⟩) fun y hy => by
      rcases List.mem_cons.1 hy with rfl | hy
      · exact hx
      · exact h y hy
    rw [List.length_cons] at this; omega

/-- All pairs, as numbers. -/
def allP (v : Nat) : List Nat := (List.range v).flatMap fun i => (upTo (i + 1) v).map fun j => i * 15 + j
def blkP (b : Bk) : List Nat := [b.a.toNat * 15 + b.b.toNat, b.a.toNat * 15 + b.c.toNat, b.b.toNat * 15 + b.c.toNat]
theorem allP_length : ∀ v, v < 16 → (allP v).length * 2 = v * (v - 1) := by decide +kernel
theorem mem_allP {v i j : Nat} (h1 : i < j) (h2 : j < v) : i * 15 + j ∈ allP v := by
  simp only [allP, List.mem_flatMap, List.mem_range, List.mem_map, mem_upTo]
  exact ⟨i, by omega, j, by omega, rfl⟩
theorem flatP_length (bs : List Bk) : (bs.flatMap blkP).length = bs.length * 3 := by
  induction bs with
  | nil => rfl
  | cons b bs ih => rw [List.flatMap_cons, List.length_append, ih, List.length_cons]; simp only [blkP, List.length_cons, List.length_nil]; omega

theorem full_cover {v : Nat} {bs : List Bk} (hS : IsSys v bs) (hf : fullB v bs = true) {p q : Nat} (hpq : p < q) (hq : q < v) : third bs p q ≠ -1 := by
  obtain ⟨hp, hlen, hsort, hfit⟩ := hS
  have hg : ∀ x ∈ bs, good (v : Int) x = true := fun x hx => by
    obtain ⟨i, hi⟩ := List.mem_iff_getElem?.1 hx
    exact (hsort i x hi).1
  have hnd : (bs.flatMap blkP).Nodup := by
    unfold List.Nodup
    rw [List.pairwise_flatMap]
    constructor
    · intro b hb
      have := good_iff.1 (hg b hb)
      refine List.pairwise_cons.2 ⟨?_, List.pairwise_cons.2 ⟨?_, List.pairwise_singleton _ _⟩⟩
      · intro x hx
        simp only [List.mem_cons, List.not_mem_nil, or_false] at hx
        rcases hx with rfl | rfl <;> omega
      · intro x hx
        simp only [List.mem_cons, List.not_mem_nil, or_false] at hx
        subst hx; omega
    · rw [List.pairwise_iff_getElem]
      intro i j hi hj hij
      have gx := good_iff.1 (hg _ (List.getElem_mem hi))
      have gy := good_iff.1 (hg _ (List.getElem_mem hj))
      have hc := (common_le_one (w := v) (hg _ (List.getElem_mem hj))).1 (hfit j i bs[j] bs[i] hij (List.getElem?_eq_getElem hj) (List.getElem?_eq_getElem hi))
      simp only [Bk.has_iff] at hc
      generalize bs[i] = y at *
      generalize bs[j] = x at *
      intro m hm n hn e
      subst e
      simp only [blkP, List.mem_cons, List.not_mem_nil, or_false] at hm hn
      obtain ⟨c1, c2, c3⟩ := hc
      rcases hm with hm | hm | hm
      · refine c1 ⟨?_, ?_⟩ <;> rcases hn with hn | hn | hn <;> omega
      · refine c2 ⟨?_, ?_⟩ <;> rcases hn with hn | hn | hn <;> omega
      · refine c3 ⟨?_, ?_⟩ <;> rcases hn with hn | hn | hn <;> omega
  have hsub : ∀ x ∈ bs.flatMap blkP, x ∈ allP v := by
    intro x hx
    obtain ⟨b, hb, hx⟩ := List.mem_flatMap.1 hx
    have := good_iff.1 (hg b hb)
    simp only [blkP, List.mem_cons, List.not_mem_nil, or_false] at hx
    rcases hx with rfl | rfl | rfl
    · exact mem_allP (by omega) (by omega)
    · exact mem_allP (by omega) (by omega)
    · exact mem_allP (by omega) (by omega)
  have hv := allP_length v (by omega)
  have hcnt : 6 * (bs.length : Int) = (v : Int) * ((v : Int) - 1) := by simpa [fullB] using hf
  have hcnt2 : 6 * bs.length = v * (v - 1) := by
    have e : ((v * (v - 1) : Nat) : Int) = (v : Int) * ((v : Int) - 1) := by rw [Int.natCast_mul, Int.natCast_sub (by omega)]; rfl
    omega
  have hin := sub_all hnd hsub (by rw [flatP_length]; omega) (mem_allP hpq hq)
  obtain ⟨b, hb, hx⟩ := List.mem_flatMap.1 hin
  have gb := good_iff.1 (hg b hb)
  rw [Ne, third_neg hg (by omega)]
  intro hno
  refine hno b hb ?_
  simp only [Bk.has_iff]
  simp only [blkP, List.mem_cons, List.not_mem_nil, or_false] at hx
  rcases hx with hx | hx | hx <;> constructor <;> omega

end Go.Proofs.Ytakkmkinfeddeaa
end

section
/- Third points in a full system. Plain Lean. -/
set_option linter.all false
set_option maxRecDepth 20000
namespace Go.Proofs.Ytakkmkinfeddeaa
open Go.Ab

theorem fits_same {v : Int} {bs : List Bk} (hg : ∀ x ∈ bs, good v x = true) (hF : Fits bs) {x y : Bk} (hx : x ∈ bs) (hy : y ∈ bs) {p q : Int} (hpq : p ≠ q) (h1 : x.has p = true) (h2 : x.has q = true) (h3 : y.has p = true) (h4 : y.has q = true) : x = y := by
  obtain ⟨i, hi⟩ := List.mem_iff_getElem?.1 hx
  obtain ⟨j, hj⟩ := List.mem_iff_getElem?.1 hy
  have key : ∀ {i j : Nat} {x y : Bk}, j < i → bs[i]? = some x → bs[j]? = some y → x.has p = true → x.has q = true → y.has p = true → y.has q = true → False := by
    intro i j x y hij hi hj h1 h2 h3 h4
    have hc := (common_le_one (w := v) (hg x (List.mem_of_getElem? hi))).1 (hF i j x y hij hi hj)
    obtain ⟨c1, c2, c3⟩ := hc
    rw [Bk.has_iff] at h3 h4
    rcases h3 with h3 | h3 | h3 <;> rcases h4 with h4 | h4 | h4 <;> subst h3 <;> first
      | exact hpq h4
      | (subst h4; first | exact c1 ⟨h1, h2⟩ | exact c1 ⟨h2, h1⟩ | exact c2 ⟨h1, h2⟩ | exact c2 ⟨h2, h1⟩ | exact c3 ⟨h1, h2⟩ | exact c3 ⟨h2, h1⟩)
  rcases Nat.lt_trichotomy i j with h | h | h
  · exact (key h hj hi h3 h4 h1 h2).elim
  · subst h; rw [hi] at hj; exact Option.some.inj hj
  · exact (key h hi hj h1 h2 h3 h4).elim

theorem third_back {v : Int} {bs : List Bk} (hg : ∀ x ∈ bs, good v x = true) (hF : Fits bs) {p q : Int} (hpq : p ≠ q) (h : third bs p q ≠ -1) : third bs p (third bs p q) = q := by
  obtain ⟨c, hc, h1, h2, h3, h4, h5, h6, h7, h8⟩ := third_some hg hpq h
  have hne : p ≠ third bs p q := fun e => h7 e.symm
  have hn2 : third bs p (third bs p q) ≠ -1 := by
    rw [Ne, third_neg hg hne]
    intro hno; exact hno c hc ⟨h1, h6⟩
  obtain ⟨d, hd, g1, g2, g3, _⟩ := third_some hg hne hn2
  have e := fits_same hg hF hc hd hne h1 h6 g1 g2
  subst e
  rw [g3]; omega

/-- The third point as a number. -/
def thr (bs : List Bk) (a x : Nat) : Nat := (third bs a x).toNat
theorem thr_spec {v : Nat} {bs : List Bk} (hS : IsSys v bs) (hf : fullB v bs = true) {p q : Nat} (hpq : p ≠ q) (hp : p < v) (hq : q < v) :
    third bs p q = (thr bs p q : Int) ∧ thr bs p q < v ∧ thr bs p q ≠ p ∧ thr bs p q ≠ q ∧ thr bs p (thr bs p q) = q := by
  have hg : ∀ x ∈ bs, good (v : Int) x = true := hS.good
  have hne : third bs p q ≠ -1 := by
    rcases Nat.lt_or_gt_of_ne hpq with h | h
    · exact full_cover hS hf h hq
    · rw [third_comm]; exact full_cover hS hf h hp
  have hb := third_back hg hS.2.2.2 (show (p : Int) ≠ q by omega) hne
  obtain ⟨c, hc, h1, h2, h3, h4, h5, h6, h7, h8⟩ := third_some hg (show (p : Int) ≠ q by omega) hne
  have e : third bs p q = (thr bs p q : Int) := by unfold thr; omega
  refine ⟨e, by omega, by omega, by omega, ?_⟩
  rw [e] at hb
  unfold thr at hb ⊢
  rw [hb]; rfl

/-- The points that two others and their third point leave. -/
def cycS (v : Nat) (bs : List Bk) (a b x : Nat) : Prop := x < v ∧ x ≠ a ∧ x ≠ b ∧ x ≠ thr bs a b
theorem thr_comm (bs : List Bk) (a b : Nat) : thr bs a b = thr bs b a := by unfold thr; rw [third_comm]
theorem turn_of {v : Nat} {bs : List Bk} (hS : IsSys v bs) (hf : fullB v bs = true) {a b : Nat} (hab : a ≠ b) (ha : a < v) (hb : b < v) : Turn (thr bs a) (thr bs b) (cycS v bs a b) := by
  obtain ⟨_, c1, c2, c3, c4⟩ := thr_spec hS hf hab ha hb
  obtain ⟨_, _, _, _, c5⟩ := thr_spec hS hf (Ne.symm hab) hb ha
  have key : ∀ {a b : Nat}, a ≠ b → a < v → b < v → ∀ x, cycS v bs a b x → cycS v bs a b (thr bs a x) ∧ thr bs a (thr bs a x) = x ∧ thr bs a x ≠ x := by
    intro a b hab ha hb x ⟨h1, h2, h3, h4⟩
    obtain ⟨_, c1, c2, c3, c4⟩ := thr_spec hS hf hab ha hb
    obtain ⟨_, d1, d2, d3, d4⟩ := thr_spec hS hf (Ne.symm h2) ha h1
    refine ⟨⟨d1, d2, ?_, ?_⟩, d4, d3⟩
    · intro e; rw [e] at d4; exact h4 d4.symm
    · intro e; rw [e, c4] at d4; exact h3 d4.symm
  have sw : ∀ x, cycS v bs a b x ↔ cycS v bs b a x := by
    intro x; unfold cycS; rw [thr_comm bs a b]
    constructor <;> rintro ⟨h1, h2, h3, h4⟩ <;> exact ⟨h1, h3, h2, h4⟩
  exact ⟨fun x hx => (key hab ha hb x hx).1, fun x hx => (sw _).2 (key (Ne.symm hab) hb ha x ((sw x).1 hx)).1, fun x hx => (key hab ha hb x hx).2.1, fun x hx => (key (Ne.symm hab) hb ha x ((sw x).1 hx)).2.1,
    fun x hx => (key hab ha hb x hx).2.2, fun x hx => (key (Ne.symm hab) hb ha x ((sw x).1 hx)).2.2⟩

end Go.Proofs.Ytakkmkinfeddeaa
end
