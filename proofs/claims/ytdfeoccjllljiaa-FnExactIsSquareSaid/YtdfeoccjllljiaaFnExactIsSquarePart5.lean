/- Part 5 of what the proof of the law FnExactIsSquare rests on: contracts of functions of the program, for every argument that each names; no statement of the seat is proved here. -/
import Derived.Test.YtdfeoccjllljiaaFnExactIsSquarePart4

section
/- Contracts of the laws' own helpers: copies of lists of numbers, marks over blocks and systems. -/
set_option linter.all false
set_option maxRecDepth 20000
namespace Go.Proofs.Ytdfeoccjllljiaa
open Go.Ab

/-- A slice of numbers that the call holds alone. -/
def OwnInts (H : Heap) (v : Value) (id : Nat) (xs : List Int) : Prop := v = lv 1 id 0 xs.length ∧ (xs = [] ∨ H[id]? = some ⟨ints xs, true, true⟩) ∧ xs.length ≤ 140737488355328
theorem OwnInts.read {H : Heap} {v : Value} {id : Nat} {xs : List Int} (h : OwnInts H v id xs) : IntsAt H v xs := by
  obtain ⟨h1, h2, h3⟩ := h
  refine ⟨id, 0, h1, ?_, h3⟩
  rcases h2 with rfl | h2
  · exact .inl rfl
  · exact Holds.at ⟨true, h2⟩
theorem OwnInts.keep {H H' : Heap} {v : Value} {id : Nat} {xs : List Int} (h : OwnInts H v id xs) {S : Nat → Prop} (hs : Same S H H') (hi : ¬ S id) : OwnInts H' v id xs :=
  ⟨h.1, h.2.1.imp (fun h => h) fun hb => hs.get hb hi, h.2.2⟩
theorem OwnInts.pre {H H' : Heap} (hp : H <+: H') {v : Value} {id : Nat} {xs : List Int} (h : OwnInts H v id xs) : OwnInts H' v id xs := h.keep (S := fun _ => False) (Same.of_prefix hp) (fun h => h)
theorem OwnInts.of_ol {H : Heap} {id : Nat} {xs : List Int} (h : OL 1 H id (ints xs) xs.length) (hl : xs.length ≤ 140737488355328) : OwnInts H (lv 1 id 0 xs.length) id xs :=
  ⟨rfl, h.2.imp (fun h => List.eq_nil_of_length_eq_zero h.1) (fun h => h), hl⟩
theorem OwnInts.one {H : Heap} {v : Value} {id : Nat} {xs : List Int} (h : OwnInts H v id xs) : v.oneCell' = true := h.read.one
theorem _root_.Go.Ab.OwnBlocks.pre {H H' : Heap} (hp : H <+: H') {v : Value} {id : Nat} {bs : List Bk} (h : OwnBlocks H v id bs) : OwnBlocks H' v id bs := h.keep (S := fun _ => False) (Same.of_prefix hp) (fun h => h)
theorem _root_.Go.Ab.OwnBlocks.one {H : Heap} {v : Value} {id : Nat} {bs : List Bk} (h : OwnBlocks H v id bs) : v.oneCell' = true := h.read.one
theorem _root_.Go.Ab.OwnBlocks.of_ol {H : Heap} {id : Nat} {bs : List Bk} (h : OL 3 H id (tri bs) bs.length) (hl : bs.length ≤ 140737488355328) : OwnBlocks H (lv 3 id 0 bs.length) id bs :=
  ⟨rfl, h.2.imp (fun h => List.eq_nil_of_length_eq_zero h.1) (fun h => h), hl⟩
theorem _root_.Go.Ab.OwnBlocks.lt {H : Heap} {v : Value} {id : Nat} {bs : List Bk} (h : OwnBlocks H v id bs) : bs = [] ∨ id < H.length := h.2.1.imp (fun h => h) fun h => (List.getElem?_eq_some_iff.1 h).1

theorem _root_.Go.Ab.Holds.keepS {H H' : Heap} {i : Nat} {cs : List Value} (h : Holds H i cs) {S : Nat → Prop} (hs : Same S H H') (hi : ¬ S i) : Holds H' i cs := by
  obtain ⟨o, h⟩ := h; exact ⟨o, hs.get h hi⟩
theorem _root_.Go.Ab.Holds.sys {H : Heap} {i : Nat} {p : Int} {u : Value} (h : Holds H i [.int .i64 p, u]) : cellsAt H i 0 2 = some [.int .i64 p, u] ∧ cellsAt H i 0 1 = some [.int .i64 p] ∧ cellsAt H i 1 1 = some [u] :=
  ⟨by simpa using h.cells (n := 2) (o := 0) (by simp), h.cell rfl, h.cell rfl⟩
theorem _root_.Go.Ab.Holds.bk {H : Heap} {i : Nat} {a b c : Int} (h : Holds H i [.int .i64 a, .int .i64 b, .int .i64 c]) : cellsAt H i 0 3 = some [.int .i64 a, .int .i64 b, .int .i64 c] ∧ cellsAt H i 0 1 = some [.int .i64 a] ∧ cellsAt H i 1 1 = some [.int .i64 b] ∧ cellsAt H i 2 1 = some [.int .i64 c] :=
  ⟨by simpa using h.cells (n := 3) (o := 0) (by simp), h.cell rfl, h.cell rfl, h.cell rfl⟩
theorem _root_.Go.Ab.Holds.last (H : Heap) (cs : List Value) : Holds (H ++ [⟨cs, true, true⟩]) H.length cs := ⟨true, by simp⟩

theorem toInt64S_ok {H : Heap} {u : Value} {xs : List Int} (hu : IntsAt H u xs) (Post : Value → Heap → Prop) (hb : xs.length ≤ 1048576) (h : ∀ H' v id, H <+: H' → H.length ≤ id → OwnInts H' v id xs → Post v H') :
    ACalls Try.prog 64 [u] H Post := by
  obtain ⟨i, o, rfl, h1, h2⟩ := hu
  refine ACalls.res ?_
  refine acalls_vc (rs := [.tmp 2]) Try.func64 rfl rfl Try.ntmps64 rfl rfl ?_
  have hm : ∀ n, (madeCells #[Value.int .i64 0] n).toList = ints (List.replicate n 0) := by
    intro n
    rw [made_same (v := .int .i64 0) (by simp) (by intro i hi; simp at hi; subst hi; rfl)]
    simp [ints]
  simp (maxSteps := 1000000) [go_sem, hm]
  refine andK_intro (by omega) ?_
  refine AWp.loopVc (fun s : Nat => [(0, lv 1 i o xs.length), (3, .slice (some ⟨H.length, 0, none⟩) xs.length xs.length), (4, .int .i64 s)])
    (fun s H' => s ≤ xs.length ∧ H <+: H' ∧ H'[H.length]? = some ⟨ints (xs.take s ++ List.replicate (xs.length - s) 0), true, true⟩) (fun s => xs.length - s) 0 ?_ ?_ ?_
  · simp [upF, Fr.get, Up.refl]
  · refine ⟨by omega, List.prefix_append _ _, by simp⟩
  · rintro K s H' ⟨hs, hp, hc⟩ hK
    by_cases hlt : s < xs.length
    · have c1 := (h1.pre hp).cell (k := s) (v := .int .i64 xs[s]) (by simp [ints_get, hlt])
      have hw_s : IntKind.i64.wrap ((s : Int) + 1) = (s : Int) + 1 := i64w (by omega) (by omega)
      have hlt2 : H.length < H'.length := (List.getElem?_eq_some_iff.1 hc).1
      have hst : storeAt H' H.length s [.int .i64 xs[s]] = some (H'.set H.length ⟨ints (xs.take (s + 1) ++ List.replicate (xs.length - (s + 1)) 0), true, true⟩) := by
        rw [storeAt_of hc rfl rfl (by simp only [ints_length, List.length_append, List.length_take, List.length_replicate, List.length_singleton]; omega) (by simp [Value.oneCell']), over_one (by simp only [ints_length, List.length_append, List.length_take, List.length_replicate]; omega), ints_set]
        congr 4
        rw [List.set_append_right _ _ (by simp; omega), List.length_take, Nat.min_eq_left hs, Nat.sub_self, show xs.length - s = (xs.length - (s + 1)) + 1 by omega, List.replicate_succ, List.set_cons_zero, List.take_succ_eq_append_getElem hlt, List.append_assoc]
        rfl
      simp (maxSteps := 1000000) [go_sem, hlt, c1, hst, hw_s]
      refine hK (s + 1) _ _ (by omega) (by simp [upF, Fr.get, Up.refl]) ⟨by omega, ?_, by rw [List.getElem?_set_self hlt2]⟩
      exact (show Same (fun j => j = H.length) H _ from (Same.of_prefix hp).trans Same.set).prefix (by omega)
    · have : s = xs.length := by omega
      subst this
      simp (maxSteps := 1000000) [go_sem]
      simp only [List.take_length, Nat.sub_self, List.replicate_zero, List.append_nil] at hc
      refine ⟨lv 1 H.length 0 xs.length, Up.ex (by omega) ?_, h H' _ H.length hp (Nat.le_refl _) ⟨rfl, .inr hc, by omega⟩⟩
      right
      rw [(Holds.cells ⟨true, hc⟩ (by rw [ints_length]; omega))]; rfl

/-- The numbers of some blocks, one behind the other. -/
def nums (bs : List Bk) : List Int := bs.flatMap fun b => [b.a, b.b, b.c]
theorem tri_nums (bs : List Bk) : tri bs = ints (nums bs) := by
  induction bs with
  | nil => rfl
  | cons b bs ih => rw [tri_cons, ih]; simp [nums, ints, Bk.cells]
theorem nums_length (bs : List Bk) : (nums bs).length = bs.length * 3 := by
  have := tri_length bs; rw [tri_nums, ints_length] at this; exact this

theorem mark_set {k : Int} {ys : List Int} {m : Nat} (h : m < ys.length) : (upFrom k m ++ ys.drop m).set m (k + m) = upFrom k (m + 1) ++ ys.drop (m + 1) := by
  rw [List.set_append_right _ _ (by rw [upFrom_length]; exact Nat.le_refl _), upFrom_length, Nat.sub_self, List.drop_eq_getElem_cons h, List.set_cons_zero, ← upFrom_append k m 1]
  simp [upFrom]

theorem mark_store {H : Heap} {i : Nat} {k : Int} {ys : List Int} {m : Nat} (hm : m < ys.length) (hb : H[i]? = some ⟨ints (upFrom k m ++ ys.drop m), true, true⟩) :
    storeAt H i m [.int .i64 (k + m)] = some (H.set i ⟨ints (upFrom k (m + 1) ++ ys.drop (m + 1)), true, true⟩) := by
  rw [storeAt_of hb rfl rfl (by simp only [ints_length, List.length_append, upFrom_length, List.length_drop, List.length_singleton]; omega) (by simp [Value.oneCell']), over_one (by simp only [ints_length, List.length_append, upFrom_length, List.length_drop]; omega), ints_set, mark_set hm]

theorem markBlockS_ok {H : Heap} {i : Nat} {k : Int} {bs : List Bk} (hu : bs = [] ∨ H[i]? = some ⟨tri bs, true, true⟩) (hl : bs.length ≤ 140737488355328) (hk0 : 0 ≤ k) (hk : k ≤ 1000000000) (Post : Value → Heap → Prop)
    (h : ∀ H', H'.length = H.length → Same (fun j => bs ≠ [] ∧ j = i) H H' → At H' i 0 (ints (upFrom k (bs.length * 3))) → Post (.int .i64 (k + (bs.length * 3 : Nat))) H') :
    ACalls Try.prog 60 [lv 3 i 0 bs.length, .int .i64 k] H Post := by
  refine acalls_vc (rs := [.tmp 4]) Try.func60 rfl rfl Try.ntmps60 rfl rfl ?_
  simp (maxSteps := 1000000) [go_sem]
  have hnl := nums_length bs
  refine AWp.loopVc (fun s : Nat => [(0, lv 3 i 0 bs.length), (1, .int .i64 (k + (s * 3 : Nat))), (5, .int .i64 s)])
    (fun s H' => s ≤ bs.length ∧ H'.length = H.length ∧ Same (fun j => bs ≠ [] ∧ j = i) H H' ∧ (bs ≠ [] → H'[i]? = some ⟨ints (upFrom k (s * 3) ++ (nums bs).drop (s * 3)), true, true⟩)) (fun s => bs.length - s) 0 ?_ ?_ ?_
  · simp [upF, Fr.get, Up.refl]
  · refine ⟨by omega, rfl, Same.refl _ _, fun hne => ?_⟩
    rw [hu.resolve_left hne, tri_nums]; simp [upFrom]
  · rintro K s H' ⟨hs, hlen, hsame, hc⟩ hK
    by_cases hlt : s < bs.length
    · have hne : bs ≠ [] := by rintro rfl; simp at hlt
      simp (maxSteps := 1000000) [go_sem, hlt]
      refine AWp.loopVc (fun t : Nat => [(0, lv 3 i 0 bs.length), (1, .int .i64 (k + (s * 3 + t : Nat))), (5, .int .i64 s), (6, .int .i64 t)])
        (fun t H2 => t ≤ 3 ∧ H2.length = H.length ∧ Same (fun j => bs ≠ [] ∧ j = i) H H2 ∧ H2[i]? = some ⟨ints (upFrom k (s * 3 + t) ++ (nums bs).drop (s * 3 + t)), true, true⟩) (fun t => 3 - t) 0 ?_ ?_ ?_
      · simp [upF, Fr.get, Up.refl]
      · exact ⟨by omega, hlen, hsame, hc hne⟩
      · rintro K2 t H2 ⟨ht, hlen2, hsame2, hc2⟩ hK2
        by_cases htl : t < 3
        · have htl' : (t : Int) < 3 := by omega
          have hw_t : IntKind.i64.wrap ((t : Int) + 1) = (t : Int) + 1 := i64w (by omega) (by omega)
          have hw2 : IntKind.i64.wrap (k + ((s : Int) * 3 + t) + 1) = k + (s * 3 + (t + 1)) := by rw [i64w (by omega) (by omega)]; omega
          have hst := mark_store (k := k) (ys := nums bs) (by omega) hc2
          have e1 : ((s * 3 + t : Nat) : Int) = s * 3 + t := by omega
          rw [e1] at hst
          simp (maxSteps := 1000000) [go_sem, hlt, htl, htl', hst, hw_t, hw2]
          refine hK2 (t + 1) _ _ (by omega) (by simp [upF, Fr.get, Up.refl]) ⟨by omega, by simp [hlen2], hsame2.trans ⟨by simp, fun j hj hjs => List.getElem?_set_ne (fun e => hjs ⟨hne, e.symm⟩)⟩, ?_⟩
          rw [List.getElem?_set_self (List.getElem?_eq_some_iff.1 hc2).1]; rfl
        · have : t = 3 := by omega
          subst this
          have hw_s : IntKind.i64.wrap ((s : Int) + 1) = (s : Int) + 1 := i64w (by omega) (by omega)
          simp (maxSteps := 1000000) [go_sem, hw_s]
          refine hK (s + 1) _ _ (by omega) ?_ ⟨by omega, hlen2, hsame2, fun _ => ?_⟩
          · have e : k + ((s : Int) * 3 + 3) = k + ((s : Int) + 1) * 3 := by omega
            simp [upF, Fr.get, Up.refl, e]
          · rw [Nat.add_mul]; exact hc2
    · have : s = bs.length := by omega
      subst this
      simp (maxSteps := 1000000) [go_sem]
      have := h H' hlen hsame ?_
      · simpa using this
      · by_cases hne : bs = []
        · subst hne; exact .inl rfl
        · have := hc hne
          rw [List.drop_eq_nil_of_le (by omega), List.append_nil] at this
          exact Holds.at ⟨true, this⟩

theorem heldBlockS_ok {H : Heap} {i o : Nat} {k : Int} {n : Nat} (hu : At H i o (ints (upFrom k (n * 3)))) (hl : n ≤ 140737488355328) (hk0 : 0 ≤ k) (hk : k ≤ 1000000000) (Post : Value → Heap → Prop) (h : Post (.int .i64 (k + (n * 3 : Nat))) H) :
    ACalls Try.prog 86 [lv 3 i o n, .int .i64 k] H Post := by
  refine acalls_vc (rs := [.tmp 4]) Try.func86 rfl rfl Try.ntmps86 rfl rfl ?_
  simp (maxSteps := 1000000) [go_sem]
  refine AWp.loopVc (fun s : Nat => [(0, lv 3 i o n), (1, .int .i64 (k + (s * 3 : Nat))), (5, .int .i64 s)])
    (fun s H' => s ≤ n ∧ H' = H) (fun s => n - s) 0 ?_ ?_ ?_
  · simp [upF, Fr.get, Up.refl]
  · simp
  · rintro K s H' ⟨hs, rfl⟩ hK
    by_cases hlt : s < n
    · simp (maxSteps := 1000000) [go_sem, hlt]
      refine AWp.loopVc (fun t : Nat => [(0, lv 3 i o n), (1, .int .i64 (k + (s * 3 + t : Nat))), (5, .int .i64 s), (6, .int .i64 t)])
        (fun t H2 => t ≤ 3 ∧ H2 = H') (fun t => 3 - t) 0 ?_ ?_ ?_
      · simp [upF, Fr.get, Up.refl]
      · simp
      · rintro K2 t H2 ⟨ht, rfl⟩ hK2
        by_cases htl : t < 3
        · have htl' : (t : Int) < 3 := by omega
          have hw_t : IntKind.i64.wrap ((t : Int) + 1) = (t : Int) + 1 := i64w (by omega) (by omega)
          have hw2 : IntKind.i64.wrap (k + ((s : Int) * 3 + t) + 1) = k + (s * 3 + (t + 1)) := by rw [i64w (by omega) (by omega)]; omega
          have c1 := hu.cell (k := s * 3 + t) (v := .int .i64 (k + (s * 3 + t : Nat))) (by rw [ints_get, upFrom_get (by omega)]; rfl)
          rw [← Nat.add_assoc] at c1
          have e1 : ((s * 3 + t : Nat) : Int) = s * 3 + t := by omega
          rw [e1] at c1
          simp (maxSteps := 1000000) [go_sem, hlt, htl, htl', c1, hw_t, hw2]
          exact hK2 (t + 1) _ _ (by omega) (by simp [upF, Fr.get, Up.refl]) ⟨by omega, rfl⟩
        · have : t = 3 := by omega
          subst this
          have hw_s : IntKind.i64.wrap ((s : Int) + 1) = (s : Int) + 1 := i64w (by omega) (by omega)
          simp (maxSteps := 1000000) [go_sem, hw_s]
          refine hK (s + 1) _ _ (by omega) ?_ ⟨by omega, rfl⟩
          have e : k + ((s : Int) * 3 + 3) = k + ((s : Int) + 1) * 3 := by omega
          simp [upF, Fr.get, Up.refl, e]
    · have : s = n := by omega
      subst this
      simp (maxSteps := 1000000) [go_sem]
      simpa using h

theorem markSystem_ok {H : Heap} {i : Nat} {p k : Int} {bs : List Bk} (hu : bs = [] ∨ H[i]? = some ⟨tri bs, true, true⟩) (hl : bs.length ≤ 140737488355328) (hk0 : 0 ≤ k) (hk : k ≤ 1000000000) (Post : Value → Heap → Prop)
    (h : ∀ H', Same (fun j => bs ≠ [] ∧ j = i) H H' → At H' i 0 (ints (upFrom k (bs.length * 3))) → Post (.int .i64 (k + (bs.length * 3 : Nat))) H') :
    ACalls Try.prog 27 [sysV p (lv 3 i 0 bs.length), .int .i64 k] H Post := by
  refine acalls_vc (rs := [.tmp 4]) Try.func27 rfl rfl Try.ntmps27 rfl rfl ?_
  simp (maxSteps := 1000000) [go_sem, sysV]
  refine markBlockS_ok ?_ hl hk0 hk _ ?_
  · exact hu.imp (fun h => h) fun hb => Same.get (S := fun _ => False) (Same.of_prefix (List.prefix_append _ _)) hb (fun h => h)
  intro H' _ hs ha
  simp (maxSteps := 1000000) [go_sem]
  have := h H' ((Same.of_prefix (List.prefix_append _ _)).trans hs) ha
  simpa using this

theorem heldSystem_ok {H : Heap} {i o : Nat} {p k : Int} {n : Nat} (hu : At H i o (ints (upFrom k (n * 3)))) (hl : n ≤ 140737488355328) (hk0 : 0 ≤ k) (hk : k ≤ 1000000000) (Post : Value → Heap → Prop) (h : ∀ H', H <+: H' → Post (.int .i64 (k + (n * 3 : Nat))) H') :
    ACalls Try.prog 28 [sysV p (lv 3 i o n), .int .i64 k] H Post := by
  refine acalls_vc (rs := [.tmp 4]) Try.func28 rfl rfl Try.ntmps28 rfl rfl ?_
  simp (maxSteps := 1000000) [go_sem, sysV]
  refine heldBlockS_ok (hu.pre (List.prefix_append _ _)) hl hk0 hk _ ?_
  have hneg : decide (k + (n * 3 : Nat) < 0) = false := by simp; omega
  have := h _ (List.prefix_append H [⟨[.int .i64 p, lv 3 i o n], true, true⟩])
  simp only [Int.natCast_mul, Int.cast_ofNat_Int] at this hneg ⊢
  simp (maxSteps := 1000000) [go_sem, hneg]
  exact this

end Go.Proofs.Ytdfeoccjllljiaa
end

section
/- The third point of two: both sides. -/
set_option linter.all false
set_option maxRecDepth 20000
namespace Go.Proofs.Ytdfeoccjllljiaa
open Go.Ab

theorem _root_.Go.Ab.IsSys.good {p : Int} {bs : List Bk} (h : IsSys p bs) : ∀ x ∈ bs, good p x = true := by
  intro x hx
  obtain ⟨k, hk⟩ := List.mem_iff_getElem?.1 hx
  exact (h.2.2.1 k x hk).1
theorem _root_.Go.Ab.IsSys.good15 {p : Int} {bs : List Bk} (h : IsSys p bs) : ∀ x ∈ bs, Ab.good 15 x = true := by
  intro x hx
  have := h.good x hx
  have := h.1
  rw [good_iff] at *
  omega
theorem sysB_of {p : Int} {bs : List Bk} (h : sysB p bs = true) : IsSys p bs := sysB_iff.1 h

/-- A point of a system. -/
def inP (p x : Int) : Bool := decide (0 ≤ x) && decide (x ≤ p - 1)
theorem inP_iff {p x : Int} : inP p x = true ↔ 0 ≤ x ∧ x ≤ p - 1 := by simp [inP]
theorem inP_false {p x : Int} : inP p x = false ↔ ¬ (0 ≤ x ∧ x ≤ p - 1) := by rw [← inP_iff]; simp

theorem l01With_ok {H : Heap} {b : Bk} {p : Int} (Post : Value → Heap → Prop) (h : ∀ H', H <+: H' → Post (.bool (b.has p)) H') :
    ACalls Try.prog 174 [b.val, .int .i64 p] H Post := by
  refine acalls_vc (rs := [.tmp 4]) Try.func174 rfl rfl Try.ntmps174 rfl rfl ?_
  obtain ⟨a, b, c⟩ := b
  have h := h _ (List.prefix_append H [⟨[.int .i64 a, .int .i64 b, .int .i64 c], true, true⟩])
  simp only [Bk.has] at h
  by_cases h1 : a = p
  · have e1 : (a == p) = true := by simpa using h1
    simp (maxSteps := 1000000) [go_sem, Bk.val, e1]
    simpa [h1] using h
  · have e1 : (a == p) = false := by simpa using h1
    by_cases h2 : b = p
    · have e2 : (b == p) = true := by simpa using h2
      simp (maxSteps := 1000000) [go_sem, Bk.val, e1, e2]
      simpa [h1, h2] using h
    · have e2 : (b == p) = false := by simpa using h2
      simp (maxSteps := 1000000) [go_sem, Bk.val, e1, e2]
      have e3 : (c == p) = decide (c = p) := rfl
      rw [e3]
      simpa [h1, h2] using h

theorem l01Third_ok {H : Heap} {u : Value} {p q r : Int} {bs : List Bk} (hu : BlocksAt H u bs) (hg : ∀ x ∈ bs, good 15 x = true) (Post : Value → Heap → Prop) (h : ∀ H', H <+: H' → Post (.int .i64 (third bs q r)) H') :
    ACalls Try.prog 141 [sysV p u, .int .i64 q, .int .i64 r] H Post := by
  obtain ⟨i, o, rfl, h1, h2⟩ := hu
  refine acalls_vc (rs := [.tmp 6]) Try.func141 rfl rfl Try.ntmps141 rfl rfl ?_
  simp (maxSteps := 1000000) [go_sem, sysV]
  have hx0 := Holds.last H [.int .i64 p, lv 3 i o bs.length]
  have hp0 : H <+: H ++ [⟨[.int .i64 p, lv 3 i o bs.length], true, true⟩] := List.prefix_append _ _
  generalize H ++ [(⟨[.int .i64 p, lv 3 i o bs.length], true, true⟩ : Blk)] = H0 at hx0 hp0 ⊢
  refine AWp.loopVc (fun s : Nat => [(1, .int .i64 q), (2, .int .i64 r), (3, .pointer (some ⟨H.length, 0, none⟩)), (7, .int .i64 s)])
    (fun s H' => s ≤ bs.length ∧ H0 <+: H' ∧ (bs.take s).find? (fun c => c.has q && c.has r) = none) (fun s => bs.length - s) 0 ?_ ?_ ?_
  · simp [upF, Fr.get, Up.refl]
  · exact ⟨by omega, List.prefix_refl _, by simp⟩
  · rintro K s H' ⟨hs, hp, hf⟩ hK
    obtain ⟨d0, d1, d2⟩ := (hx0.pre hp).sys
    by_cases hlt : s < bs.length
    · have hbs : bs[s]? = some bs[s] := List.getElem?_eq_getElem hlt
      have c1 := (h1.pre (hp0.trans hp)).bk hbs
      simp only [Bk.cells] at c1
      have hw_s : IntKind.i64.wrap ((s : Int) + 1) = (s : Int) + 1 := i64w (by omega) (by omega)
      have hsucc : (bs.take (s + 1)).find? (fun c => c.has q && c.has r) = if bs[s].has q && bs[s].has r then some bs[s] else none := by
        rw [List.take_succ_eq_append_getElem hlt, List.find?_append, hf, List.find?_cons]
        cases bs[s].has q && bs[s].has r <;> rfl
      simp (maxSteps := 1000000) [go_sem, hlt, d2, c1]
      have hb0 := Holds.last H' [.int .i64 bs[s].a, .int .i64 bs[s].b, .int .i64 bs[s].c]
      refine l01With_ok (b := bs[s]) _ ?_
      intro H2 hp2
      obtain ⟨e0, e1, e2, e3⟩ := (hb0.pre hp2).bk
      cases hq : bs[s].has q with
      | false =>
        simp (maxSteps := 1000000) [go_sem, hw_s]
        exact hK (s + 1) _ _ (by omega) (by simp [upF, Fr.get, Up.refl]) ⟨by omega, hp.trans (pre_box hp2), by rw [hsucc, hq]; rfl⟩
      | true =>
        simp (maxSteps := 1000000) [go_sem, e0]
        refine l01With_ok (b := bs[s]) _ ?_
        intro H3 hp3
        obtain ⟨f0, f1, f2, f3⟩ := (hb0.pre (hp2.trans hp3)).bk
        cases hr : bs[s].has r with
        | false =>
          simp (maxSteps := 1000000) [go_sem, hw_s]
          exact hK (s + 1) _ _ (by omega) (by simp [upF, Fr.get, Up.refl]) ⟨by omega, hp.trans ((pre_box hp2).trans hp3), by rw [hsucc, hq, hr]; rfl⟩
        | true =>
          have hgd := hg _ (List.mem_of_getElem? hbs)
          rw [good_iff] at hgd
          rw [Bk.has_iff] at hq hr
          have w1 : IntKind.i64.wrap (bs[s].a + bs[s].b) = bs[s].a + bs[s].b := i64w (by omega) (by omega)
          have w2 : IntKind.i64.wrap (bs[s].a + bs[s].b + bs[s].c) = bs[s].a + bs[s].b + bs[s].c := i64w (by omega) (by omega)
          have w3 : IntKind.i64.wrap (bs[s].a + bs[s].b + bs[s].c - q) = bs[s].a + bs[s].b + bs[s].c - q := i64w (by omega) (by omega)
          have w4 : IntKind.i64.wrap (bs[s].a + bs[s].b + bs[s].c - q - r) = bs[s].a + bs[s].b + bs[s].c - q - r := i64w (by omega) (by omega)
          simp (maxSteps := 1000000) [go_sem, f1, f2, f3, w1, w2, w3, w4]
          have := h H3 (hp0.trans (hp.trans ((pre_box hp2).trans hp3)))
          rw [← Bk.has_iff] at hq hr
          have ht : third bs q r = bs[s].a + bs[s].b + bs[s].c - q - r := by
            have e : bs = bs.take (s + 1) ++ bs.drop (s + 1) := (List.take_append_drop _ _).symm
            unfold third
            conv => lhs; rw [e]
            rw [List.find?_append, hsucc, hq, hr]; rfl
          rw [ht] at this; exact this
    · have : s = bs.length := by omega
      subst this
      rw [List.take_length] at hf
      simp (maxSteps := 1000000) [go_sem, d2]
      have := h H' (hp0.trans hp)
      unfold third at this
      rw [hf] at this; exact this

noncomputable def ptsCode (p : Int) (bs : List Bk) (xs : List Int) : Int := if sysB p bs then (if xs.all (inP p) then 0 else 2) else 1

noncomputable def pairCode (p : Int) (bs : List Bk) (a b : Int) : Int := if sysB p bs then (if inP p a && inP p b && !decide (a = b) then 0 else 2) else 1
noncomputable def rThird (p : Int) (bs : List Bk) (a b : Int) : Int × Int :=
  if pairCode p bs a b = 0 then (if third bs a b = -1 then (0, 4) else (third bs a b, 0)) else (0, pairCode p bs a b)

theorem pairCode_good {p : Int} {bs : List Bk} {a b : Int} (h : pairCode p bs a b = 0) : IsSys p bs ∧ (0 ≤ a ∧ a ≤ p - 1) ∧ (0 ≤ b ∧ b ≤ p - 1) ∧ a ≠ b := by
  unfold pairCode at h
  split at h
  · rename_i hs
    split at h
    · rename_i hc
      simp only [Bool.and_eq_true, Bool.not_eq_true', decide_eq_false_iff_not] at hc
      exact ⟨sysB_of hs, inP_iff.1 hc.1.1, inP_iff.1 hc.1.2, hc.2⟩
    · omega
  · omega

end Go.Proofs.Ytdfeoccjllljiaa
end

section
/- Ranges of numbers, and lists that a loop builds up over them. No program is in sight here. -/
set_option linter.all false
namespace Go.Ab

/-- The numbers from lo to below hi. -/
def upTo (lo hi : Nat) : List Nat := List.range' lo (hi - lo)
theorem upTo_succ {lo k : Nat} (h : lo ≤ k) : upTo lo (k + 1) = upTo lo k ++ [k] := by
  unfold upTo
  rw [show k + 1 - lo = (k - lo) + 1 by omega, List.range'_concat]
  congr 2; omega
theorem upTo_self {lo k : Nat} (h : k ≤ lo) : upTo lo k = [] := by
  unfold upTo; rw [show k - lo = 0 by omega]; rfl
theorem mem_upTo {lo hi k : Nat} : k ∈ upTo lo hi ↔ lo ≤ k ∧ k < hi := by
  unfold upTo; rw [List.mem_range'_1]; omega
theorem upTo_length (lo hi : Nat) : (upTo lo hi).length = hi - lo := by simp [upTo]

/-- All blocks of v points, in order. -/
def trip2 (v a b : Nat) (hi : Nat) : List Bk := (upTo (b + 1) hi).map fun c : Nat => ⟨a, b, c⟩
def trip1 (v a : Nat) (hi : Nat) : List Bk := (upTo (a + 1) hi).flatMap fun b => trip2 v a b v
def trip0 (v : Nat) (hi : Nat) : List Bk := (upTo 0 hi).flatMap fun a => trip1 v a v
def triples (v : Nat) : List Bk := trip0 v v

theorem trip2_succ {v a b k : Nat} (h : b + 1 ≤ k) : trip2 v a b (k + 1) = trip2 v a b k ++ [⟨a, b, k⟩] := by simp [trip2, upTo_succ h]
theorem trip1_succ {v a k : Nat} (h : a + 1 ≤ k) : trip1 v a (k + 1) = trip1 v a k ++ trip2 v a k v := by simp [trip1, upTo_succ h]
theorem trip0_succ {v k : Nat} : trip0 v (k + 1) = trip0 v k ++ trip1 v k v := by simp [trip0, upTo_succ (Nat.zero_le k)]
theorem trip2_start (v a b : Nat) : trip2 v a b (b + 1) = [] := by simp [trip2, upTo_self]
theorem trip1_start (v a : Nat) : trip1 v a (a + 1) = [] := by simp [trip1, upTo_self]
theorem trip0_start (v : Nat) : trip0 v 0 = [] := by simp [trip0, upTo_self]
theorem mem_triples {v : Nat} {b : Bk} (h : b ∈ triples v) : good v b = true ∧ ∃ x y z : Nat, b = ⟨x, y, z⟩ ∧ x < y ∧ y < z ∧ z < v := by
  simp only [triples, trip0, trip1, trip2, List.mem_flatMap, List.mem_map, mem_upTo] at h
  obtain ⟨x, h1, y, h2, z, h3, rfl⟩ := h
  refine ⟨?_, x, y, z, rfl, by omega, by omega, by omega⟩
  rw [good_iff]; simp only; omega

end Go.Ab
end

section
/- Degrees: both sides. -/
set_option linter.all false
set_option maxRecDepth 20000
namespace Go.Ab

/-- A list that a call builds, behind the memory H. -/
def Bl (e : Nat) (H H' : Heap) (id : Nat) (cs : List Value) (n : Nat) : Prop := H <+: H' ∧ OL e H' id cs n ∧ H.length ≤ id
theorem Bl.ghost (e : Nat) (H : Heap) : Bl e H (H ++ [⟨[], false, false⟩]) H.length [] 0 := ⟨List.prefix_append _ _, OL.ghost e H, Nat.le_refl _⟩
theorem Bl.nil (e : Nat) (H : Heap) : Bl e H (H ++ [⟨[], true, true⟩]) H.length [] 0 := ⟨List.prefix_append _ _, ⟨by simp, .inr (by simp)⟩, Nat.le_refl _⟩
theorem Bl.pre {e : Nat} {H H' H'' : Heap} {id n : Nat} {cs : List Value} (h : Bl e H H' id cs n) (hp : H' <+: H'') : Bl e H H'' id cs n :=
  ⟨h.1.trans hp, h.2.1.keep (S := fun _ => False) (Same.of_prefix hp) (fun h => h), h.2.2⟩
theorem Bl.push {e : Nat} {H H' : Heap} {id n : Nat} {cs xs : List Value} (h : Bl e H H' id cs n) (he : 0 < e) (hx : xs.length = e) :
    cellsAt (H' ++ [⟨xs, true, true⟩]) H'.length 0 e = some xs ∧ ∃ H3, appendH (H' ++ [⟨xs, true, true⟩]) e (lv e id 0 n) 1 xs = some (lv e (H'.length + 1) 0 (n + 1), H3) ∧ Bl e H H3 (H'.length + 1) (cs ++ xs) (n + 1) := by
  obtain ⟨h1, H3, h2, h3, h4, h5⟩ := h.2.1.push he hx
  refine ⟨h1, H3, h2, ((Same.of_prefix h.1).trans h4).prefix (by have := h.2.2; omega), h3, ?_⟩
  have := h.1.length_le
  omega

/-- The numbers of the blocks with a point. -/
def atL (bs : List Bk) (q : Int) : List Int := (bs.zipIdx.filter fun x => x.1.has q).map fun x => (x.2 : Int)
theorem atL_snoc (bs : List Bk) (b : Bk) (q : Int) : atL (bs ++ [b]) q = atL bs q ++ (if b.has q then [(bs.length : Int)] else []) := by
  unfold atL
  rw [List.zipIdx_append, List.filter_append, List.map_append]
  congr 1
  cases h : b.has q <;> simp [h]
theorem atL_length (bs : List Bk) (q : Int) : (atL bs q).length = bs.countP (·.has q) := by
  have key : ∀ (bs : List Bk) (k : Nat), ((bs.zipIdx k).filter fun x => x.1.has q).length = bs.countP (·.has q) := by
    intro bs
    induction bs with
    | nil => intro k; rfl
    | cons b bs ih => intro k; simp only [List.zipIdx_cons, List.filter_cons, List.countP_cons]; cases h : b.has q <;> simp [h, ih]
  rw [atL, List.length_map, key]
theorem atL_le (bs : List Bk) (q : Int) : (atL bs q).length ≤ bs.length := by rw [atL_length]; exact List.countP_le_length

def degrees (p : Nat) (bs : List Bk) : List Int := (List.range p).map fun q : Nat => ((bs.countP (·.has (q : Int)) : Nat) : Int)

/-- How often the first numbers are each point. -/
def tally (p : Nat) (xs : List Int) : List Int := (List.range p).map fun q : Nat => ((xs.count (q : Int) : Nat) : Int)
theorem tally_length (p : Nat) (xs : List Int) : (tally p xs).length = p := by simp [tally]
theorem tally_get {p : Nat} {xs : List Int} {q : Nat} (h : q < p) : (tally p xs)[q]? = some ((xs.count (q : Int) : Nat) : Int) := by simp [tally, h]
theorem tally_snoc {p : Nat} {xs : List Int} {x : Nat} : tally p (xs ++ [(x : Int)]) = (tally p xs).set x ((xs.count (x : Int) : Nat) + 1) := by
  apply List.ext_getElem?
  intro k
  rw [List.getElem?_set]
  by_cases hk : k < p
  · rw [tally_get hk]
    by_cases e : x = k
    · subst e
      rw [if_pos rfl, if_pos (by rw [tally_length]; exact hk), List.count_append]
      simp
    · rw [if_neg e, tally_get hk, List.count_append]
      have : ((x : Int) == (k : Int)) = false := by simp; omega
      simp [List.count_cons, this]
  · have h1 : (tally p (xs ++ [(x : Int)]))[k]? = none := List.getElem?_eq_none (by rw [tally_length]; omega)
    have h2 : (tally p xs)[k]? = none := List.getElem?_eq_none (by rw [tally_length]; omega)
    rw [h1, h2, tally_length]
    split
    · rw [if_neg (by omega)]
    · rfl
theorem tally_nil (p : Nat) : tally p [] = List.replicate p 0 := by
  apply List.ext_getElem?
  intro k
  by_cases hk : k < p
  · rw [tally_get hk, List.getElem?_replicate, if_pos hk]; simp
  · rw [List.getElem?_eq_none (by rw [tally_length]; omega), List.getElem?_eq_none (by rw [List.length_replicate]; omega)]

end Go.Ab
namespace Go.Proofs.Ytdfeoccjllljiaa
open Go.Ab

theorem nums_cons (b : Bk) (bs : List Bk) : nums (b :: bs) = [b.a, b.b, b.c] ++ nums bs := by simp [nums]
theorem nums_get : ∀ {bs : List Bk} {s t : Nat} {b : Bk}, bs[s]? = some b → t < 3 → (nums bs)[s * 3 + t]? = some (b.nth t)
  | [], s, t, b, h, _ => by simp at h
  | d :: bs, 0, t, b, h, ht => by
    simp at h; subst h
    rw [nums_cons, List.getElem?_append_left (by simp; omega)]
    have : t = 0 ∨ t = 1 ∨ t = 2 := by omega
    rcases this with rfl | rfl | rfl <;> rfl
  | d :: bs, s + 1, t, b, h, ht => by
    have := nums_get (bs := bs) (s := s) (b := b) (by simpa using h) ht
    rw [nums_cons, List.getElem?_append_right (by simp; omega), ← this]
    congr 1; simp; omega
theorem nums_count {v : Int} {q : Int} : ∀ {bs : List Bk}, (∀ x ∈ bs, good v x = true) → (nums bs).count q = bs.countP (·.has q)
  | [], _ => rfl
  | b :: bs, h => by
    rw [nums_cons, List.count_append, nums_count fun x hx => h x (List.mem_cons_of_mem _ hx), List.countP_cons]
    have hb := h b List.mem_cons_self
    rw [good_iff] at hb
    have e : [b.a, b.b, b.c].count q = if b.has q then 1 else 0 := by
      have h3 : b.has q = true ↔ (b.a = q ∨ b.b = q ∨ b.c = q) := Bk.has_iff
      simp only [List.count_cons, List.count_nil, beq_iff_eq]
      by_cases hh : b.has q = true
      · rw [if_pos hh]; rw [h3] at hh; split <;> split <;> split <;> omega
      · rw [if_neg hh]; rw [h3] at hh; split <;> split <;> split <;> omega
    rw [e]; omega
theorem tally_nums {p : Int} {bs : List Bk} (h : ∀ x ∈ bs, good p x = true) (n : Nat) : tally n (nums bs) = degrees n bs := by
  unfold tally degrees
  apply List.map_congr_left
  intro q _
  rw [nums_count h]

noncomputable def rDegrees (p : Int) (bs : List Bk) : List Int × Int := if sysB p bs then (degrees p.toNat bs, 0) else ([], 1)

end Go.Proofs.Ytdfeoccjllljiaa
end

section
/- Results that a call holds alone, told by the span of the blocks that they lie in; marks on them. -/
set_option linter.all false
set_option maxRecDepth 20000
namespace Go.Proofs.Ytdfeoccjllljiaa
open Go.Ab

/-- The blocks from a to below b. -/
def Span (a b : Nat) (j : Nat) : Prop := a ≤ j ∧ j < b

def IntsIn (a b : Nat) (H : Heap) (v : Value) (xs : List Int) : Prop := ∃ id, OwnInts H v id xs ∧ (xs ≠ [] → Span a b id)
def BlocksIn (a b : Nat) (H : Heap) (v : Value) (bs : List Bk) : Prop := ∃ id, OwnBlocks H v id bs ∧ (bs ≠ [] → Span a b id)
/-- A slice of numbers, marked from k on. -/
def MarkIn (e : Nat) (a b : Nat) (H : Heap) (v : Value) (k : Int) (n : Nat) : Prop := ∃ id, v = lv e id 0 n ∧ At H id 0 (ints (upFrom k (n * e))) ∧ n ≤ 140737488355328 ∧ (n ≠ 0 → Span a b id)

theorem OwnInts.inn {H H' : Heap} {v : Value} {id : Nat} {xs : List Int} (h : OwnInts H' v id xs) (hid : H.length ≤ id) : IntsIn H.length H'.length H' v xs :=
  ⟨id, h, fun hne => ⟨hid, (List.getElem?_eq_some_iff.1 (h.2.1.resolve_left hne)).1⟩⟩
theorem OwnBlocks.inn {H H' : Heap} {v : Value} {id : Nat} {bs : List Bk} (h : OwnBlocks H' v id bs) (hid : H.length ≤ id) : BlocksIn H.length H'.length H' v bs :=
  ⟨id, h, fun hne => ⟨hid, h.lt.resolve_left hne⟩⟩

theorem IntsIn.keep {a b : Nat} {H H' : Heap} {v : Value} {xs : List Int} (h : IntsIn a b H v xs) {S : Nat → Prop} (hs : Same S H H') (hd : ∀ j, Span a b j → ¬ S j) : IntsIn a b H' v xs := by
  obtain ⟨id, h1, h2⟩ := h
  by_cases hne : xs = []
  · subst hne; exact ⟨id, ⟨h1.1, .inl rfl, h1.2.2⟩, h2⟩
  · exact ⟨id, h1.keep hs (hd _ (h2 hne)), h2⟩
theorem BlocksIn.keep {a b : Nat} {H H' : Heap} {v : Value} {bs : List Bk} (h : BlocksIn a b H v bs) {S : Nat → Prop} (hs : Same S H H') (hd : ∀ j, Span a b j → ¬ S j) : BlocksIn a b H' v bs := by
  obtain ⟨id, h1, h2⟩ := h
  by_cases hne : bs = []
  · subst hne; exact ⟨id, ⟨h1.1, .inl rfl, h1.2.2⟩, h2⟩
  · exact ⟨id, OwnBlocks.keep h1 hs (hd _ (h2 hne)), h2⟩
theorem MarkIn.keep {e a b : Nat} {H H' : Heap} {v : Value} {k : Int} {n : Nat} (h : MarkIn e a b H v k n) {S : Nat → Prop} (hs : Same S H H') (hd : ∀ j, Span a b j → ¬ S j) : MarkIn e a b H' v k n := by
  obtain ⟨id, h1, h2, h3, h4⟩ := h
  refine ⟨id, h1, ?_, h3, h4⟩
  rcases h2 with h0 | h2
  · exact .inl h0
  · by_cases hn : n = 0
    · subst hn; left; simp [upFrom, ints]
    · right
      obtain ⟨blk, hb, hbl, hbn, he⟩ := cellsAt_inv h2
      rw [cellsAt_of (hs.get hb (hd _ (h4 hn))) hbl hbn, ← he]
theorem IntsIn.pre {a b : Nat} {H H' : Heap} (hp : H <+: H') {v : Value} {xs : List Int} (h : IntsIn a b H v xs) : IntsIn a b H' v xs := h.keep (S := fun _ => False) (Same.of_prefix hp) (fun _ _ h => h)
theorem BlocksIn.pre {a b : Nat} {H H' : Heap} (hp : H <+: H') {v : Value} {bs : List Bk} (h : BlocksIn a b H v bs) : BlocksIn a b H' v bs := h.keep (S := fun _ => False) (Same.of_prefix hp) (fun _ _ h => h)
theorem MarkIn.pre {e a b : Nat} {H H' : Heap} (hp : H <+: H') {v : Value} {k : Int} {n : Nat} (h : MarkIn e a b H v k n) : MarkIn e a b H' v k n := h.keep (S := fun _ => False) (Same.of_prefix hp) (fun _ _ h => h)
theorem IntsIn.read {a b : Nat} {H : Heap} {v : Value} {xs : List Int} (h : IntsIn a b H v xs) : IntsAt H v xs := by obtain ⟨id, h, _⟩ := h; exact h.read
theorem BlocksIn.read {a b : Nat} {H : Heap} {v : Value} {bs : List Bk} (h : BlocksIn a b H v bs) : BlocksAt H v bs := by obtain ⟨id, h, _⟩ := h; exact OwnBlocks.read h
theorem IntsIn.one {a b : Nat} {H : Heap} {v : Value} {xs : List Int} (h : IntsIn a b H v xs) : v.oneCell' = true := h.read.one
theorem BlocksIn.one {a b : Nat} {H : Heap} {v : Value} {bs : List Bk} (h : BlocksIn a b H v bs) : v.oneCell' = true := h.read.one
theorem IntsIn.nil (a b : Nat) (H : Heap) : IntsIn a b H (lv 1 0 0 0) [] := ⟨0, ⟨rfl, .inl rfl, by simp⟩, fun h => absurd rfl h⟩
theorem BlocksIn.nil (a b : Nat) (H : Heap) : BlocksIn a b H (lv 3 0 0 0) [] := ⟨0, ⟨rfl, .inl rfl, by simp⟩, fun h => absurd rfl h⟩
theorem IntsIn.wider {a b c : Nat} {H : Heap} {v : Value} {xs : List Int} (h : IntsIn a b H v xs) (hc : c ≤ a) : IntsIn c b H v xs := by
  obtain ⟨id, h1, h2⟩ := h; exact ⟨id, h1, fun hne => ⟨Nat.le_trans hc (h2 hne).1, (h2 hne).2⟩⟩
theorem BlocksIn.wider {a b c : Nat} {H : Heap} {v : Value} {bs : List Bk} (h : BlocksIn a b H v bs) (hc : c ≤ a) : BlocksIn c b H v bs := by
  obtain ⟨id, h1, h2⟩ := h; exact ⟨id, h1, fun hne => ⟨Nat.le_trans hc (h2 hne).1, (h2 hne).2⟩⟩

theorem markInts_ok {a b : Nat} {H : Heap} {v : Value} {xs : List Int} {k : Int} (h : IntsIn a b H v xs) (hk0 : 0 ≤ k) (hk : k ≤ 1000000000) (Post : Value → Heap → Prop)
    (hP : ∀ H', Same (Span a b) H H' → MarkIn 1 a b H' v k xs.length → Post (.int .i64 (k + xs.length)) H') : ACalls Try.prog 44 [v, .int .i64 k] H Post := by
  obtain ⟨id, ⟨rfl, h1, h2⟩, h3⟩ := h
  refine markInt64S_ok h1 h2 hk0 (by omega) _ (hP _ ?_ ⟨id, rfl, ?_, h2, fun hn => h3 (by rintro rfl; simp at hn)⟩)
  · refine ⟨by unfold setInts; split <;> simp, fun j hj hS => ?_⟩
    by_cases hne : xs = []
    · subst hne; simp [setInts, upFrom]
    · exact setInts_get (fun e => hS (e ▸ h3 hne))
  · rw [Nat.mul_one]
    by_cases hne : xs = []
    · subst hne; left; simp [upFrom, ints]
    · have hb := h1.resolve_left hne
      unfold setInts
      rw [if_neg (by intro e; have := congrArg List.length e; rw [upFrom_length] at this; exact hne (List.eq_nil_of_length_eq_zero this))]
      exact Holds.at ⟨true, by rw [List.getElem?_set_self (List.getElem?_eq_some_iff.1 hb).1]⟩
theorem heldInts_ok {a b : Nat} {H : Heap} {v : Value} {n : Nat} {k : Int} (h : MarkIn 1 a b H v k n) (hk0 : 0 ≤ k) (hk : k ≤ 1000000000) (Post : Value → Heap → Prop)
    (hP : Post (.int .i64 (k + n)) H) : ACalls Try.prog 45 [v, .int .i64 k] H Post := by
  obtain ⟨id, rfl, h1, h2, h3⟩ := h
  rw [Nat.mul_one] at h1
  exact heldInt64S_ok (n := n) ⟨id, 0, by rw [upFrom_length], h1, by rw [upFrom_length]; exact h2⟩ hk0 (by omega) _ hP
theorem markBlocks_ok {a b : Nat} {H : Heap} {v : Value} {bs : List Bk} {k : Int} (h : BlocksIn a b H v bs) (hk0 : 0 ≤ k) (hk : k ≤ 1000000000) (Post : Value → Heap → Prop)
    (hP : ∀ H', Same (Span a b) H H' → MarkIn 3 a b H' v k bs.length → Post (.int .i64 (k + (bs.length * 3 : Nat))) H') : ACalls Try.prog 60 [v, .int .i64 k] H Post := by
  obtain ⟨id, ⟨rfl, h1, h2⟩, h3⟩ := h
  refine markBlockS_ok h1 h2 hk0 hk _ fun H' _ hs ha => hP H' (hs.mono fun j _ ⟨hne, e⟩ => e ▸ h3 hne) ⟨id, rfl, ha, h2, fun hn => h3 (by rintro rfl; simp at hn)⟩
theorem heldBlocks_ok {a b : Nat} {H : Heap} {v : Value} {n : Nat} {k : Int} (h : MarkIn 3 a b H v k n) (hk0 : 0 ≤ k) (hk : k ≤ 1000000000) (Post : Value → Heap → Prop)
    (hP : Post (.int .i64 (k + (n * 3 : Nat))) H) : ACalls Try.prog 86 [v, .int .i64 k] H Post := by
  obtain ⟨id, rfl, h1, h2, h3⟩ := h
  exact heldBlockS_ok h1 h2 hk0 hk _ hP
theorem markSys_ok {a b : Nat} {H : Heap} {v : Value} {p : Int} {bs : List Bk} {k : Int} (h : BlocksIn a b H v bs) (hk0 : 0 ≤ k) (hk : k ≤ 1000000000) (Post : Value → Heap → Prop)
    (hP : ∀ H', Same (Span a b) H H' → MarkIn 3 a b H' v k bs.length → Post (.int .i64 (k + (bs.length * 3 : Nat))) H') : ACalls Try.prog 27 [sysV p v, .int .i64 k] H Post := by
  obtain ⟨id, ⟨rfl, h1, h2⟩, h3⟩ := h
  refine markSystem_ok h1 h2 hk0 hk _ fun H' hs ha => hP H' (hs.mono fun j _ ⟨hne, e⟩ => e ▸ h3 hne) ⟨id, rfl, ha, h2, fun hn => h3 (by rintro rfl; simp at hn)⟩
theorem heldSys_ok {a b : Nat} {H : Heap} {v : Value} {p : Int} {n : Nat} {k : Int} (h : MarkIn 3 a b H v k n) (hk0 : 0 ≤ k) (hk : k ≤ 1000000000) (Post : Value → Heap → Prop)
    (hP : ∀ H', H <+: H' → Post (.int .i64 (k + (n * 3 : Nat))) H') : ACalls Try.prog 28 [sysV p v, .int .i64 k] H Post := by
  obtain ⟨id, rfl, h1, h2, h3⟩ := h
  exact heldSystem_ok h1 h2 hk0 hk _ hP

/-- Copies of arguments. -/
theorem toSys_ok {H : Heap} {u : Value} {p : Int} {bs : List Bk} (hu : BlocksAt H u bs) (hb : bs.length ≤ 1048576) (Post : Value → Heap → Prop) (h : ∀ H' v, H <+: H' → BlocksIn H.length H'.length H' v bs → Post (sysV p v) H') :
    ACalls Try.prog 24 [sysV p u] H Post := toSystem_ok hu Post hb fun H' v id hp hid ho => h H' v hp (OwnBlocks.inn ho hid)
theorem toInts_ok {H : Heap} {u : Value} {xs : List Int} (hu : IntsAt H u xs) (hb : xs.length ≤ 1048576) (Post : Value → Heap → Prop) (h : ∀ H' v, H <+: H' → IntsIn H.length H'.length H' v xs → Post v H') :
    ACalls Try.prog 64 [u] H Post := toInt64S_ok hu Post hb fun H' v id hp hid ho => h H' v hp (OwnInts.inn ho hid)

end Go.Proofs.Ytdfeoccjllljiaa
end

section
/- Common blocks: both sides. -/
set_option linter.all false
set_option maxRecDepth 20000
namespace Go.Proofs.Ytdfeoccjllljiaa
open Go.Ab

theorem infoInt : (Try.prog.info? 2).map (·.size) = some 1 := by kernel_rfl
theorem intsOf3 (a b c : Int) : intsOf .i64 [.int .i64 a, .int .i64 b, .int .i64 c] = some [a, b, c] := by simp [intsOf]
attribute [go_sem] infoInt intsOf3

theorem Bk.eq3 (b d : Bk) : b = d ↔ b.a = d.a ∧ b.b = d.b ∧ b.c = d.c := by
  obtain ⟨b1, b2, b3⟩ := b; obtain ⟨d1, d2, d3⟩ := d; simp

/-- Membership, as a Boolean. -/
def memB (bs : List Bk) (b : Bk) : Bool := decide (b ∈ bs)

/-- Where a thing stands first in a list, or -1. -/
def IdxIs {α : Type} (xs : List α) (x : α) (n : Int) : Prop := (n = -1 ∧ x ∉ xs) ∨ ∃ s : Nat, n = s ∧ xs[s]? = some x ∧ x ∉ xs.take s

theorem IdxIs.pos {α : Type} {xs : List α} {x : α} {n : Int} (h : IdxIs xs x n) : 0 ≤ n ↔ x ∈ xs := by
  rcases h with ⟨rfl, h⟩ | ⟨s, rfl, h, _⟩
  · constructor
    · intro hh; omega
    · intro hh; exact absurd hh h
  · exact ⟨fun _ => List.mem_of_getElem? h, fun _ => by omega⟩

theorem slicesIndexB_ok {H : Heap} {u : Value} {bs : List Bk} {b : Bk} (hu : BlocksAt H u bs) (Post : Value → Heap → Prop) (h : ∀ H' n, H <+: H' → IdxIs bs b n → Post (.int .i64 n) H') :
    ACalls Try.prog 176 [u, b.val] H Post := by
  obtain ⟨i, o, rfl, h1, h2⟩ := hu
  refine acalls_vc (rs := [.tmp 4]) Try.func176 rfl rfl Try.ntmps176 rfl rfl ?_
  simp (maxSteps := 1000000) [go_sem, Bk.val]
  have hp0 : H <+: H ++ [⟨[.int .i64 b.a, .int .i64 b.b, .int .i64 b.c], true, true⟩] := List.prefix_append _ _
  have hx0 := Holds.last H [.int .i64 b.a, .int .i64 b.b, .int .i64 b.c]
  generalize H ++ [(⟨[.int .i64 b.a, .int .i64 b.b, .int .i64 b.c], true, true⟩ : Blk)] = H0 at hp0 hx0 ⊢
  obtain ⟨e0, e1, e2, e3⟩ := hx0.bk
  refine AWp.loopVc (fun s : Nat => [(0, lv 3 i o bs.length), (3, .pointer (some ⟨H.length, 0, none⟩)), (7, .int .i64 bs.length), (8, .int .i64 s)])
    (fun s H' => s ≤ bs.length ∧ H' = H0 ∧ b ∉ bs.take s) (fun s => bs.length - s) 0 ?_ ?_ ?_
  · simp [upF, Fr.get, Up.refl]
  · exact ⟨by omega, rfl, by simp⟩
  · rintro K s H' ⟨hs, rfl, hf⟩ hK
    by_cases hlt : s < bs.length
    · have hbs : bs[s]? = some bs[s] := List.getElem?_eq_getElem hlt
      have c1 := (h1.pre hp0).bk hbs
      simp only [Bk.cells] at c1
      have hw_s : IntKind.i64.wrap ((s : Int) + 1) = (s : Int) + 1 := i64w (by omega) (by omega)
      simp (maxSteps := 1000000) [go_sem, hlt]
      refine AWp.draw mixed [(0, false), (1, false), (2, false), (3, false), (4, false), (5, false)] (by kernel_rfl) ?_
      simp (maxSteps := 1000000) [go_sem, hlt, c1, e0, hw_s]
      refine condK_intro (fun hh => ?_) (fun hh => ?_)
      · have he : b = bs[s] := (Bk.eq3 _ _).2 (by simpa using hh)
        exact h H' s hp0 (.inr ⟨s, rfl, by rw [hbs, ← he], hf⟩)
      · have he : b ≠ bs[s] := fun e => by have := (Bk.eq3 _ _).1 e; simp [this.1, this.2.1, this.2.2] at hh
        refine hK (s + 1) _ _ (by omega) (by simp [upF, Fr.get, Up.refl]) ⟨by omega, rfl, ?_⟩
        rw [List.take_succ_eq_append_getElem hlt, List.mem_append]
        rintro (hh | hh)
        · exact hf hh
        · simp at hh; exact he hh
    · have : s = bs.length := by omega
      subst this
      rw [List.take_length] at hf
      simp (maxSteps := 1000000) [go_sem]
      exact h H' (-1) hp0 (.inl ⟨rfl, hf⟩)

theorem slicesContainsB_ok {H : Heap} {u : Value} {bs : List Bk} {b : Bk} (hu : BlocksAt H u bs) (Post : Value → Heap → Prop) (h : ∀ H', H <+: H' → Post (.bool (memB bs b)) H') :
    ACalls Try.prog 145 [u, b.val] H Post := by
  refine acalls_vc (rs := [.tmp 4]) Try.func145 rfl rfl Try.ntmps145 rfl rfl ?_
  simp (maxSteps := 1000000) [go_sem, Bk.val]
  have hp0 : H <+: H ++ [⟨[.int .i64 b.a, .int .i64 b.b, .int .i64 b.c], true, true⟩] := List.prefix_append _ _
  refine slicesIndexB_ok (b := b) (hu.pre hp0) _ ?_
  intro H' n hp hn
  have e : decide (0 ≤ n) = memB bs b := by simp only [memB, hn.pos]
  simp (maxSteps := 1000000) [go_sem, e]
  exact h H' (hp0.trans hp)

noncomputable def rCommon (p : Int) (xs : List Bk) (q : Int) (ys : List Bk) : List Bk × Int :=
  if sysB p xs && sysB q ys then (if p = q then (xs.filter (memB ys), 0) else ([], 2)) else ([], 1)

theorem implCommon_ok {H : Heap} {u v : Value} {xs ys : List Bk} (hu : BlocksAt H u xs) (hv : BlocksAt H v ys) (hl : xs.length ≤ 1048576) (Post : Value → Heap → Prop)
    (h : ∀ H' w, H <+: H' → BlocksIn H.length H'.length H' w (xs.filter (memB ys)) → Post w H') :
    ACalls Try.prog 136 [u, v] H Post := by
  obtain ⟨i, o, rfl, h1, h2⟩ := hu
  refine ACalls.res ?_
  refine acalls_vc (rs := [.tmp 4]) Try.func136 rfl rfl Try.ntmps136 rfl rfl ?_
  simp (maxSteps := 1000000) [go_sem]
  refine AWp.addGhost ?_
  have hb0 := Bl.ghost 3 H
  generalize H ++ [(⟨[], false, false⟩ : Blk)] = H0 at hb0 ⊢
  refine AWp.loopVc (St := Nat × Nat) (fun s => [(1, v), (5, lv 3 s.2 0 ((xs.take s.1).filter (memB ys)).length), (8, lv 3 i o xs.length), (9, .int .i64 xs.length), (10, .int .i64 s.1)])
    (fun s H' => s.1 ≤ xs.length ∧ Bl 3 H H' s.2 (tri ((xs.take s.1).filter (memB ys))) ((xs.take s.1).filter (memB ys)).length) (fun s => xs.length - s.1) (0, H.length) ?_ ?_ ?_
  · simp [upF, Fr.get, Up.refl, Up.nil]
  · exact ⟨by simp, by simpa [tri] using hb0⟩
  · rintro K ⟨s, id⟩ H' ⟨hs, hbl⟩ hK
    simp only at hs hbl
    by_cases hlt : s < xs.length
    · have hbs : xs[s]? = some xs[s] := List.getElem?_eq_getElem hlt
      have c1 := (h1.pre hbl.1).bk hbs
      simp only [Bk.cells] at c1
      have hw_s : IntKind.i64.wrap ((s : Int) + 1) = (s : Int) + 1 := i64w (by omega) (by omega)
      have hle : ((xs.take s).filter (memB ys)).length ≤ s := Nat.le_trans (List.length_filter_le _ _) (by simp; omega)
      simp (maxSteps := 1000000) [go_sem, hlt, c1]
      have hpb : H' <+: H' ++ [⟨[.int .i64 xs[s].a, .int .i64 xs[s].b, .int .i64 xs[s].c], true, true⟩] := List.prefix_append _ _
      have hx0 := Holds.last H' [.int .i64 xs[s].a, .int .i64 xs[s].b, .int .i64 xs[s].c]
      refine slicesContainsB_ok (b := xs[s]) (hv.pre (hbl.1.trans hpb)) _ ?_
      intro H2 hp2
      obtain ⟨e0, _⟩ := (hx0.pre hp2).bk
      have hbl2 := (hbl.pre hpb).pre hp2
      cases hm : memB ys xs[s] with
      | false =>
        have hsn : (xs.take (s + 1)).filter (memB ys) = (xs.take s).filter (memB ys) := by rw [List.take_succ_eq_append_getElem hlt, List.filter_append]; simp [hm]
        simp (maxSteps := 1000000) [go_sem, hw_s]
        exact hK (s + 1, id) _ _ (by simp only; omega) (by simp [upF, Fr.get, Up.refl, hsn]) ⟨by simp only; omega, by simp only [hsn]; exact hbl2⟩
      | true =>
        have hsn : (xs.take (s + 1)).filter (memB ys) = (xs.take s).filter (memB ys) ++ [xs[s]] := by rw [List.take_succ_eq_append_getElem hlt, List.filter_append]; simp [hm]
        obtain ⟨hsrc, H3, hap, hbl3⟩ := hbl2.push (xs := xs[s].cells) (by omega) rfl
        simp only [Bk.cells] at hsrc hap hbl3
        simp (maxSteps := 1000000) [go_sem, hw_s, e0, hsrc, hap]
        refine andK_intro (by omega) (hK (s + 1, H2.length + 1) _ _ (by simp only; omega) (by simp [upF, Fr.get, Up.refl, hsn]) ⟨by simp only; omega, ?_⟩)
        simp only [hsn, List.length_append, List.length_singleton, tri_append, tri_one, Bk.cells]
        exact hbl3
    · have : s = xs.length := by omega
      subst this
      rw [List.take_length] at hbl
      simp (maxSteps := 1000000) [go_sem]
      have hle : (xs.filter (memB ys)).length ≤ xs.length := List.length_filter_le _ _
      exact ⟨_, Up.refl _ _, h H' _ hbl.1 (OwnBlocks.inn (OwnBlocks.of_ol hbl.2.1 (by omega)) hbl.2.2)⟩

end Go.Proofs.Ytdfeoccjllljiaa
end

section
/- Free blocks: both sides. -/
set_option linter.all false
set_option maxRecDepth 20000
namespace Go.Proofs.Ytdfeoccjllljiaa
open Go.Ab

/-- A function value that tells of blocks, with what it bears. -/
def TellsB (g : FuncId) (fs bs : List Value) (Q : Bk → Prop) (P : Bk → Bool) (H : Heap) : Prop :=
  ∀ (H' : Heap) (b : Bk) (Post : Value → Heap → Prop), H <+: H' → Q b → (∀ H'', H' <+: H'' → Post (.bool (P b)) H'') → ACalls Try.prog g (fs ++ b.val :: bs) H' Post

theorem triples_ok {H : Heap} {v : Nat} {g : FuncId} {fs bs : List Value} {P : Bk → Bool} (hv : v ≤ 15) (hf : TellsB g fs bs (fun b => b ∈ triples v) P H) (Post : Value → Heap → Prop)
    (h : ∀ H' w, H <+: H' → BlocksIn H.length H'.length H' w ((triples v).filter P) → Post w H') :
    ACalls Try.prog 83 [.int .i64 v, .func (.func g) fs.toArray bs.toArray] H Post := by
  refine ACalls.res ?_
  refine acalls_vc (rs := [.tmp 4]) Try.func83 rfl rfl Try.ntmps83 rfl rfl ?_
  simp (maxSteps := 1000000) [go_sem]
  refine AWp.addGhost ?_
  have hb0 := Bl.ghost 3 H
  generalize H ++ [(⟨[], false, false⟩ : Blk)] = H0 at hb0 ⊢
  have hmem : ∀ {a b c : Nat}, a < b → b < c → c < v → (⟨a, b, c⟩ : Bk) ∈ triples v := by
    intro a b c h1 h2 h3
    simp only [triples, trip0, trip1, trip2, List.mem_flatMap, List.mem_map, mem_upTo]
    exact ⟨a, by omega, b, by omega, c, by omega, rfl⟩
  have hle2 : ∀ a b k : Nat, (trip2 v a b k).length ≤ k := by intro a b k; rw [trip2, List.length_map, upTo_length]; omega
  have hle1 : ∀ a k : Nat, (trip1 v a k).length ≤ k * 15 := by
    intro a k
    induction k with
    | zero => simp [trip1, upTo_self]
    | succ k ih =>
      by_cases hak : a + 1 ≤ k
      · rw [trip1_succ hak, List.length_append]; have := hle2 a k v; omega
      · have : trip1 v a (k + 1) = [] := by unfold trip1; rw [upTo_self (by omega)]; rfl
        rw [this]; simp
  have hle0 : ∀ k : Nat, k ≤ 15 → (trip0 v k).length ≤ k * 225 := by
    intro k hk
    induction k with
    | zero => simp [trip0, upTo_self]
    | succ k ih => rw [trip0_succ, List.length_append]; have := ih (by omega); have := hle1 k v; omega
  -- a list that grows
  refine AWp.loopVc (St := Nat × Nat × List Bk) (fun s => [(0, .int .i64 v), (1, .func (.func g) fs.toArray bs.toArray), (5, lv 3 s.2.1 0 s.2.2.length), (9, .int .i64 v), (10, .int .i64 s.1)])
    (fun s H' => s.1 ≤ v ∧ s.2.2 = (trip0 v s.1).filter P ∧ Bl 3 H H' s.2.1 (tri s.2.2) s.2.2.length) (fun s => v - s.1) (0, H.length, []) ?_ ?_ ?_
  · simp [upF, Fr.get, Up.refl, Up.nil]
  · exact ⟨by simp, by simp [trip0_start], by simpa [tri] using hb0⟩
  · rintro K ⟨a, id, acc⟩ H' ⟨ha, hacc, hbl⟩ hK
    simp only at ha hacc hbl
    by_cases hlt : a < v
    · have hw_a : IntKind.i64.wrap ((a : Int) + 1) = (a : Int) + 1 := i64w (by omega) (by omega)
      simp (maxSteps := 1000000) [go_sem, hlt, hw_a]
      refine AWp.loopVc (St := Nat × Nat × List Bk) (fun s => [(0, .int .i64 v), (1, .func (.func g) fs.toArray bs.toArray), (5, lv 3 s.2.1 0 s.2.2.length), (6, .int .i64 a), (7, .int .i64 s.1), (9, .int .i64 v), (10, .int .i64 a)])
        (fun s H' => a + 1 ≤ s.1 ∧ s.1 ≤ v ∧ s.2.2 = (trip0 v a ++ trip1 v a s.1).filter P ∧ Bl 3 H H' s.2.1 (tri s.2.2) s.2.2.length) (fun s => v - s.1) (a + 1, id, acc) ?_ ?_ ?_
      · simp [upF, Fr.get, Up.refl]
      · exact ⟨by simp, by simp only; omega, by simp [trip1_start, hacc], hbl⟩
      · rintro K2 ⟨b, id2, acc2⟩ H2 ⟨hab, hb, hacc2, hbl2⟩ hK2
        simp only at hab hb hacc2 hbl2
        by_cases hlt2 : b < v
        · have hw_b : IntKind.i64.wrap ((b : Int) + 1) = (b : Int) + 1 := i64w (by omega) (by omega)
          simp (maxSteps := 1000000) [go_sem, hlt2, hw_b]
          refine AWp.loopVc (St := Nat × Nat × List Bk) (fun s => [(0, .int .i64 v), (1, .func (.func g) fs.toArray bs.toArray), (5, lv 3 s.2.1 0 s.2.2.length), (6, .int .i64 a), (7, .int .i64 b), (8, .int .i64 s.1), (9, .int .i64 v), (10, .int .i64 a)])
            (fun s H' => b + 1 ≤ s.1 ∧ s.1 ≤ v ∧ s.2.2 = (trip0 v a ++ trip1 v a b ++ trip2 v a b s.1).filter P ∧ Bl 3 H H' s.2.1 (tri s.2.2) s.2.2.length) (fun s => v - s.1) (b + 1, id2, acc2) ?_ ?_ ?_
          · simp [upF, Fr.get, Up.refl]
          · exact ⟨by simp, by simp only; omega, by simp [trip2_start, hacc2], hbl2⟩
          · rintro K3 ⟨c, id3, acc3⟩ H3 ⟨hbc, hc, hacc3, hbl3⟩ hK3
            simp only at hbc hc hacc3 hbl3
            by_cases hlt3 : c < v
            · have hw_c : IntKind.i64.wrap ((c : Int) + 1) = (c : Int) + 1 := i64w (by omega) (by omega)
              have hlen : acc3.length ≤ 10000 := by
                rw [hacc3]
                refine Nat.le_trans (List.length_filter_le _ _) ?_
                simp only [List.length_append]
                have := hle0 a (by omega); have := hle1 a b; have := hle2 a b c
                omega
              simp (maxSteps := 1000000) [go_sem, hlt3]
              refine hf H3 ⟨a, b, c⟩ _ hbl3.1 (hmem (by omega) (by omega) hlt3) ?_
              intro H4 hp4
              have hbl4 := hbl3.pre hp4
              have hsn : ∀ l : List Bk, (l ++ trip2 v a b (c + 1)).filter P = (l ++ trip2 v a b c).filter P ++ (if P ⟨a, b, c⟩ then [⟨a, b, c⟩] else []) := by
                intro l
                rw [trip2_succ hbc, ← List.append_assoc, List.filter_append (_ ++ _)]
                congr 1
                cases hP : P ⟨a, b, c⟩ <;> simp [hP]
              cases hP : P ⟨a, b, c⟩ with
              | false =>
                simp (maxSteps := 1000000) [go_sem, hw_c]
                exact hK3 (c + 1, id3, acc3) _ _ (by simp only; omega) (by simp [upF, Fr.get, Up.refl]) ⟨by simp only; omega, by simp only; omega, by simp only [hsn, hP, hacc3]; simp, hbl4⟩
              | true =>
                obtain ⟨hsrc, H5, hap, hbl5⟩ := hbl4.push (xs := (⟨a, b, c⟩ : Bk).cells) (by omega) rfl
                simp only [Bk.cells] at hsrc hap hbl5
                simp (maxSteps := 1000000) [go_sem, hw_c, hsrc, hap]
                refine andK_intro (by omega) (hK3 (c + 1, H4.length + 1, acc3 ++ [⟨a, b, c⟩]) _ _ (by simp only; omega) (by simp [upF, Fr.get, Up.refl]) ⟨by simp only; omega, by simp only; omega, by simp only [hsn, hP, hacc3]; simp, ?_⟩)
                simp only [List.length_append, List.length_singleton, tri_append, tri_one, Bk.cells]
                exact hbl5
            · have : c = v := by omega
              subst this
              simp (maxSteps := 1000000) [go_sem, hw_b]
              exact hK2 (b + 1, id3, acc3) _ _ (by simp only; omega) (by simp [upF, Fr.get, Up.refl]) ⟨by simp only; omega, by simp only; omega, by simp only [trip1_succ hab, ← List.append_assoc]; exact hacc3, hbl3⟩
        · have : b = v := by omega
          subst this
          simp (maxSteps := 1000000) [go_sem, hw_a]
          exact hK (a + 1, id2, acc2) _ _ (by simp only; omega) (by simp [upF, Fr.get, Up.refl]) ⟨by simp only; omega, by simp only [trip0_succ]; exact hacc2, hbl2⟩
    · have : a = v := by omega
      subst this
      simp (maxSteps := 1000000) [go_sem]
      have hlen : acc.length ≤ 10000 := by
        rw [hacc]
        refine Nat.le_trans (List.length_filter_le _ _) ?_
        have := hle0 a (by omega)
        omega
      refine ⟨_, Up.refl _ _, h H' _ hbl.1 ?_⟩
      have := OwnBlocks.inn (OwnBlocks.of_ol hbl.2.1 (by omega)) hbl.2.2
      rw [hacc] at this
      rw [hacc]
      exact this

noncomputable def rFree (p : Int) (bs : List Bk) : List Bk × Int := if sysB p bs then ((triples p.toNat).filter (leftB bs), 0) else ([], 1)

end Go.Proofs.Ytdfeoccjllljiaa
end

section
/- Free blocks, the specification's side. -/
set_option linter.all false
set_option maxRecDepth 20000
namespace Go.Proofs.Ytdfeoccjllljiaa
open Go.Ab

theorem trip_mem {v a b c : Nat} (h1 : a < b) (h2 : b < c) (h3 : c < v) : (⟨a, b, c⟩ : Bk) ∈ triples v := by
  simp only [triples, trip0, trip1, trip2, List.mem_flatMap, List.mem_map, mem_upTo]
  exact ⟨a, by omega, b, by omega, c, by omega, rfl⟩
theorem trip2_len (v a b k : Nat) : (trip2 v a b k).length ≤ k := by rw [trip2, List.length_map, upTo_length]; omega
theorem trip1_len {v : Nat} (hv : v ≤ 15) (a k : Nat) : (trip1 v a k).length ≤ k * 15 := by
  induction k with
  | zero => simp [trip1, upTo_self]
  | succ k ih =>
    by_cases hak : a + 1 ≤ k
    · rw [trip1_succ hak, List.length_append]; have := trip2_len v a k v; omega
    · have : trip1 v a (k + 1) = [] := by unfold trip1; rw [upTo_self (by omega)]; rfl
      rw [this]; simp
theorem trip0_len {v : Nat} (hv : v ≤ 15) (k : Nat) : (trip0 v k).length ≤ k * 225 := by
  induction k with
  | zero => simp [trip0, upTo_self]
  | succ k ih => rw [trip0_succ, List.length_append]; have := trip1_len hv k v; omega
theorem trip_snoc {v a b c : Nat} (h : b + 1 ≤ c) (P : Bk → Bool) (l : List Bk) : (l ++ trip2 v a b (c + 1)).filter P = (l ++ trip2 v a b c).filter P ++ (if P ⟨a, b, c⟩ then [⟨a, b, c⟩] else []) := by
  rw [trip2_succ h, ← List.append_assoc, List.filter_append (_ ++ _)]
  congr 1
  cases hP : P ⟨a, b, c⟩ <;> simp [hP]

end Go.Proofs.Ytdfeoccjllljiaa
end

section
/- Regions whose order is open, where old blocks alone are read: what stands from L on may be changed. No statement of the seat is proved here; it holds for every program. -/
set_option linter.all false
namespace Go.Ab
open Go.RowKit (Below)

/-- The block that a value leads to. -/
def blkOf : Value → Option Nat
  | .pointer (some ⟨i, _, _⟩) => some i
  | .slice (some ⟨i, _, _⟩) _ _ => some i
  | _ => none
/-- The block that an operation may read. -/
def rdBlk (o : Op) (fr : Fr) : Option Nat :=
  match o with
  | .load _ x => (ev fr x).bind blkOf
  | .convert _ _ x => (ev fr x).bind blkOf
  | .slice _ x _ _ _ => (ev fr x).bind blkOf
  | _ => none
theorem rdBlk_none {o : Op} {fr : Fr} (h : readsH o = false) : rdBlk o fr = none := by
  cases o <;> first | rfl | simp [readsH] at h
theorem rdBlk_congr {o : Op} {fr fr' : Fr} (h : ∀ x, ev fr x = ev fr' x) : rdBlk o fr = rdBlk o fr' := by
  cases o <;> simp [rdBlk, h]
theorem rdBlk_agree {o : Op} {fr fr' : Fr} (h : agree o fr fr') : rdBlk o fr' = rdBlk o fr := by
  cases o <;> first | rfl | skip
  case load t x => simp only [rdBlk]; rw [h x (by simp [Op.operands])]
  case convert s t x => simp only [rdBlk]; rw [h x (by simp [Op.operands])]
  case slice t x lo hi mx => simp only [rdBlk]; rw [h x (by simp [Op.operands])]

def offL (L : Nat) (o : Op) (fr : Fr) : Prop := ∀ i, rdBlk o fr = some i → i < L
theorem offL_congr {L : Nat} {o : Op} {fr fr' : Fr} (h : ∀ x, ev fr' x = ev fr x) (hoff : offL L o fr) : offL L o fr' := fun i hi => hoff i (by rw [← hi]; exact rdBlk_congr fun x => (h x).symm)
theorem offL_agree {L : Nat} {o : Op} {fr fr' : Fr} (h : agree o fr fr') (hoff : offL L o fr) : offL L o fr' := fun i hi => hoff i (by rw [← hi]; exact (rdBlk_agree h).symm)
/-- The blocks ahead of L stay. -/
def KeepL (L : Nat) (H h : Heap) : Prop := ∀ i, i < L → h[i]? = H[i]?

theorem cellsAt_at {H H' : Heap} {i o n : Nat} {cs : List Value} (h : ∀ b : Blk, H[i]? = some b → H'[i]? = some b) (hc : cellsAt H i o n = some cs) : cellsAt H' i o n = some cs := by
  obtain ⟨b, hb, hl, hn, rfl⟩ := cellsAt_inv hc
  exact cellsAt_of (h b hb) hl hn
theorem srcCells_at {H H' : Heap} {e : Nat} {v : Value} {cs : List Value} (h : ∀ i, blkOf v = some i → ∀ b : Blk, H[i]? = some b → H'[i]? = some b) (hc : srcCells H e v = some cs) : srcCells H' e v = some cs := by
  unfold srcCells at hc ⊢
  split at hc
  · exact hc
  · split at hc
    · rename_i hn; rw [if_pos hn]; exact hc
    · rename_i hn; rw [if_neg hn]; exact cellsAt_at (h _ rfl) hc
  · cases hc
theorem sliceV_at {H H' : Heap} {e : Nat} {v v' : Value} {lo hi : Nat} (h : ∀ i, blkOf v = some i → ∀ b : Blk, H[i]? = some b → H'[i]? = some b) (hc : sliceV H e v lo hi = some v') : sliceV H' e v lo hi = some v' := by
  unfold sliceV at hc ⊢
  split at hc
  · exact hc
  · exact hc
  · split at hc
    · rename_i hc1; rw [if_pos hc1]; exact hc
    · rename_i hc1
      rw [if_neg hc1]
      split at hc
      · rename_i hc2
        obtain ⟨cs, hcs⟩ := Option.isSome_iff_exists.1 hc2.2.2.2
        rw [if_pos ⟨hc2.1, hc2.2.1, hc2.2.2.1, by rw [cellsAt_at (h _ rfl) hcs]; rfl⟩]; exact hc
      · cases hc
  · cases hc

section
variable {P : Program} {N : Nat} {o : Oper} {fr fr' : Fr} {H : Heap} {K : Fr → Heap → Prop}

theorem vop_RX (hR : isR o.op = true) (h : vop P N o fr H K) :
    ∃ v, dstB N o.dst = true ∧ K (fr.put o.dst v) H ∧ ∀ (fr' : Fr) (H' : Heap) (K' : Fr → Heap → Prop), agree o.op fr fr' → (∀ i, rdBlk o.op fr = some i → ∀ b : Blk, H[i]? = some b → H'[i]? = some b) → K' (fr'.put o.dst v) H' → vop P N o fr' H' K' := by
  unfold vop at h
  unfold vop agree
  split at h
  case h_1 x ho => obtain ⟨v, h1, h2, h3⟩ := h; rw [ho]; exact ⟨v, h2, h3, fun fr' H' K' ha _ hk => ⟨v, agree1 ha (by simp [Op.operands]) h1, h2, hk⟩⟩
  case h_2 x ho => obtain ⟨v, h1, h2, h3⟩ := h; rw [ho]; exact ⟨v, h2, h3, fun fr' H' K' ha _ hk => ⟨v, agree1 ha (by simp [Op.operands]) h1, h2, hk⟩⟩
  case h_3 c x y ho =>
    obtain ⟨v, h1, h⟩ := h
    unfold pickC at h
    split at h
    · rename_i b
      obtain ⟨v, h2, h3, h4⟩ := h
      rw [ho]
      refine ⟨v, h3, h4, fun fr' H' K' ha _ hk => ⟨.bool b, agree1 ha (by simp [Op.operands]) h1, v, ?_, h3, hk⟩⟩
      cases b
      · rw [show (bif false then x else y) = y from rfl, ha y (by simp [Op.operands])]; exact h2
      · rw [show (bif true then x else y) = x from rfl, ha x (by simp [Op.operands])]; exact h2
    · exact h.elim
  case h_4 t ho => simp [ho, isR] at hR
  case h_5 t x ho => simp [ho, isR] at hR
  case h_6 t x ho =>
    obtain ⟨p, h1, h⟩ := h
    unfold loadC at h
    split at h
    · obtain ⟨τ, h2, cs, h3, v, h4, h5, h6⟩ := h
      rw [ho]
      exact ⟨v, h5, h6, fun fr' H' K' ha hh hk => ⟨_, agree1 ha (by simp [Op.operands]) h1, τ, h2, cs, cellsAt_at (hh _ (by simp [rdBlk, h1, blkOf])) h3, v, h4, h5, hk⟩⟩
    · exact h.elim
  case h_7 t x y ho => simp [ho, isR] at hR
  case h_8 x ho =>
    obtain ⟨p, h1, h⟩ := h
    unfold nilC at h
    rw [ho]
    split at h
    · obtain ⟨h2, h3⟩ := h; exact ⟨_, h2, h3, fun fr' H' K' ha _ hk => ⟨_, agree1 ha (by simp [Op.operands]) h1, h2, hk⟩⟩
    · obtain ⟨h2, h3⟩ := h; exact ⟨_, h2, h3, fun fr' H' K' ha _ hk => ⟨_, agree1 ha (by simp [Op.operands]) h1, h2, hk⟩⟩
    · exact h.elim
  case h_9 op ty x y ty' ho =>
    obtain ⟨vx, h1, vy, h2, h⟩ := h
    unfold binC2 at h
    rw [ho]
    split at h
    · split at h
      · obtain ⟨d, h3, h⟩ := h
        unfold eqNilC at h
        split at h
        · split at h
          · obtain ⟨hz, h4, h5⟩ := h; exact ⟨_, h4, h5, fun fr' H' K' ha _ hk => ⟨_, agree1 ha (by simp [Op.operands]) h1, _, agree1 ha (by simp [Op.operands]) h2, _, h3, hz, h4, hk⟩⟩
          · obtain ⟨hz, h4, h5⟩ := h; exact ⟨_, h4, h5, fun fr' H' K' ha _ hk => ⟨_, agree1 ha (by simp [Op.operands]) h1, _, agree1 ha (by simp [Op.operands]) h2, _, h3, hz, h4, hk⟩⟩
          · exact h.elim
        · exact h.elim
      · exact h.elim
    · rename_i hne
      obtain ⟨v, ⟨h3, h4⟩, h5⟩ := vbin_det h
      refine ⟨v, h3, h4, fun fr' H' K' ha _ hk => ⟨_, agree1 ha (by simp [Op.operands]) h1, _, agree1 ha (by simp [Op.operands]) h2, ?_⟩⟩
      unfold binC2
      split
      · exact absurd rfl hne
      · exact h5 _ ⟨h3, hk⟩
  case h_10 op ty x ho =>
    obtain ⟨v, h1, h⟩ := h
    unfold unC at h
    rw [ho]
    split at h
    · obtain ⟨h2, h3⟩ := h; exact ⟨_, h2, h3, fun fr' H' K' ha _ hk => ⟨_, agree1 ha (by simp [Op.operands]) h1, h2, hk⟩⟩
    · obtain ⟨h2, h3⟩ := h; exact ⟨_, h2, h3, fun fr' H' K' ha _ hk => ⟨_, agree1 ha (by simp [Op.operands]) h1, h2, hk⟩⟩
    · exact h.elim
  case h_11 s t x ho =>
    obtain ⟨v, h1, h⟩ := h
    unfold convC at h
    rw [ho]
    split at h
    · obtain ⟨d, h2, d', h3, h⟩ := h
      unfold cvI2 at h
      split at h
      · obtain ⟨h4, h5⟩ := h; exact ⟨_, h4, h5, fun fr' H' K' ha _ hk => ⟨_, agree1 ha (by simp [Op.operands]) h1, _, h2, _, h3, h4, hk⟩⟩
      · exact h.elim
    · rename_i hne
      obtain ⟨d, h2, h⟩ := h
      unfold cvS at h
      split at h
      · obtain ⟨⟨h3, h4⟩, cs, h5, bs, h6, h7, h8⟩ := h
        refine ⟨_, h7, h8, fun fr' H' K' ha hh hk => ⟨_, agree1 ha (by simp [Op.operands]) h1, ?_⟩⟩
        unfold convC
        split
        · exact absurd rfl (hne _ _)
        · exact ⟨_, h2, ⟨h3, h4⟩, cs, srcCells_at (fun i hi => hh i (by simp [rdBlk, h1, hi])) h5, bs, h6, h7, hk⟩
      · exact h.elim
  case h_12 fn first captured ho =>
    rw [ho]
    split at h
    · obtain ⟨vs, h1, us, h2, h3, h4⟩ := h
      exact ⟨_, h3, h4, fun fr' H' K' ha _ hk => ⟨vs, by rw [evs_congr (fun x hx => ha x (by simp [Op.operands] at hx ⊢; exact .inl hx))]; exact h1, us, by rw [evs_congr (fun x hx => ha x (by simp [Op.operands] at hx ⊢; exact .inr hx))]; exact h2, h3, hk⟩⟩
    · exact h.elim
  case h_13 t x y ho => simp [ho, isR] at hR
  case h_14 t x lo hi mx ho =>
    rw [ho]
    split at h
    · obtain ⟨v, h1, d, h2, h⟩ := h
      unfold slC1 at h
      have hx : ∀ fr', (∀ y ∈ (Op.slice t x lo hi none).operands, ev fr' y = ev fr y) → ev fr' x = some v := fun fr' ha => agree1 ha (by simp [Op.operands]) h1
      split at h
      · split at h
        · obtain ⟨⟨rfl, rfl, h3⟩, τ, h4, h5, h6⟩ := h
          exact ⟨_, h5, h6, fun fr' H' K' ha _ hk => ⟨_, hx fr' ha, _, h2, ⟨rfl, rfl, h3⟩, τ, h4, h5, hk⟩⟩
        · exact h.elim
      · obtain ⟨τ, h3, l, h4, hh, h5, h6, v', h8, h9, h10⟩ := h
        refine ⟨_, h9, h10, fun fr' H' K' ha hp hk => ⟨_, hx fr' ha, _, h2, τ, h3, l, ?_, hh, ?_, h6, v', sliceV_at (fun i hi => hp i (by simp [rdBlk, h1, hi])) h8, h9, hk⟩⟩
        · rw [boundV_congr (fr := fr) (fun y hy => ha y (by cases lo <;> simp at hy; subst hy; simp [Op.operands]))]; exact h4
        · rw [boundV_congr (fr := fr) (fun y hy => ha y (by cases hi <;> simp at hy; subst hy; simp [Op.operands]))]; exact h5
      · exact h.elim
    · exact h.elim
  case h_15 s x k ho =>
    obtain ⟨d, h1, h⟩ := h
    unfold faC at h
    rw [ho]
    split at h
    · obtain ⟨f, h2, p, h3, h⟩ := h
      unfold faC3 at h
      split at h
      · obtain ⟨τ, h4, h5, h6, h7⟩ := h
        exact ⟨_, h6, h7, fun fr' H' K' ha _ hk => ⟨_, h1, f, h2, _, agree1 ha (by simp [Op.operands]) h3, τ, h4, h5, h6, hk⟩⟩
      · exact h.elim
    · exact h.elim
  case h_16 s x k ho =>
    obtain ⟨d, h1, h⟩ := h
    unfold fiC at h
    rw [ho]
    split at h
    · obtain ⟨f, h2, p, h3, h⟩ := h
      unfold fiC3 at h
      split at h
      · obtain ⟨v, h4, h6, h7⟩ := h
        exact ⟨_, h6, h7, fun fr' H' K' ha _ hk => ⟨_, h1, f, h2, _, agree1 ha (by simp [Op.operands]) h3, v, h4, h6, hk⟩⟩
      · exact h.elim
    · exact h.elim
  case h_17 t x y ho =>
    obtain ⟨vy, h1, h⟩ := h
    unfold iaC at h
    rw [ho]
    split at h
    · obtain ⟨v, h2, d, h3, h⟩ := h
      unfold iaC3 at h
      have hx : ∀ fr', (∀ z ∈ (Op.indexAddr t x y).operands, ev fr' z = ev fr z) → ev fr' x = some v := fun fr' ha => by rw [ha x (by simp [Op.operands])]; exact h2
      have hy : ∀ fr', (∀ z ∈ (Op.indexAddr t x y).operands, ev fr' z = ev fr z) → ev fr' y = some _ := fun fr' ha => by rw [ha y (by simp [Op.operands])]; exact h1
      split at h
      · split at h
        · obtain ⟨h4, τ, h6, h7, h8⟩ := h; exact ⟨_, h7, h8, fun fr' H' K' ha _ hk => ⟨_, hy fr' ha, _, hx fr' ha, _, h3, h4, τ, h6, h7, hk⟩⟩
        · exact h.elim
      · split at h
        · obtain ⟨h4, τ, h6, h7, h8⟩ := h; exact ⟨_, h7, h8, fun fr' H' K' ha _ hk => ⟨_, hy fr' ha, _, hx fr' ha, _, h3, h4, τ, h6, h7, hk⟩⟩
        · exact h.elim
      · exact h.elim
    · exact h.elim
  case h_18 t x y ho =>
    obtain ⟨vy, h1, h⟩ := h
    unfold ixC at h
    rw [ho]
    split at h
    · obtain ⟨v, h2, d, h3, h⟩ := h
      unfold ixC3 at h
      have hx : ∀ fr', (∀ z ∈ (Op.index t x y).operands, ev fr' z = ev fr z) → ev fr' x = some v := fun fr' ha => by rw [ha x (by simp [Op.operands])]; exact h2
      have hy : ∀ fr', (∀ z ∈ (Op.index t x y).operands, ev fr' z = ev fr z) → ev fr' y = some _ := fun fr' ha => by rw [ha y (by simp [Op.operands])]; exact h1
      split at h
      · split at h
        · obtain ⟨h4, τ, h6, u, h7, h8, h9⟩ := h; exact ⟨_, h8, h9, fun fr' H' K' ha _ hk => ⟨_, hy fr' ha, _, hx fr' ha, _, h3, h4, τ, h6, u, h7, h8, hk⟩⟩
        · exact h.elim
      · split at h
        · obtain ⟨h4, b, h7, h8, h9⟩ := h; exact ⟨_, h8, h9, fun fr' H' K' ha _ hk => ⟨_, hy fr' ha, _, hx fr' ha, _, h3, h4, b, h7, h8, hk⟩⟩
        · exact h.elim
      · exact h.elim
    · exact h.elim
  case h_19 x k ho =>
    obtain ⟨v, h1, h⟩ := h
    unfold exC at h
    rw [ho]
    split at h
    · obtain ⟨v, h2, h3, h4⟩ := h; exact ⟨_, h3, h4, fun fr' H' K' ha _ hk => ⟨_, agree1 ha (by simp [Op.operands]) h1, v, h2, h3, hk⟩⟩
    · exact h.elim
  case h_20 t parts ho =>
    obtain ⟨ps, h1, h2, cells, h3, h4, h5⟩ := h
    rw [ho]
    exact ⟨_, h4, h5, fun fr' H' K' ha _ hk => ⟨ps, by rw [evParts_congr (fun x hx => ha x (by simpa [Op.operands] using hx))]; exact h1, h2, cells, h3, h4, hk⟩⟩
  case h_21 t len parts ho => simp [ho, isR] at hR
  case h_22 c ho =>
    obtain ⟨callee, ⟨args⟩, ⟨argTypes⟩⟩ := c
    rw [ho] at hR ⊢
    simp only at h hR ⊢
    split at h
    · simp [isR] at hR
    · split at h
      · rename_i x t
        obtain ⟨v, h1, d, h2, h⟩ := h
        unfold lenC2 at h
        have hx : ∀ fr', (∀ z ∈ (Op.call { callee := .builtin .len, args := ⟨[x]⟩, argTypes := ⟨[t]⟩ }).operands, ev fr' z = ev fr z) → ev fr' x = some v := fun fr' ha => by rw [ha x (by simp [Op.operands, Call.operands])]; exact h1
        split at h
        · split at h
          · obtain ⟨h3, h4⟩ := h; exact ⟨_, h3, h4, fun fr' H' K' ha _ hk => ⟨_, hx fr' ha, _, h2, h3, hk⟩⟩
          · exact h.elim
        · split at h
          · obtain ⟨h3, h4⟩ := h; exact ⟨_, h3, h4, fun fr' H' K' ha _ hk => ⟨_, hx fr' ha, _, h2, h3, hk⟩⟩
          · exact h.elim
        · exact h.elim
      · exact h.elim
    · split at h
      · rename_i x t
        obtain ⟨v, h1, d, h2, h⟩ := h
        unfold capC2 at h
        have hx : ∀ fr', (∀ z ∈ (Op.call { callee := .builtin .cap, args := ⟨[x]⟩, argTypes := ⟨[t]⟩ }).operands, ev fr' z = ev fr z) → ev fr' x = some v := fun fr' ha => by rw [ha x (by simp [Op.operands, Call.operands])]; exact h1
        split at h
        · split at h
          · obtain ⟨h3, h4⟩ := h; exact ⟨_, h3, h4, fun fr' H' K' ha _ hk => ⟨_, hx fr' ha, _, h2, h3, hk⟩⟩
          · exact h.elim
        · exact h.elim
      · exact h.elim
    · obtain ⟨vs, h1, h⟩ := h
      have hx : ∀ fr', (∀ z ∈ (Op.call { callee := .builtin .min, args := ⟨args⟩, argTypes := ⟨argTypes⟩ }).operands, ev fr' z = ev fr z) → evs fr' args = some vs := fun fr' ha => by rw [evs_congr (fun x hx => ha x (by simpa [Op.operands, Call.operands] using hx))]; exact h1
      unfold minC at h
      split at h
      · obtain ⟨h2, h3⟩ := h; exact ⟨_, h2, h3, fun fr' H' K' ha _ hk => ⟨_, hx fr' ha, h2, hk⟩⟩
      · obtain ⟨h2, h3⟩ := h; exact ⟨_, h2, h3, fun fr' H' K' ha _ hk => ⟨_, hx fr' ha, h2, hk⟩⟩
      · exact h.elim
    · obtain ⟨vs, h1, h⟩ := h
      have hx : ∀ fr', (∀ z ∈ (Op.call { callee := .builtin .max, args := ⟨args⟩, argTypes := ⟨argTypes⟩ }).operands, ev fr' z = ev fr z) → evs fr' args = some vs := fun fr' ha => by rw [evs_congr (fun x hx => ha x (by simpa [Op.operands, Call.operands] using hx))]; exact h1
      unfold maxC at h
      split at h
      · obtain ⟨h2, h3⟩ := h; exact ⟨_, h2, h3, fun fr' H' K' ha _ hk => ⟨_, hx fr' ha, h2, hk⟩⟩
      · obtain ⟨h2, h3⟩ := h; exact ⟨_, h2, h3, fun fr' H' K' ha _ hk => ⟨_, hx fr' ha, h2, hk⟩⟩
      · exact h.elim
    · simp [isR] at hR
    · simp [isR] at hR
    · exact h.elim
  case h_23 => exact h.elim

/-- Of the frame an operation looks at its operands alone. -/
theorem vstep_RX {ops : Array Oper} (hR : isR o.op = true) (hK : Closed K) (h : vstep P N ops o K fr H) :
    ∃ v, K (fr.put o.dst v) H ∧ ∀ (fr' : Fr) (H' : Heap) (K' : Fr → Heap → Prop), Closed K' → agreeG ops o fr fr' → (∀ i, rdBlk o.op fr = some i → ∀ b : Blk, H[i]? = some b → H'[i]? = some b) → K' (fr'.put o.dst v) H' → vstep P N ops o K' fr' H' := by
  unfold vstep at h ⊢
  cases hg : o.guard with
  | none =>
    simp only [hg] at h ⊢
    obtain ⟨v, h1, h2, h3⟩ := vop_RX hR h
    exact ⟨v, h2, fun fr' H' K' _ ha hh hk => h3 fr' H' K' ha.agree hh hk⟩
  | some jw =>
    obtain ⟨j, want⟩ := jw
    simp only [hg] at h ⊢
    obtain ⟨t, ht, hN, u, hu, h⟩ := h
    have hl : t ∈ looks ops o := by simp [looks, hg, ht]
    have hget : ∀ fr', agreeG ops o fr fr' → Fr.get fr' t = some u := fun fr' ha => by rw [ha t hl]; exact hu
    unfold guardC2 at h
    split at h
    · rename_i b
      by_cases hb : b = want
      · obtain ⟨v, h1, h2, h3⟩ := vop_RX hR (h.1 (by simpa using hb))
        subst hb
        refine ⟨v, hK _ _ _ (feq.put (get_set_same hu) _ _) h2, fun fr' H' K' hK' ha hh hk => ⟨t, ht, hN, .bool b, hget fr' ha, ?_⟩⟩
        refine ⟨fun _ => h3 _ H' K' ?_ (fun i hi => hh i (by rw [← hi]; exact rdBlk_congr fun x => feq.ev (get_set_same hu) x)) (hK' _ _ _ (feq.put (feq.symm (get_set_same (hget fr' ha))) _ _) hk), fun e => by simp at e⟩
        intro x hx
        rw [feq.ev (feq.symm (get_set_same (hget fr' ha))) x, ha.agree x hx, feq.ev (get_set_same hu) x]
      · have hb2 : b = !want := by cases b <;> cases want <;> simp_all
        obtain ⟨h1, h2⟩ := h.2 (by simpa using hb)
        subst hb2
        refine ⟨undef, hK _ _ _ (feq.put (get_set_same hu) _ _) h2, fun fr' H' K' hK' ha hh hk => ⟨t, ht, hN, .bool _, hget fr' ha, ?_⟩⟩
        exact ⟨fun e => absurd (by simpa using e) hb, fun _ => ⟨h1, hK' _ _ _ (feq.put (feq.symm (get_set_same (hget fr' ha))) _ _) hk⟩⟩
    · rename_i hnb
      obtain ⟨h1, h2⟩ := h
      refine ⟨undef, h2, fun fr' H' K' _ ha hh hk => ⟨t, ht, hN, u, hget fr' ha, ?_⟩⟩
      unfold guardC2
      split
      · exact absurd rfl (hnb _)
      · exact ⟨h1, hk⟩

end

def eKX (L : Nat) (fl : Bool) (H : Heap) (k : Fr → Heap → Prop) (f : Fr) (h : Heap) : Prop :=
  match fl with
  | true => andK (KeepL L H h) (k f h)
  | false => k f h

def vEX (P : Program) (N : Nat) (ops : Array Oper) (L : Nat) (K : Fr → Heap → Prop) : List (Nat × Bool) → Fr → Heap → Prop
  | [], fr, H => K fr H
  | (i, fl) :: l, fr, H => match ops[i]? with
    | none => False
    | some o => match isR o.op with
      | true => offL L o.op fr ∧ vstep P N ops o (vEX P N ops L K l) fr H
      | false => vstep P N ops o (eKX L fl H (vEX P N ops L K l)) fr H

section
variable {P : Program} {N : Nat} {ops : Array Oper} {L : Nat} {K : Fr → Heap → Prop}

theorem vEX_closed (hK : Closed K) : ∀ l, Closed (vEX P N ops L K l)
  | [] => hK
  | (i, fl) :: l => by
    intro f g H hfg h
    have ih := vEX_closed hK l
    simp only [vEX] at h ⊢
    split at h
    · exact h.elim
    · rename_i o ho
      cases hR : isR o.op with
      | true =>
        simp only [hR] at h ⊢
        obtain ⟨hoff, h⟩ := h
        obtain ⟨v, h1, h2⟩ := vstep_RX hR ih h
        exact ⟨offL_congr (fun x => feq.ev hfg x) hoff, h2 g H _ ih (agreeG.of_feq hfg) (fun _ _ _ h => h) (ih _ _ _ (hfg.put _ _) h1)⟩
      | false =>
        simp only [hR] at h ⊢
        have hc : Closed (eKX L fl H (vEX P N ops L K l)) := by
          intro f g h' hfg hk
          cases fl with
          | true => exact ⟨hk.1, ih _ _ _ hfg hk.2⟩
          | false => exact ih _ _ _ hfg hk
        refine vstep_weak (vstep_E hc h (agreeG.of_feq hfg)) ?_
        rintro f' h' ⟨v, h1, h2⟩
        exact hc _ _ _ ((hfg.put _ _).trans h1) h2

def relX (L : Nat) (o : Oper) (fl : Bool) (H h : Heap) : Prop := (isR o.op = true ∨ fl = true) → KeepL L H h

theorem vEX_head (hK : Closed K) {i : Nat} {fl : Bool} {l : List (Nat × Bool)} {fr : Fr} {H : Heap} {o : Oper} (ho : ops[i]? = some o) (h : vEX P N ops L K ((i, fl) :: l) fr H) :
    vstep P N ops o (fun f h => relX L o fl H h ∧ vEX P N ops L K l f h) fr H := by
  simp only [vEX, ho] at h
  cases hR : isR o.op with
  | true =>
    simp only [hR] at h
    obtain ⟨_, h⟩ := h
    obtain ⟨v, h1, h2⟩ := vstep_RX hR (vEX_closed hK l) h
    refine h2 fr H _ ?_ (fun _ _ => rfl) (fun _ _ _ h => h) ⟨fun _ _ _ => rfl, h1⟩
    intro f g h hfg hk
    exact ⟨hk.1, vEX_closed hK l _ _ _ hfg hk.2⟩
  | false =>
    simp only [hR] at h
    refine vstep_weak h ?_
    intro f h' hk
    cases fl with
    | true => exact ⟨fun _ => hk.1, hk.2⟩
    | false => exact ⟨fun e => by simp [hR] at e, hk⟩

/-- An operation that hangs on none of those ahead of it comes first. -/
theorem vEX_front (hK : Closed K) {i : Nat} {fl : Bool} {l2 : List (Nat × Bool)} {o : Oper} (ho : ops[i]? = some o) : ∀ (l1 : List (Nat × Bool)) (fr : Fr) (H : Heap),
    (∀ x ∈ l1, ∃ p, ops[x.1]? = some p ∧ isR p.op = true ∧ indep ops p o = true ∧ (readsH p.op = true → isR o.op = true ∨ fl = true)) →
    vEX P N ops L K (l1 ++ (i, fl) :: l2) fr H → vstep P N ops o (fun f h => relX L o fl H h ∧ vEX P N ops L K (l1 ++ l2) f h) fr H
  | [], fr, H, _, h => vEX_head hK ho h
  | (j, fj) :: l1, fr, H, hl, h => by
    obtain ⟨p, hp, hR, hin, hrd⟩ := hl (j, fj) (by simp)
    simp only [List.cons_append, vEX, hp, hR] at h ⊢
    have hc1 := vEX_closed (P := P) (N := N) (ops := ops) (L := L) hK (l1 ++ (i, fl) :: l2)
    have hc2 := vEX_closed (P := P) (N := N) (ops := ops) (L := L) hK (l1 ++ l2)
    obtain ⟨hoff, h⟩ := h
    obtain ⟨v, h1, h2⟩ := vstep_RX hR hc1 h
    have ih := vEX_front hK ho l1 (fr.put p.dst v) H (fun x hx => hl x (by simp [hx])) h1
    obtain ⟨i1, i2, i3⟩ := indep_spec hin
    have hcK : Closed (fun f h => relX L o fl H h ∧ vEX P N ops L K (l1 ++ l2) f h) := fun f g h hfg hk => ⟨hk.1, hc2 _ _ _ hfg hk.2⟩
    have hag : agreeG ops o (fr.put p.dst v) fr := agreeG.symm (agreeG.put i1)
    refine vstep_weak (vstep_E hcK ih hag) ?_
    rintro f h' ⟨u, hf, hrel, hv⟩
    refine ⟨hrel, ?_⟩
    have hvE : offL L p.op (fr.put o.dst u) ∧ vstep P N ops p (vEX P N ops L K (l1 ++ l2)) (fr.put o.dst u) h' := by
      refine ⟨offL_agree (agreeG.put i2).agree hoff, ?_⟩
      refine h2 (fr.put o.dst u) h' _ hc2 (agreeG.put i2) (fun i hi b hb => ?_) ?_
      · rw [hrel (hrd (by cases hr : readsH p.op with | true => rfl | false => rw [rdBlk_none hr] at hi; cases hi)) i (hoff i hi), hb]
      exact hc2 _ _ _ (put_comm fr i3 v u) hv
    have hfin := vEX_closed (P := P) (N := N) (ops := ops) (L := L) hK ((j, fj) :: (l1 ++ l2)) (fr.put o.dst u) f h' hf (by simp only [vEX, hp, hR]; exact hvE)
    simpa only [vEX, hp, hR] using hfin

theorem draw_anyX {B : Nat} {w0 : World} {Q : Exit → Act → World → Prop} (hK : Closed K) (hedge : edgesOK ops = true) : ∀ (n : Nat) (listed : Array Bool) (l : List (Nat × Bool)) (fr : Fr) (H : Heap) (ρ : Rho) (w : World) (a : Act),
    listed.size = ops.size → l.length = n → pairsOK ops (masksGo ops.toList []) l = true → (∀ x ∈ l, x.1 < ops.size ∧ listed.getD x.1 true = false) → (∀ i, i < ops.size → listed.getD i true = false → ∃ x ∈ l, x.1 = i) →
    (∀ (j : Nat) (o : Oper), ops[j]? = some o → listed.getD j false = true → ∀ e ∈ o.after.toList, Region.binds .any e = true → listed.getD e.on false = true) →
    vEX P N ops L K l fr H → R B w0 ρ H w → FR N ρ fr a →
    (∀ (ρ' : Rho) (fr' : Fr) (H' : Heap) (a' : Act) (w' : World), ρ <+: ρ' → K fr' H' → R B w0 ρ' H' w' → FR N ρ' fr' a' → Q .normal a' w') → wpAny P .any ops Q n listed a w := by
  intro n
  have getD2 : ∀ (listed : Array Bool) (i : Nat), listed.size = ops.size → i < ops.size → listed.getD i true = listed.getD i false := by
    intro listed i h1 h2
    simp [Array.getD_eq_getD_getElem?, h1, h2]
  induction n with
  | zero =>
    intro listed l fr H ρ w a hsz hl hp hin hall hcl hv hR hF hq
    have : l = [] := List.eq_nil_of_length_eq_zero hl
    subst this
    refine ⟨?_, hq ρ fr H a w (List.prefix_refl _) hv hR hF⟩
    rw [List.eq_nil_iff_forall_not_mem]
    intro i hi
    simp only [Region.ready, List.mem_filter, List.mem_range, Bool.and_eq_true, Bool.not_eq_true'] at hi
    obtain ⟨x, hx, _⟩ := hall i hi.1 hi.2.1
    simp at hx
  | succ n ih =>
    intro listed l fr H ρ w a hsz hl hp hin hall hcl hv hR hF hq
    refine ⟨?_, ?_⟩
    · intro hnil
      exfalso
      match l, hl with
      | (i, fl) :: l, hl =>
        obtain ⟨h1, h2⟩ := hin (i, fl) (by simp)
        have hi : i ∈ Region.ready .any ops listed := by
          simp only [Region.ready, List.mem_filter, List.mem_range, Bool.and_eq_true, Bool.not_eq_true']
          refine ⟨h1, h2, ?_⟩
          rw [Array.getElem?_eq_getElem h1]
          simp only [Option.map_some, Option.getD_some, Array.all_eq_true']
          intro e he
          rw [Bool.or_eq_true, Bool.not_eq_true']
          by_cases hb : Region.binds .any e = true
          · right
            have hedge' := List.all_eq_true.1 hedge i (by simpa using h1)
            simp only [Array.getElem?_eq_getElem h1, List.all_eq_true] at hedge'
            have he' := hedge' e (by simpa using he)
            simp only [hb, Bool.not_true, Bool.false_or, Bool.and_eq_true, decide_eq_true_eq, bne_iff_ne, ne_eq] at he'
            rw [← getD2 listed e.on hsz he'.1]
            cases hg : listed.getD e.on true with
            | true => rfl
            | false =>
              obtain ⟨x, hx, hxe⟩ := hall e.on he'.1 hg
              rcases List.mem_cons.1 hx with rfl | hx
              · exact absurd hxe.symm he'.2
              · have hpo := (pairsOK_spec (l1 := []) hp).2.1 x hx
                have hx1 := (hin x (by simp [hx])).1
                simp only [pairOK, Array.getElem?_eq_getElem h1, Array.getElem?_eq_getElem hx1, Bool.and_eq_true, Bool.not_eq_true'] at hpo
                have hd := hpo.1.1
                simp only [directTo, List.any_eq_false, Bool.and_eq_true, beq_iff_eq, not_and] at hd
                exact absurd hxe.symm (hd e (by simpa using he) hb)
          · left; simpa using hb
        rw [hnil] at hi
        simp at hi
    · intro i hi
      simp only [Region.ready, List.mem_filter, List.mem_range, Bool.and_eq_true, Bool.not_eq_true'] at hi
      obtain ⟨hilt, hnl, hrdy⟩ := hi
      rw [Array.getElem?_eq_getElem hilt] at hrdy
      simp only [Option.map_some, Option.getD_some, Array.all_eq_true'] at hrdy
      have ho : ops[i]? = some ops[i] := Array.getElem?_eq_getElem hilt
      obtain ⟨x, hx, hxi⟩ := hall i hilt hnl
      obtain ⟨l1, l2, rfl⟩ := List.append_of_mem hx
      obtain ⟨i', fl⟩ := x
      simp only at hxi
      subst hxi
      obtain ⟨hp1, hp2, hp3⟩ := pairsOK_spec hp
      have hpre : ∀ e ∈ (ops[i']).after.toList, Region.binds .any e = true → listed.getD e.on false = true := by
        intro e he hb
        have := hrdy e (by simpa using he)
        simpa [hb] using this
      have hdep : ∀ y ∈ l1, ¬ ((masksGo ops.toList []).getD i' 0).testBit y.1 = true := by
        intro y hy hb
        have := masks_sound (ops := ops) (fun j => listed.getD j false = true) hcl ops.toList [] (fun j _ => by simp) (fun j o p hj => by simp at hj) i' _ y.1 ho hb hpre
        obtain ⟨hy1, hy2⟩ := hin y (by simp [hy])
        rw [getD2 listed y.1 hsz hy1] at hy2
        rw [hy2] at this; cases this
      have hl1 : ∀ y ∈ l1, ∃ p, ops[y.1]? = some p ∧ isR p.op = true ∧ indep ops p ops[i'] = true ∧ (readsH p.op = true → isR (ops[i']).op = true ∨ fl = true) := by
        intro y hy
        have hy1 := (hin y (by simp [hy])).1
        have hpo := hp1 y hy
        have hd := hdep y hy
        refine ⟨ops[y.1], Array.getElem?_eq_getElem hy1, ?_⟩
        simp only [pairOK, Array.getElem?_eq_getElem hy1, ho, Bool.and_eq_true] at hpo
        have hpo2 := hpo.2
        simp only [Bool.not_eq_true] at hd
        cases hRp : isR (ops[y.1]).op with
        | false => simp only [hRp] at hpo2; rw [hd] at hpo2; cases hpo2
        | true =>
          simp only [hRp, hd, Bool.false_or, Bool.or_false, Bool.and_eq_true, Bool.or_eq_true, Bool.not_eq_true'] at hpo2
          refine ⟨rfl, hpo2.1, fun hr => ?_⟩
          rcases hpo2.2 with (h | h) | h
          · exact .inl h
          · exact .inr h
          · rw [hr] at h; cases h
      have hstep := vEX_front hK ho l1 fr H hl1 hv
      unfold wpOp
      rw [ho]
      have hnd : ∀ y ∈ l1 ++ l2, y.1 ≠ i' := by
        intro y hy e
        rcases List.mem_append.1 hy with hy | hy
        · have hpo := hp1 y hy
          have hy1 := (hin y (by simp [hy])).1
          simp [pairOK, Array.getElem?_eq_getElem hy1, ho, e] at hpo
        · have hpo := hp2 y hy
          have hy1 := (hin y (by simp [hy])).1
          simp [pairOK, Array.getElem?_eq_getElem hy1, ho, e] at hpo
      refine vstep_sound hstep hR hF Q ?_
      rintro ρ' fr' H' a' w' hpre' ⟨_, hv'⟩ hR' hF'
      refine ih (listed.setIfInBounds i' true) (l1 ++ l2) fr' H' ρ' w' a' (by simpa using hsz) (by simp at hl ⊢; omega) hp3 ?_ ?_ ?_ hv' hR' hF' (fun ρ'' f'' H'' a'' w'' h1 => hq ρ'' f'' H'' a'' w'' (hpre'.trans h1))
      · intro y hy
        have hne := hnd y hy
        obtain ⟨h1, h2⟩ := hin y (by rcases List.mem_append.1 hy with hy | hy <;> simp [hy])
        exact ⟨h1, by rw [getD_set_ne _ (fun e => hne e.symm)]; exact h2⟩
      · intro j hj hnj
        by_cases e : i' = j
        · subst e
          exfalso
          have : (listed.setIfInBounds i' true).getD i' true = true := by simp [Array.getD_eq_getD_getElem?]
          rw [this] at hnj; cases hnj
        · rw [getD_set_ne _ e] at hnj
          obtain ⟨y, hy, rfl⟩ := hall j hj hnj
          refine ⟨y, ?_, rfl⟩
          rcases List.mem_append.1 hy with hy | hy
          · simp [hy]
          · rcases List.mem_cons.1 hy with rfl | hy
            · exact absurd rfl e
            · simp [hy]
      · intro j o hj hlj e he hb
        by_cases e' : i' = j
        · subst e'
          rw [ho] at hj; cases hj
          exact getD_set_true (hpre e he hb)
        · rw [getD_set_ne _ e'] at hlj
          exact getD_set_true (hcl j o hj hlj e he hb)

/-- A region whose order is open: one order is enough. -/
theorem AWp.drawX (L : Nat) {id : Nat} {fr : Fr} {H : Heap} {Q : Exit → Fr → Heap → Prop} (hm : P.follows .mixedOrders = true) (canon : List (Nat × Bool)) (hok : drawOK ops canon = true) (h : vEX P N ops L (Q .normal) canon fr H) : AWp P N (.region id ops true) Q fr H := by
  intro B w0 ρ w a hR hF
  simp only [drawOK, Bool.and_eq_true, decide_eq_true_eq, List.all_eq_true, List.mem_range, List.contains_iff_mem, List.mem_map] at hok
  obtain ⟨⟨⟨⟨h1, h2⟩, h3⟩, h4⟩, h5⟩ := hok
  refine wp_region_any hm ?_
  let K : Fr → Heap → Prop := fun f h => ∃ g, feq g f ∧ Q .normal g h
  have hK : Closed K := fun f g h hfg ⟨k, hk, hq⟩ => ⟨k, hk.trans hfg, hq⟩
  have hv : vEX P N ops L K canon fr H := by
    have weak : ∀ (l : List (Nat × Bool)) (fr : Fr) (H : Heap), vEX P N ops L (Q .normal) l fr H → vEX P N ops L K l fr H := by
      intro l
      induction l with
      | nil => exact fun fr H h => ⟨fr, feq.rfl' _, h⟩
      | cons x l ih =>
        obtain ⟨i, fl⟩ := x
        intro fr H h
        simp only [vEX] at h ⊢
        split at h
        · exact h
        · rename_i o ho
          cases hR : isR o.op with
          | true => simp only [hR] at h ⊢; exact ⟨h.1, vstep_weak h.2 ih⟩
          | false =>
            simp only [hR] at h ⊢
            refine vstep_weak h ?_
            intro f h' hk
            cases fl with
            | true => exact ⟨hk.1, ih _ _ hk.2⟩
            | false => exact ih _ _ hk
    exact weak canon fr H h
  have hgt : ∀ i, i < ops.size → (Array.replicate ops.size false).getD i true = false := by
    intro i hi
    simp [Array.getD_eq_getD_getElem?, hi]
  refine draw_anyX (B := B) (w0 := w0) hK h2 ops.size (Array.replicate ops.size false) canon fr H ρ w.drew a (by simp) h3 h1 ?_ ?_ ?_ hv hR.drew hF ?_
  · intro x hx
    exact ⟨h4 x hx, hgt x.1 (h4 x hx)⟩
  · intro i hi _
    obtain ⟨x, hx, rfl⟩ := h5 i hi
    exact ⟨x, hx, rfl⟩
  · intro j o hj hl
    rw [Array.getD_eq_getD_getElem?, Array.getElem?_replicate] at hl
    split at hl <;> simp at hl
  · rintro ρ' fr' H' a' w' hp ⟨g, hg, hq⟩ hR' hF'
    exact ⟨ρ', g, H', hp, hR', hF'.feq hg.symm, hq⟩

/-! The words of such an order, for simp. -/

def vEXK (P : Program) (N : Nat) (ops : Array Oper) (L : Nat) (K : Fr → Heap → Prop) (l : List (Nat × Bool)) (fr : Fr) (H : Heap) : Prop := vEX P N ops L K l fr H
def eKXK (P : Program) (N : Nat) (ops : Array Oper) (L : Nat) (K : Fr → Heap → Prop) (l : List (Nat × Bool)) (fl : Bool) (H : Heap) (fr : Fr) (H' : Heap) : Prop :=
  match fl with
  | true => andK (KeepL L H H') (vEX P N ops L K l fr H')
  | false => vEX P N ops L K l fr H'
def offB (L : Nat) (o : Op) (fr : Fr) : Prop := match rdBlk o fr with
  | some i => i < L
  | none => True
theorem offB_iff {L : Nat} {o : Op} {fr : Fr} : offB L o fr = offL L o fr := by
  unfold offB offL
  cases rdBlk o fr with
  | none => simp
  | some i => simp
def vEXo (P : Program) (N : Nat) (ops : Array Oper) (L : Nat) (K : Fr → Heap → Prop) (l : List (Nat × Bool)) (fl : Bool) (fr : Fr) (H : Heap) (o : Oper) : Prop :=
  match isR o.op with
  | true => andK (offB L o.op fr) (vstep P N ops o (vEXK P N ops L K l) fr H)
  | false => vstep P N ops o (eKXK P N ops L K l fl H) fr H

theorem vEX_nil (K : Fr → Heap → Prop) (fr : Fr) (H : Heap) : vEX P N ops L K [] fr H = K fr H := rfl
theorem vEX_cons (K : Fr → Heap → Prop) (i : Nat) (fl : Bool) (l : List (Nat × Bool)) (fr : Fr) (H : Heap) : vEX P N ops L K ((i, fl) :: l) fr H = bindO ops[i]? (vEXo P N ops L K l fl fr H) := by
  have e : eKX L fl H (vEX P N ops L K l) = eKXK P N ops L K l fl H := by
    funext f h
    cases fl <;> rfl
  simp only [vEX]
  cases ops[i]? with
  | none => simp [bindO]
  | some o =>
    simp only [bindO_some, vEXo]
    cases isR o.op with
    | true => rw [offB_iff]; rfl
    | false => simp only [e]

attribute [go_sem] vEXK eKXK vEXo vEX_nil vEX_cons offB rdBlk blkOf

end
end Go.Ab
end

section
/- Appending whole lists to a list that the call holds alone; slices.Clone, Grow and Concat over blocks. -/
set_option linter.all false
set_option maxRecDepth 20000
namespace Go.Ab

/-- A slice of n elements that the call holds alone: nil, empty, or a block of its own, from L on. -/
def OE (e L : Nat) (H : Heap) (v : Value) (cs : List Value) (n : Nat) : Prop :=
  cs.length = n * e ∧ ((n = 0 ∧ v = .slice none 0 0) ∨ (∃ id, n = 0 ∧ L ≤ id ∧ v = .slice (some ⟨id, 0, none⟩) 0 0 ∧ H[id]? = some ⟨[], true, true⟩) ∨
    ∃ id, L ≤ id ∧ v = lv e id 0 n ∧ ((n = 0 ∧ (ghostAt H id = true ∨ ownAt H id = true)) ∨ H[id]? = some ⟨cs, true, true⟩))

theorem OE.nil (e L : Nat) (H : Heap) : OE e L H (.slice none 0 0) [] 0 := ⟨by simp, .inl ⟨rfl, rfl⟩⟩
theorem OE.empty {e L : Nat} {H : Heap} {id : Nat} (hL : L ≤ id) (h : H[id]? = some ⟨[], true, true⟩) : OE e L H (.slice (some ⟨id, 0, none⟩) 0 0) [] 0 := ⟨by simp, .inr (.inl ⟨id, rfl, hL, rfl, h⟩)⟩
theorem OE.len {e L : Nat} {H : Heap} {v : Value} {cs : List Value} {n : Nat} (h : OE e L H v cs n) : lenV v = n := by
  rcases h.2 with ⟨rfl, rfl⟩ | ⟨id, rfl, _, rfl, _⟩ | ⟨id, _, rfl, _⟩ <;> rfl
theorem OE.one {e L : Nat} {H : Heap} {v : Value} {cs : List Value} {n : Nat} (h : OE e L H v cs n) : v.oneCell' = true := by
  rcases h.2 with ⟨rfl, rfl⟩ | ⟨id, rfl, _, rfl, _⟩ | ⟨id, _, rfl, _⟩ <;> rfl
theorem OE.shape {e L : Nat} {H : Heap} {v : Value} {cs : List Value} {n : Nat} (h : OE e L H v cs n) : ∃ a, v = .slice a n n := by
  rcases h.2 with ⟨rfl, rfl⟩ | ⟨id, rfl, _, rfl, _⟩ | ⟨id, _, rfl, _⟩ <;> exact ⟨_, rfl⟩
theorem OE.keep {e L : Nat} {H H' : Heap} {S : Nat → Prop} (hs : Same S H H') (hS : ∀ j, L ≤ j → ¬ S j) {v : Value} {cs : List Value} {n : Nat} (h : OE e L H v cs n) : OE e L H' v cs n := by
  have keep : ∀ {id : Nat} {b : Blk}, L ≤ id → H[id]? = some b → H'[id]? = some b := fun hL hb => hs.get hb (hS _ hL)
  refine ⟨h.1, ?_⟩
  rcases h.2 with h | ⟨id, h1, h2, h3, h4⟩ | ⟨id, h1, h2, h3⟩
  · exact .inl h
  · exact .inr (.inl ⟨id, h1, h2, h3, keep h2 h4⟩)
  · refine .inr (.inr ⟨id, h1, h2, ?_⟩)
    rcases h3 with ⟨h0, h3⟩ | h3
    · refine .inl ⟨h0, ?_⟩
      rcases h3 with h3 | h3
      · obtain ⟨b, hb, h5, h6⟩ := ghostAt_inv h3
        left; simp [ghostAt, keep h1 hb, h5, h6]
      · obtain ⟨b, hb, h5, h6⟩ := ownAt_inv h3
        right; simp [ownAt, keep h1 hb, h5, h6]
    · exact .inr (keep h1 h3)
theorem OE.pre {e L : Nat} {H H' : Heap} (hp : H <+: H') {v : Value} {cs : List Value} {n : Nat} (h : OE e L H v cs n) : OE e L H' v cs n := h.keep (S := fun _ => False) (Same.of_prefix hp) (fun _ _ h => h)

theorem KeepL.of_prefix {L : Nat} {H H' : Heap} (hp : H <+: H') (hL : L ≤ H.length) : KeepL L H H' := by
  intro i hi
  obtain ⟨t, rfl⟩ := hp
  exact List.getElem?_append_left (by omega)
theorem KeepL.refl (L : Nat) (H : Heap) : KeepL L H H := fun _ _ => rfl

theorem OE.append {e L : Nat} {H : Heap} {v : Value} {cs : List Value} {n : Nat} (h : OE e L H v cs n) (he : 0 < e) (hL : L ≤ H.length) {m : Nat} {news : List Value} (hn : news.length = m * e) :
    ∃ v' H', appendH H e v m news = some (v', H') ∧ OE e L H' v' (cs ++ news) (n + m) ∧ KeepL L H H' ∧ H.length ≤ H'.length := by
  by_cases hm : m = 0
  · subst hm
    have : news = [] := List.eq_nil_of_length_eq_zero (by simpa using hn)
    subst this
    obtain ⟨a, rfl⟩ := h.shape
    exact ⟨.slice a n n, H, by simp [appendH], by simpa using h, KeepL.refl _ _, Nat.le_refl _⟩
  · have new : ∀ cs' : List Value, (H ++ [(⟨cs', true, true⟩ : Blk)])[H.length]? = some ⟨cs', true, true⟩ := by intro cs'; simp
    rcases h.2 with ⟨rfl, rfl⟩ | ⟨id, rfl, h1, rfl, h2⟩ | ⟨id, h1, rfl, h2⟩
    · have : cs = [] := List.eq_nil_of_length_eq_zero (by simpa using h.1)
      subst this
      refine ⟨lv e H.length 0 m, H ++ [⟨news, true, true⟩], by simp [appendH, hm], ⟨by simpa using hn, .inr (.inr ⟨H.length, hL, by simp, .inr (new _)⟩)⟩, KeepL.of_prefix (List.prefix_append _ _) hL, by simp⟩
    · have : cs = [] := List.eq_nil_of_length_eq_zero (by simpa using h.1)
      subst this
      have hc : cellsAt H id 0 0 = some [] := by rw [cellsAt_of h2 rfl (by simp)]; simp
      refine ⟨lv e H.length 0 m, H ++ [⟨news, true, true⟩], by simp [appendH, hm, hc], ⟨by simpa using hn, .inr (.inr ⟨H.length, hL, by simp, .inr (new _)⟩)⟩, KeepL.of_prefix (List.prefix_append _ _) hL, by simp⟩
    · have kill : ∀ cs' : List Value, KeepL L H (H.kill id ++ [⟨cs', true, true⟩]) := by
        intro cs' i hi
        rw [List.getElem?_append_left (by rw [Heap.kill_length]; omega)]
        unfold Heap.kill
        split
        · exact List.getElem?_set_ne (by omega)
        · rfl
      have newk : ∀ cs' : List Value, (H.kill id ++ [(⟨cs', true, true⟩ : Blk)])[H.length]? = some ⟨cs', true, true⟩ := by
        intro cs'
        rw [List.getElem?_append_right (by rw [Heap.kill_length]; exact Nat.le_refl _), Heap.kill_length]; simp
      rcases h2 with ⟨rfl, h2⟩ | h2
      · have : cs = [] := List.eq_nil_of_length_eq_zero (by simpa using h.1)
        subst this
        by_cases hg : ghostAt H id = true
        · refine ⟨lv e H.length 0 m, H ++ [⟨news, true, true⟩], by simp [appendH, hm, hg, he], ⟨by simpa using hn, .inr (.inr ⟨H.length, hL, by simp, .inr (new _)⟩)⟩, KeepL.of_prefix (List.prefix_append _ _) hL, by simp⟩
        · have ho := h2.resolve_left hg
          obtain ⟨b, hb, hbl, hbo⟩ := ownAt_inv ho
          have hc : cellsAt H id 0 0 = some [] := by rw [cellsAt_of hb hbl (by simp)]; simp
          exact ⟨lv e H.length 0 m, H.kill id ++ [⟨news, true, true⟩], by simp [appendH, hm, hg, ho, hc], ⟨by simpa using hn, .inr (.inr ⟨H.length, hL, by simp, .inr (newk _)⟩)⟩, kill _, by simp [Heap.kill_length]⟩
      · have hc : cellsAt H id 0 (n * e) = some cs := by rw [← h.1, cellsAt_of h2 rfl (by simp)]; simp
        have hown : ownAt H id = true := by simp [ownAt, h2]
        have hng : ghostAt H id = false := by simp [ghostAt, h2]
        exact ⟨lv e H.length 0 (n + m), H.kill id ++ [⟨cs ++ news, true, true⟩], by simp [appendH, hm, hown, hng, hc], ⟨by simp [h.1, hn, Nat.add_mul], .inr (.inr ⟨H.length, hL, rfl, .inr (newk _)⟩)⟩, kill _, by simp [Heap.kill_length]⟩

theorem KeepL.prefix {L : Nat} {H0 H H' : Heap} (hp : H0 <+: H) (hL : H0.length ≤ L) (hk : KeepL L H H') (hl : H.length ≤ H'.length) : H0 <+: H' :=
  (show Same (fun j => L ≤ j) H0 H' from (Same.of_prefix hp).trans ⟨hl, fun j _ hj => hk j (by omega)⟩).prefix (by intro j hj h; omega)

theorem At.take_tri {H : Heap} {i o : Nat} {bs : List Bk} (h : At H i o (tri bs)) (k : Nat) (hk : k ≤ bs.length) : At H i o (tri (bs.take k)) := by
  by_cases h0 : k = 0
  · subst h0; exact .inl rfl
  · right
    have e : tri (bs.take k) = (tri bs).take (k * 3) := by
      have e2 : tri bs = tri (bs.take k) ++ tri (bs.drop k) := by rw [← tri_append, List.take_append_drop]
      rw [e2, List.take_left' (by rw [tri_length, List.length_take]; omega)]
    have := h.sub (k := 0) (n := k * 3) (by omega) (by rw [tri_length]; omega)
    rw [tri_length, List.length_take, Nat.min_eq_left hk, e]
    simpa using this
theorem At.drop_tri {H : Heap} {i o : Nat} {bs : List Bk} (h : At H i o (tri bs)) (k : Nat) (hk : k ≤ bs.length) : At H i (o + k * 3) (tri (bs.drop k)) := by
  by_cases h0 : k = bs.length
  · subst h0; left; simp [tri]
  · right
    have e : tri (bs.drop k) = (tri bs).drop (k * 3) := by
      have e2 : tri bs = tri (bs.take k) ++ tri (bs.drop k) := by rw [← tri_append, List.take_append_drop]
      rw [e2, List.drop_left' (by rw [tri_length, List.length_take]; omega)]
    have := h.sub (k := k * 3) (n := (bs.length - k) * 3) (by omega) (by rw [tri_length]; omega)
    rw [tri_length, List.length_drop, e, this, List.take_of_length_le (by rw [List.length_drop, tri_length]; omega)]
theorem At.src {H : Heap} {i o n : Nat} {cs : List Value} {e : Nat} {s : Option Nat} (h : At H i o cs) (hn : cs.length = n * e) (he : 0 < e) (c : Nat) : srcCells H e (.slice (some ⟨i, o, s⟩) n c) = some cs := by
  simp only [srcCells]
  by_cases h0 : n = 0
  · rw [if_pos h0]; subst h0; simp at hn; rw [hn]
  · rw [if_neg h0, ← hn]
    refine h.resolve_left (fun hc => ?_)
    have hpos : 0 < n * e := Nat.mul_pos (by omega) he
    rw [hc, List.length_nil] at hn
    omega

end Go.Ab
namespace Go.Proofs.Ytdfeoccjllljiaa
open Go.Ab

theorem _root_.Go.Ab.OE.blocks {L : Nat} {H : Heap} {v : Value} {bs : List Bk} (h : OE 3 L H v (tri bs) bs.length) (hl : bs.length ≤ 140737488355328) : ∃ w, Up H v w ∧ BlocksIn L H.length H w bs := by
  rcases h.2 with ⟨h0, rfl⟩ | ⟨id, h0, h1, rfl, h2⟩ | ⟨id, h1, rfl, h2⟩
  · obtain rfl := List.eq_nil_of_length_eq_zero h0
    exact ⟨_, Up.nil _ 0 0 3, BlocksIn.nil _ _ _⟩
  · obtain rfl := List.eq_nil_of_length_eq_zero h0
    exact ⟨_, Up.ex0 _ _ _ 3 0 0, BlocksIn.nil _ _ _⟩
  · refine ⟨_, Up.refl _ _, id, ⟨rfl, ?_, hl⟩, fun hne => ?_⟩
    · rcases h2 with ⟨h0, _⟩ | h2
      · exact .inl (List.eq_nil_of_length_eq_zero h0)
      · exact .inr h2
    · rcases h2 with ⟨h0, _⟩ | h2
      · exact absurd (List.eq_nil_of_length_eq_zero h0) hne
      · exact ⟨h1, (List.getElem?_eq_some_iff.1 h2).1⟩
theorem _root_.Go.Ab.OE.ints {L : Nat} {H : Heap} {v : Value} {xs : List Int} (h : OE 1 L H v (ints xs) xs.length) (hl : xs.length ≤ 140737488355328) : ∃ w, Up H v w ∧ IntsIn L H.length H w xs := by
  rcases h.2 with ⟨h0, rfl⟩ | ⟨id, h0, h1, rfl, h2⟩ | ⟨id, h1, rfl, h2⟩
  · obtain rfl := List.eq_nil_of_length_eq_zero h0
    exact ⟨_, Up.nil _ 0 0 1, IntsIn.nil _ _ _⟩
  · obtain rfl := List.eq_nil_of_length_eq_zero h0
    exact ⟨_, Up.ex0 _ _ _ 1 0 0, IntsIn.nil _ _ _⟩
  · refine ⟨_, Up.refl _ _, id, ⟨rfl, ?_, hl⟩, fun hne => ?_⟩
    · rcases h2 with ⟨h0, _⟩ | h2
      · exact .inl (List.eq_nil_of_length_eq_zero h0)
      · exact .inr h2
    · rcases h2 with ⟨h0, _⟩ | h2
      · exact absurd (List.eq_nil_of_length_eq_zero h0) hne
      · exact ⟨h1, (List.getElem?_eq_some_iff.1 h2).1⟩

/-- A system without the block k. -/
def without (bs : List Bk) (k : Nat) : List Bk := bs.take k ++ bs.drop (k + 1)

noncomputable def rTake (p : Int) (bs : List Bk) (i : Int) : (Int × List Bk) × Int :=
  if sysB p bs then (if inP bs.length i then ((p, without bs i.toNat), 0) else ((0, []), 2)) else ((0, []), 1)

theorem zeroSys {H : Heap} : Up H (.agg #[.int .i64 0, .slice none 0 0]) (sysV 0 (lv 3 0 0 0)) := Up.agg ⟨Up.refl _ _, Up.nil _ _ _ _, trivial⟩

end Go.Proofs.Ytdfeoccjllljiaa
end

section
/- TakeBlock: both sides; slices.Grow and slices.Concat over blocks. -/
set_option linter.all false
set_option maxRecDepth 20000
namespace Go.Proofs.Ytdfeoccjllljiaa
open Go.Ab

end Go.Proofs.Ytdfeoccjllljiaa
end

section
/- A test against nil whose answer is open; regions by their operations' meaning. No statement of the seat is proved here; it holds for every program. -/
set_option linter.all false
namespace Go.Ab
open Go.RowKit (Below)

section
variable {P : Program} {N : Nat} {ops : Array Oper} {o : Oper} {fr : Fr} {H : Heap} {K : Fr → Heap → Prop}

/-- One operation of a region does its due. -/
def StepOK (P : Program) (N : Nat) (ops : Array Oper) (o : Oper) (K : Fr → Heap → Prop) (fr : Fr) (H : Heap) : Prop :=
  ∀ (B : Nat) (w0 : World) (ρ : Rho) (w : World) (a : Act) (next : Act → World → Prop) (Q : Exit → Act → World → Prop), R B w0 ρ H w → FR N ρ fr a →
    (∀ (ρ' : Rho) (fr' : Fr) (H' : Heap) (a' : Act) (w' : World), ρ <+: ρ' → K fr' H' → R B w0 ρ' H' w' → FR N ρ' fr' a' → next a' w') → opDue P ops o a w next Q

theorem StepOK.of_v (h : vstep P N ops o K fr H) : StepOK P N ops o K fr H :=
  fun B w0 ρ w a next Q hR hF hK => vstep_sound h hR hF Q hK
theorem StepOK.of_op (hg : o.guard = none) (h : OpOK P N o fr H K) : StepOK P N ops o K fr H := by
  intro B w0 ρ w a next Q hR hF hK
  unfold opDue
  have : Region.wanted o (yielded ops a.tmps) = true := by simp [Region.wanted, hg]
  rw [if_pos this]
  exact .inl (h B w0 ρ w a next Q hR hF hK)

def OpsOK (P : Program) (N : Nat) (ops : Array Oper) (K : Fr → Heap → Prop) : List Oper → Fr → Heap → Prop
  | [], fr, H => K fr H
  | o :: rest, fr, H => StepOK P N ops o (OpsOK P N ops K rest) fr H

theorem opsOK_sound {B : Nat} {w0 : World} {Q : Exit → Act → World → Prop} : ∀ (l : List Nat) (os : List Oper), l.map (ops[·]?) = os.map some → ∀ (fr : Fr) (H : Heap) (ρ : Rho) (w : World) (a : Act),
    OpsOK P N ops K os fr H → R B w0 ρ H w → FR N ρ fr a →
    (∀ (ρ' : Rho) (fr' : Fr) (H' : Heap) (a' : Act) (w' : World), ρ <+: ρ' → K fr' H' → R B w0 ρ' H' w' → FR N ρ' fr' a' → Q .normal a' w') → wpOps P ops Q l a w
  | [], [], _, fr, H, ρ, w, a, h, hR, hF, hK => hK ρ fr H a w (List.prefix_refl _) h hR hF
  | i :: l, o :: os, hl, fr, H, ρ, w, a, h, hR, hF, hK => by
    simp only [List.map_cons, List.cons.injEq] at hl
    rw [wpOps_cons hl.1]
    refine h B w0 ρ w a _ Q hR hF ?_
    intro ρ' fr' H' a' w' hp hk hR' hF'
    exact opsOK_sound l os hl.2 fr' H' ρ' w' a' hk hR' hF' (fun ρ'' fr'' H'' a'' w'' hp' => hK ρ'' fr'' H'' a'' w'' (hp.trans hp'))
  | [], _ :: _, hl, _, _, _, _, _, _, _, _, _ => by simp at hl
  | _ :: _, [], hl, _, _, _, _, _, _, _, _, _ => by simp at hl

theorem AWp.regionS {id : Nat} {Q : Exit → Fr → Heap → Prop} (h : OpsOK P N ops (Q .normal) ops.toList fr H) : AWp P N (.region id ops false) Q fr H :=
  fun B w0 ρ w a hR hF => wp_region (opsOK_sound (List.range ops.size) ops.toList (range_map_get ops) fr H ρ w a h hR hF
    (fun ρ' fr' H' a' w' h1 h2 h3 h4 => ⟨ρ', fr', H', h1, h3, h4, h2⟩))

/-- Whether an empty slice is nil may be open: then both answers are to be met. -/
theorem ok_eqlNil2 {ty ty' : TypeId} {x y : Operand} (ho : o.op = .binOp .eql ty x y ty') {te : TypeId} (ht : P.underlying ty = some (.slice te)) {a : Option Addr} {n c : Nat} (hx : ev fr x = some (.slice a n c)) (hy : ev fr y = some (.slice none 0 0))
    (hd : dstOK N o.dst) (hk : ∀ b : Bool, K (fr.put o.dst (.bool b)) H) : OpOK P N o fr H K :=
  opOK_same fun ρ w ac hF => by
    have hv := hF.ev hx
    have hyv : ac.eval y = .slice none 0 0 := by
      have := hF.ev hy
      generalize ac.eval y = cy at this
      cases this; rfl
    have hex : ∃ a' n' c', ac.eval x = .slice a' n' c' := by
      generalize ac.eval x = cx at hv
      cases hv with
      | sliceNil => exact ⟨_, _, _, rfl⟩
      | sliceEx => exact ⟨_, _, _, rfl⟩
      | sliceUnk => exact ⟨_, _, _, rfl⟩
      | sliceZero i o e a' => exact ⟨a', 0, 0, rfl⟩
    obtain ⟨a', n', c', he⟩ := hex
    have hg := run_eqGuard_plain (P := P) w .eql ty x y (.slice a' n' c') (.slice none 0 0) rfl
    have heq : (Op.equal ty (.slice a' n' c') (.slice none 0 0)).run P w = .ok a'.isNone w := run_equalIn_slNil w ht a' n' c' 9999
    exact ⟨.bool a'.isNone, .bool a'.isNone, by simp [execOp, ho, he, hyv, hg, binOp, heq], .bool _, hd, hk _⟩
end

end Go.Ab
end
