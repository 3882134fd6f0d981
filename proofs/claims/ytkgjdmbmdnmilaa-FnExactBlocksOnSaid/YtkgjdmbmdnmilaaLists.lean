/- Lists in the abstract heap: slices of numbers, of blocks, of lists; loading and storing an element. No statement of the seat is proved here; it holds for every program. -/
import Derived.Test.YtkgjdmbmdnmilaaAbRow
set_option linter.all false
namespace Go.Ab

/-- Numbers as cells. -/
def ints (xs : List Int) : List Value := xs.map (.int .i64 ·)

theorem ints_length (xs : List Int) : (ints xs).length = xs.length := by simp [ints]
theorem ints_get (xs : List Int) (i : Nat) : (ints xs)[i]? = xs[i]?.map (.int .i64 ·) := by simp [ints]
theorem ints_one (xs : List Int) : (ints xs).all Value.oneCell' = true := by simp [ints, Value.oneCell']
theorem ints_set (xs : List Int) (i : Nat) (n : Int) : (ints xs).set i (.int .i64 n) = ints (xs.set i n) := by simp [ints, List.map_set]
theorem ints_append (xs ys : List Int) : ints xs ++ ints ys = ints (xs ++ ys) := by simp [ints]

theorem take_one {cs : List Value} {k : Nat} {v : Value} (hv : cs[k]? = some v) : (cs.drop k).take 1 = [v] := by
  obtain ⟨hlt, he⟩ := List.getElem?_eq_some_iff.1 hv
  rw [List.drop_eq_getElem_cons hlt, List.take_succ_cons, List.take_zero, he]

/-- The block i is there and holds these cells. -/
def Holds (H : Heap) (i : Nat) (cs : List Value) : Prop := ∃ own, H[i]? = some ⟨cs, true, own⟩

theorem Holds.cells {H : Heap} {i : Nat} {cs : List Value} (h : Holds H i cs) {o n : Nat} (hn : o + n ≤ cs.length) : cellsAt H i o n = some ((cs.drop o).take n) := by
  obtain ⟨own, hb⟩ := h
  exact cellsAt_of hb rfl hn

theorem Holds.cell {H : Heap} {i : Nat} {cs : List Value} (h : Holds H i cs) {o : Nat} {v : Value} (hv : cs[o]? = some v) : cellsAt H i o 1 = some [v] := by
  have hlt := (List.getElem?_eq_some_iff.1 hv).1
  rw [h.cells (by omega), take_one hv]

theorem Holds.pre {H H' : Heap} (hp : H <+: H') {i : Nat} {cs : List Value} (h : Holds H i cs) : Holds H' i cs := by
  obtain ⟨own, hb⟩ := h
  refine ⟨own, ?_⟩
  obtain ⟨t, rfl⟩ := hp
  rw [List.getElem?_append_left (List.getElem?_eq_some_iff.1 hb).1]; exact hb

/-- The cells from o on are these. -/
def At (H : Heap) (i o : Nat) (cs : List Value) : Prop := cs = [] ∨ cellsAt H i o cs.length = some cs

theorem At.sub {H : Heap} {i o : Nat} {cs : List Value} (h : At H i o cs) {k n : Nat} (hn : 0 < n) (hk : k + n ≤ cs.length) : cellsAt H i (o + k) n = some ((cs.drop k).take n) := by
  rcases h with rfl | h
  · simp at hk; omega
  · obtain ⟨b, hb, hl, hn', he⟩ := cellsAt_inv h
    rw [cellsAt_of hb hl (by omega)]
    congr 1
    apply List.ext_getElem?
    intro j
    have hget : ∀ m, m < cs.length → cs[m]? = b.cells[o + m]? := by
      intro m hm
      conv => lhs; rw [he]
      rw [List.getElem?_take, if_pos hm, List.getElem?_drop]
    by_cases hj : j < n
    · rw [List.getElem?_take, if_pos hj, List.getElem?_take, if_pos hj, List.getElem?_drop, List.getElem?_drop, hget _ (by omega)]
      congr 1; omega
    · rw [List.getElem?_take, if_neg hj, List.getElem?_take, if_neg hj]

theorem At.cell {H : Heap} {i o : Nat} {cs : List Value} (h : At H i o cs) {k : Nat} {v : Value} (hv : cs[k]? = some v) : cellsAt H i (o + k) 1 = some [v] := by
  have hlt := (List.getElem?_eq_some_iff.1 hv).1
  rw [h.sub (by omega) (by omega), take_one hv]

theorem At.pre {H H' : Heap} (hp : H <+: H') {i o : Nat} {cs : List Value} (h : At H i o cs) : At H' i o cs :=
  h.imp (fun h => h) (cellsAt_pre hp)

theorem Holds.at {H : Heap} {i : Nat} {cs : List Value} (h : Holds H i cs) : At H i 0 cs := by
  right
  rw [h.cells (by omega)]; simp

/-- A slice of numbers. -/
def IntsAt (H : Heap) (v : Value) (xs : List Int) : Prop := ∃ i o, v = lv 1 i o xs.length ∧ At H i o (ints xs) ∧ xs.length ≤ 140737488355328

theorem IntsAt.pre {H H' : Heap} (hp : H <+: H') {v : Value} {xs : List Int} (h : IntsAt H v xs) : IntsAt H' v xs := by
  obtain ⟨i, o, h1, h2, h3⟩ := h
  exact ⟨i, o, h1, h2.pre hp, h3⟩

theorem i64w {n : Int} (h0 : -9223372036854775808 ≤ n) (h1 : n ≤ 9223372036854775807) : IntKind.i64.wrap n = n := by
  rw [IntKind.wrap_i64]; omega

end Go.Ab
