/- The abstract heap: reading, new blocks, stores, append. No statement of the seat is proved here; it holds for every program. -/
import Derived.Test.YtkgjdmbmdnmilaaAbCore
set_option linter.all false
namespace Go.Ab
open Go.RowKit (Below)

theorem getElem?_rho_len {B : Nat} {w0 : World} {ρ : Rho} {H : Heap} {w : World} (h : R B w0 ρ H w) {i : Nat} {b : Blk} (hb : H[i]? = some b) : ∃ l, ρ[i]? = some l := by
  have hi : i < H.length := by
    rcases Nat.lt_or_ge i H.length with h | h
    · exact h
    · simp [List.getElem?_eq_none h] at hb
  rw [← h.len] at hi
  exact ⟨_, List.getElem?_eq_getElem hi⟩

/-- The cells of a live block from an offset on. -/
def cellsAt (H : Heap) (i o n : Nat) : Option (List Value) :=
  match H[i]? with
  | some b => if b.live = true ∧ o + n ≤ b.cells.length then some ((b.cells.drop o).take n) else none
  | none => none

theorem cellsAt_inv {H : Heap} {i o n : Nat} {cs : List Value} (h : cellsAt H i o n = some cs) :
    ∃ b, H[i]? = some b ∧ b.live = true ∧ o + n ≤ b.cells.length ∧ cs = (b.cells.drop o).take n := by
  unfold cellsAt at h
  cases hb : H[i]? with
  | none => simp [hb] at h
  | some b =>
    simp only [hb] at h
    split at h
    · rename_i hc
      exact ⟨b, rfl, hc.1, hc.2, by cases h; rfl⟩
    · cases h

theorem cellsAt_of {H : Heap} {i o n : Nat} {b : Blk} (hb : H[i]? = some b) (hl : b.live = true) (hn : o + n ≤ b.cells.length) : cellsAt H i o n = some ((b.cells.drop o).take n) := by
  simp [cellsAt, hb, hl, hn]

theorem R.cellsAt {B : Nat} {w0 : World} {ρ : Rho} {H : Heap} {w : World} (h : R B w0 ρ H w) {i o n : Nat} {cs : List Value} (hc : Ab.cellsAt H i o n = some cs) :
    ∃ l ds, ρ[i]? = some l ∧ cs.length = n ∧ VRs ρ cs ds ∧ (∀ v ∈ ds, v.oneCell' = true) ∧ ∀ (j : Nat) (v : Value), ds[j]? = some v → w.cell? ⟨l.blk, l.off + o + j, none⟩ = some v := by
  obtain ⟨b, hb, hl, hn, rfl⟩ := cellsAt_inv hc
  obtain ⟨l, hl'⟩ := getElem?_rho_len h hb
  have hok := h.blk i b l hb hl' hl
  have hlen : ((b.cells.drop o).take n).length = n := by simp; omega
  have hcell : ∀ j, j < n → ∃ cv, w.cell? ⟨l.blk, l.off + o + j, none⟩ = some cv ∧ VR ρ (((b.cells.drop o).take n).getD j undef) cv ∧ cv.oneCell' = true := by
    intro j hj
    have hlt : o + j < b.cells.length := by omega
    obtain ⟨cv, h1, h2, h3⟩ := hok.cell (k := o + j) (List.getElem?_eq_getElem hlt)
    refine ⟨cv, by rw [Nat.add_assoc]; exact h1, ?_, h3⟩
    have : ((b.cells.drop o).take n).getD j undef = b.cells[o + j] := by
      rw [List.getD_eq_getElem?_getD, List.getElem?_take, if_pos hj, List.getElem?_drop, List.getElem?_eq_getElem hlt]; rfl
    rw [this]; exact h2
  refine ⟨l, (List.range n).map (fun j => (w.cell? ⟨l.blk, l.off + o + j, none⟩).getD undef), hl', hlen, ⟨by simp [hlen], ?_⟩, ?_, ?_⟩
  · intro j v u hv hu
    have hj : j < n := by
      rcases Nat.lt_or_ge j n with h | h
      · exact h
      · rw [List.getElem?_eq_none (by rw [hlen]; exact h)] at hv; cases hv
    obtain ⟨cv, h1, h2, _⟩ := hcell j hj
    simp [hj, h1] at hu
    subst hu
    rw [List.getD_eq_getElem?_getD, hv] at h2
    exact h2
  · intro v hv
    simp at hv
    obtain ⟨j, hj, rfl⟩ := hv
    obtain ⟨cv, h1, _, h3⟩ := hcell j hj
    rw [h1]; exact h3
  · intro j v hv
    by_cases hj : j < n
    · obtain ⟨cv, h1, _, _⟩ := hcell j hj
      simp [hj, h1] at hv
      subst hv
      exact h1
    · simp [hj] at hv

/-- A draw changes nothing that the abstract heap speaks of. -/
theorem R.drew {B : Nat} {w0 : World} {ρ : Rho} {H : Heap} {w : World} (h : R B w0 ρ H w) : R B w0 ρ H w.drew :=
  ⟨h.len, h.below.drew, h.base, fun i b l hb hl hv => (h.blk i b l hb hl hv).kept (List.prefix_refl _) rfl, h.apart, h.ghost⟩

/-- A new block. -/
theorem R.alloc {B : Nat} {w0 : World} {ρ : Rho} {H : Heap} {w : World} (h : R B w0 ρ H w) (cs : List Value) (arr : Array Value) (elem : TypeId)
    (hle : ∀ (k : Nat) (v : Value), cs[k]? = some v → v.oneCell' = true ∧ ∃ cv, arr[k]? = some cv ∧ VR ρ v cv) :
    R B w0 (ρ ++ [⟨w.heap.size, 0, arr.size⟩]) (H ++ [⟨cs, true, true⟩]) (w.alloc (.cells arr elem)) := by
  have hpre : ρ <+: ρ ++ [⟨w.heap.size, 0, arr.size⟩] := List.prefix_append _ _
  have old : ∀ (i : Nat) (b : Blk) (l : Loc), H[i]? = some b → ρ[i]? = some l → b.live = true → BlkOK B (ρ ++ [⟨w.heap.size, 0, arr.size⟩]) b l (w.alloc (.cells arr elem)) := by
    intro i b l hb hl hv
    have hok := h.blk i b l hb hl hv
    exact hok.kept hpre (heap_alloc_old w _ hok.lt)
  have getH : ∀ (i : Nat) (b : Blk), (H ++ [(⟨cs, true, true⟩ : Blk)])[i]? = some b → (H[i]? = some b ∧ i < H.length) ∨ (i = H.length ∧ b = ⟨cs, true, true⟩) := by
    intro i b hb
    rcases Nat.lt_or_ge i H.length with hi | hi
    · rw [List.getElem?_append_left hi] at hb; exact .inl ⟨hb, hi⟩
    · rw [List.getElem?_append_right hi] at hb
      cases hk : i - H.length with
      | zero => rw [hk] at hb; simp at hb; exact .inr ⟨by omega, hb.symm⟩
      | succ k => rw [hk] at hb; simp at hb
  have getρ : ∀ (i : Nat) (l : Loc), (ρ ++ [(⟨w.heap.size, 0, arr.size⟩ : Loc)])[i]? = some l → (i < H.length → ρ[i]? = some l) ∧ (i = H.length → l = ⟨w.heap.size, 0, arr.size⟩) := by
    intro i l hl
    refine ⟨fun hi => ?_, fun hi => ?_⟩
    · rw [List.getElem?_append_left (by rw [h.len]; exact hi)] at hl; exact hl
    · rw [List.getElem?_append_right (by rw [h.len]; omega), h.len, hi] at hl; simpa using hl.symm
  refine ⟨by simp [h.len], h.below.alloc h.base _, by simp; have := h.base; omega, ?_, ?_, ?_⟩
  · intro i b l hb hl hv
    rcases getH i b hb with ⟨hb', hi⟩ | ⟨hi, rfl⟩
    · exact old i b l hb' ((getρ i l hl).1 hi) hv
    · have := (getρ i l hl).2 hi
      subst this
      refine ⟨arr, elem, (0, 0), heap_alloc_new w _, rfl, fun k v hk => ?_, fun _ => ⟨h.base, rfl⟩⟩
      obtain ⟨h1, cv, h2, h3⟩ := hle k v hk
      exact ⟨h1, cv, by simpa using h2, h3.mono hpre⟩
  · intro i j b c l m hij hb hc hl hm hbl hcl hbo
    rcases getH i b hb with ⟨hb', hi⟩ | ⟨hi, rfl⟩
    · rcases getH j c hc with ⟨hc', hj⟩ | ⟨hj, rfl⟩
      · exact h.apart i j b c l m hij hb' hc' ((getρ i l hl).1 hi) ((getρ j m hm).1 hj) hbl hcl hbo
      · have := (getρ j m hm).2 hj
        subst this
        have := (h.blk i b l hb' ((getρ i l hl).1 hi) hbl).lt
        show l.blk ≠ w.heap.size
        omega
    · have := (getρ i l hl).2 hi
      subst this
      rcases getH j c hc with ⟨hc', hj⟩ | ⟨hj, rfl⟩
      · have := (h.blk j c m hc' ((getρ j m hm).1 hj) hcl).lt
        show w.heap.size ≠ m.blk
        omega
      · omega
  · intro i b l hb hl hd ho
    rcases getH i b hb with ⟨hb', hi⟩ | ⟨hi, rfl⟩
    · exact h.ghost i b l hb' ((getρ i l hl).1 hi) hd ho
    · cases hd

/-- Less is said of a block: it is dead, or no more the call's own. -/
def Heap.kill (H : Heap) (i : Nat) : Heap :=
  match H[i]? with
  | some b => H.set i { b with live := false, own := true }
  | none => H

theorem Heap.kill_length (H : Heap) (i : Nat) : (H.kill i).length = H.length := by
  unfold Heap.kill; split <;> simp

theorem Heap.kill_get (H : Heap) (i j : Nat) (b : Blk) (hb : (H.kill i)[j]? = some b) (hl : b.live = true) : H[j]? = some b ∧ j ≠ i := by
  unfold Heap.kill at hb
  cases hi : H[i]? with
  | none =>
    simp only [hi] at hb
    refine ⟨hb, fun e => ?_⟩
    subst e; rw [hi] at hb; cases hb
  | some c =>
    simp only [hi] at hb
    by_cases e : i = j
    · subst e
      have hlt : i < H.length := (List.getElem?_eq_some_iff.1 hi).1
      simp [List.getElem?_set, hlt] at hb
      subst hb
      simp at hl
    · rw [List.getElem?_set_ne e] at hb
      exact ⟨hb, fun e' => e e'.symm⟩

theorem Heap.kill_ghost (H : Heap) (i j : Nat) (b : Blk) (hb : (H.kill i)[j]? = some b) (ho : b.own = false) : H[j]? = some b := by
  unfold Heap.kill at hb
  cases hi : H[i]? with
  | none => simp only [hi] at hb; exact hb
  | some c =>
    simp only [hi] at hb
    by_cases e : i = j
    · subst e
      have hlt : i < H.length := (List.getElem?_eq_some_iff.1 hi).1
      simp [List.getElem?_set, hlt] at hb
      subst hb
      simp at ho
    · rw [List.getElem?_set_ne e] at hb
      exact hb

theorem R.kill {B : Nat} {w0 : World} {ρ : Rho} {H : Heap} {w : World} (h : R B w0 ρ H w) (i : Nat) : R B w0 ρ (H.kill i) w := by
  refine ⟨by rw [Heap.kill_length]; exact h.len, h.below, h.base, ?_, ?_, fun j b l hb hl hd ho => h.ghost j b l (Heap.kill_ghost H i j b hb ho) hl hd ho⟩
  · intro j b l hb hl hv
    exact h.blk j b l (Heap.kill_get H i j b hb hv).1 hl hv
  · intro j k b c l m hjk hb hc hl hm hbl hcl hbo
    exact h.apart j k b c l m hjk (Heap.kill_get H i j b hb hbl).1 (Heap.kill_get H i k c hc hcl).1 hl hm hbl hcl hbo

/-- Cells written over. -/
def over (cs : List Value) (o : Nat) (vs : List Value) : List Value := cs.take o ++ vs ++ cs.drop (o + vs.length)

theorem over_length {cs vs : List Value} {o : Nat} (h : o + vs.length ≤ cs.length) : (over cs o vs).length = cs.length := by
  simp [over]; omega

theorem over_get {cs vs : List Value} {o : Nat} (h : o + vs.length ≤ cs.length) (k : Nat) :
    (over cs o vs)[k]? = if k < o then cs[k]? else if k < o + vs.length then vs[k - o]? else cs[k]? := by
  unfold over
  by_cases h1 : k < o
  · rw [if_pos h1, List.append_assoc, List.getElem?_append_left (by simp; omega), List.getElem?_take, if_pos h1]
  · rw [if_neg h1, List.append_assoc, List.getElem?_append_right (by simp; omega)]
    have e : (cs.take o).length = o := by simp; omega
    rw [e]
    by_cases h2 : k < o + vs.length
    · rw [if_pos h2, List.getElem?_append_left (by omega)]
    · rw [if_neg h2, List.getElem?_append_right (by omega), List.getElem?_drop]
      congr 1; omega

theorem over_one {cs : List Value} {o : Nat} {v : Value} (h : o < cs.length) : over cs o [v] = cs.set o v := by
  apply List.ext_getElem?
  intro k
  rw [over_get (by simp; omega), List.getElem?_set]
  by_cases h1 : k < o
  · rw [if_pos h1, if_neg (by omega)]
  · rw [if_neg h1]
    by_cases h2 : k = o
    · subst h2; simp [h]
    · rw [if_neg (by simp; omega), if_neg (fun e => h2 e.symm)]

/-- A store of some cells. -/
def storeAt (H : Heap) (i o : Nat) (vs : List Value) : Option Heap :=
  match H[i]? with
  | some b => if b.live = true ∧ b.own = true ∧ o + vs.length ≤ b.cells.length ∧ vs.all Value.oneCell' = true then some (H.set i { b with cells := over b.cells o vs }) else none
  | none => none

theorem storeAt_inv {H H' : Heap} {i o : Nat} {vs : List Value} (h : storeAt H i o vs = some H') :
    ∃ b, H[i]? = some b ∧ b.live = true ∧ b.own = true ∧ o + vs.length ≤ b.cells.length ∧ vs.all Value.oneCell' = true ∧ H' = H.set i { b with cells := over b.cells o vs } := by
  unfold storeAt at h
  cases hb : H[i]? with
  | none => simp [hb] at h
  | some b =>
    simp only [hb] at h
    split at h
    · rename_i hc
      exact ⟨b, rfl, hc.1, hc.2.1, hc.2.2.1, hc.2.2.2, by cases h; rfl⟩
    · cases h

theorem storeAt_of {H : Heap} {i o : Nat} {vs : List Value} {b : Blk} (hb : H[i]? = some b) (hl : b.live = true) (ho : b.own = true) (hn : o + vs.length ≤ b.cells.length) (hv : vs.all Value.oneCell' = true) :
    storeAt H i o vs = some (H.set i { b with cells := over b.cells o vs }) := by
  simp only [storeAt, hb]; rw [if_pos ⟨hl, ho, hn, hv⟩]

/-- The world behind such a store. -/
theorem R.setRow {B : Nat} {w0 : World} {ρ : Rho} {H : Heap} {w : World} (h : R B w0 ρ H w) {i : Nat} {b : Blk} {l : Loc} (hb : H[i]? = some b) (hl : ρ[i]? = some l) (hv : b.live = true) (ho : b.own = true)
    (cs : List Value) (arr : Array Value) (elem : TypeId) (cur : Array Value) (hg : w.heap[l.blk]? = some (.cells cur elem (0, 0))) (hs : arr.size = cur.size)
    (hc : ∀ (k : Nat) (v : Value), cs[k]? = some v → v.oneCell' = true ∧ ∃ cv, arr[l.off + k]? = some cv ∧ VR ρ v cv) :
    R B w0 ρ (H.set i { b with cells := cs }) (w.setRow l.blk arr) := by
  have hlt : i < H.length := (List.getElem?_eq_some_iff.1 hb).1
  have hok := h.blk i b l hb hl hv
  have hBl : B ≤ l.blk := by obtain ⟨_, _, _, _, _, _, h5⟩ := hok; exact (h5 ho).1
  have hget : ∀ (j : Nat) (c : Blk), (H.set i { b with cells := cs })[j]? = some c → (j = i ∧ c = { b with cells := cs }) ∨ (j ≠ i ∧ H[j]? = some c) := by
    intro j c hj
    rw [List.getElem?_set] at hj
    by_cases e : i = j
    · subst e; simp [hlt] at hj; exact .inl ⟨rfl, hj.symm⟩
    · rw [if_neg e] at hj; exact .inr ⟨fun e' => e e'.symm, hj⟩
  have hsz : l.size = cur.size := by
    obtain ⟨a, e, f, h1, h2, _⟩ := hok
    rw [hg] at h1; cases h1; exact h2
  refine ⟨by simp [h.len], ?_, by simpa using h.base, ?_, ?_, ?_⟩
  · exact h.below.trans ⟨rfl, rfl, rfl, by simp, fun k hk => setRow_other w l.blk k arr (by omega)⟩
  · intro j c m hj hm hcl
    rcases hget j c hj with ⟨rfl, rfl⟩ | ⟨hne, hj'⟩
    · have : m = l := by rw [hl] at hm; cases hm; rfl
      subst this
      refine ⟨arr, elem, (0, 0), setRow_heap w _ cur _ elem _ hg, by rw [hs]; exact hsz, hc, fun _ => ⟨hBl, rfl⟩⟩
    · refine (h.blk j c m hj' hm hcl).kept (List.prefix_refl _) (setRow_other w l.blk m.blk arr ?_)
      exact fun e => h.apart i j b c l m (fun e => hne e.symm) hb hj' hl hm hv hcl ho e.symm
  · intro j k c d m n hjk hj hk hm hn hcl hdl hco
    rcases hget j c hj with ⟨rfl, rfl⟩ | ⟨hne, hj'⟩
    · rcases hget k d hk with ⟨rfl, _⟩ | ⟨hne', hk'⟩
      · exact absurd rfl hjk
      · exact h.apart j k b d m n hjk hb hk' hm hn hv hdl ho
    · rcases hget k d hk with ⟨rfl, rfl⟩ | ⟨hne', hk'⟩
      · exact h.apart j k c b m n hjk hj' hb hm hn hcl hv hco
      · exact h.apart j k c d m n hjk hj' hk' hm hn hcl hdl hco
  · intro j c m hj hm hd hco
    rcases hget j c hj with ⟨rfl, rfl⟩ | ⟨hne, hj'⟩
    · exact h.ghost j b m hb hm hd hco
    · exact h.ghost j c m hj' hm hd hco

/-- A block that stands for no memory: what an empty slice may lead to. -/
theorem R.addGhost {B : Nat} {w0 : World} {ρ : Rho} {H : Heap} {w : World} (h : R B w0 ρ H w) : R B w0 (ρ ++ [⟨0, 0, 0⟩]) (H ++ [⟨[], false, false⟩]) w := by
  have hpre : ρ <+: ρ ++ [(⟨0, 0, 0⟩ : Loc)] := List.prefix_append _ _
  have getH : ∀ (i : Nat) (b : Blk), (H ++ [(⟨[], false, false⟩ : Blk)])[i]? = some b → (H[i]? = some b ∧ i < H.length) ∨ (i = H.length ∧ b = ⟨[], false, false⟩) := by
    intro i b hb
    rcases Nat.lt_or_ge i H.length with hi | hi
    · rw [List.getElem?_append_left hi] at hb; exact .inl ⟨hb, hi⟩
    · rw [List.getElem?_append_right hi] at hb
      cases hk : i - H.length with
      | zero => rw [hk] at hb; simp at hb; exact .inr ⟨by omega, hb.symm⟩
      | succ k => rw [hk] at hb; simp at hb
  have getρ : ∀ (i : Nat) (l : Loc), (ρ ++ [(⟨0, 0, 0⟩ : Loc)])[i]? = some l → (i < H.length → ρ[i]? = some l) ∧ (i = H.length → l = ⟨0, 0, 0⟩) := by
    intro i l hl
    refine ⟨fun hi => ?_, fun hi => ?_⟩
    · rw [List.getElem?_append_left (by rw [h.len]; exact hi)] at hl; exact hl
    · rw [List.getElem?_append_right (by rw [h.len]; omega), h.len, hi] at hl; simpa using hl.symm
  refine ⟨by simp [h.len], h.below, h.base, ?_, ?_, ?_⟩
  · intro i b l hb hl hv
    rcases getH i b hb with ⟨hb', hi⟩ | ⟨hi, rfl⟩
    · exact (h.blk i b l hb' ((getρ i l hl).1 hi) hv).kept hpre rfl
    · cases hv
  · intro i j b c l m hij hb hc hl hm hbl hcl hbo
    rcases getH i b hb with ⟨hb', hi⟩ | ⟨hi, rfl⟩
    · rcases getH j c hc with ⟨hc', hj⟩ | ⟨hj, rfl⟩
      · exact h.apart i j b c l m hij hb' hc' ((getρ i l hl).1 hi) ((getρ j m hm).1 hj) hbl hcl hbo
      · cases hcl
    · cases hbl
  · intro i b l hb hl hd ho
    rcases getH i b hb with ⟨hb', hi⟩ | ⟨hi, rfl⟩
    · exact h.ghost i b l hb' ((getρ i l hl).1 hi) hd ho
    · rw [(getρ i l hl).2 hi]

/-- Memory that was there: it is only read. -/
theorem R.addOld {B : Nat} {w0 : World} {ρ : Rho} {H : Heap} {w : World} (h : R B w0 ρ H w) (cs : List Value) (g o : Nat) (arr : Array Value) (elem : TypeId) (fz : Nat × Nat) (hg : w.heap[g]? = some (.cells arr elem fz)) (hnone : ∀ b ∈ H, b.own = true → b.live = false)
    (hle : ∀ (k : Nat) (v : Value), cs[k]? = some v → v.oneCell' = true ∧ ∃ cv, arr[o + k]? = some cv ∧ VR ρ v cv) :
    R B w0 (ρ ++ [⟨g, o, arr.size⟩]) (H ++ [⟨cs, true, false⟩]) w := by
  have hpre : ρ <+: ρ ++ [(⟨g, o, arr.size⟩ : Loc)] := List.prefix_append _ _
  have getH : ∀ (i : Nat) (b : Blk), (H ++ [(⟨cs, true, false⟩ : Blk)])[i]? = some b → (H[i]? = some b ∧ i < H.length) ∨ (i = H.length ∧ b = ⟨cs, true, false⟩) := by
    intro i b hb
    rcases Nat.lt_or_ge i H.length with hi | hi
    · rw [List.getElem?_append_left hi] at hb; exact .inl ⟨hb, hi⟩
    · rw [List.getElem?_append_right hi] at hb
      cases hk : i - H.length with
      | zero => rw [hk] at hb; simp at hb; exact .inr ⟨by omega, hb.symm⟩
      | succ k => rw [hk] at hb; simp at hb
  have getρ : ∀ (i : Nat) (l : Loc), (ρ ++ [(⟨g, o, arr.size⟩ : Loc)])[i]? = some l → (i < H.length → ρ[i]? = some l) ∧ (i = H.length → l = ⟨g, o, arr.size⟩) := by
    intro i l hl
    refine ⟨fun hi => ?_, fun hi => ?_⟩
    · rw [List.getElem?_append_left (by rw [h.len]; exact hi)] at hl; exact hl
    · rw [List.getElem?_append_right (by rw [h.len]; omega), h.len, hi] at hl; simpa using hl.symm
  refine ⟨by simp [h.len], h.below, h.base, ?_, ?_, ?_⟩
  · intro i b l hb hl hv
    rcases getH i b hb with ⟨hb', hi⟩ | ⟨hi, rfl⟩
    · exact (h.blk i b l hb' ((getρ i l hl).1 hi) hv).kept hpre rfl
    · have := (getρ i l hl).2 hi
      subst this
      refine ⟨arr, elem, fz, hg, rfl, fun k v hk => ?_, fun e => by cases e⟩
      obtain ⟨h1, cv, h2, h3⟩ := hle k v hk
      exact ⟨h1, cv, h2, h3.mono hpre⟩
  · intro i j b c l m hij hb hc hl hm hbl hcl hbo
    exfalso
    rcases getH i b hb with ⟨hb', hi⟩ | ⟨hi, rfl⟩
    · have := hnone b (List.mem_of_getElem? hb') hbo
      rw [this] at hbl; cases hbl
    · cases hbo
  · intro i b l hb hl hd ho
    rcases getH i b hb with ⟨hb', hi⟩ | ⟨hi, rfl⟩
    · exact h.ghost i b l hb' ((getρ i l hl).1 hi) hd ho
    · cases hd

end Go.Ab
