/- An abstract heap and its tie to the model's world: values, blocks, frames. No statement of the seat is proved here; it holds for every program. -/
import Derived.WalkKit
set_option linter.all false
namespace Go.Ab
open Go.RowKit (Below)

/-- The place of an abstract block: the concrete block, the offset of its first cell, the size of the concrete block. -/
structure Loc where
  blk : Nat
  off : Nat
  size : Nat

abbrev Rho := List Loc

/-- An abstract value stands for a concrete one. A slice whose capacity is not known bears the size of its elements in 'spot'. -/
inductive VR (ρ : Rho) : Value → Value → Prop
  | bool (b : Bool) : VR ρ (.bool b) (.bool b)
  | int (k : IntKind) (n : Int) : VR ρ (.int k n) (.int k n)
  | string (s : ByteArray) : VR ρ (.string s) (.string s)
  | ptrNil : VR ρ (.pointer none) (.pointer none)
  | ptr (i o : Nat) (l : Loc) : ρ[i]? = some l → VR ρ (.pointer (some ⟨i, o, none⟩)) (.pointer (some ⟨l.blk, l.off + o, none⟩))
  | sliceNil : VR ρ (.slice none 0 0) (.slice none 0 0)
  | sliceEx (i o n : Nat) (l : Loc) : ρ[i]? = some l → VR ρ (.slice (some ⟨i, o, none⟩) n n) (.slice (some ⟨l.blk, l.off + o, none⟩) n n)
  | sliceUnk (i o e n o' c : Nat) (l : Loc) : ρ[i]? = some l → (o' = l.off + o ∨ (n = 0 ∧ c = 0)) → n ≤ c → o' + c * e ≤ l.size →
      VR ρ (.slice (some ⟨i, o, some e⟩) n n) (.slice (some ⟨l.blk, o', none⟩) n c)
  | sliceZero (i o e : Nat) (a : Option Addr) : VR ρ (.slice (some ⟨i, o, some e⟩) 0 0) (.slice a 0 0)
  | nilFunc : VR ρ .nilFunc .nilFunc
  | func (fn : Fn) (as bs as' bs' : Array Value) : as.size = as'.size → bs.size = bs'.size →
      (∀ (i : Nat) (v w : Value), as[i]? = some v → as'[i]? = some w → VR ρ v w) → (∀ (i : Nat) (v w : Value), bs[i]? = some v → bs'[i]? = some w → VR ρ v w) → VR ρ (.func fn as bs) (.func fn as' bs')
  | iface (t : TypeId) (v w : Value) : VR ρ v w → VR ρ (.iface t v) (.iface t w)
  | nilIface : VR ρ .nilIface .nilIface
  | agg (xs ys : Array Value) : xs.size = ys.size → (∀ (i : Nat) (v w : Value), xs[i]? = some v → ys[i]? = some w → VR ρ v w) → VR ρ (.agg xs) (.agg ys)
  | tuple (xs ys : Array Value) : xs.size = ys.size → (∀ (i : Nat) (v w : Value), xs[i]? = some v → ys[i]? = some w → VR ρ v w) → VR ρ (.tuple xs) (.tuple ys)

theorem VR.mono {ρ ρ' : Rho} (h : ρ <+: ρ') {v w : Value} (hv : VR ρ v w) : VR ρ' v w := by
  have key : ∀ (i : Nat) (l : Loc), ρ[i]? = some l → ρ'[i]? = some l := by
    intro i l hl
    obtain ⟨t, rfl⟩ := h
    have hi : i < ρ.length := by
      rcases Nat.lt_or_ge i ρ.length with h | h
      · exact h
      · simp [List.getElem?_eq_none h] at hl
    rw [List.getElem?_append_left hi]; exact hl
  induction hv with
  | bool b => exact .bool b
  | int k n => exact .int k n
  | string s => exact .string s
  | ptrNil => exact .ptrNil
  | ptr i o l hl => exact .ptr i o l (key _ _ hl)
  | sliceNil => exact .sliceNil
  | sliceEx i o n l hl => exact .sliceEx i o n l (key _ _ hl)
  | sliceUnk i o e n o' c l hl h1 h2 h3 => exact .sliceUnk i o e n o' c l (key _ _ hl) h1 h2 h3
  | sliceZero i o e a => exact .sliceZero i o e a
  | nilFunc => exact .nilFunc
  | func fn as bs as' bs' h1 h2 _ _ ih1 ih2 => exact .func fn as bs as' bs' h1 h2 ih1 ih2
  | iface t v w _ ih => exact .iface t v w ih
  | nilIface => exact .nilIface
  | agg xs ys h1 _ ih => exact .agg xs ys h1 ih
  | tuple xs ys h1 _ ih => exact .tuple xs ys h1 ih

/-- Lists of values, one by one. -/
def VRs (ρ : Rho) (vs ws : List Value) : Prop := vs.length = ws.length ∧ ∀ (i : Nat) (v w : Value), vs[i]? = some v → ws[i]? = some w → VR ρ v w

theorem VRs.nil (ρ : Rho) : VRs ρ [] [] := ⟨rfl, by simp⟩
theorem VRs.cons {ρ : Rho} {v w : Value} {vs ws : List Value} (h : VR ρ v w) (hs : VRs ρ vs ws) : VRs ρ (v :: vs) (w :: ws) := by
  refine ⟨by simp [hs.1], ?_⟩
  intro i a b ha hb
  cases i with
  | zero => simp at ha hb; subst ha; subst hb; exact h
  | succ i => simp at ha hb; exact hs.2 i a b ha hb
theorem VRs.mono {ρ ρ' : Rho} (h : ρ <+: ρ') {vs ws : List Value} (hv : VRs ρ vs ws) : VRs ρ' vs ws :=
  ⟨hv.1, fun i v w h1 h2 => (hv.2 i v w h1 h2).mono h⟩
theorem VRs.append {ρ : Rho} {vs ws vs' ws' : List Value} (h : VRs ρ vs ws) (h' : VRs ρ vs' ws') : VRs ρ (vs ++ vs') (ws ++ ws') := by
  refine ⟨by simp [h.1, h'.1], ?_⟩
  intro i a b ha hb
  rcases Nat.lt_or_ge i vs.length with hi | hi
  · rw [List.getElem?_append_left hi] at ha
    rw [List.getElem?_append_left (by rw [← h.1]; exact hi)] at hb
    exact h.2 i a b ha hb
  · rw [List.getElem?_append_right hi] at ha
    rw [List.getElem?_append_right (by rw [← h.1]; exact hi), ← h.1] at hb
    exact h'.2 _ a b ha hb
theorem VRs.head {ρ : Rho} {v w : Value} {vs ws : List Value} (h : VRs ρ (v :: vs) (w :: ws)) : VR ρ v w := h.2 0 v w rfl rfl
theorem VRs.tail {ρ : Rho} {v w : Value} {vs ws : List Value} (h : VRs ρ (v :: vs) (w :: ws)) : VRs ρ vs ws :=
  ⟨by simpa using h.1, fun i a b ha hb => h.2 (i + 1) a b (by simpa using ha) (by simpa using hb)⟩
theorem VRs.nil_inv {ρ : Rho} {ws : List Value} (h : VRs ρ [] ws) : ws = [] := by
  cases ws with
  | nil => rfl
  | cons w ws => simp [VRs] at h
theorem VRs.cons_inv {ρ : Rho} {v : Value} {vs ws : List Value} (h : VRs ρ (v :: vs) ws) : ∃ w ws', ws = w :: ws' ∧ VR ρ v w ∧ VRs ρ vs ws' := by
  cases ws with
  | nil => simp [VRs] at h
  | cons w ws => exact ⟨w, ws, rfl, h.head, h.tail⟩

theorem VR.agg_of {ρ : Rho} {xs ys : Array Value} (h : VRs ρ xs.toList ys.toList) : VR ρ (.agg xs) (.agg ys) :=
  .agg xs ys (by simpa using h.1) fun i v w h1 h2 => h.2 i v w (by simpa using h1) (by simpa using h2)
theorem VR.agg_inv {ρ : Rho} {xs : Array Value} {w : Value} (h : VR ρ (.agg xs) w) : ∃ ys, w = .agg ys ∧ VRs ρ xs.toList ys.toList := by
  cases h with
  | agg _ ys h1 h2 => exact ⟨ys, rfl, by simpa using h1, fun i v w h3 h4 => h2 i v w (by simpa using h3) (by simpa using h4)⟩
theorem VR.tuple_of {ρ : Rho} {xs ys : Array Value} (h : VRs ρ xs.toList ys.toList) : VR ρ (.tuple xs) (.tuple ys) :=
  .tuple xs ys (by simpa using h.1) fun i v w h1 h2 => h.2 i v w (by simpa using h1) (by simpa using h2)
theorem VR.tuple_inv {ρ : Rho} {xs : Array Value} {w : Value} (h : VR ρ (.tuple xs) w) : ∃ ys, w = .tuple ys ∧ VRs ρ xs.toList ys.toList := by
  cases h with
  | tuple _ ys h1 h2 => exact ⟨ys, rfl, by simpa using h1, fun i v w h3 h4 => h2 i v w (by simpa using h3) (by simpa using h4)⟩
theorem VR.int_inv {ρ : Rho} {k : IntKind} {n : Int} {w : Value} (h : VR ρ (.int k n) w) : w = .int k n := by cases h; rfl
theorem VR.bool_inv {ρ : Rho} {b : Bool} {w : Value} (h : VR ρ (.bool b) w) : w = .bool b := by cases h; rfl
theorem VR.string_inv {ρ : Rho} {s : ByteArray} {w : Value} (h : VR ρ (.string s) w) : w = .string s := by cases h; rfl
theorem VR.func_inv {ρ : Rho} {fn : Fn} {as bs : Array Value} {w : Value} (h : VR ρ (.func fn as bs) w) :
    ∃ as' bs', w = .func fn as' bs' ∧ VRs ρ as.toList as'.toList ∧ VRs ρ bs.toList bs'.toList := by
  cases h with
  | func _ _ _ as' bs' h1 h2 h3 h4 =>
    exact ⟨as', bs', rfl, ⟨by simpa using h1, fun i v w h5 h6 => h3 i v w (by simpa using h5) (by simpa using h6)⟩, ⟨by simpa using h2, fun i v w h5 h6 => h4 i v w (by simpa using h5) (by simpa using h6)⟩⟩
theorem VR.func_of {ρ : Rho} {fn : Fn} {as bs as' bs' : Array Value} (h : VRs ρ as.toList as'.toList) (h' : VRs ρ bs.toList bs'.toList) : VR ρ (.func fn as bs) (.func fn as' bs') :=
  .func fn as bs as' bs' (by simpa using h.1) (by simpa using h'.1) (fun i v w h1 h2 => h.2 i v w (by simpa using h1) (by simpa using h2)) (fun i v w h1 h2 => h'.2 i v w (by simpa using h1) (by simpa using h2))
theorem VR.ptr_inv {ρ : Rho} {i o : Nat} {w : Value} (h : VR ρ (.pointer (some ⟨i, o, none⟩)) w) : ∃ l : Loc, ρ[i]? = some l ∧ w = .pointer (some ⟨l.blk, l.off + o, none⟩) := by
  cases h with
  | ptr _ _ l hl => exact ⟨l, hl, rfl⟩
theorem VR.oneCell {ρ : Rho} {v w : Value} (h : VR ρ v w) : v.oneCell' = w.oneCell' := by cases h <;> rfl
theorem VR.cells {ρ : Rho} {v w : Value} (h : VR ρ v w) : VRs ρ v.cells.toList w.cells.toList := by
  cases h with
  | agg xs ys h1 h2 => exact ⟨by simpa [Value.cells] using h1, fun i a b ha hb => h2 i a b (by simpa [Value.cells] using ha) (by simpa [Value.cells] using hb)⟩
  | _ =>
    refine VRs.cons ?_ (VRs.nil _)
    constructor <;> assumption

/-- A constant that stands for itself. -/
def closed0 : Value → Bool
  | .bool _ | .int _ _ | .string _ | .pointer none | .slice none 0 0 | .nilFunc | .nilIface => true
  | _ => false
def closed : Value → Bool
  | .agg cs => cs.toList.all closed0
  | .tuple cs => cs.toList.all closed0
  | .func _ as bs => as.toList.isEmpty && bs.toList.isEmpty
  | v => closed0 v

theorem VR.closed0 {ρ : Rho} {v : Value} (h : closed0 v = true) : VR ρ v v := by
  cases v with
  | bool b => exact .bool b
  | int k n => exact .int k n
  | string s => exact .string s
  | pointer a => cases a with
    | none => exact .ptrNil
    | some a => simp [Ab.closed0] at h
  | slice a n c => cases a with
    | none =>
      cases n with
      | zero => cases c with
        | zero => exact .sliceNil
        | succ c => simp [Ab.closed0] at h
      | succ n => simp [Ab.closed0] at h
    | some a => simp [Ab.closed0] at h
  | nilFunc => exact .nilFunc
  | nilIface => exact .nilIface
  | _ => simp [Ab.closed0] at h

theorem VRs.closed {ρ : Rho} {vs : List Value} (h : vs.all Ab.closed0 = true) : VRs ρ vs vs := by
  refine ⟨rfl, fun i v w h1 h2 => ?_⟩
  rw [h1] at h2; cases h2
  exact VR.closed0 (List.all_eq_true.1 h v (List.mem_of_getElem? h1))

theorem VR.closed {ρ : Rho} {v : Value} (h : closed v = true) : VR ρ v v := by
  cases v with
  | agg cs => exact VR.agg_of (VRs.closed h)
  | tuple cs => exact VR.tuple_of (VRs.closed h)
  | func fn as bs =>
    simp [Ab.closed] at h
    obtain ⟨rfl, rfl⟩ := h
    exact VR.func_of (VRs.nil _) (VRs.nil _)
  | _ => exact VR.closed0 h

/-! Blocks and heaps. -/

structure Blk where
  cells : List Value
  live : Bool
  own : Bool

abbrev Heap := List Blk

/-- What a live abstract block says of the world. -/
def BlkOK (B : Nat) (ρ : Rho) (b : Blk) (l : Loc) (w : World) : Prop :=
  ∃ arr elem fz, w.heap[l.blk]? = some (.cells arr elem fz) ∧ l.size = arr.size ∧
    (∀ k v, b.cells[k]? = some v → v.oneCell' = true ∧ ∃ cv, arr[l.off + k]? = some cv ∧ VR ρ v cv) ∧ (b.own = true → B ≤ l.blk ∧ fz = (0, 0))

structure R (B : Nat) (w0 : World) (ρ : Rho) (H : Heap) (w : World) : Prop where
  len : ρ.length = H.length
  below : Below B w0 w
  base : B ≤ w.heap.size
  blk : ∀ (i : Nat) (b : Blk) (l : Loc), H[i]? = some b → ρ[i]? = some l → b.live = true → BlkOK B ρ b l w
  apart : ∀ (i j : Nat) (b c : Blk) (l m : Loc), i ≠ j → H[i]? = some b → H[j]? = some c → ρ[i]? = some l → ρ[j]? = some m → b.live = true → c.live = true → b.own = true → l.blk ≠ m.blk
  ghost : ∀ (i : Nat) (b : Blk) (l : Loc), H[i]? = some b → ρ[i]? = some l → b.live = false → b.own = false → l.size = 0

theorem BlkOK.lt {B : Nat} {ρ : Rho} {b : Blk} {l : Loc} {w : World} (h : BlkOK B ρ b l w) : l.blk < w.heap.size := by
  obtain ⟨arr, elem, fz, hg, _⟩ := h
  exact (Array.getElem?_eq_some_iff.1 hg).1

theorem BlkOK.cell {B : Nat} {ρ : Rho} {b : Blk} {l : Loc} {w : World} (h : BlkOK B ρ b l w) {k : Nat} {v : Value} (hk : b.cells[k]? = some v) :
    ∃ cv, w.cell? ⟨l.blk, l.off + k, none⟩ = some cv ∧ VR ρ v cv ∧ cv.oneCell' = true := by
  obtain ⟨arr, elem, fz, hg, _, hc, _⟩ := h
  obtain ⟨h1, cv, h2, h3⟩ := hc k v hk
  exact ⟨cv, by simp [World.cell?, hg, h2], h3, by rw [← h3.oneCell]; exact h1⟩

theorem BlkOK.kept {B : Nat} {ρ ρ' : Rho} {b : Blk} {l : Loc} {w w' : World} (h : BlkOK B ρ b l w) (hρ : ρ <+: ρ') (hw : w'.heap[l.blk]? = w.heap[l.blk]?) : BlkOK B ρ' b l w' := by
  obtain ⟨arr, elem, fz, hg, hs, hc, ho⟩ := h
  refine ⟨arr, elem, fz, by rw [hw]; exact hg, hs, fun k v hk => ?_, ho⟩
  obtain ⟨h1, cv, h2, h3⟩ := hc k v hk
  exact ⟨h1, cv, h2, h3.mono hρ⟩

/-! Frames: what is known of the slots. -/

abbrev Fr := List (Nat × Value)

def Fr.get : Fr → Nat → Option Value
  | [], _ => none
  | (t, v) :: l, s => if s = t then some v else Fr.get l s

def Fr.set : Fr → Nat → Value → Fr
  | [], t, v => [(t, v)]
  | (s, u) :: l, t, v => if t = s then (t, v) :: l else (s, u) :: Fr.set l t v

theorem Fr.get_set (l : Fr) (t : Nat) (v : Value) (s : Nat) : Fr.get (Fr.set l t v) s = if s = t then some v else Fr.get l s := by
  induction l with
  | nil => simp [Fr.set, Fr.get]
  | cons p l ih =>
    obtain ⟨r, u⟩ := p
    simp only [Fr.set]
    by_cases h : t = r
    · subst h; simp only [if_true, Fr.get]; by_cases h2 : s = t <;> simp [h2]
    · rw [if_neg h]; simp only [Fr.get, ih]
      by_cases h2 : s = r
      · subst h2; simp [Ne.symm h]
      · simp [h2]

structure FR (N : Nat) (ρ : Rho) (fr : Fr) (a : Act) : Prop where
  defers : a.defers = []
  size : N ≤ a.tmps.size
  get : ∀ t v, Fr.get fr t = some v → VR ρ v (a.tmps.getD t undef)

theorem FR.mono {N : Nat} {ρ ρ' : Rho} (h : ρ <+: ρ') {fr : Fr} {a : Act} (hf : FR N ρ fr a) : FR N ρ' fr a :=
  ⟨hf.defers, hf.size, fun t v ht => (hf.get t v ht).mono h⟩

/-- A frame of which less is known. -/
def Fr.le (f g : Fr) : Prop := ∀ t v, Fr.get f t = some v → Fr.get g t = some v

theorem FR.weaken {N : Nat} {ρ : Rho} {f g : Fr} {a : Act} (h : Fr.le f g) (hg : FR N ρ g a) : FR N ρ f a :=
  ⟨hg.defers, hg.size, fun t v ht => hg.get t v (h t v ht)⟩

def Fr.put (fr : Fr) (dst : Option Tmp) (v : Value) : Fr :=
  match dst with
  | none => fr
  | some d => fr.set d v

def dstOK (N : Nat) : Option Tmp → Prop
  | none => True
  | some d => d < N

theorem FR.put {N : Nat} {ρ : Rho} {fr : Fr} {a : Act} (hf : FR N ρ fr a) {dst : Option Tmp} (hd : dstOK N dst) {v cv : Value} (hv : VR ρ v cv) : FR N ρ (fr.put dst v) (a.put dst cv) := by
  cases dst with
  | none => exact hf
  | some d =>
    refine ⟨hf.defers, by simpa [Act.put] using hf.size, fun t u ht => ?_⟩
    simp only [Fr.put, Fr.get_set] at ht
    have hlt : d < a.tmps.size := Nat.lt_of_lt_of_le hd hf.size
    by_cases h : t = d
    · subst h
      simp at ht
      subst ht
      simpa [Act.put, hlt] using hv
    · rw [if_neg h] at ht
      have := hf.get t u ht
      have e : (a.tmps.setIfInBounds d cv).getD t undef = a.tmps.getD t undef := by
        simp [Array.getD_eq_getD_getElem?, Array.getElem?_setIfInBounds, Ne.symm h]
      simpa [Act.put, e] using this

/-- An operand's value. -/
def ev (fr : Fr) : Operand → Option Value
  | .tmp t => fr.get t
  | .const v => if closed v then some v else none
  | .global _ => none
  | .func f => some (.func (.func f) #[] #[])

theorem FR.ev {N : Nat} {ρ : Rho} {fr : Fr} {a : Act} (hf : FR N ρ fr a) {x : Operand} {v : Value} (h : Ab.ev fr x = some v) : VR ρ v (a.eval x) := by
  cases x with
  | tmp t => exact hf.get t v h
  | const u =>
    simp only [Ab.ev] at h
    split at h
    · cases h; rename_i hc; exact VR.closed hc
    · cases h
  | global g => simp [Ab.ev] at h
  | func f => simp only [Ab.ev, Option.some.injEq] at h; subst h; exact VR.func_of (VRs.nil _) (VRs.nil _)

end Go.Ab
