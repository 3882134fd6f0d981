/- Part 0 of what the proof of the law FnExactParseSystem rests on: contracts of functions of the program, for every argument that each names; no statement of the seat is proved here. -/
import Derived.WalkKit

set_option linter.all false
set_option maxRecDepth 20000
set_option maxHeartbeats 8000000
section
namespace Go.Ab

def ErrCell (w : World) (g : Nat) : Prop := ∃ ev, w.cell? ⟨g, 0, none⟩ = some ev /\ (ev = .nilIface \/ ∃ te pe, ev = .iface te pe)
def Fixed (B : Nat) (w0 : World) : Prop := 3 <= B /\ (∃ m, w0.cell? ⟨0, 0, none⟩ = some (.int .i64 m)) /\ ErrCell w0 1 /\ ErrCell w0 2

end Go.Ab
end

section
namespace Go.Ab
open Go.RowKit (Below)

structure Loc where
  blk : Nat
  off : Nat
  size : Nat

abbrev Rho := List Loc

inductive VR (ρ : Rho) : Value -> Value -> Prop
  | bool (b : Bool) : VR ρ (.bool b) (.bool b)
  | int (k : IntKind) (n : Int) : VR ρ (.int k n) (.int k n)
  | string (s : ByteArray) : VR ρ (.string s) (.string s)
  | ptrNil : VR ρ (.pointer none) (.pointer none)
  | ptr (i o : Nat) (l : Loc) : ρ[i]? = some l -> VR ρ (.pointer (some ⟨i, o, none⟩)) (.pointer (some ⟨l.blk, l.off + o, none⟩))
  | sliceNil : VR ρ (.slice none 0 0) (.slice none 0 0)
  | sliceEx (i o n : Nat) (l : Loc) : ρ[i]? = some l -> VR ρ (.slice (some ⟨i, o, none⟩) n n) (.slice (some ⟨l.blk, l.off + o, none⟩) n n)
  | sliceUnk (i o e n o' c : Nat) (l : Loc) : ρ[i]? = some l -> (o' = l.off + o \/ (n = 0 /\ c = 0)) -> n <= c -> o' + c * e <= l.size ->
      VR ρ (.slice (some ⟨i, o, some e⟩) n n) (.slice (some ⟨l.blk, o', none⟩) n c)
  | sliceZero (i o e : Nat) (a : Option Addr) : VR ρ (.slice (some ⟨i, o, some e⟩) 0 0) (.slice a 0 0)
  | nilFunc : VR ρ .nilFunc .nilFunc
  | func (fn : Fn) (az bs az' bs' : Array Value) : az.size = az'.size -> bs.size = bs'.size ->
      (∀ (i : Nat) (v w : Value), az[i]? = some v -> az'[i]? = some w -> VR ρ v w) -> (∀ (i : Nat) (v w : Value), bs[i]? = some v -> bs'[i]? = some w -> VR ρ v w) -> VR ρ (.func fn az bs) (.func fn az' bs')
  | iface (t : TypeId) (v w : Value) : VR ρ v w -> VR ρ (.iface t v) (.iface t w)
  | nilIface : VR ρ .nilIface .nilIface
  | agg (xs ys : Array Value) : xs.size = ys.size -> (∀ (i : Nat) (v w : Value), xs[i]? = some v -> ys[i]? = some w -> VR ρ v w) -> VR ρ (.agg xs) (.agg ys)
  | tuple (xs ys : Array Value) : xs.size = ys.size -> (∀ (i : Nat) (v w : Value), xs[i]? = some v -> ys[i]? = some w -> VR ρ v w) -> VR ρ (.tuple xs) (.tuple ys)

theorem VR.mono {ρ ρ' : Rho} (h : ρ <+: ρ') {v w : Value} (hv : VR ρ v w) : VR ρ' v w := by
  have key : ∀ (i : Nat) (l : Loc), ρ[i]? = some l -> ρ'[i]? = some l := by
    intro i l hl
    obtain ⟨t, rfl⟩ := h
    have hi : i < ρ.length := by
      rcases Nat.lt_or_ge i ρ.length with h | h
      · exact h
      · simp [List.getElem?_eq_none h] at hl
    rw [List.getElem?_append_left hi]; exact hl
  induction hv with
  | bool b => exact .bool b
  | int k n => exact .int k n
  | string s => exact .string s
  | ptrNil => exact .ptrNil
  | ptr i o l hl => exact .ptr i o l (key _ _ hl)
  | sliceNil => exact .sliceNil
  | sliceEx i o n l hl => exact .sliceEx i o n l (key _ _ hl)
  | sliceUnk i o e n o' c l hl h1 h2 h3 => exact .sliceUnk i o e n o' c l (key _ _ hl) h1 h2 h3
  | sliceZero i o e a => exact .sliceZero i o e a
  | nilFunc => exact .nilFunc
  | func fn az bs az' bs' h1 h2 _ _ ih1 ih2 => exact .func fn az bs az' bs' h1 h2 ih1 ih2
  | iface t v w _ ih => exact .iface t v w ih
  | nilIface => exact .nilIface
  | agg xs ys h1 _ ih => exact .agg xs ys h1 ih
  | tuple xs ys h1 _ ih => exact .tuple xs ys h1 ih

def VRs (ρ : Rho) (vs ws : List Value) : Prop := vs.length = ws.length /\ ∀ (i : Nat) (v w : Value), vs[i]? = some v -> ws[i]? = some w -> VR ρ v w

theorem VRs.nil (ρ : Rho) : VRs ρ [] [] := ⟨rfl, by simp⟩
theorem VRs.cons {ρ : Rho} {v w : Value} {vs ws : List Value} (h : VR ρ v w) (hs : VRs ρ vs ws) : VRs ρ (v :: vs) (w :: ws) := by
  refine ⟨by simp [hs.1], ?_⟩
  intro i a b ha hb
  cases i with
  | zero => simp at ha hb; subst ha; subst hb; exact h
  | succ i => simp at ha hb; exact hs.2 i a b ha hb
theorem VRs.append {ρ : Rho} {vs ws vs' ws' : List Value} (h : VRs ρ vs ws) (h' : VRs ρ vs' ws') : VRs ρ (vs ++ vs') (ws ++ ws') := by
  refine ⟨by simp [h.1, h'.1], ?_⟩
  intro i a b ha hb
  rcases Nat.lt_or_ge i vs.length with hi | hi
  · rw [List.getElem?_append_left hi] at ha
    rw [List.getElem?_append_left (by rw [<- h.1]; exact hi)] at hb
    exact h.2 i a b ha hb
  · rw [List.getElem?_append_right hi] at ha
    rw [List.getElem?_append_right (by rw [<- h.1]; exact hi), <- h.1] at hb
    exact h'.2 _ a b ha hb
theorem VRs.head {ρ : Rho} {v w : Value} {vs ws : List Value} (h : VRs ρ (v :: vs) (w :: ws)) : VR ρ v w := h.2 0 v w rfl rfl
theorem VRs.tail {ρ : Rho} {v w : Value} {vs ws : List Value} (h : VRs ρ (v :: vs) (w :: ws)) : VRs ρ vs ws :=
  ⟨by simpa using h.1, fun i a b ha hb => h.2 (i + 1) a b (by simpa using ha) (by simpa using hb)⟩
theorem VRs.nil_inv {ρ : Rho} {ws : List Value} (h : VRs ρ [] ws) : ws = [] := by
  cases ws with
  | nil => rfl
  | cons w ws => simp [VRs] at h
theorem VRs.cons_inv {ρ : Rho} {v : Value} {vs ws : List Value} (h : VRs ρ (v :: vs) ws) : ∃ w ws', ws = w :: ws' /\ VR ρ v w /\ VRs ρ vs ws' := by
  cases ws with
  | nil => simp [VRs] at h
  | cons w ws => exact ⟨w, ws, rfl, h.head, h.tail⟩

theorem VR.agg_of {ρ : Rho} {xs ys : Array Value} (h : VRs ρ xs.toList ys.toList) : VR ρ (.agg xs) (.agg ys) :=
  .agg xs ys (by simpa using h.1) fun i v w h1 h2 => h.2 i v w (by simpa using h1) (by simpa using h2)
theorem VR.agg_inv {ρ : Rho} {xs : Array Value} {w : Value} (h : VR ρ (.agg xs) w) : ∃ ys, w = .agg ys /\ VRs ρ xs.toList ys.toList := by
  cases h with
  | agg _ ys h1 h2 => exact ⟨ys, rfl, by simpa using h1, fun i v w h3 h4 => h2 i v w (by simpa using h3) (by simpa using h4)⟩
theorem VR.tuple_of {ρ : Rho} {xs ys : Array Value} (h : VRs ρ xs.toList ys.toList) : VR ρ (.tuple xs) (.tuple ys) :=
  .tuple xs ys (by simpa using h.1) fun i v w h1 h2 => h.2 i v w (by simpa using h1) (by simpa using h2)
theorem VR.tuple_inv {ρ : Rho} {xs : Array Value} {w : Value} (h : VR ρ (.tuple xs) w) : ∃ ys, w = .tuple ys /\ VRs ρ xs.toList ys.toList := by
  cases h with
  | tuple _ ys h1 h2 => exact ⟨ys, rfl, by simpa using h1, fun i v w h3 h4 => h2 i v w (by simpa using h3) (by simpa using h4)⟩
theorem VR.int_inv {ρ : Rho} {k : IntKind} {n : Int} {w : Value} (h : VR ρ (.int k n) w) : w = .int k n := by cases h; rfl
theorem VR.bool_inv {ρ : Rho} {b : Bool} {w : Value} (h : VR ρ (.bool b) w) : w = .bool b := by cases h; rfl
theorem VR.string_inv {ρ : Rho} {s : ByteArray} {w : Value} (h : VR ρ (.string s) w) : w = .string s := by cases h; rfl
theorem VR.func_inv {ρ : Rho} {fn : Fn} {az bs : Array Value} {w : Value} (h : VR ρ (.func fn az bs) w) :
    ∃ az' bs', w = .func fn az' bs' /\ VRs ρ az.toList az'.toList /\ VRs ρ bs.toList bs'.toList := by
  cases h with
  | func _ _ _ az' bs' h1 h2 h3 h4 =>
    exact ⟨az', bs', rfl, ⟨by simpa using h1, fun i v w h5 h6 => h3 i v w (by simpa using h5) (by simpa using h6)⟩, ⟨by simpa using h2, fun i v w h5 h6 => h4 i v w (by simpa using h5) (by simpa using h6)⟩⟩
theorem VR.func_of {ρ : Rho} {fn : Fn} {az bs az' bs' : Array Value} (h : VRs ρ az.toList az'.toList) (h' : VRs ρ bs.toList bs'.toList) : VR ρ (.func fn az bs) (.func fn az' bs') :=
  .func fn az bs az' bs' (by simpa using h.1) (by simpa using h'.1) (fun i v w h1 h2 => h.2 i v w (by simpa using h1) (by simpa using h2)) (fun i v w h1 h2 => h'.2 i v w (by simpa using h1) (by simpa using h2))
theorem VR.ptr_inv {ρ : Rho} {i o : Nat} {w : Value} (h : VR ρ (.pointer (some ⟨i, o, none⟩)) w) : ∃ l : Loc, ρ[i]? = some l /\ w = .pointer (some ⟨l.blk, l.off + o, none⟩) := by
  cases h with
  | ptr _ _ l hl => exact ⟨l, hl, rfl⟩
theorem VR.oneCell {ρ : Rho} {v w : Value} (h : VR ρ v w) : v.oneCell' = w.oneCell' := by cases h <;> rfl
theorem VR.cells {ρ : Rho} {v w : Value} (h : VR ρ v w) : VRs ρ v.cells.toList w.cells.toList := by
  cases h with
  | agg xs ys h1 h2 => exact ⟨by simpa [Value.cells] using h1, fun i a b ha hb => h2 i a b (by simpa [Value.cells] using ha) (by simpa [Value.cells] using hb)⟩
  | _ =>
    refine VRs.cons ?_ (VRs.nil _)
    constructor <;> assumption

def closed0 : Value -> Bool
  | .bool _ | .int _ _ | .string _ | .pointer none | .slice none 0 0 | .nilFunc | .nilIface => true
  | _ => false
def closed : Value -> Bool
  | .agg cs => cs.toList.all closed0
  | .tuple cs => cs.toList.all closed0
  | .func _ az bs => az.toList.isEmpty && bs.toList.isEmpty
  | v => closed0 v

theorem VR.closed0 {ρ : Rho} {v : Value} (h : closed0 v = true) : VR ρ v v := by
  cases v with
  | bool b => exact .bool b
  | int k n => exact .int k n
  | string s => exact .string s
  | pointer a => cases a with
    | none => exact .ptrNil
    | some a => simp [Ab.closed0] at h
  | slice a n c => cases a with
    | none =>
      cases n with
      | zero => cases c with
        | zero => exact .sliceNil
        | succ c => simp [Ab.closed0] at h
      | succ n => simp [Ab.closed0] at h
    | some a => simp [Ab.closed0] at h
  | nilFunc => exact .nilFunc
  | nilIface => exact .nilIface
  | _ => simp [Ab.closed0] at h

theorem VRs.closed {ρ : Rho} {vs : List Value} (h : vs.all Ab.closed0 = true) : VRs ρ vs vs := by
  refine ⟨rfl, fun i v w h1 h2 => ?_⟩
  rw [h1] at h2; cases h2
  exact VR.closed0 (List.all_eq_true.1 h v (List.mem_of_getElem? h1))

theorem VR.closed {ρ : Rho} {v : Value} (h : closed v = true) : VR ρ v v := by
  cases v with
  | agg cs => exact VR.agg_of (VRs.closed h)
  | tuple cs => exact VR.tuple_of (VRs.closed h)
  | func fn az bs =>
    simp [Ab.closed] at h
    obtain ⟨rfl, rfl⟩ := h
    exact VR.func_of (VRs.nil _) (VRs.nil _)
  | _ => exact VR.closed0 h

/-! Blocks and heaps. -/

structure Blk where
  cells : List Value
  live : Bool
  own : Bool

abbrev Heap := List Blk

def BlkOK (B : Nat) (ρ : Rho) (b : Blk) (l : Loc) (w : World) : Prop :=
  ∃ arr elem fz, w.heap[l.blk]? = some (.cells arr elem fz) /\ l.size = arr.size /\
    (∀ k v, b.cells[k]? = some v -> v.oneCell' = true /\ ∃ cv, arr[l.off + k]? = some cv /\ VR ρ v cv) /\ (b.own = true -> B <= l.blk /\ fz = (0, 0))

structure R (B : Nat) (w0 : World) (ρ : Rho) (H : Heap) (w : World) : Prop where
  len : ρ.length = H.length
  below : Below B w0 w
  base : B <= w.heap.size
  fixed : Fixed B w0
  blk : ∀ (i : Nat) (b : Blk) (l : Loc), H[i]? = some b -> ρ[i]? = some l -> b.live = true -> BlkOK B ρ b l w
  apart : ∀ (i j : Nat) (b c : Blk) (l m : Loc), i ≠ j -> H[i]? = some b -> H[j]? = some c -> ρ[i]? = some l -> ρ[j]? = some m -> b.live = true -> c.live = true -> b.own = true -> l.blk ≠ m.blk
  ghost : ∀ (i : Nat) (b : Blk) (l : Loc), H[i]? = some b -> ρ[i]? = some l -> b.live = false -> b.own = false -> l.size = 0

theorem BlkOK.lt {B : Nat} {ρ : Rho} {b : Blk} {l : Loc} {w : World} (h : BlkOK B ρ b l w) : l.blk < w.heap.size := by
  obtain ⟨arr, elem, fz, hg, _⟩ := h
  exact (Array.getElem?_eq_some_iff.1 hg).1

theorem BlkOK.cell {B : Nat} {ρ : Rho} {b : Blk} {l : Loc} {w : World} (h : BlkOK B ρ b l w) {k : Nat} {v : Value} (hk : b.cells[k]? = some v) :
    ∃ cv, w.cell? ⟨l.blk, l.off + k, none⟩ = some cv /\ VR ρ v cv /\ cv.oneCell' = true := by
  obtain ⟨arr, elem, fz, hg, _, hc, _⟩ := h
  obtain ⟨h1, cv, h2, h3⟩ := hc k v hk
  exact ⟨cv, by simp [World.cell?, hg, h2], h3, by rw [<- h3.oneCell]; exact h1⟩

theorem BlkOK.kept {B : Nat} {ρ ρ' : Rho} {b : Blk} {l : Loc} {w w' : World} (h : BlkOK B ρ b l w) (hρ : ρ <+: ρ') (hw : w'.heap[l.blk]? = w.heap[l.blk]?) : BlkOK B ρ' b l w' := by
  obtain ⟨arr, elem, fz, hg, hs, hc, ho⟩ := h
  refine ⟨arr, elem, fz, by rw [hw]; exact hg, hs, fun k v hk => ?_, ho⟩
  obtain ⟨h1, cv, h2, h3⟩ := hc k v hk
  exact ⟨h1, cv, h2, h3.mono hρ⟩

/-! Frames: what is known of the slots. -/

abbrev Fr := List (Nat × Value)

def Fr.get : Fr -> Nat -> Option Value
  | [], _ => none
  | (t, v) :: l, s => if s = t then some v else Fr.get l s

def Fr.set : Fr -> Nat -> Value -> Fr
  | [], t, v => [(t, v)]
  | (s, u) :: l, t, v => if t = s then (t, v) :: l else (s, u) :: Fr.set l t v

theorem Fr.get_set (l : Fr) (t : Nat) (v : Value) (s : Nat) : Fr.get (Fr.set l t v) s = if s = t then some v else Fr.get l s := by
  induction l with
  | nil => simp [Fr.set, Fr.get]
  | cons p l ih =>
    obtain ⟨r, u⟩ := p
    simp only [Fr.set]
    by_cases h : t = r
    · subst h; simp only [if_true, Fr.get]; by_cases h2 : s = t <;> simp [h2]
    · rw [if_neg h]; simp only [Fr.get, ih]
      by_cases h2 : s = r
      · subst h2; simp [Ne.symm h]
      · simp [h2]

structure FR (N : Nat) (ρ : Rho) (fr : Fr) (a : Act) : Prop where
  defers : a.defers = []
  size : N <= a.tmps.size
  get : ∀ t v, Fr.get fr t = some v -> VR ρ v (a.tmps.getD t undef)

theorem FR.mono {N : Nat} {ρ ρ' : Rho} (h : ρ <+: ρ') {fr : Fr} {a : Act} (hf : FR N ρ fr a) : FR N ρ' fr a :=
  ⟨hf.defers, hf.size, fun t v ht => (hf.get t v ht).mono h⟩

def Fr.le (f g : Fr) : Prop := ∀ t v, Fr.get f t = some v -> Fr.get g t = some v

theorem FR.weaken {N : Nat} {ρ : Rho} {f g : Fr} {a : Act} (h : Fr.le f g) (hg : FR N ρ g a) : FR N ρ f a :=
  ⟨hg.defers, hg.size, fun t v ht => hg.get t v (h t v ht)⟩

def Fr.put (fr : Fr) (dst : Option Tmp) (v : Value) : Fr :=
  match dst with
  | none => fr
  | some d => fr.set d v

def dstOK (N : Nat) : Option Tmp -> Prop
  | none => True
  | some d => d < N

theorem FR.put {N : Nat} {ρ : Rho} {fr : Fr} {a : Act} (hf : FR N ρ fr a) {dst : Option Tmp} (hd : dstOK N dst) {v cv : Value} (hv : VR ρ v cv) : FR N ρ (fr.put dst v) (a.put dst cv) := by
  cases dst with
  | none => exact hf
  | some d =>
    refine ⟨hf.defers, by simpa [Act.put] using hf.size, fun t u ht => ?_⟩
    simp only [Fr.put, Fr.get_set] at ht
    have hlt : d < a.tmps.size := Nat.lt_of_lt_of_le hd hf.size
    by_cases h : t = d
    · subst h
      simp at ht
      subst ht
      simpa [Act.put, hlt] using hv
    · rw [if_neg h] at ht
      have := hf.get t u ht
      have e : (a.tmps.setIfInBounds d cv).getD t undef = a.tmps.getD t undef := by
        simp [Array.getD_eq_getD_getElem?, Array.getElem?_setIfInBounds, Ne.symm h]
      simpa [Act.put, e] using this

def ev (fr : Fr) : Operand -> Option Value
  | .tmp t => fr.get t
  | .const v => if closed v then some v else none
  | .global _ => none
  | .func f => some (.func (.func f) #[] #[])

theorem FR.ev {N : Nat} {ρ : Rho} {fr : Fr} {a : Act} (hf : FR N ρ fr a) {x : Operand} {v : Value} (h : Ab.ev fr x = some v) : VR ρ v (a.eval x) := by
  cases x with
  | tmp t => exact hf.get t v h
  | const u =>
    simp only [Ab.ev] at h
    split at h
    · cases h; rename_i hc; exact VR.closed hc
    · cases h
  | global g => simp [Ab.ev] at h
  | func f => simp only [Ab.ev, Option.some.injEq] at h; subst h; exact VR.func_of (VRs.nil _) (VRs.nil _)

end Go.Ab
end

section
namespace Go.Ab
open Go.RowKit (Below)

theorem getElem?_rho_len {B : Nat} {w0 : World} {ρ : Rho} {H : Heap} {w : World} (h : R B w0 ρ H w) {i : Nat} {b : Blk} (hb : H[i]? = some b) : ∃ l, ρ[i]? = some l := by
  have hi : i < H.length := by
    rcases Nat.lt_or_ge i H.length with h | h
    · exact h
    · simp [List.getElem?_eq_none h] at hb
  rw [<- h.len] at hi
  exact ⟨_, List.getElem?_eq_getElem hi⟩

def cellsAt (H : Heap) (i o n : Nat) : Option (List Value) :=
  match H[i]? with
  | some b => if b.live = true /\ o + n <= b.cells.length then some ((b.cells.drop o).take n) else none
  | none => none

theorem cellsAt_inv {H : Heap} {i o n : Nat} {cs : List Value} (h : cellsAt H i o n = some cs) :
    ∃ b, H[i]? = some b /\ b.live = true /\ o + n <= b.cells.length /\ cs = (b.cells.drop o).take n := by
  unfold cellsAt at h
  cases hb : H[i]? with
  | none => simp [hb] at h
  | some b =>
    simp only [hb] at h
    split at h
    · rename_i hc
      exact ⟨b, rfl, hc.1, hc.2, by cases h; rfl⟩
    · cases h

theorem cellsAt_of {H : Heap} {i o n : Nat} {b : Blk} (hb : H[i]? = some b) (hl : b.live = true) (hn : o + n <= b.cells.length) : cellsAt H i o n = some ((b.cells.drop o).take n) := by
  simp [cellsAt, hb, hl, hn]

theorem R.cellsAt {B : Nat} {w0 : World} {ρ : Rho} {H : Heap} {w : World} (h : R B w0 ρ H w) {i o n : Nat} {cs : List Value} (hc : Ab.cellsAt H i o n = some cs) :
    ∃ l ds, ρ[i]? = some l /\ cs.length = n /\ VRs ρ cs ds /\ (∀ v ∈ ds, v.oneCell' = true) /\ ∀ (j : Nat) (v : Value), ds[j]? = some v -> w.cell? ⟨l.blk, l.off + o + j, none⟩ = some v := by
  obtain ⟨b, hb, hl, hn, rfl⟩ := cellsAt_inv hc
  obtain ⟨l, hl'⟩ := getElem?_rho_len h hb
  have hok := h.blk i b l hb hl' hl
  have hlen : ((b.cells.drop o).take n).length = n := by simp; omega
  have hcell : ∀ j, j < n -> ∃ cv, w.cell? ⟨l.blk, l.off + o + j, none⟩ = some cv /\ VR ρ (((b.cells.drop o).take n).getD j undef) cv /\ cv.oneCell' = true := by
    intro j hj
    have hlt : o + j < b.cells.length := by omega
    obtain ⟨cv, h1, h2, h3⟩ := hok.cell (k := o + j) (List.getElem?_eq_getElem hlt)
    refine ⟨cv, by rw [Nat.add_assoc]; exact h1, ?_, h3⟩
    have : ((b.cells.drop o).take n).getD j undef = b.cells[o + j] := by
      rw [List.getD_eq_getElem?_getD, List.getElem?_take, if_pos hj, List.getElem?_drop, List.getElem?_eq_getElem hlt]; rfl
    rw [this]; exact h2
  refine ⟨l, (List.range n).map (fun j => (w.cell? ⟨l.blk, l.off + o + j, none⟩).getD undef), hl', hlen, ⟨by simp [hlen], ?_⟩, ?_, ?_⟩
  · intro j v u hv hu
    have hj : j < n := by
      rcases Nat.lt_or_ge j n with h | h
      · exact h
      · rw [List.getElem?_eq_none (by rw [hlen]; exact h)] at hv; cases hv
    obtain ⟨cv, h1, h2, _⟩ := hcell j hj
    simp [hj, h1] at hu
    subst hu
    rw [List.getD_eq_getElem?_getD, hv] at h2
    exact h2
  · intro v hv
    simp at hv
    obtain ⟨j, hj, rfl⟩ := hv
    obtain ⟨cv, h1, _, h3⟩ := hcell j hj
    rw [h1]; exact h3
  · intro j v hv
    by_cases hj : j < n
    · obtain ⟨cv, h1, _, _⟩ := hcell j hj
      simp [hj, h1] at hv
      subst hv
      exact h1
    · simp [hj] at hv

theorem R.drew {B : Nat} {w0 : World} {ρ : Rho} {H : Heap} {w : World} (h : R B w0 ρ H w) : R B w0 ρ H w.drew :=
  ⟨h.len, h.below.drew, h.base, h.fixed, fun i b l hb hl hv => (h.blk i b l hb hl hv).kept (List.prefix_refl _) rfl, h.apart, h.ghost⟩

theorem R.alloc {B : Nat} {w0 : World} {ρ : Rho} {H : Heap} {w : World} (h : R B w0 ρ H w) (cs : List Value) (arr : Array Value) (elem : TypeId)
    (hle : ∀ (k : Nat) (v : Value), cs[k]? = some v -> v.oneCell' = true /\ ∃ cv, arr[k]? = some cv /\ VR ρ v cv) :
    R B w0 (ρ ++ [⟨w.heap.size, 0, arr.size⟩]) (H ++ [⟨cs, true, true⟩]) (w.alloc (.cells arr elem)) := by
  have hpre : ρ <+: ρ ++ [⟨w.heap.size, 0, arr.size⟩] := List.prefix_append _ _
  have old : ∀ (i : Nat) (b : Blk) (l : Loc), H[i]? = some b -> ρ[i]? = some l -> b.live = true -> BlkOK B (ρ ++ [⟨w.heap.size, 0, arr.size⟩]) b l (w.alloc (.cells arr elem)) := by
    intro i b l hb hl hv
    have hok := h.blk i b l hb hl hv
    exact hok.kept hpre (heap_alloc_old w _ hok.lt)
  have getH : ∀ (i : Nat) (b : Blk), (H ++ [(⟨cs, true, true⟩ : Blk)])[i]? = some b -> (H[i]? = some b /\ i < H.length) \/ (i = H.length /\ b = ⟨cs, true, true⟩) := by
    intro i b hb
    rcases Nat.lt_or_ge i H.length with hi | hi
    · rw [List.getElem?_append_left hi] at hb; exact .inl ⟨hb, hi⟩
    · rw [List.getElem?_append_right hi] at hb
      cases hk : i - H.length with
      | zero => rw [hk] at hb; simp at hb; exact .inr ⟨by omega, hb.symm⟩
      | succ k => rw [hk] at hb; simp at hb
  have getρ : ∀ (i : Nat) (l : Loc), (ρ ++ [(⟨w.heap.size, 0, arr.size⟩ : Loc)])[i]? = some l -> (i < H.length -> ρ[i]? = some l) /\ (i = H.length -> l = ⟨w.heap.size, 0, arr.size⟩) := by
    intro i l hl
    refine ⟨fun hi => ?_, fun hi => ?_⟩
    · rw [List.getElem?_append_left (by rw [h.len]; exact hi)] at hl; exact hl
    · rw [List.getElem?_append_right (by rw [h.len]; omega), h.len, hi] at hl; simpa using hl.symm
  refine ⟨by simp [h.len], h.below.alloc h.base _, by simp; have := h.base; omega, h.fixed, ?_, ?_, ?_⟩
  · intro i b l hb hl hv
    rcases getH i b hb with ⟨hb', hi⟩ | ⟨hi, rfl⟩
    · exact old i b l hb' ((getρ i l hl).1 hi) hv
    · have := (getρ i l hl).2 hi
      subst this
      refine ⟨arr, elem, (0, 0), heap_alloc_new w _, rfl, fun k v hk => ?_, fun _ => ⟨h.base, rfl⟩⟩
      obtain ⟨h1, cv, h2, h3⟩ := hle k v hk
      exact ⟨h1, cv, by simpa using h2, h3.mono hpre⟩
  · intro i j b c l m hij hb hc hl hm hbl hcl hbo
    rcases getH i b hb with ⟨hb', hi⟩ | ⟨hi, rfl⟩
    · rcases getH j c hc with ⟨hc', hj⟩ | ⟨hj, rfl⟩
      · exact h.apart i j b c l m hij hb' hc' ((getρ i l hl).1 hi) ((getρ j m hm).1 hj) hbl hcl hbo
      · have := (getρ j m hm).2 hj
        subst this
        have := (h.blk i b l hb' ((getρ i l hl).1 hi) hbl).lt
        show l.blk ≠ w.heap.size
        omega
    · have := (getρ i l hl).2 hi
      subst this
      rcases getH j c hc with ⟨hc', hj⟩ | ⟨hj, rfl⟩
      · have := (h.blk j c m hc' ((getρ j m hm).1 hj) hcl).lt
        show w.heap.size ≠ m.blk
        omega
      · omega
  · intro i b l hb hl hd ho
    rcases getH i b hb with ⟨hb', hi⟩ | ⟨hi, rfl⟩
    · exact h.ghost i b l hb' ((getρ i l hl).1 hi) hd ho
    · cases hd

def Heap.kill (H : Heap) (i : Nat) : Heap :=
  match H[i]? with
  | some b => H.set i { b with live := false, own := true }
  | none => H

theorem Heap.kill_length (H : Heap) (i : Nat) : (H.kill i).length = H.length := by
  unfold Heap.kill; split <;> simp

theorem Heap.kill_get (H : Heap) (i j : Nat) (b : Blk) (hb : (H.kill i)[j]? = some b) (hl : b.live = true) : H[j]? = some b /\ j ≠ i := by
  unfold Heap.kill at hb
  cases hi : H[i]? with
  | none =>
    simp only [hi] at hb
    refine ⟨hb, fun e => ?_⟩
    subst e; rw [hi] at hb; cases hb
  | some c =>
    simp only [hi] at hb
    by_cases e : i = j
    · subst e
      have hlt : i < H.length := (List.getElem?_eq_some_iff.1 hi).1
      simp [List.getElem?_set, hlt] at hb
      subst hb
      simp at hl
    · rw [List.getElem?_set_ne e] at hb
      exact ⟨hb, fun e' => e e'.symm⟩

theorem Heap.kill_ghost (H : Heap) (i j : Nat) (b : Blk) (hb : (H.kill i)[j]? = some b) (ho : b.own = false) : H[j]? = some b := by
  unfold Heap.kill at hb
  cases hi : H[i]? with
  | none => simp only [hi] at hb; exact hb
  | some c =>
    simp only [hi] at hb
    by_cases e : i = j
    · subst e
      have hlt : i < H.length := (List.getElem?_eq_some_iff.1 hi).1
      simp [List.getElem?_set, hlt] at hb
      subst hb
      simp at ho
    · rw [List.getElem?_set_ne e] at hb
      exact hb

theorem R.kill {B : Nat} {w0 : World} {ρ : Rho} {H : Heap} {w : World} (h : R B w0 ρ H w) (i : Nat) : R B w0 ρ (H.kill i) w := by
  refine ⟨by rw [Heap.kill_length]; exact h.len, h.below, h.base, h.fixed, ?_, ?_, fun j b l hb hl hd ho => h.ghost j b l (Heap.kill_ghost H i j b hb ho) hl hd ho⟩
  · intro j b l hb hl hv
    exact h.blk j b l (Heap.kill_get H i j b hb hv).1 hl hv
  · intro j k b c l m hjk hb hc hl hm hbl hcl hbo
    exact h.apart j k b c l m hjk (Heap.kill_get H i j b hb hbl).1 (Heap.kill_get H i k c hc hcl).1 hl hm hbl hcl hbo

def over (cs : List Value) (o : Nat) (vs : List Value) : List Value := cs.take o ++ vs ++ cs.drop (o + vs.length)

theorem over_length {cs vs : List Value} {o : Nat} (h : o + vs.length <= cs.length) : (over cs o vs).length = cs.length := by
  simp [over]; omega

theorem over_get {cs vs : List Value} {o : Nat} (h : o + vs.length <= cs.length) (k : Nat) :
    (over cs o vs)[k]? = if k < o then cs[k]? else if k < o + vs.length then vs[k - o]? else cs[k]? := by
  unfold over
  by_cases h1 : k < o
  · rw [if_pos h1, List.append_assoc, List.getElem?_append_left (by simp; omega), List.getElem?_take, if_pos h1]
  · rw [if_neg h1, List.append_assoc, List.getElem?_append_right (by simp; omega)]
    have e : (cs.take o).length = o := by simp; omega
    rw [e]
    by_cases h2 : k < o + vs.length
    · rw [if_pos h2, List.getElem?_append_left (by omega)]
    · rw [if_neg h2, List.getElem?_append_right (by omega), List.getElem?_drop]
      congr 1; omega

theorem over_one {cs : List Value} {o : Nat} {v : Value} (h : o < cs.length) : over cs o [v] = cs.set o v := by
  apply List.ext_getElem?
  intro k
  rw [over_get (by simp; omega), List.getElem?_set]
  by_cases h1 : k < o
  · rw [if_pos h1, if_neg (by omega)]
  · rw [if_neg h1]
    by_cases h2 : k = o
    · subst h2; simp [h]
    · rw [if_neg (by simp; omega), if_neg (fun e => h2 e.symm)]

def storeAt (H : Heap) (i o : Nat) (vs : List Value) : Option Heap :=
  match H[i]? with
  | some b => if b.live = true /\ b.own = true /\ o + vs.length <= b.cells.length /\ vs.all Value.oneCell' = true then some (H.set i { b with cells := over b.cells o vs }) else none
  | none => none

theorem storeAt_inv {H H' : Heap} {i o : Nat} {vs : List Value} (h : storeAt H i o vs = some H') :
    ∃ b, H[i]? = some b /\ b.live = true /\ b.own = true /\ o + vs.length <= b.cells.length /\ vs.all Value.oneCell' = true /\ H' = H.set i { b with cells := over b.cells o vs } := by
  unfold storeAt at h
  cases hb : H[i]? with
  | none => simp [hb] at h
  | some b =>
    simp only [hb] at h
    split at h
    · rename_i hc
      exact ⟨b, rfl, hc.1, hc.2.1, hc.2.2.1, hc.2.2.2, by cases h; rfl⟩
    · cases h

theorem storeAt_of {H : Heap} {i o : Nat} {vs : List Value} {b : Blk} (hb : H[i]? = some b) (hl : b.live = true) (ho : b.own = true) (hn : o + vs.length <= b.cells.length) (hv : vs.all Value.oneCell' = true) :
    storeAt H i o vs = some (H.set i { b with cells := over b.cells o vs }) := by
  simp only [storeAt, hb]; rw [if_pos ⟨hl, ho, hn, hv⟩]

theorem R.setRow {B : Nat} {w0 : World} {ρ : Rho} {H : Heap} {w : World} (h : R B w0 ρ H w) {i : Nat} {b : Blk} {l : Loc} (hb : H[i]? = some b) (hl : ρ[i]? = some l) (hv : b.live = true) (ho : b.own = true)
    (cs : List Value) (arr : Array Value) (elem : TypeId) (cur : Array Value) (hg : w.heap[l.blk]? = some (.cells cur elem (0, 0))) (hs : arr.size = cur.size)
    (hc : ∀ (k : Nat) (v : Value), cs[k]? = some v -> v.oneCell' = true /\ ∃ cv, arr[l.off + k]? = some cv /\ VR ρ v cv) :
    R B w0 ρ (H.set i { b with cells := cs }) (w.setRow l.blk arr) := by
  have hlt : i < H.length := (List.getElem?_eq_some_iff.1 hb).1
  have hok := h.blk i b l hb hl hv
  have hBl : B <= l.blk := by obtain ⟨_, _, _, _, _, _, h5⟩ := hok; exact (h5 ho).1
  have hget : ∀ (j : Nat) (c : Blk), (H.set i { b with cells := cs })[j]? = some c -> (j = i /\ c = { b with cells := cs }) \/ (j ≠ i /\ H[j]? = some c) := by
    intro j c hj
    rw [List.getElem?_set] at hj
    by_cases e : i = j
    · subst e; simp [hlt] at hj; exact .inl ⟨rfl, hj.symm⟩
    · rw [if_neg e] at hj; exact .inr ⟨fun e' => e e'.symm, hj⟩
  have hsz : l.size = cur.size := by
    obtain ⟨a, e, f, h1, h2, _⟩ := hok
    rw [hg] at h1; cases h1; exact h2
  refine ⟨by simp [h.len], ?_, by simpa using h.base, h.fixed, ?_, ?_, ?_⟩
  · exact h.below.trans ⟨rfl, rfl, rfl, by simp, fun k hk => setRow_other w l.blk k arr (by omega)⟩
  · intro j c m hj hm hcl
    rcases hget j c hj with ⟨rfl, rfl⟩ | ⟨hne, hj'⟩
    · have : m = l := by rw [hl] at hm; cases hm; rfl
      subst this
      refine ⟨arr, elem, (0, 0), setRow_heap w _ cur _ elem _ hg, by rw [hs]; exact hsz, hc, fun _ => ⟨hBl, rfl⟩⟩
    · refine (h.blk j c m hj' hm hcl).kept (List.prefix_refl _) (setRow_other w l.blk m.blk arr ?_)
      exact fun e => h.apart i j b c l m (fun e => hne e.symm) hb hj' hl hm hv hcl ho e.symm
  · intro j k c d m n hjk hj hk hm hn hcl hdl hco
    rcases hget j c hj with ⟨rfl, rfl⟩ | ⟨hne, hj'⟩
    · rcases hget k d hk with ⟨rfl, _⟩ | ⟨hne', hk'⟩
      · exact absurd rfl hjk
      · exact h.apart j k b d m n hjk hb hk' hm hn hv hdl ho
    · rcases hget k d hk with ⟨rfl, rfl⟩ | ⟨hne', hk'⟩
      · exact h.apart j k c b m n hjk hj' hb hm hn hcl hv hco
      · exact h.apart j k c d m n hjk hj' hk' hm hn hcl hdl hco
  · intro j c m hj hm hd hco
    rcases hget j c hj with ⟨rfl, rfl⟩ | ⟨hne, hj'⟩
    · exact h.ghost j b m hb hm hd hco
    · exact h.ghost j c m hj' hm hd hco

end Go.Ab
end

section
namespace Go.Ab
open Go.RowKit (Below)

structure TI where
  desc : TypeDesc
  size : Nat
  bytes : Nat
  zero : Value

def ti (P : Program) (t : TypeId) : Option TI :=
  match P.underlying t, P.info? t with
  | some d, some i => match i.zero with
    | some z => if z.cells.size = i.size then some ⟨d, i.size, i.bytes, z⟩ else none
    | none => none
  | _, _ => none

theorem ti_inv {P : Program} {t : TypeId} {τ : TI} (h : ti P t = some τ) :
    ∃ i, P.underlying t = some τ.desc /\ P.info? t = some i /\ i.size = τ.size /\ i.bytes = τ.bytes /\ i.zero = some τ.zero /\ τ.zero.cells.size = τ.size := by
  unfold ti at h
  cases hu : P.underlying t with
  | none => simp [hu] at h
  | some d =>
    cases hi : P.info? t with
    | none => simp [hu, hi] at h
    | some i =>
      cases hz : i.zero with
      | none => simp [hu, hi, hz] at h
      | some z =>
        simp only [hu, hi, hz] at h
        split at h
        · cases h; rename_i hs; exact ⟨i, rfl, rfl, rfl, rfl, hz, hs⟩
        · cases h

theorem add_zero_addr (b o k : Nat) : (⟨b, o, none⟩ : Addr).add k = ⟨b, o + k, none⟩ := by unfold Addr.add; split <;> simp_all

def ownAt (H : Heap) (i : Nat) : Bool := match H[i]? with | some b => b.live && b.own | none => false

theorem ownAt_inv {H : Heap} {i : Nat} (h : ownAt H i = true) : ∃ b, H[i]? = some b /\ b.live = true /\ b.own = true := by
  unfold ownAt at h
  cases hb : H[i]? with
  | none => simp [hb] at h
  | some b => simp [hb] at h; exact ⟨b, rfl, h.1, h.2⟩

def ghostAt (H : Heap) (i : Nat) : Bool :=
  match H[i]? with
  | some b => !b.live && !b.own
  | none => false

theorem ghostAt_inv {H : Heap} {i : Nat} (h : ghostAt H i = true) : ∃ b, H[i]? = some b /\ b.live = false /\ b.own = false := by
  unfold ghostAt at h
  cases hb : H[i]? with
  | none => simp [hb] at h
  | some b => simp [hb] at h; exact ⟨b, rfl, h.1, h.2⟩

def appendH (H : Heap) (e : Nat) (s : Value) (n : Nat) (news : List Value) : Option (Value × Heap) :=
  match s with
  | .slice a k c =>
    if n = 0 then some (.slice a k c, H) else
    match a with
    | none => if k = 0 then some (.slice (some ⟨H.length, 0, some e⟩) n n, H ++ [⟨news, true, true⟩]) else none
    | some ⟨i, o, none⟩ => match cellsAt H i o (k * e) with
      | some old => some (.slice (some ⟨H.length, 0, some e⟩) (k + n) (k + n), H ++ [⟨old ++ news, true, true⟩])
      | none => none
    | some ⟨i, o, some e'⟩ => if e' = e /\ k = 0 /\ 0 < e /\ ghostAt H i = true then some (.slice (some ⟨H.length, 0, some e⟩) n n, H ++ [⟨news, true, true⟩])
      else if e' = e /\ ownAt H i = true then match cellsAt H i o (k * e) with
        | some old => some (.slice (some ⟨H.length, 0, some e⟩) (k + n) (k + n), H.kill i ++ [⟨old ++ news, true, true⟩])
        | none => none
      else none
  | _ => none

section
variable {P : Program}

theorem run_append_zero (w : World) (t ty e : TypeId) (i : TypeInfo) (ht : P.underlying t = some (.slice e)) (hi : P.info? e = some i) (base : Option Addr) (k c : Nat) (hk : k <= c) (a : Option Addr) (c' : Nat) :
    (Builtin.append_ #[t, t] ty #[.slice base k c, .slice a 0 c']).run P w = .ok (.slice base k c) w := by
  cases base with
  | none => cases a <;> simp [Builtin.append_, run_underlying ht, sizeOf, typeInfo, hi, Builtin.lenOf, hk, Builtin.firstCells, loadCells, loadCellsFrom]
  | some b => cases a <;> simp [Builtin.append_, run_underlying ht, sizeOf, typeInfo, hi, Builtin.lenOf, hk, Builtin.firstCells, loadCells, loadCellsFrom, storeCells]

theorem run_append_place (w : World) (t ty e : TypeId) (i : TypeInfo) (ht : P.underlying t = some (.slice e)) (hi : P.info? e = some i)
    (g o k c : Nat) (cur : Array Value) (el : TypeId) (hg : w.heap[g]? = some (.cells cur el (0, 0)))
    (a : Addr) (m c' : Nat) (news : List Value) (hl : news.length = m * i.size) (hnews : ∀ (j : Nat) (u : Value), news[j]? = some u -> w.cell? (a.add j) = some u) (h1 : ∀ u ∈ news, u.oneCell' = true)
    (hroom : k + m <= c) (hfit : o + k * i.size + news.length <= cur.size) :
    (Builtin.append_ #[t, t] ty #[.slice (some ⟨g, o, none⟩) k c, .slice (some a) m c']).run P w =
      .ok (.slice (some ⟨g, o, none⟩) (k + m) c) (w.setRow g (over cur.toList (o + k * i.size) news).toArray) := by
  have hf := run_firstCells_some (P := P) w i.size m a m c' news hl hnews
  have hst := run_storeCells_at P g (o + k * i.size) el news 0 cur w hg (by simpa using hfit) h1
  simp only [Nat.add_zero] at hst
  simp [Builtin.append_, run_underlying ht, sizeOf, typeInfo, hi, Builtin.lenOf, hroom, hf, add_zero_addr, hst, over]

theorem R.append {B : Nat} {w0 : World} {ρ : Rho} {H H' : Heap} {w : World} (h : R B w0 ρ H w) {t ty te : TypeId} {τ : TI} (ht : P.underlying t = some (.slice te)) (hτ : ti P te = some τ)
    {s v' : Value} {n : Nat} {news : List Value} (hap : appendH H τ.size s n news = some (v', H'))
    {cs cx : Value} (hs : VR ρ s cs) {ax : Option Addr} {cc : Nat} (hcx : cx = .slice ax n cc)
    {dn : List Value} (hdl : dn.length = n * τ.size) (hdr : VRs ρ news dn) (hd1 : ∀ v ∈ dn, v.oneCell' = true)
    (hdc : 0 < n -> ∃ a, ax = some a /\ ∀ (j : Nat) (v : Value), dn[j]? = some v -> w.cell? (a.add j) = some v)
    (hbig : (∀ a k c, s = .slice a k c -> (k + n) * τ.bytes <= 140737488355328 /\ k + n <= 140737488355328)) :
    ∃ cv w' ρ', (Builtin.append_ #[t, t] ty #[cs, cx]).run P w = .ok cv w' /\ ρ <+: ρ' /\ R B w0 ρ' H' w' /\ VR ρ' v' cv := by
  obtain ⟨ii, hu, hi, hsz, hby, hz, hzs⟩ := ti_inv hτ
  subst hcx
  cases s with
  | slice a k c =>
    obtain ⟨hb1, hb2⟩ := hbig a k c rfl
    by_cases hn : n = 0
    · subst hn
      simp only [appendH, if_true, Option.some.injEq, Prod.mk.injEq] at hap
      obtain ⟨rfl, rfl⟩ := hap
      cases hs with
      | sliceNil => exact ⟨_, w, ρ, run_append_zero w t ty te ii ht hi none 0 0 (Nat.le_refl _) ax cc, List.prefix_refl _, h, .sliceNil⟩
      | sliceEx i o n l hl => exact ⟨_, w, ρ, run_append_zero w t ty te ii ht hi _ _ _ (Nat.le_refl _) ax cc, List.prefix_refl _, h, .sliceEx _ _ _ _ hl⟩
      | sliceUnk i o e n o' c l hl h1 h2 h3 => exact ⟨_, w, ρ, run_append_zero w t ty te ii ht hi _ _ _ h2 ax cc, List.prefix_refl _, h, .sliceUnk _ _ _ _ _ _ _ hl h1 h2 h3⟩
      | sliceZero i o e a => exact ⟨_, w, ρ, run_append_zero w t ty te ii ht hi _ _ _ (Nat.le_refl _) ax cc, List.prefix_refl _, h, .sliceZero _ _ _ _⟩
    · obtain ⟨ad, rfl, hcell⟩ := hdc (by omega)
      have hnews : ∀ (j : Nat) (v : Value), dn[j]? = some v -> w.cell? (ad.add j) = some v := hcell
      have fresh : ∀ (H0 : Heap) (ρ0 : Rho) (w1 : World) (old dold : List Value) (need cap : Nat), R B w0 ρ0 H0 w1 -> ρ0.length = H0.length -> VRs ρ0 old dold -> (∀ v ∈ dold, v.oneCell' = true) -> VRs ρ0 news dn ->
          dold.length + dn.length = need * τ.size -> need <= cap ->
          R B w0 (ρ0 ++ [⟨w1.heap.size, 0, (dold.toArray ++ dn.toArray ++ Builtin.zeroCells τ.zero.cells (cap - need)).size⟩]) (H0 ++ [⟨old ++ news, true, true⟩])
            (w1.alloc (.cells (dold.toArray ++ dn.toArray ++ Builtin.zeroCells τ.zero.cells (cap - need)) te)) /\
          VR (ρ0 ++ [⟨w1.heap.size, 0, (dold.toArray ++ dn.toArray ++ Builtin.zeroCells τ.zero.cells (cap - need)).size⟩]) (.slice (some ⟨H0.length, 0, some τ.size⟩) need need) (.slice (some ⟨w1.heap.size, 0, none⟩) need cap) := by
        intro H0 ρ0 w1 old dold need cap hR hlen0 hro h1o hrn hlen hcap
        have hsize : (dold.toArray ++ dn.toArray ++ Builtin.zeroCells τ.zero.cells (cap - need)).size = cap * τ.size := by
          simp only [Array.size_append, List.size_toArray, size_zeroCells, hzs]
          rw [hlen, <- Nat.add_mul]; congr 1; omega
        refine ⟨hR.alloc (old ++ news) _ te ?_, ?_⟩
        · intro j v hj
          have hapd := hro.append hrn
          have hlt : j < (dold ++ dn).length := by
            have : j < (old ++ news).length := (List.getElem?_eq_some_iff.1 hj).1
            rw [<- hapd.1]; exact this
          have hd : (dold ++ dn)[j]? = some (dold ++ dn)[j] := List.getElem?_eq_getElem hlt
          have hvr := hapd.2 j v _ hj hd
          have hone : ((dold ++ dn)[j]).oneCell' = true := by
            have hm : (dold ++ dn)[j] ∈ dold ++ dn := List.getElem_mem hlt
            rcases List.mem_append.1 hm with hm | hm
            · exact h1o _ hm
            · exact hd1 _ hm
          refine ⟨by rw [hvr.oneCell]; exact hone, (dold ++ dn)[j], ?_, hvr⟩
          have e : (dold.toArray ++ dn.toArray) = (dold ++ dn).toArray := by simp
          rw [e, Array.getElem?_append_left (by simpa using hlt)]
          simp only [List.getElem?_toArray]; exact hd
        · refine .sliceUnk _ _ _ _ _ _ (⟨w1.heap.size, 0, (dold.toArray ++ dn.toArray ++ Builtin.zeroCells τ.zero.cells (cap - need)).size⟩ : Loc) ?_ (.inl (by simp)) hcap ?_
          · rw [List.getElem?_append_right (by rw [hlen0]; exact Nat.le_refl _), hlen0]; simp
          · rw [hsize]; simp
      have hneed63 : ∀ k, (k + n) <= 140737488355328 -> ((k + n : Nat) : Int) <= 9223372036854775807 := by intro k hk; omega
      simp only [appendH, if_neg hn] at hap
      cases hs with
      | sliceNil =>
        simp only [if_true, Option.some.injEq, Prod.mk.injEq] at hap
        obtain ⟨rfl, rfl⟩ := hap
        have hr := run_append_nil (P := P) w t ty te ii τ.zero ht hi hz ad n cc dn (by rw [hsz]; exact hdl) hnews (by omega) (by have := hneed63 0; simp at this; omega) (by rw [hby]; simp at hb1; omega)
        have hfr := fresh H ρ w.drew [] [] n (grownCap w n 0 te) h.drew h.len (VRs.nil _) (by simp) hdr (by simpa using hdl) (grownCap_ge w n 0 te)
        simp only [List.nil_append, Array.empty_append, show ([] : List Value).toArray = #[] from rfl] at hfr hr
        exact ⟨_, _, _, hr, List.prefix_append _ _, hfr⟩
      | sliceEx i o k l hl =>
        simp only at hap
        cases hc : Ab.cellsAt H i o (k * τ.size) with
        | none => simp [hc] at hap
        | some old =>
          simp only [hc, Option.some.injEq, Prod.mk.injEq] at hap
          obtain ⟨rfl, rfl⟩ := hap
          obtain ⟨l', dold, hl', hlen, hro, h1o, hcell'⟩ := h.cellsAt hc
          rw [hl] at hl'; cases hl'
          have hdlen : dold.length = k * τ.size := by rw [<- hro.1]; exact hlen
          have hr := run_append_grow (P := P) w t ty te ii τ.zero ht hi hz ⟨l.blk, l.off + o, none⟩ k k dold (by rw [hsz]; exact hdlen) (fun j v hj => by rw [add_zero_addr]; exact hcell' j v hj)
            ad n cc dn (by rw [hsz]; exact hdl) hnews (by omega) (hneed63 k hb2) (by rw [hby]; exact growslice_fits (by omega) hb1)
          have hfr := fresh H ρ w.drew old dold (k + n) (grownCap w (k + n) k te) h.drew h.len hro h1o hdr (by rw [hdlen, hdl, Nat.add_mul]) (grownCap_ge w (k + n) k te)
          exact ⟨_, _, _, hr, List.prefix_append _ _, hfr⟩
      | sliceZero i o e a =>
        have key : ∀ (H0 : Heap), R B w0 ρ H0 w -> H0.length = H.length -> ∃ cv w' ρ', (Builtin.append_ #[t, t] ty #[.slice a 0 0, .slice (some ad) n cc]).run P w = .ok cv w' /\ ρ <+: ρ' /\ R B w0 ρ' (H0 ++ [⟨[] ++ news, true, true⟩]) w' /\ VR ρ' (.slice (some ⟨H0.length, 0, some τ.size⟩) n n) cv := by
          intro H0 hR0 hl0
          have hr : (Builtin.append_ #[t, t] ty #[.slice a 0 0, .slice (some ad) n cc]).run P w = .ok (.slice (some ⟨w.drew.heap.size, 0, none⟩) n (grownCap w n 0 te)) (w.drew.alloc (.cells (dn.toArray ++ Builtin.zeroCells τ.zero.cells (grownCap w n 0 te - n)) te)) := by
            cases a with
            | none => exact run_append_nil (P := P) w t ty te ii τ.zero ht hi hz ad n cc dn (by rw [hsz]; exact hdl) hnews (by omega) (by have := hneed63 0; simp at this; omega) (by rw [hby]; simp at hb1; omega)
            | some a =>
              have := run_append_grow (P := P) w t ty te ii τ.zero ht hi hz a 0 0 [] (by simp) (by simp) ad n cc dn (by rw [hsz]; exact hdl) hnews (by omega) (by have := hneed63 0; simp at this; simpa using by omega) (by rw [hby]; exact growslice_fits (by omega) hb1)
              simpa using this
          have hfr := fresh H0 ρ w.drew [] [] n (grownCap w n 0 te) hR0.drew hR0.len (VRs.nil _) (by simp) hdr (by simpa using hdl) (grownCap_ge w n 0 te)
          simp only [List.nil_append, Array.empty_append, show ([] : List Value).toArray = #[] from rfl] at hfr hr ⊢
          exact ⟨_, _, _, hr, List.prefix_append _ _, hfr⟩
        simp only at hap
        split at hap
        · simp only [Option.some.injEq, Prod.mk.injEq] at hap
          obtain ⟨rfl, rfl⟩ := hap
          obtain ⟨cv, w', ρ', h1, h2, h3, h4⟩ := key H h rfl
          exact ⟨cv, w', ρ', h1, h2, by simpa using h3, h4⟩
        · split at hap
          · cases hc : Ab.cellsAt H i o (0 * τ.size) with
            | none => rw [hc] at hap; cases hap
            | some old =>
              simp only [hc, Option.some.injEq, Prod.mk.injEq] at hap
              obtain ⟨rfl, rfl⟩ := hap
              obtain ⟨l', dold, hl', hlen, hro, h1o, hcell'⟩ := h.cellsAt hc
              have : old = [] := List.eq_nil_of_length_eq_zero (by simpa using hlen)
              subst this
              obtain ⟨cv, w', ρ', h1, h2, h3, h4⟩ := key (H.kill i) (h.kill i) (Heap.kill_length H i)
              rw [Heap.kill_length] at h4
              exact ⟨cv, w', ρ', h1, h2, h3, by simpa using h4⟩
          · cases hap
      | sliceUnk i o e k o' c l hl h1 h2 h3 =>
        simp only at hap
        split at hap
        · rename_i hcond
          obtain ⟨rfl, rfl, hpos, hgh⟩ := hcond
          simp only [Option.some.injEq, Prod.mk.injEq] at hap
          obtain ⟨rfl, rfl⟩ := hap
          obtain ⟨gb, hgb, hgl, hgo⟩ := ghostAt_inv hgh
          have hsz0 := h.ghost i gb l hgb hl hgl hgo
          rw [hsz0] at h3
          have hc0 : c = 0 := by
            rcases Nat.eq_zero_or_pos c with hc | hc
            · exact hc
            · have := Nat.mul_pos hc hpos; omega
          subst hc0
          have hr := run_append_grow (P := P) w t ty te ii τ.zero ht hi hz ⟨l.blk, o', none⟩ 0 0 [] (by simp) (by simp) ad n cc dn (by rw [hsz]; exact hdl) hnews (by omega) (by have := hneed63 0; simp at this; simpa using by omega) (by rw [hby]; exact growslice_fits (by omega) hb1)
          have hfr := fresh H ρ w.drew [] [] n (grownCap w n 0 te) h.drew h.len (VRs.nil _) (by simp) hdr (by simpa using hdl) (grownCap_ge w n 0 te)
          simp only [List.nil_append, Array.empty_append, Nat.zero_add, show ([] : List Value).toArray = #[] from rfl] at hfr hr
          exact ⟨_, _, _, hr, List.prefix_append _ _, hfr⟩
        split at hap
        · rename_i hcond
          obtain ⟨rfl, hown⟩ := hcond
          cases hc : Ab.cellsAt H i o (k * τ.size) with
          | none => simp [hc] at hap
          | some old =>
            simp only [hc, Option.some.injEq, Prod.mk.injEq] at hap
            obtain ⟨rfl, rfl⟩ := hap
            obtain ⟨l', dold, hl', hlen, hro, h1o, hcell'⟩ := h.cellsAt hc
            rw [hl] at hl'; cases hl'
            have hdlen : dold.length = k * τ.size := by rw [<- hro.1]; exact hlen
            have hkl : (H.kill i).length = H.length := Heap.kill_length H i
            have holds : ∀ (j : Nat) (v : Value), dold[j]? = some v -> w.cell? ⟨l.blk, o' + j, none⟩ = some v := by
              intro j v hj
              have hjlt : j < dold.length := (List.getElem?_eq_some_iff.1 hj).1
              have hk0 : k ≠ 0 := by intro e; rw [hdlen, e] at hjlt; simp at hjlt
              have e : o' = l.off + o := by rcases h1 with h1 | h1; exact h1; exact absurd h1.1 hk0
              rw [e]; exact hcell' j v hj
            by_cases hroom : k + n <= c
            · -- in place
              obtain ⟨b, hbb, hbl, hbo⟩ := ownAt_inv hown
              obtain ⟨cur, el, fz, hg, hcs, _, ho⟩ := h.blk i b l hbb hl hbl
              obtain ⟨hBl, rfl⟩ := ho hbo
              have hfit : o' + k * τ.size + dn.length <= cur.size := by
                rw [<- hcs, hdl]
                have : (k + n) * τ.size <= c * τ.size := Nat.mul_le_mul_right _ hroom
                rw [Nat.add_mul] at this; omega
              have hr := run_append_place (P := P) w t ty te ii ht hi l.blk o' k c cur el hg ad n cc dn (by rw [hsz]; exact hdl) hnews hd1 hroom (by rw [hsz]; exact hfit)
              rw [hsz] at hr
              have hlt : i < H.length := (List.getElem?_eq_some_iff.1 hbb).1
              have hsz' : (over cur.toList (o' + k * τ.size) dn).toArray.size = cur.size := by simp [over_length (cs := cur.toList) (vs := dn) (o := o' + k * τ.size) (by simpa using hfit)]
              have hpre : ρ <+: ρ ++ [⟨l.blk, o', l.size⟩] := List.prefix_append _ _
              refine ⟨_, _, ρ ++ [⟨l.blk, o', l.size⟩], hr, hpre, ?_, ?_⟩
              · have hother : ∀ m : Nat, m ≠ l.blk -> (w.setRow l.blk (over cur.toList (o' + k * τ.size) dn).toArray).heap[m]? = w.heap[m]? := fun m hm => setRow_other w l.blk m _ hm
                have getH : ∀ (j : Nat) (d : Blk), ((H.kill i) ++ [(⟨old ++ news, true, true⟩ : Blk)])[j]? = some d -> d.live = true -> (H[j]? = some d /\ j ≠ i /\ j < H.length) \/ (j = H.length /\ d = ⟨old ++ news, true, true⟩) := by
                  intro j d hd hdl
                  rcases Nat.lt_or_ge j H.length with hj | hj
                  · rw [List.getElem?_append_left (by rw [hkl]; exact hj)] at hd
                    obtain ⟨h5, h6⟩ := Heap.kill_get H i j d hd hdl
                    exact .inl ⟨h5, h6, hj⟩
                  · rw [List.getElem?_append_right (by rw [hkl]; exact hj), hkl] at hd
                    cases hk : j - H.length with
                    | zero => rw [hk] at hd; simp at hd; exact .inr ⟨by omega, hd.symm⟩
                    | succ q => rw [hk] at hd; simp at hd
                have getρ : ∀ (j : Nat) (m : Loc), (ρ ++ [(⟨l.blk, o', l.size⟩ : Loc)])[j]? = some m -> (j < H.length -> ρ[j]? = some m) /\ (j = H.length -> m = ⟨l.blk, o', l.size⟩) := by
                  intro j m hm
                  refine ⟨fun hj => ?_, fun hj => ?_⟩
                  · rw [List.getElem?_append_left (by rw [h.len]; exact hj)] at hm; exact hm
                  · rw [List.getElem?_append_right (by rw [h.len]; omega), h.len, hj] at hm; simpa using hm.symm
                refine ⟨by simp [h.len, hkl], h.below.trans ⟨rfl, rfl, rfl, by simp, fun m hm => hother m (by omega)⟩, by simpa using h.base, h.fixed, ?_, ?_, ?_⟩
                · intro j d m hd hm hdl
                  rcases getH j d hd hdl with ⟨h5, h6, h7⟩ | ⟨hj, rfl⟩
                  · have hmρ := (getρ j m hm).1 h7
                    refine (h.blk j d m h5 hmρ hdl).kept hpre (hother m.blk ?_)
                    exact fun e => h.apart i j b d l m (fun e => h6 e.symm) hbb h5 hl hmρ hbl hdl hbo e.symm
                  · have := (getρ j m hm).2 hj
                    subst this
                    refine ⟨_, el, (0, 0), setRow_heap w l.blk cur _ el _ hg, by rw [hsz']; exact hcs, ?_, fun _ => ⟨hBl, rfl⟩⟩
                    intro q v hq
                    have hapd := hro.append hdr
                    have hlt' : q < (dold ++ dn).length := by
                      have : q < (old ++ news).length := (List.getElem?_eq_some_iff.1 hq).1
                      rw [<- hapd.1]; exact this
                    have hd' : (dold ++ dn)[q]? = some (dold ++ dn)[q] := List.getElem?_eq_getElem hlt'
                    have hvr := hapd.2 q v _ hq hd'
                    have hone : ((dold ++ dn)[q]).oneCell' = true := by
                      rcases List.mem_append.1 (List.getElem_mem hlt') with hm | hm
                      · exact h1o _ hm
                      · exact hd1 _ hm
                    refine ⟨by rw [hvr.oneCell]; exact hone, (dold ++ dn)[q], ?_, hvr.mono hpre⟩
                    simp only [List.getElem?_toArray]
                    rw [over_get (by simpa using hfit)]
                    by_cases hqk : q < k * τ.size
                    · have e1 : (dold ++ dn)[q]? = dold[q]? := List.getElem?_append_left (by omega)
                      rw [e1] at hd'
                      have hcq := holds q _ hd'
                      rw [if_pos (by omega)]
                      simpa [World.cell?, hg] using hcq
                    · have e1 : (dold ++ dn)[q]? = dn[q - dold.length]? := List.getElem?_append_right (by omega)
                      rw [e1] at hd'
                      rw [if_neg (by omega), if_pos (by simp at hlt'; omega), <- hd']
                      congr 1; omega
                · intro j q d f m n' hjq hd hf hm hn' hdl hfl hdo
                  rcases getH j d hd hdl with ⟨h5, h6, h7⟩ | ⟨hj, rfl⟩
                  · have hmρ := (getρ j m hm).1 h7
                    rcases getH q f hf hfl with ⟨h8, h9, h10⟩ | ⟨hq, rfl⟩
                    · exact h.apart j q d f m n' hjq h5 h8 hmρ ((getρ q n' hn').1 h10) hdl hfl hdo
                    · have := (getρ q n' hn').2 hq
                      subst this
                      exact h.apart j i d b m l h6 h5 hbb hmρ hl hdl hbl hdo
                  · have := (getρ j m hm).2 hj
                    subst this
                    rcases getH q f hf hfl with ⟨h8, h9, h10⟩ | ⟨hq, rfl⟩
                    · exact h.apart i q b f l n' (fun e => h9 e.symm) hbb h8 hl ((getρ q n' hn').1 h10) hbl hfl hbo
                    · omega
                · intro j d m hd hm hdl hdo
                  rcases Nat.lt_or_ge j H.length with hj | hj
                  · rw [List.getElem?_append_left (by rw [hkl]; exact hj)] at hd
                    exact h.ghost j d m (Heap.kill_ghost H i j d hd hdo) ((getρ j m hm).1 hj) hdl hdo
                  · rw [List.getElem?_append_right (by rw [hkl]; exact hj), hkl] at hd
                    cases hk : j - H.length with
                    | zero => rw [hk] at hd; simp at hd; subst hd; cases hdl
                    | succ q => rw [hk] at hd; simp at hd
              · refine .sliceUnk _ _ _ _ _ _ ⟨l.blk, o', l.size⟩ ?_ (.inl (by simp)) hroom h3
                rw [List.getElem?_append_right (by rw [h.len]; exact Nat.le_refl _), h.len]; simp
            · -- a new block
              have hr := run_append_grow (P := P) w t ty te ii τ.zero ht hi hz ⟨l.blk, o', none⟩ k c dold (by rw [hsz]; exact hdlen) (fun j v hj => by rw [add_zero_addr]; exact holds j v hj)
                ad n cc dn (by rw [hsz]; exact hdl) hnews (by omega) (hneed63 k hb2) (by rw [hby]; exact growslice_fits (by omega) hb1)
              have hfr := fresh (H.kill i) ρ w.drew old dold (k + n) (grownCap w (k + n) c te) (h.kill i).drew (by rw [hkl]; exact h.len) hro h1o hdr (by rw [hdlen, hdl, Nat.add_mul]) (grownCap_ge w (k + n) c te)
              rw [hkl] at hfr
              exact ⟨_, _, _, hr, List.prefix_append _ _, hfr⟩
        · cases hap
  | _ => simp [appendH] at hap
end
end Go.Ab
end

section
namespace Go.Ab
open Go.RowKit (Below)

def ACalls (P : Program) (f : FuncId) (args : List Value) (H : Heap) (Post : Value -> Heap -> Prop) : Prop :=
  (∃ fn, P.funcs[f]? = some fn /\ fn.body.isSome = true /\ (fn.name == "runtime.NumGoroutine") = false) /\
  ∀ (B : Nat) (w0 : World) (ρ : Rho) (w : World) (cargs : List Value), R B w0 ρ H w -> VRs ρ args cargs ->
    Calls P f cargs.toArray w fun e w' => ∃ ρ' H' v cv, e = .returned cv /\ ρ <+: ρ' /\ R B w0 ρ' H' w' /\ VR ρ' v cv /\ Post v H'

theorem ACalls.mono {P : Program} {f : FuncId} {args : List Value} {H : Heap} {Post Post' : Value -> Heap -> Prop} (h : ACalls P f args H Post) (hp : ∀ v H', Post v H' -> Post' v H') : ACalls P f args H Post' :=
  ⟨h.1, fun B w0 ρ w cargs hR hv => (h.2 B w0 ρ w cargs hR hv).mono fun _ _ ⟨ρ', H', v, cv, h1, h2, h3, h4, h5⟩ => ⟨ρ', H', v, cv, h1, h2, h3, h4, hp v H' h5⟩⟩

def OpOK (P : Program) (N : Nat) (o : Oper) (fr : Fr) (H : Heap) (K : Fr -> Heap -> Prop) : Prop :=
  ∀ (B : Nat) (w0 : World) (ρ : Rho) (w : World) (a : Act) (K' : Act -> World -> Prop) (Q : Exit -> Act -> World -> Prop), R B w0 ρ H w -> FR N ρ fr a ->
    (∀ (ρ' : Rho) (fr' : Fr) (H' : Heap) (a' : Act) (w' : World), ρ <+: ρ' -> K fr' H' -> R B w0 ρ' H' w' -> FR N ρ' fr' a' -> K' a' w') -> o.wp P a w K' Q

theorem opOK_value {P : Program} {N : Nat} {o : Oper} {fr : Fr} {H : Heap} {K : Fr -> Heap -> Prop}
    (h : ∀ (B : Nat) (w0 : World) (ρ : Rho) (w : World) (a : Act), R B w0 ρ H w -> FR N ρ fr a -> ∃ cv w' ρ' H' v, (execOp a.eval o).run P w = .ok (.value cv) w' /\ ρ <+: ρ' /\ R B w0 ρ' H' w' /\ VR ρ' v cv /\ dstOK N o.dst /\ K (fr.put o.dst v) H') :
    OpOK P N o fr H K := by
  intro B w0 ρ w a K' Q hR hF hK
  obtain ⟨cv, w', ρ', H', v, hr, hp, hR', hv, hd, hk⟩ := h B w0 ρ w a hR hF
  unfold Oper.wp
  rw [hr, Oper.upon_value]
  exact hK ρ' _ H' _ w' hp hk hR' ((hF.mono hp).put hd hv)

theorem opOK_same {P : Program} {N : Nat} {o : Oper} {fr : Fr} {H : Heap} {K : Fr -> Heap -> Prop}
    (h : ∀ (ρ : Rho) (w : World) (a : Act), FR N ρ fr a -> ∃ cv v, (execOp a.eval o).run P w = .ok (.value cv) w /\ VR ρ v cv /\ dstOK N o.dst /\ K (fr.put o.dst v) H) :
    OpOK P N o fr H K :=
  opOK_value fun _ _ ρ w a hR hF => let ⟨cv, v, h1, h2, h3, h4⟩ := h ρ w a hF; ⟨cv, w, ρ, H, v, h1, List.prefix_refl _, hR, h2, h3, h4⟩

theorem opOK_skip {P : Program} {N : Nat} {o : Oper} {fr : Fr} {H : Heap} {K : Fr -> Heap -> Prop}
    (h : ∀ (B : Nat) (w0 : World) (ρ : Rho) (w : World) (a : Act), R B w0 ρ H w -> FR N ρ fr a -> ∃ w' ρ' H', (execOp a.eval o).run P w = .ok .skip w' /\ ρ <+: ρ' /\ R B w0 ρ' H' w' /\ dstOK N o.dst /\ K (fr.put o.dst undef) H') :
    OpOK P N o fr H K := by
  intro B w0 ρ w a K' Q hR hF hK
  obtain ⟨w', ρ', H', hr, hp, hR', hd, hk⟩ := h B w0 ρ w a hR hF
  unfold Oper.wp
  rw [hr, Oper.upon_skip]
  exact hK ρ' _ H' _ w' hp hk hR' ((hF.mono hp).put hd (VR.closed (v := undef) rfl))

def evs (fr : Fr) : List Operand -> Option (List Value)
  | [] => some []
  | x :: xs => match ev fr x, evs fr xs with
    | some v, some vs => some (v :: vs)
    | _, _ => none

theorem FR.evs {N : Nat} {ρ : Rho} {fr : Fr} {a : Act} (hf : FR N ρ fr a) : ∀ {xs : List Operand} {vs : List Value}, Ab.evs fr xs = some vs -> VRs ρ vs (xs.map a.eval)
  | [], vs, h => by simp only [Ab.evs, Option.some.injEq] at h; subst h; exact VRs.nil _
  | x :: xs, vs, h => by
    simp only [Ab.evs] at h
    cases hx : Ab.ev fr x with
    | none => simp [hx] at h
    | some v =>
      cases hxs : Ab.evs fr xs with
      | none => simp [hx, hxs] at h
      | some us =>
        simp only [hx, hxs, Option.some.injEq] at h
        subst h
        exact VRs.cons (hf.ev hx) (hf.evs hxs)

section
variable {P : Program} {N : Nat} {o : Oper} {fr : Fr} {H : Heap} {K : Fr -> Heap -> Prop}

theorem ok_move {x : Operand} (ho : o.op = .move x \/ o.op = .assign x) {v : Value} (hx : ev fr x = some v) (hd : dstOK N o.dst) (hk : K (fr.put o.dst v) H) : OpOK P N o fr H K :=
  opOK_same fun ρ w a hF => ⟨a.eval x, v, by rcases ho with h | h <;> simp [execOp, h], hF.ev hx, hd, hk⟩

theorem ok_pick {c x y : Operand} (ho : o.op = .pick c x y) {b : Bool} (hc : ev fr c = some (.bool b)) {v : Value} (hx : ev fr (if b then x else y) = some v) (hd : dstOK N o.dst) (hk : K (fr.put o.dst v) H) : OpOK P N o fr H K :=
  opOK_same fun ρ w a hF => by
    have hb := (hF.ev hc).bool_inv
    refine ⟨a.eval (if b then x else y), v, ?_, hF.ev hx, hd, hk⟩
    cases b <;> simp [execOp, ho, hb, asBool]

theorem ok_alloc {t : TypeId} (ho : o.op = .alloc t) {τ : TI} (ht : ti P t = some τ) (hc : τ.zero.cells.toList.all closed0 = true) (hd : dstOK N o.dst)
    (hk : K (fr.put o.dst (.pointer (some ⟨H.length, 0, none⟩))) (H ++ [⟨τ.zero.cells.toList, true, true⟩])) : OpOK P N o fr H K :=
  opOK_value fun B w0 ρ w a hR hF => by
    obtain ⟨i, hu, hi, hs, hb, hz, hzs⟩ := ti_inv ht
    refine ⟨.pointer (some ⟨w.heap.size, 0, none⟩), w.alloc (.cells τ.zero.cells t), _, _, _, ?_, List.prefix_append _ _, hR.alloc τ.zero.cells.toList τ.zero.cells t ?_, ?_, hd, hk⟩
    · simp [execOp, ho, Instr.alloc, zeroValue, typeInfo, hi, hz, newVar, newRow]
    · intro k v hv
      have hcv := List.all_eq_true.1 hc v (List.mem_of_getElem? hv)
      refine ⟨by cases v <;> first | rfl | simp [closed0] at hcv, v, by simpa using hv, VR.closed0 hcv⟩
    · exact .ptr H.length 0 ⟨w.heap.size, 0, τ.zero.cells.size⟩ (by rw [<- hR.len]; simp)

theorem ok_box {t : TypeId} {x : Operand} (ho : o.op = .box t x) {v : Value} (hx : ev fr x = some v) (hc : v.cells.toList.all Value.oneCell' = true) (hd : dstOK N o.dst)
    (hk : K (fr.put o.dst (.pointer (some ⟨H.length, 0, none⟩))) (H ++ [⟨v.cells.toList, true, true⟩])) : OpOK P N o fr H K :=
  opOK_value fun B w0 ρ w a hR hF => by
    have hv := hF.ev hx
    have hcs := hv.cells
    refine ⟨.pointer (some ⟨w.heap.size, 0, none⟩), w.alloc (.cells (a.eval x).cells t), _, _, _, ?_, List.prefix_append _ _, hR.alloc v.cells.toList (a.eval x).cells t ?_, ?_, hd, hk⟩
    · simp [execOp, ho, Instr.box, newVar, newRow]
    · intro k u hu
      refine ⟨List.all_eq_true.1 hc u (List.mem_of_getElem? hu), ?_⟩
      have hlt : k < (a.eval x).cells.toList.length := by rw [<- hcs.1]; exact (List.getElem?_eq_some_iff.1 hu).1
      exact ⟨(a.eval x).cells.toList[k], by simp [List.getElem?_eq_getElem (by simpa using hlt : k < (a.eval x).cells.size)], hcs.2 k u _ hu (List.getElem?_eq_getElem hlt)⟩
    · exact .ptr H.length 0 ⟨w.heap.size, 0, (a.eval x).cells.size⟩ (by rw [<- hR.len]; simp)

def aggT : TypeDesc -> Bool
  | .struct _ | .array _ _ => true
  | _ => false

theorem run_isAgg {t : TypeId} {d : TypeDesc} (hu : P.underlying t = some d) (w : World) : (isAgg t).run P w = .ok (aggT d) w := by
  unfold isAgg
  rw [Sem.run_bind, run_underlying hu w]
  cases d <;> simp [aggT]

theorem R.loadVar {B : Nat} {w0 : World} {ρ : Rho} {w : World} (hR : R B w0 ρ H w) {t : TypeId} {τ : TI} (ht : ti P t = some τ) {i off : Nat} {cs : List Value} (hc : Ab.cellsAt H i off τ.size = some cs)
    {l : Loc} (hl : ρ[i]? = some l) {v : Value} (hv : if aggT τ.desc then v = .agg cs.toArray else cs = [v]) :
    ∃ cv, (loadVar t ⟨l.blk, l.off + off, none⟩).run P w = .ok cv w /\ VR ρ v cv := by
  obtain ⟨ii, hu, hi, hs, hb, hz, hzs⟩ := ti_inv ht
  obtain ⟨l', ds, hl', hlen, hr, h1, hcell⟩ := hR.cellsAt hc
  rw [hl] at hl'; cases hl'
  have hla := run_isAgg hu w
  by_cases hag : aggT τ.desc = true
  · rw [if_pos hag] at hv
    subst hv
    have hll := run_loadCells_list (P := P) w ⟨l.blk, l.off + off, none⟩ ds (fun j v hj => by rw [add_zero_addr]; exact hcell j v hj)
    refine ⟨.agg ds.toArray, ?_, VR.agg_of (by simpa using hr)⟩
    have e : ds.length = τ.size := by rw [<- hr.1]; exact hlen
    rw [e] at hll
    unfold Go.loadVar
    simp [hla, hag, sizeOf, typeInfo, hi, hs, hll]
  · rw [if_neg hag] at hv
    subst hv
    have hlen1 : ds.length = 1 := by rw [<- hr.1]; rfl
    obtain ⟨d, rfl⟩ : ∃ d, ds = [d] := List.length_eq_one_iff.1 hlen1
    have hd := hcell 0 d rfl
    refine ⟨d, ?_, hr.head⟩
    unfold Go.loadVar
    simp only [Nat.add_zero] at hd
    simp [hla, hag, hd]

theorem ok_load {t : TypeId} {x : Operand} (ho : o.op = .load t x) {τ : TI} (ht : ti P t = some τ) {i off : Nat} (hx : ev fr x = some (.pointer (some ⟨i, off, none⟩)))
    {cs : List Value} (hc : cellsAt H i off τ.size = some cs) {v : Value} (hv : if aggT τ.desc then v = .agg cs.toArray else cs = [v]) (hd : dstOK N o.dst) (hk : K (fr.put o.dst v) H) : OpOK P N o fr H K :=
  opOK_value fun B w0 ρ w a hR hF => by
    obtain ⟨l, hl, he⟩ := (hF.ev hx).ptr_inv
    obtain ⟨cv, hrun, hvr⟩ := hR.loadVar ht hc hl hv
    exact ⟨cv, w, ρ, H, v, by simp [execOp, ho, Instr.loadAt, Instr.sureAddr, he, hrun], List.prefix_refl _, hR, hvr, hd, hk⟩

theorem R.storeVar {B : Nat} {w0 : World} {ρ : Rho} {w : World} (hR : R B w0 ρ H w) {H' : Heap} {i off : Nat} {v cv : Value} (hv : VR ρ v cv) (hst : storeAt H i off v.cells.toList = some H')
    {l : Loc} (hl : ρ[i]? = some l) : ∃ w', (storeCells ⟨l.blk, l.off + off, none⟩ cv.cells.toList).run P w = .ok () w' /\ R B w0 ρ H' w' := by
  obtain ⟨b, hb, hbl, hbo, hlen, hone, rfl⟩ := storeAt_inv hst
  obtain ⟨cur, el, fz, hg, hsz, hcell, ho⟩ := hR.blk i b l hb hl hbl
  obtain ⟨hBl, rfl⟩ := ho hbo
  have hcs := hv.cells
  have h1 : ∀ u ∈ cv.cells.toList, u.oneCell' = true := by
    intro u hu
    obtain ⟨k, hk⟩ := List.getElem?_of_mem hu
    have hlt : k < v.cells.toList.length := by rw [hcs.1]; exact (List.getElem?_eq_some_iff.1 hk).1
    have := hcs.2 k _ u (List.getElem?_eq_getElem hlt) hk
    rw [<- this.oneCell]
    exact List.all_eq_true.1 hone _ (List.getElem_mem hlt)
  by_cases hz : v.cells.toList.length = 0
  · have e1 : v.cells.toList = [] := List.eq_nil_of_length_eq_zero hz
    have e2 : cv.cells.toList = [] := List.eq_nil_of_length_eq_zero (by rw [<- hcs.1]; exact hz)
    refine ⟨w, by rw [e2]; rfl, ?_⟩
    have e3 : H.set i { b with cells := over b.cells off v.cells.toList } = H := by
      rw [e1]
      have : over b.cells off [] = b.cells := by simp [over]
      rw [this]
      apply List.ext_getElem?
      intro k
      rw [List.getElem?_set]
      by_cases hk : i = k
      · subst hk; rw [if_pos rfl, hb, if_pos (List.getElem?_eq_some_iff.1 hb).1]
      · rw [if_neg hk]
    rw [e3]; exact hR
  have hfit : l.off + off + cv.cells.toList.length <= cur.size := by
    rw [<- hcs.1]
    obtain ⟨_, c, hc, _⟩ := hcell (off + v.cells.toList.length - 1) _ (List.getElem?_eq_getElem (by omega))
    have := (Array.getElem?_eq_some_iff.1 hc).1
    omega
  have hst := run_storeCells_at P l.blk (l.off + off) el cv.cells.toList 0 cur w hg (by simpa using hfit) h1
  simp only [Nat.add_zero] at hst
  refine ⟨_, hst, ?_⟩
  have e : (cur.toList.take (l.off + off) ++ cv.cells.toList ++ cur.toList.drop (l.off + off + cv.cells.toList.length)).toArray = (over cur.toList (l.off + off) cv.cells.toList).toArray := rfl
  rw [e]
  refine hR.setRow hb hl hbl hbo (over b.cells off v.cells.toList) _ el cur hg (by simp [over_length (cs := cur.toList) (o := l.off + off) (vs := cv.cells.toList) (by simpa using hfit)]) ?_
  intro k u hk
  rw [over_get hlen] at hk
  simp only [List.getElem?_toArray]
  rw [over_get (by simpa using hfit)]
  by_cases c1 : k < off
  · rw [if_pos c1] at hk
    rw [if_pos (by omega)]
    obtain ⟨h3, cu, h4, h5⟩ := hcell k u hk
    exact ⟨h3, cu, by simpa using h4, h5⟩
  · rw [if_neg c1] at hk
    by_cases c2 : k < off + v.cells.toList.length
    · rw [if_pos c2] at hk
      rw [if_neg (by omega), if_pos (by rw [<- hcs.1]; omega)]
      have hlt : k - off < cv.cells.toList.length := by rw [<- hcs.1]; omega
      refine ⟨List.all_eq_true.1 hone u (List.mem_of_getElem? hk), cv.cells.toList[k - off], ?_, hcs.2 _ _ _ hk (List.getElem?_eq_getElem hlt)⟩
      rw [show l.off + k - (l.off + off) = k - off by omega]
      exact List.getElem?_eq_getElem hlt
    · rw [if_neg c2] at hk
      rw [if_neg (by omega), if_neg (by rw [<- hcs.1]; omega)]
      obtain ⟨h3, cu, h4, h5⟩ := hcell k u hk
      exact ⟨h3, cu, by simpa using h4, h5⟩

end
end Go.Ab
end

section
namespace Go.Ab
open Go.RowKit (Below)

section
variable {P : Program} {N : Nat} {o : Oper} {fr : Fr} {H : Heap} {K : Fr -> Heap -> Prop}

theorem ok_store {t : TypeId} {x y : Operand} (ho : o.op = .store t x y) {τ : TI} (ht : ti P t = some τ) {i off : Nat} (hx : ev fr x = some (.pointer (some ⟨i, off, none⟩))) {v : Value} (hy : ev fr y = some v)
    (hsz : v.cells.size = τ.size) {H' : Heap} (hst : storeAt H i off v.cells.toList = some H') (hd : dstOK N o.dst) (hk : K (fr.put o.dst undef) H') : OpOK P N o fr H K :=
  opOK_skip fun B w0 ρ w a hR hF => by
    obtain ⟨ii, hu, hi, hs, hb, hz, hzs⟩ := ti_inv ht
    obtain ⟨l, hl, he⟩ := (hF.ev hx).ptr_inv
    have hv := hF.ev hy
    obtain ⟨w', hrun, hR'⟩ := hR.storeVar (P := P) hv hst hl
    have hcs : (a.eval y).cells.size = τ.size := by
      have := hv.cells.1
      simp at this
      omega
    refine ⟨w', ρ, H', ?_, List.prefix_refl _, hR', hd, hk⟩
    simp [execOp, ho, Instr.storeAt, Instr.sureAddr, he, storeVar, sizeOf, typeInfo, hi, hs, hcs, hrun]

theorem ok_nilCheck {x : Operand} (ho : o.op = .nilCheck x) {i off : Nat} (hx : ev fr x = some (.pointer (some ⟨i, off, none⟩))) (hd : dstOK N o.dst)
    (hk : K (fr.put o.dst (.pointer (some ⟨i, off, none⟩))) H) : OpOK P N o fr H K :=
  opOK_same fun ρ w a hF => by
    have hv := hF.ev hx
    obtain ⟨l, hl, he⟩ := hv.ptr_inv
    exact ⟨a.eval x, _, by simp [execOp, ho, he], hv, hd, hk⟩

theorem ok_nilCheckF {x : Operand} (ho : o.op = .nilCheck x) {g : FuncId} {az bs : Array Value} (hx : ev fr x = some (.func (.func g) az bs)) (hd : dstOK N o.dst)
    (hk : K (fr.put o.dst (.func (.func g) az bs)) H) : OpOK P N o fr H K :=
  opOK_same fun ρ w a hF => by
    have hv := hF.ev hx
    obtain ⟨az', bs', he, _, _⟩ := hv.func_inv
    exact ⟨a.eval x, _, by simp [execOp, ho, he], hv, hd, hk⟩

/-! Words that simp opens from the outside in: what stands behind them is not looked at before they are gone. -/

def bindO {α : Type} (o : Option α) (K : α -> Prop) : Prop := ∃ v, o = some v /\ K v
theorem bindO_some {α : Type} (v : α) (K : α -> Prop) : bindO (some v) K = K v := by simp [bindO]
@[congr] theorem bindO_congr {α : Type} {o o' : Option α} {K : α -> Prop} (h : o = o') : bindO o K = bindO o' K := by rw [h]

def andK (p : Prop) (k : Prop) : Prop := p /\ k
theorem andK_true (k : Prop) : andK True k = k := by simp [andK]
theorem andK_intro {p k : Prop} (h : p) (hk : k) : andK p k := ⟨h, hk⟩
@[congr] theorem andK_congr {p p' k : Prop} (h : p = p') : andK p k = andK p' k := by rw [h]

@[congr] theorem ACalls_congr {P : Program} {f : FuncId} {args args' : List Value} {H : Heap} {Post : Value -> Heap -> Prop} (h : args = args') : ACalls P f args H Post = ACalls P f args' H Post := by rw [h]

def condK (b : Bool) (k1 k2 : Prop) : Prop := (b = true -> k1) /\ (b = false -> k2)
theorem condK_true (k1 k2 : Prop) : condK true k1 k2 = k1 := by simp [condK]
theorem condK_false (k1 k2 : Prop) : condK false k1 k2 = k2 := by simp [condK]
theorem condK_intro {b : Bool} {k1 k2 : Prop} (h1 : b = true -> k1) (h2 : b = false -> k2) : condK b k1 k2 := ⟨h1, h2⟩
@[congr] theorem condK_congr {b b' : Bool} {k1 k2 : Prop} (h : b = b') : condK b k1 k2 = condK b' k1 k2 := by rw [h]

def vint (op : BinOp) (k : IntKind) (a b : Int) (K : Value -> Prop) : Prop :=
  match op with
  | .add => K (.int k (k.wrap (a + b)))
  | .sub => K (.int k (k.wrap (a - b)))
  | .mul => K (.int k (k.wrap (a * b)))
  | .quo => andK (b ≠ 0) <| K (.int k (k.wrap (a.tdiv b)))
  | .rem => andK (b ≠ 0) <| K (.int k (a.tmod b))
  | .and => K (.int k (k.wrap (BitVec.ofInt k.bits a &&& BitVec.ofInt k.bits b).toNat))
  | .or => K (.int k (k.wrap (BitVec.ofInt k.bits a ||| BitVec.ofInt k.bits b).toNat))
  | .xor => K (.int k (k.wrap (BitVec.ofInt k.bits a ^^^ BitVec.ofInt k.bits b).toNat))
  | .andNot => K (.int k (k.wrap (BitVec.ofInt k.bits a &&& ~~~(BitVec.ofInt k.bits b)).toNat))
  | .eql => K (.bool (a == b))
  | .neq => K (.bool (a != b))
  | .lss => K (.bool (decide (a < b)))
  | .leq => K (.bool (decide (a <= b)))
  | .gtr => K (.bool (decide (b < a)))
  | .geq => K (.bool (decide (b <= a)))
  | .shl => andK (0 <= b) <| K (.int k (k.wrap (a * 2 ^ (min b.toNat k.bits))))
  | .shr => andK (0 <= b) <| K (.int k (a.fdiv (2 ^ (min b.toNat k.bits))))

def vstr (op : BinOp) (a b : ByteArray) (K : Value -> Prop) : Prop :=
  match op with
  | .add => andK (((a.size + b.size : Nat) : Int) <= 9223372036854775807) <| K (.string (a ++ b))
  | .eql => K (.bool (a.toList == b.toList))
  | .neq => K (.bool (!(a.toList == b.toList)))
  | .lss => K (.bool (Op.bytesLess a.toList b.toList))
  | _ => False

def intsOf (k : IntKind) : List Value -> Option (List Int)
  | [] => some []
  | .int k' n :: vs => if k = k' then (intsOf k vs).map (n :: ·) else none
  | _ :: _ => none

theorem intsOf_inv {k : IntKind} : ∀ {vs : List Value} {ns : List Int}, intsOf k vs = some ns -> vs = ns.map (.int k)
  | [], ns, h => by simp [intsOf] at h; subst h; rfl
  | v :: vs, ns, h => by
    cases v with
    | int k' n =>
      simp only [intsOf] at h
      split at h
      · rename_i e; subst e
        cases hs : intsOf k vs with
        | none => simp [hs] at h
        | some ms => simp [hs] at h; subst h; rw [intsOf_inv hs]; rfl
      · cases h
    | _ => simp [intsOf] at h

def opShift : BinOp -> Bool
  | .shl | .shr => true
  | _ => false

def vbin (P : Program) (op : BinOp) (ty : TypeId) (x y : Value) (K : Value -> Prop) : Prop :=
  match x, y with
  | .int k a, .int k' b => andK (k = k' \/ opShift op = true) <| vint op k a b K
  | .string a, .string b => vstr op a b K
  | .bool a, .bool b => andK (P.underlying ty = some .bool) <| match op with
    | .eql => K (.bool (a == b))
    | .neq => K (.bool (!(a == b)))
    | _ => False
  | .agg xs, .agg ys => bindO (P.underlying ty) fun d => match d with
    | .array n te => bindO (P.underlying te) fun de => match de with
      | .int k => andK ((P.info? te).map (·.size) = some 1) <| bindO (intsOf k xs.toList) fun az => bindO (intsOf k ys.toList) fun bs => andK (az.length = n /\ az.length = bs.length) <| match op with
        | .eql => K (.bool (decide (az = bs)))
        | .neq => K (.bool (!decide (az = bs)))
        | _ => False
      | _ => False
    | _ => False
  | _, _ => False

theorem run_intArith_cmp (w : World) (op : BinOp) (ty : TypeId) (k k' : IntKind) (a b : Int) (hk : k = k' \/ opShift op = true) (Kv : Value -> Prop) (h : vint op k a b Kv) :
    ∃ v, (binOp op ty (.int k a) (.int k' b)).run P w = .ok v w /\ Kv v /\ closed0 v = true := by
  cases op
  case shl => obtain ⟨h0, h⟩ := h; exact ⟨_, by simp [binOp, Op.shift, show ¬ b < 0 by omega], h, rfl⟩
  case shr => obtain ⟨h0, h⟩ := h; exact ⟨_, by simp [binOp, Op.shift, show ¬ b < 0 by omega], h, rfl⟩
  case quo => obtain rfl : k = k' := by simpa [opShift] using hk
              obtain ⟨h0, h⟩ := h; exact ⟨_, by simp [binOp, Op.intDiv, h0], h, rfl⟩
  case rem => obtain rfl : k = k' := by simpa [opShift] using hk
              obtain ⟨h0, h⟩ := h; exact ⟨_, by simp [binOp, Op.intDiv, h0], h, rfl⟩
  all_goals
    obtain rfl : k = k' := by simpa [opShift] using hk
    exact ⟨_, by simp [binOp, Op.intArith, Op.intBits, Op.intCmp], h, rfl⟩

def plainV : Value -> Bool
  | .nilIface | .agg _ => false
  | _ => true

theorem run_eqGuard_plain (w : World) (op : BinOp) (ty : TypeId) (x y : Operand) (a b : Value) (ha : plainV a = true) : (eqGuard op ty x y a b).run P w = .ok () w := by
  unfold eqGuard
  cases op
  case eql => cases a <;> first | (simp [plainV] at ha; done) | (cases b <;> rfl)
  case neq => cases a <;> first | (simp [plainV] at ha; done) | (cases b <;> rfl)
  all_goals rfl

theorem run_eqGuard_ints (w : World) (op : BinOp) (ty te : TypeId) (k : IntKind) (n : Nat) (x y : Operand) (az bs : Array Value) (hu : P.underlying ty = some (.array n te)) (hue : P.underlying te = some (.int k)) :
    (eqGuard op ty x y (.agg az) (.agg bs)).run P w = .ok () w := by
  have hd : P.eqGuardType P.depth ty = false := by
    unfold Program.depth
    simp [Program.eqGuardType, hu, hue]
  unfold eqGuard
  cases op
  case eql => simp [hd]
  case neq => simp [hd]
  all_goals rfl

theorem run_part_one {te : TypeId} {k : IntKind} (hu : P.underlying te = some (.int k)) (w : World) (cs : Array Value) (i : Nat) {v : Value} (h : cs[i]? = some v) : (part te cs i).run P w = .ok v w := by
  unfold part
  rw [Sem.run_bind, run_isAgg hu w]
  simp [aggT, h]

theorem run_forIn_search (w : World) (c : Nat -> Bool) (f : Nat -> Option Bool × Unit -> Sem (ForInStep (Option Bool × Unit))) :
    ∀ (n st : Nat), (∀ i s, st <= i -> i < st + n -> (f i s).run P w = .ok (if c i then .yield (none, ()) else .done (some false, ())) w) ->
      (forIn (List.range' st n) ((none, ()) : Option Bool × Unit) f).run P w = .ok (if (List.range' st n).all c then (none, ()) else (some false, ())) w
  | 0, st, _ => by simp
  | n + 1, st, hf => by
    have ih := run_forIn_search w c f n (st + 1) (fun i s h1 h2 => hf i s (by omega) (by omega))
    rw [List.range'_succ, List.forIn_cons, Sem.run_bind, hf st _ (by omega) (by omega)]
    by_cases h : c st = true
    · simp only [h, if_true, Result.andThen_ok, List.all_cons, Bool.true_and]; exact ih
    · simp [h]

theorem all_range_get (az bs : List Int) (hl : az.length = bs.length) : (List.range' 0 az.length).all (fun i => az.getD i 0 == bs.getD i 0) = decide (az = bs) := by
  by_cases h : az = bs
  · subst h; simp
  · simp only [h, decide_false]
    rw [Bool.eq_false_iff]
    intro hc
    apply h
    rw [List.all_eq_true] at hc
    apply List.ext_getElem hl
    intro i h1 h2
    have := hc i (by simp [List.mem_range']; omega)
    simpa [List.getD_eq_getElem?_getD, h1, h2] using this

theorem run_equalIn_ints (w : World) (ty te : TypeId) (k : IntKind) (az bs : List Int) (hu : P.underlying ty = some (.array az.length te)) (hue : P.underlying te = some (.int k)) (hs : (P.info? te).map (·.size) = some 1)
    (hl : az.length = bs.length) (d : Nat) : (Op.equalIn (d + 2) ty (.agg (az.map (Value.int k)).toArray) (.agg (bs.map (Value.int k)).toArray)).run P w = .ok (decide (az = bs)) w := by
  have hsz : (sizeOf te).run P w = .ok 1 w := by
    cases hi : P.info? te with
    | none => simp [hi] at hs
    | some i => simp [hi] at hs; simp [sizeOf, typeInfo, hi, hs]
  rw [Op.equalIn]
  simp only [Sem.run_bind, run_underlying hu, Result.andThen_ok, hsz, Std.Legacy.Range.forIn_eq_forIn_range', Std.Legacy.Range.size, Nat.sub_zero, Nat.add_sub_cancel, Nat.div_one]
  rw [run_forIn_search w (fun i => az.getD i 0 == bs.getD i 0)]
  · rw [all_range_get az bs hl]
    by_cases h : az = bs
    · simp [h]
    · simp [h]
  · intro i s h1 h2
    have h3 : i < az.length := by omega
    have h4 : i < bs.length := by omega
    have ha : ((az.map (Value.int k)).toArray)[i * 1]? = some (.int k az[i]) := by simp [h3]
    have hb : ((bs.map (Value.int k)).toArray)[i * 1]? = some (.int k bs[i]) := by simp [h4]
    simp only [Sem.run_bind, run_part_one hue w _ _ ha, run_part_one hue w _ _ hb, Result.andThen_ok, run_equalIn_int w d te k k az[i] bs[i] hue]
    have e1 : az.getD i 0 = az[i] := by simp [List.getD_eq_getElem?_getD, h3]
    have e2 : bs.getD i 0 = bs[i] := by simp [List.getD_eq_getElem?_getD, h4]
    rw [e1, e2]
    by_cases e : az[i] = bs[i] <;> simp [e]

theorem ok_bin {op : BinOp} {ty ty' : TypeId} {x y : Operand} (ho : o.op = .binOp op ty x y ty') {vx vy : Value} (hx : ev fr x = some vx) (hy : ev fr y = some vy) (hd : dstOK N o.dst)
    (hk : vbin P op ty vx vy (fun v => K (fr.put o.dst v) H)) : OpOK P N o fr H K :=
  opOK_same fun ρ w a hF => by
    have rx := hF.ev hx
    have ry := hF.ev hy
    cases vx with
    | int k n =>
      cases vy with
      | int k' m =>
        obtain ⟨hkk, hv⟩ := hk
        obtain ⟨v, hr, hkv, hc⟩ := run_intArith_cmp (P := P) w op ty k k' n m hkk _ hv
        refine ⟨v, v, ?_, VR.closed0 hc, hd, hkv⟩
        have hg := run_eqGuard_plain (P := P) w op ty x y (.int k n) (.int k' m) rfl
        simp [execOp, ho, rx.int_inv, ry.int_inv, hg, hr]
      | _ => simp [vbin] at hk
    | string s =>
      cases vy with
      | string u =>
        have hk' : vstr op s u (fun v => K (fr.put o.dst v) H) := hk
        have hg := run_eqGuard_plain (P := P) w op ty x y (.string s) (.string u) rfl
        cases op
        case add =>
          obtain ⟨h1, h2⟩ := hk'
          refine ⟨_, _, ?_, .string _, hd, h2⟩
          have e : IntKind.max .i64 = 9223372036854775807 := by decide
          have h3 : ¬ ((s.size : Int) + (u.size : Int) > 9223372036854775807) := by push_cast at h1; omega
          simp [execOp, ho, rx.string_inv, ry.string_inv, hg, binOp, Op.stringOp, e, h3]
        case eql => exact ⟨_, _, by simp [execOp, ho, rx.string_inv, ry.string_inv, hg, binOp, Op.stringOp], .bool _, hd, hk'⟩
        case neq => exact ⟨_, _, by simp [execOp, ho, rx.string_inv, ry.string_inv, hg, binOp, Op.stringOp], .bool _, hd, hk'⟩
        case lss => exact ⟨_, _, by simp [execOp, ho, rx.string_inv, ry.string_inv, hg, binOp, Op.stringOp], .bool _, hd, hk'⟩
        all_goals exact hk'.elim
      | _ => simp [vbin] at hk
    | bool b =>
      cases vy with
      | bool c =>
        obtain ⟨hu, hk⟩ := hk
        have hg := run_eqGuard_plain (P := P) w op ty x y (.bool b) (.bool c) rfl
        have he : (Op.equal ty (.bool b) (.bool c)).run P w = .ok (b == c) w := run_equalIn_bool w 9999 ty b c hu
        split at hk
        · exact ⟨_, _, by simp [execOp, ho, rx.bool_inv, ry.bool_inv, hg, binOp, he], .bool _, hd, hk⟩
        · exact ⟨_, _, by simp [execOp, ho, rx.bool_inv, ry.bool_inv, hg, binOp, he], .bool _, hd, hk⟩
        · exact hk.elim
      | _ => simp [vbin] at hk
    | agg xs =>
      cases vy with
      | agg ys =>
        obtain ⟨d, hu, hk⟩ := hk
        cases d <;> try exact hk.elim
        rename_i n te
        obtain ⟨de, hue, hk⟩ := hk
        cases de <;> try exact hk.elim
        rename_i k
        obtain ⟨hs, az, h1, bs, h2, ⟨rfl, h3⟩, hk⟩ := hk
        obtain ⟨xs', ex, rxs⟩ := rx.agg_inv
        obtain ⟨ys', ey, rys⟩ := ry.agg_inv
        have same : ∀ (az : List Int) (xs xs' : List Value), xs = az.map (Value.int k) -> VRs ρ xs xs' -> xs' = az.map (Value.int k) := by
          intro az
          induction az with
          | nil => intro xs xs' e h; subst e; exact h.nil_inv
          | cons n az ih =>
            intro xs xs' e h
            subst e
            obtain ⟨u, us, rfl, hu1, hu2⟩ := h.cons_inv
            rw [hu1.int_inv, ih _ _ rfl hu2]; rfl
        have e1 : xs' = (az.map (Value.int k)).toArray := by apply Array.ext'; simpa using same az _ _ (intsOf_inv h1) rxs
        have e2 : ys' = (bs.map (Value.int k)).toArray := by apply Array.ext'; simpa using same bs _ _ (intsOf_inv h2) rys
        subst e1
        subst e2
        have hg := run_eqGuard_ints (P := P) w op ty te k az.length x y (az.map (Value.int k)).toArray (bs.map (Value.int k)).toArray hu hue
        have he : (Op.equal ty (.agg (az.map (Value.int k)).toArray) (.agg (bs.map (Value.int k)).toArray)).run P w = .ok (decide (az = bs)) w := run_equalIn_ints w ty te k az bs hu hue hs h3 9998
        split at hk
        · exact ⟨_, _, by simp only [execOp, ho, ex, ey, hg, binOp, he, Sem.run_bind, Result.andThen_ok, Sem.run_pure], .bool _, hd, hk⟩
        · exact ⟨_, _, by simp only [execOp, ho, ex, ey, hg, binOp, he, Sem.run_bind, Result.andThen_ok, Sem.run_pure], .bool _, hd, hk⟩
        · exact hk.elim
      | _ => simp [vbin] at hk
    | _ => simp [vbin] at hk

end
end Go.Ab
end

section
namespace Go.Ab
open Go.RowKit (Below)

section
variable {P : Program} {N : Nat} {o : Oper} {fr : Fr} {H : Heap} {K : Fr -> Heap -> Prop}

theorem run_underlying' {t : TypeId} {d : TypeDesc} (h : P.underlying t = some d) (w : World) : (underlying t).run P w = .ok d w := run_underlying h w

theorem ok_not {x : Operand} {ty : TypeId} (ho : o.op = .unOp .not ty x) {b : Bool} (hx : ev fr x = some (.bool b)) (hd : dstOK N o.dst) (hk : K (fr.put o.dst (.bool (!b))) H) : OpOK P N o fr H K :=
  opOK_same fun ρ w a hF => ⟨_, _, by simp [execOp, ho, (hF.ev hx).bool_inv, Op.unary], .bool _, hd, hk⟩

theorem ok_neg {x : Operand} {ty : TypeId} (ho : o.op = .unOp .neg ty x) {k : IntKind} {n : Int} (hx : ev fr x = some (.int k n)) (hd : dstOK N o.dst) (hk : K (fr.put o.dst (.int k (k.wrap (0 - n)))) H) : OpOK P N o fr H K :=
  opOK_same fun ρ w a hF => ⟨_, _, by simp [execOp, ho, (hF.ev hx).int_inv, Op.unary, Op.intArith], .int _ _, hd, hk⟩

theorem ok_convInt {x : Operand} {s t : TypeId} (ho : o.op = .convert s t x) {k k' : IntKind} {n : Int} {d : TypeDesc} (hs : P.underlying s = some d) (ht : P.underlying t = some (.int k')) (hx : ev fr x = some (.int k n)) (hd : dstOK N o.dst)
    (hk : K (fr.put o.dst (.int k' (k'.wrap n))) H) : OpOK P N o fr H K :=
  opOK_same fun ρ w a hF => ⟨_, _, by simp [execOp, ho, (hF.ev hx).int_inv, convert, run_underlying' hs, run_underlying' ht, Conv.intToInt], .int _ _, hd, hk⟩

theorem ok_makeFunc {g : FuncId} {first captured : Array Operand} (ho : o.op = .makeFunc (.func g) first captured) {vs us : List Value} (h1 : evs fr first.toList = some vs) (h2 : evs fr captured.toList = some us) (hd : dstOK N o.dst)
    (hk : K (fr.put o.dst (.func (.func g) vs.toArray us.toArray)) H) : OpOK P N o fr H K :=
  opOK_same fun ρ w a hF => by
    refine ⟨.func (.func g) (first.map a.eval) (captured.map a.eval), _, by simp [execOp, ho, Instr.makeFunc], VR.func_of ?_ ?_, hd, hk⟩
    · simpa using hF.evs h1
    · simpa using hF.evs h2

theorem ok_extract {x : Operand} {k : Nat} (ho : o.op = .extract x k) {vs : Array Value} (hx : ev fr x = some (.tuple vs)) {v : Value} (hv : vs.toList[k]? = some v) (hd : dstOK N o.dst) (hk : K (fr.put o.dst v) H) : OpOK P N o fr H K :=
  opOK_same fun ρ w a hF => by
    obtain ⟨ys, he, hr⟩ := (hF.ev hx).tuple_inv
    have hlt : k < ys.toList.length := by rw [<- hr.1]; exact (List.getElem?_eq_some_iff.1 hv).1
    have hy : ys.toList[k]? = some ys.toList[k] := List.getElem?_eq_getElem hlt
    refine ⟨ys.toList[k], v, ?_, hr.2 k v _ hv hy, hd, hk⟩
    have : ys[k]? = some ys.toList[k] := by simpa using hy
    simp [execOp, ho, he, Instr.extract, this]

theorem ok_fieldAddr {s : TypeId} {x : Operand} {k : Nat} (ho : o.op = .fieldAddr s x k) {fs : Array Field} (hs : P.underlying s = some (.struct fs)) {f : Field} (hf : fs[k]? = some f) {i off : Nat}
    (hx : ev fr x = some (.pointer (some ⟨i, off, none⟩))) {τ : TI} (ht : ti P f.type = some τ) (h0 : τ.size ≠ 0) (hd : dstOK N o.dst) (hk : K (fr.put o.dst (.pointer (some ⟨i, off + f.offset, none⟩))) H) : OpOK P N o fr H K :=
  opOK_same fun ρ w a hF => by
    obtain ⟨l, hl, he⟩ := (hF.ev hx).ptr_inv
    obtain ⟨ii, hu, hi, hsz, _, _, _⟩ := ti_inv ht
    refine ⟨.pointer (some ⟨l.blk, l.off + (off + f.offset), none⟩), _, ?_, .ptr _ _ _ hl, hd, hk⟩
    simp [execOp, ho, he, Instr.fieldAt, run_underlying' hs, hf, Instr.sureAddr, fieldPlace, sizeOf, typeInfo, hi, hsz, h0, add_zero_addr, Nat.add_assoc]

def partV (P : Program) (t : TypeId) (cs : List Value) (off : Nat) : Option Value :=
  match ti P t with
  | some τ => if aggT τ.desc then some (.agg ((cs.drop off).take τ.size).toArray) else cs[off]?
  | none => none

theorem run_partV {t : TypeId} {cs : List Value} {off : Nat} {v : Value} (h : partV P t cs off = some v) {ρ : Rho} {ds : Array Value} (hr : VRs ρ cs ds.toList) (w : World) :
    ∃ cv, (part t ds off).run P w = .ok cv w /\ VR ρ v cv := by
  unfold partV at h
  cases ht : ti P t with
  | none => simp [ht] at h
  | some τ =>
    obtain ⟨ii, hu, hi, hsz, _, _, _⟩ := ti_inv ht
    simp only [ht] at h
    have hla := run_isAgg hu w
    by_cases hag : aggT τ.desc = true
    · rw [if_pos hag] at h
      cases h
      refine ⟨.agg (ds.extract off (off + τ.size)), by simp [part, hla, hag, sizeOf, typeInfo, hi, hsz], VR.agg_of ?_⟩
      have e : (ds.extract off (off + τ.size)).toList = (ds.toList.drop off).take τ.size := by simp [List.extract_eq_take_drop]
      rw [e]
      refine ⟨by simp [hr.1], fun i u x hu hx => ?_⟩
      simp only [List.toList_toArray, List.getElem?_take, List.getElem?_drop] at hu hx
      split at hu
      · rename_i hlt; rw [if_pos hlt] at hx; exact hr.2 _ u x hu hx
      · cases hu
    · rw [if_neg hag] at h
      have hlt : off < ds.toList.length := by rw [<- hr.1]; exact (List.getElem?_eq_some_iff.1 h).1
      have hd : ds.toList[off]? = some ds.toList[off] := List.getElem?_eq_getElem hlt
      refine ⟨ds.toList[off], ?_, hr.2 off v _ h hd⟩
      have : ds[off]? = some ds.toList[off] := by simpa using hd
      simp [part, hla, hag, this]

theorem ok_field {s : TypeId} {x : Operand} {k : Nat} (ho : o.op = .field s x k) {fs : Array Field} (hs : P.underlying s = some (.struct fs)) {f : Field} (hf : fs[k]? = some f) {xs : Array Value} (hx : ev fr x = some (.agg xs))
    {v : Value} (hv : partV P f.type xs.toList f.offset = some v) (hd : dstOK N o.dst) (hk : K (fr.put o.dst v) H) : OpOK P N o fr H K :=
  opOK_same fun ρ w a hF => by
    obtain ⟨ys, he, hr⟩ := (hF.ev hx).agg_inv
    obtain ⟨cv, hrun, hvr⟩ := run_partV (P := P) hv hr w
    exact ⟨cv, v, by simp [execOp, ho, he, Instr.field, run_underlying' hs, hf, asAgg, hrun], hvr, hd, hk⟩

theorem ok_indexAddrArr {t : TypeId} {x y : Operand} (ho : o.op = .indexAddr t x y) {n : Nat} {te : TypeId} (ht : P.underlying t = some (.array n te)) {τ : TI} (hte : ti P te = some τ) {i off : Nat} (hx : ev fr x = some (.pointer (some ⟨i, off, none⟩)))
    {k : IntKind} {j : Int} (hy : ev fr y = some (.int k j)) (h0 : 0 <= j) (h1 : j < n) (hd : dstOK N o.dst) (hk : K (fr.put o.dst (.pointer (some ⟨i, off + j.toNat * τ.size, none⟩))) H) : OpOK P N o fr H K :=
  opOK_same fun ρ w a hF => by
    obtain ⟨l, hl, he⟩ := (hF.ev hx).ptr_inv
    obtain ⟨ii, hu, hi, hsz, _, _, _⟩ := ti_inv hte
    refine ⟨.pointer (some ⟨l.blk, l.off + (off + j.toNat * τ.size), none⟩), _, ?_, .ptr _ _ _ hl, hd, hk⟩
    simp [execOp, ho, he, (hF.ev hy).int_inv, Instr.indexAt, asIntOf, run_underlying' ht, Instr.sureAddr, h0, h1, sizeOf, typeInfo, hi, hsz, add_zero_addr, Nat.add_assoc]

theorem ok_indexAddrSl {t : TypeId} {x y : Operand} (ho : o.op = .indexAddr t x y) {te : TypeId} (ht : P.underlying t = some (.slice te)) {τ : TI} (hte : ti P te = some τ) {i off n c : Nat} {sp : Option Nat} (hx : ev fr x = some (.slice (some ⟨i, off, sp⟩) n c))
    {k : IntKind} {j : Int} (hy : ev fr y = some (.int k j)) (h0 : 0 <= j) (h1 : j < n) (hd : dstOK N o.dst) (hk : K (fr.put o.dst (.pointer (some ⟨i, off + j.toNat * τ.size, none⟩))) H) : OpOK P N o fr H K :=
  opOK_same fun ρ w a hF => by
    obtain ⟨ii, hu, hi, hsz, _, _, _⟩ := ti_inv hte
    have hn : n ≠ 0 := by omega
    have hv := hF.ev hx
    have hex : ∃ (l : Loc) (c' : Nat), ρ[i]? = some l /\ a.eval x = .slice (some ⟨l.blk, l.off + off, none⟩) n c' := by
      generalize a.eval x = cx at hv
      cases hv with
      | sliceEx _ _ _ l hl => exact ⟨l, n, hl, rfl⟩
      | sliceUnk _ _ e _ o' c' l hl h2 h3 h4 =>
        have : o' = l.off + off := by rcases h2 with h2 | h2; exact h2; exact absurd h2.1 hn
        subst this
        exact ⟨l, c', hl, rfl⟩
      | sliceZero => exact absurd rfl hn
    obtain ⟨l, c', hl, he⟩ := hex
    refine ⟨.pointer (some ⟨l.blk, l.off + (off + j.toNat * τ.size), none⟩), _, ?_, .ptr _ _ _ hl, hd, hk⟩
    simp [execOp, ho, he, (hF.ev hy).int_inv, Instr.indexAt, asIntOf, run_underlying' ht, h0, h1, sizeOf, typeInfo, hi, hsz, add_zero_addr, Nat.add_assoc]

theorem ok_indexArr {t : TypeId} {x y : Operand} (ho : o.op = .index t x y) {n : Nat} {te : TypeId} (ht : P.underlying t = some (.array n te)) {τ : TI} (hte : ti P te = some τ) {xs : Array Value} (hx : ev fr x = some (.agg xs))
    {k : IntKind} {j : Int} (hy : ev fr y = some (.int k j)) (h0 : 0 <= j) (h1 : j < n) {v : Value} (hv : partV P te xs.toList (j.toNat * τ.size) = some v) (hd : dstOK N o.dst) (hk : K (fr.put o.dst v) H) : OpOK P N o fr H K :=
  opOK_same fun ρ w a hF => by
    obtain ⟨ys, he, hr⟩ := (hF.ev hx).agg_inv
    obtain ⟨ii, hu, hi, hsz, _, _, _⟩ := ti_inv hte
    obtain ⟨cv, hrun, hvr⟩ := run_partV (P := P) hv hr w
    exact ⟨cv, v, by simp [execOp, ho, he, (hF.ev hy).int_inv, Instr.index, asIntOf, run_underlying' ht, h0, h1, sizeOf, typeInfo, hi, hsz, hrun], hvr, hd, hk⟩

theorem ok_indexStr {t : TypeId} {x y : Operand} (ho : o.op = .index t x y) (ht : P.underlying t = some .string) {s : ByteArray} (hx : ev fr x = some (.string s))
    {k : IntKind} {j : Int} (hy : ev fr y = some (.int k j)) (h0 : 0 <= j) {b : UInt8} (hv : s[j.toNat]? = some b) (hd : dstOK N o.dst) (hk : K (fr.put o.dst (.int .u8 b.toNat)) H) : OpOK P N o fr H K :=
  opOK_same fun ρ w a hF =>
    ⟨_, _, by simp [execOp, ho, (hF.ev hx).string_inv, (hF.ev hy).int_inv, Instr.index, asIntOf, run_underlying' ht, h0, hv], .int _ _, hd, hk⟩

def sliceV (H : Heap) (e : Nat) (v : Value) (lo : Nat) (hi : Nat) : Option Value :=
  match v with
  | .slice none 0 0 => if lo = 0 /\ hi = 0 then some (.slice none 0 0) else none
  | .slice (some ⟨i, o, some e'⟩) n _ => if e' = e /\ lo <= hi /\ hi <= n then some (.slice (some ⟨i, o + lo * e, some e⟩) (hi - lo) (hi - lo)) else none
  | .slice (some ⟨i, o, none⟩) n _ =>
    if lo <= hi /\ hi = n then (if lo = n then some (.slice (some ⟨i, o, none⟩) 0 0) else some (.slice (some ⟨i, o + lo * e, none⟩) (n - lo) (n - lo)))
    else if lo <= hi /\ hi < n /\ 0 < e /\ (cellsAt H i o (n * e)).isSome = true then some (.slice (some ⟨i, o + lo * e, some e⟩) (hi - lo) (hi - lo)) else none
  | _ => none

def boundV (fr : Fr) (d : Nat) : Option Operand -> Option Int
  | none => some d
  | some x => match ev fr x with
    | some (.int _ j) => some j
    | _ => none

def lenV : Value -> Nat
  | .slice _ n _ => n
  | _ => 0

theorem R.sliceV {B : Nat} {w0 : World} {ρ : Rho} {w : World} (hR : R B w0 ρ H w) {e : Nat} {v v' : Value} {lo hi : Nat} (h : Ab.sliceV H e v lo hi = some v') {cv : Value} (hv : VR ρ v cv) :
    ∃ a n c, cv = .slice a n c /\ lo <= hi /\ hi <= n /\ n <= c /\ n = lenV v /\ VR ρ v' (.slice (if c = lo then a else a.map (·.add (lo * e))) (hi - lo) (c - lo)) := by
  cases hv with
  | sliceNil =>
    simp only [Ab.sliceV] at h
    split at h
    · rename_i hc
      obtain ⟨rfl, rfl⟩ := hc
      cases h
      exact ⟨none, 0, 0, rfl, by omega, by omega, by omega, rfl, by simpa using VR.sliceNil⟩
    · cases h
  | sliceUnk i off e' n o' c l hl h1 h2 h3 =>
    simp only [Ab.sliceV] at h
    split at h
    · rename_i hc
      obtain ⟨rfl, hc1, hc2⟩ := hc
      cases h
      refine ⟨_, n, c, rfl, hc1, hc2, h2, rfl, ?_⟩
      by_cases hcl : c = lo
      · rw [if_pos hcl]
        refine .sliceUnk _ _ _ _ _ _ l hl (.inr ⟨by omega, by omega⟩) (by omega) ?_
        have : (c - lo) * e' = 0 := by rw [hcl]; simp
        rw [this]
        have : 0 <= c * e' := Nat.zero_le _
        omega
      · rw [if_neg hcl]
        simp only [Option.map_some, add_zero_addr]
        refine .sliceUnk _ _ _ _ _ _ l hl (.inl ?_) (by omega) ?_
        · rcases h1 with h1 | h1
          · omega
          · omega
        · have : (c - lo) * e' = c * e' - lo * e' := Nat.sub_mul _ _ _
          have : lo * e' <= c * e' := Nat.mul_le_mul_right _ (by omega)
          omega
    · cases h
  | sliceZero i off e' a =>
    simp only [Ab.sliceV] at h
    split at h
    · rename_i hc
      obtain ⟨rfl, hc1, hc2⟩ := hc
      cases h
      obtain rfl : hi = 0 := by omega
      obtain rfl : lo = 0 := by omega
      exact ⟨a, 0, 0, rfl, by omega, by omega, by omega, rfl, by simpa using VR.sliceZero _ _ _ _⟩
    · cases h
  | sliceEx i off n l hl =>
    simp only [Ab.sliceV] at h
    split at h
    · rename_i hc
      obtain ⟨hc1, rfl⟩ := hc
      refine ⟨_, hi, hi, rfl, hc1, Nat.le_refl _, Nat.le_refl _, rfl, ?_⟩
      by_cases hcl : lo = hi
      · rw [if_pos hcl] at h
        cases h
        subst hcl
        simpa using VR.sliceEx _ _ 0 l hl
      · rw [if_neg hcl] at h
        cases h
        rw [if_neg (fun e => hcl e.symm)]
        simp only [Option.map_some, add_zero_addr, Nat.add_assoc]
        exact .sliceEx _ _ _ l hl
    · split at h
      · rename_i hc
        obtain ⟨hc1, hc2, hc3, hc4⟩ := hc
        cases h
        refine ⟨_, n, n, rfl, hc1, by omega, Nat.le_refl _, rfl, ?_⟩
        rw [if_neg (by omega)]
        simp only [Option.map_some, add_zero_addr]
        refine .sliceUnk _ _ _ _ _ _ l hl (.inl (by omega)) (by omega) ?_
        obtain ⟨cs, hcs⟩ := Option.isSome_iff_exists.1 hc4
        obtain ⟨b, hb, hbl, hn, _⟩ := cellsAt_inv hcs
        obtain ⟨cur, el, fz, hg, hsz, hcell, _⟩ := hR.blk i b l hb hl hbl
        have hpos : 0 < n * e := Nat.mul_pos (by omega) hc3
        obtain ⟨_, cv, hcv, _⟩ := hcell (off + n * e - 1) _ (List.getElem?_eq_getElem (by omega))
        have := (Array.getElem?_eq_some_iff.1 hcv).1
        have : (n - lo) * e = n * e - lo * e := Nat.sub_mul _ _ _
        have : lo * e <= n * e := Nat.mul_le_mul_right _ (by omega)
        omega
      · cases h
  | _ => simp [Ab.sliceV] at h

theorem boundV_some {fr : Fr} {d : Nat} {x : Operand} {j : Int} (h : boundV fr d (some x) = some j) : ∃ k, ev fr x = some (.int k j) := by
  simp only [boundV] at h
  split at h
  · rename_i k n hx; cases h; exact ⟨k, hx⟩
  · cases h

theorem run_sliceBound (w : World) {k : IntKind} {j : Int} {y : Nat} {c : BoundsCode} (h0 : 0 <= j) (h1 : j <= y) : (Instr.sliceBound (.int k j) y c).run P w = .ok j.toNat w := by
  simp [Instr.sliceBound, asIntOf, h0, h1]

theorem ok_slice {t : TypeId} {x : Operand} {lo hi : Option Operand} (ho : o.op = .slice t x lo hi none) {te : TypeId} (ht : P.underlying t = some (.slice te)) {τ : TI} (hte : ti P te = some τ) {v : Value} (hx : ev fr x = some v)
    {l h : Int} (hl : boundV fr 0 lo = some l) (hh : boundV fr (lenV v) hi = some h) (h0 : 0 <= l) (h1 : 0 <= h) {v' : Value} (hv : sliceV H τ.size v l.toNat h.toNat = some v') (hd : dstOK N o.dst) (hk : K (fr.put o.dst v') H) : OpOK P N o fr H K :=
  opOK_value fun B w0 ρ w a hR hF => by
    obtain ⟨ii, hu, hi', hsz, _, _, _⟩ := ti_inv hte
    obtain ⟨ad, n, c, he, hlh, hhn, hnc, hlen, hvr⟩ := hR.sliceV hv (hF.ev hx)
    refine ⟨_, w, ρ, H, v', ?_, List.prefix_refl _, hR, hvr, hd, hk⟩
    have e1 : ∀ y : Nat, h <= y -> h.toNat <= y := fun y hy => by omega
    cases lo with
    | none =>
      simp only [boundV, Option.some.injEq] at hl
      subst hl
      cases hi with
      | none =>
        simp only [boundV, Option.some.injEq] at hh
        subst hh
        subst hlen
        simp [execOp, ho, he, Instr.sliceAt, run_underlying' ht, Instr.slice, Instr.sliceBounds, sizeOf, typeInfo, hi', hsz]
      | some y =>
        obtain ⟨k, hy⟩ := boundV_some hh
        have hb : ∀ cd, (Instr.sliceBound (.int k h) c cd).run P w = .ok h.toNat w := fun cd => run_sliceBound w h1 (by omega)
        simp [execOp, ho, he, (hF.ev hy).int_inv, Instr.sliceAt, run_underlying' ht, Instr.slice, Instr.sliceBounds, hb, sizeOf, typeInfo, hi', hsz]
    | some z =>
      obtain ⟨k', hz⟩ := boundV_some hl
      cases hi with
      | none =>
        simp only [boundV, Option.some.injEq] at hh
        subst hh
        subst hlen
        have hb' : ∀ cd, (Instr.sliceBound (.int k' l) (lenV v) cd).run P w = .ok l.toNat w := fun cd => run_sliceBound w h0 (by simp at hlh; omega)
        simp [execOp, ho, he, (hF.ev hz).int_inv, Instr.sliceAt, run_underlying' ht, Instr.slice, Instr.sliceBounds, hb', sizeOf, typeInfo, hi', hsz]
      | some y =>
        obtain ⟨k, hy⟩ := boundV_some hh
        have hb : ∀ cd, (Instr.sliceBound (.int k h) c cd).run P w = .ok h.toNat w := fun cd => run_sliceBound w h1 (by omega)
        have hb' : ∀ cd, (Instr.sliceBound (.int k' l) h.toNat cd).run P w = .ok l.toNat w := fun cd => run_sliceBound w h0 (by omega)
        simp [execOp, ho, he, (hF.ev hy).int_inv, (hF.ev hz).int_inv, Instr.sliceAt, run_underlying' ht, Instr.slice, Instr.sliceBounds, hb, hb', sizeOf, typeInfo, hi', hsz]

theorem ok_sliceStr {t : TypeId} {x : Operand} {lo hi : Option Operand} (ho : o.op = .slice t x lo hi none) (ht : P.underlying t = some .string) {s : ByteArray} (hx : ev fr x = some (.string s))
    {l h : Int} (hl : boundV fr 0 lo = some l) (hh : boundV fr s.size hi = some h) (h0 : 0 <= l) (h1 : l <= h) (h2 : h <= s.size) (hd : dstOK N o.dst) (hk : K (fr.put o.dst (.string (s.extract l.toNat h.toNat))) H) : OpOK P N o fr H K :=
  opOK_same fun ρ w a hF => by
    refine ⟨.string (s.extract l.toNat h.toNat), _, ?_, .string _, hd, hk⟩
    have he := (hF.ev hx).string_inv
    cases lo with
    | none =>
      simp only [boundV, Option.some.injEq] at hl
      subst hl
      cases hi with
      | none =>
        simp only [boundV, Option.some.injEq] at hh
        subst hh
        simp [execOp, ho, he, Instr.sliceAt, run_underlying' ht, Instr.slice, Instr.sliceBounds]
      | some y =>
        obtain ⟨k, hy⟩ := boundV_some hh
        have hb : ∀ cd, (Instr.sliceBound (.int k h) s.size cd).run P w = .ok h.toNat w := fun cd => run_sliceBound w (by omega) (by omega)
        simp [execOp, ho, he, (hF.ev hy).int_inv, Instr.sliceAt, run_underlying' ht, Instr.slice, Instr.sliceBounds, hb]
    | some z =>
      obtain ⟨k', hz⟩ := boundV_some hl
      cases hi with
      | none =>
        simp only [boundV, Option.some.injEq] at hh
        subst hh
        have hb' : ∀ cd, (Instr.sliceBound (.int k' l) s.size cd).run P w = .ok l.toNat w := fun cd => run_sliceBound w h0 (by omega)
        simp [execOp, ho, he, (hF.ev hz).int_inv, Instr.sliceAt, run_underlying' ht, Instr.slice, Instr.sliceBounds, hb']
      | some y =>
        obtain ⟨k, hy⟩ := boundV_some hh
        have hb : ∀ cd, (Instr.sliceBound (.int k h) s.size cd).run P w = .ok h.toNat w := fun cd => run_sliceBound w (by omega) (by omega)
        have hb' : ∀ cd, (Instr.sliceBound (.int k' l) h.toNat cd).run P w = .ok l.toNat w := fun cd => run_sliceBound w h0 (by omega)
        simp [execOp, ho, he, (hF.ev hy).int_inv, (hF.ev hz).int_inv, Instr.sliceAt, run_underlying' ht, Instr.slice, Instr.sliceBounds, hb, hb']

end
end Go.Ab
end
