/- From the abstract contract of a law to its row: how arguments are opened, and the row's frame. No statement of the seat is proved here; it holds for every program. -/
import Derived.Test.YtkgjdmbmdnmilaaAbUp
import Derived.ProofKit
import Derived.OpenShut
import Derived.ChangeOld
import Derived.Below
set_option linter.all false
namespace Go.Ab
open Go.ChangeShapes Go.WideShapes Go.ChangeAt Go.RowKit

theorem addr_add_add (a : Addr) (m n : Nat) : (a.add m).add n = a.add (m + n) := by
  unfold Addr.add
  by_cases hm : m = 0
  · subst hm; simp
  · by_cases hn : n = 0
    · subst hn; simp
    · simp [hm, hn, Nat.add_assoc]

/-! The head of a program's text: its words, the first ones alone. -/

theorem wordsSigns_cons (c : Char) (r : List Char) (h : c ≠ Char.ofNat 32) {w : List Char} {ws : List (List Char)} (hr : wordsSigns r = w :: ws) : wordsSigns (c :: r) = (c :: w) :: ws := by
  rw [wordsSigns]
  · rw [hr]
  · intro e; exact h e

theorem wordsSigns_space (r : List Char) : wordsSigns (Char.ofNat 32 :: r) = [] :: wordsSigns r := by
  rfl

theorem wordsSigns_word : ∀ (w r : List Char), w.all (fun c => c != Char.ofNat 32) = true → wordsSigns (w ++ Char.ofNat 32 :: r) = w :: wordsSigns r
  | [], r, _ => wordsSigns_space r
  | c :: w, r, h => by
    simp only [List.all_cons, Bool.and_eq_true, bne_iff_ne, ne_eq] at h
    exact wordsSigns_cons c _ h.1 (wordsSigns_word w r (by simpa using h.2))

theorem head_words {s : String} (h a b c d : String) (e : s = h ++ (" " ++ (a ++ (" " ++ (b ++ (" " ++ (c ++ (" " ++ d)))))))) (h1 : h.toList.all (fun c => c != Char.ofNat 32) = true) (h2 : a.toList.all (fun c => c != Char.ofNat 32) = true) (h3 : b.toList.all (fun c => c != Char.ofNat 32) = true) (h4 : c.toList.all (fun c => c != Char.ofNat 32) = true) :
    wordsSigns s.toList = h.toList :: a.toList :: b.toList :: c.toList :: wordsSigns d.toList := by
  subst e
  have sp : " ".toList = [Char.ofNat 32] := by rfl
  simp only [String.toList_append, sp, List.singleton_append]
  rw [wordsSigns_word _ _ h1, wordsSigns_word _ _ h2, wordsSigns_word _ _ h3, wordsSigns_word _ _ h4]

theorem cut_words {P : Program} {h a b c d : String} (e : P.initOrder = h ++ (" " ++ (a ++ (" " ++ (b ++ (" " ++ (c ++ (" " ++ d)))))))) (h1 : h.toList.all (fun c => c != Char.ofNat 32) = true) (h2 : a.toList.all (fun c => c != Char.ofNat 32) = true) (h3 : b.toList.all (fun c => c != Char.ofNat 32) = true) (h4 : c.toList.all (fun c => c != Char.ofNat 32) = true)
    (hh : (h.toList == "harness".toList || h.toList == "ownmain".toList) = true) (ha : isSumSigns a.toList = true) : behindMainWord (wordsSigns P.initOrder.toList) = b.toList :: c.toList :: wordsSigns d.toList := by
  rw [head_words h a b c d e h1 h2 h3 h4]
  simp only [behindMainWord]
  rw [hh, ha]; rfl

theorem make_of {P : Program} {b : String} {r : List (List Char)} (h : behindMainWord (wordsSigns P.initOrder.toList) = b.toList :: r) (h0 : (b.toList == "gc".toList || b.toList == "spec".toList) = false) (h1 : (b.toList == "cut".toList) = true) : P.make = some .cut := by
  unfold Program.make
  rw [h]
  simp only [h0, h1, Bool.true_or]
  rfl

theorem strip_cut {r : List (List Char)} : stripLifts liftWords ("cut".toList :: r) = ([], "cut".toList :: r) := by
  have key : ∀ (os : List String), os.all (fun o => !("cut".toList == o.toList)) = true → stripLifts os ("cut".toList :: r) = ([], "cut".toList :: r) := by
    intro os
    induction os with
    | nil => intro _; rfl
    | cons o os ih =>
      intro h
      simp only [List.all_cons, Bool.and_eq_true, Bool.not_eq_true'] at h
      rw [stripLifts, if_neg (by rw [h.1]; simp)]
      exact ih (by simpa using h.2)
  exact key liftWords (by decide)

theorem headLifts_of {P : Program} {r : List (List Char)} (h : behindMainWord (wordsSigns P.initOrder.toList) = "cut".toList :: r) : P.headLifts = [] := by
  unfold Program.headLifts
  rw [h, strip_cut]
  simp

theorem liftsFinal_of {P : Program} {r : List (List Char)} (h : behindMainWord (wordsSigns P.initOrder.toList) = "cut".toList :: r) : P.liftsFinal = false := by
  unfold Program.liftsFinal
  rw [headLifts_of h, h]
  have : ("cut".toList == "carried".toList) = false := by decide
  simp [this]

theorem mayEnter_of {P : Program} {r : List (List Char)} (h : behindMainWord (wordsSigns P.initOrder.toList) = "cut".toList :: r) (h1 : P.laysLater = false) (h2 : P.bearsReflect = false) (h3 : P.doorFits [] = true) : P.mayEnter = true := by
  unfold Program.mayEnter
  rw [h]
  simp only [strip_cut, h1, h2, h3]
  simp

/-- No block is the call's own. -/
def noOwn (H : Heap) : Prop := ∀ b ∈ H, b.own = true → b.live = false

section
variable {D : Type} {enc : TypeId × Value → D} {P : Program} {W : World}

/-- Cells that read as a type, opened. -/
def OpenC (enc : TypeId × Value → D) (P : Program) (W : World) (t : TypeId) (Pred : Heap → List Value → Prop) : Prop :=
  ∀ (fuel : Nat) (cs : List Value) (x : DataW D × List MemPlace), DataW.trod enc P W 0 (fun _ => true) true fuel t cs = some x → ∀ (ρ : Rho) (H : Heap), R W.heap.size W ρ H W → noOwn H →
    ∃ ρ' H' acs, ρ <+: ρ' ∧ H <+: H' ∧ R W.heap.size W ρ' H' W ∧ noOwn H' ∧ VRs ρ' acs cs ∧ (∀ v ∈ acs, v.oneCell' = true) ∧ Pred H' acs

def Stable (Pred : Heap → List Value → Prop) : Prop := ∀ (H H' : Heap) (vs : List Value), H <+: H' → Pred H vs → Pred H' vs

/-- One integer. -/
def cInt (k : IntKind) (_ : Heap) (vs : List Value) : Prop := ∃ n, vs = [.int k n] ∧ (Lit.int k n).wf = true
def cStr (_ : Heap) (vs : List Value) : Prop := ∃ s : ByteArray, vs = [.string s] ∧ s.size ≤ maxLen

theorem cInt_stable (k : IntKind) : Stable (cInt k) := fun _ _ _ _ h => h
theorem cStr_stable : Stable cStr := fun _ _ _ _ h => h

theorem open_cInt {t : TypeId} {k : IntKind} (ht : P.underlying t = some (.int k)) : OpenC enc P W t (cInt k) := by
  intro fuel cs x h ρ H hR hn
  obtain ⟨n, rfl, _, hw⟩ := DataW.trod_int ht h
  exact ⟨ρ, H, [.int k n], List.prefix_refl _, List.prefix_refl _, hR, hn, VRs.cons (.int _ _) (VRs.nil _), by simp [Value.oneCell'], n, rfl, hw⟩

theorem open_cStr {t : TypeId} (ht : P.underlying t = some .string) : OpenC enc P W t cStr := by
  intro fuel cs x h ρ H hR hn
  obtain ⟨n, rfl, _, hw⟩ := DataW.trod_string ht h
  exact ⟨ρ, H, [.string n], List.prefix_refl _, List.prefix_refl _, hR, hn, VRs.cons (.string _) (VRs.nil _), by simp [Value.oneCell'], n, rfl, hw⟩

/-- Some of one kind, one behind the other. -/
def cMany (Pred : Heap → List Value → Prop) (n : Nat) (H : Heap) (vs : List Value) : Prop := ∃ es : List (List Value), es.length = n ∧ vs = es.flatten ∧ ∀ e ∈ es, Pred H e

theorem cMany_stable {Pred : Heap → List Value → Prop} (h : Stable Pred) (n : Nat) : Stable (cMany Pred n) :=
  fun H H' vs hp ⟨es, h1, h2, h3⟩ => ⟨es, h1, h2, fun e he => h H H' e hp (h3 e he)⟩

/-- Many of a type: each is handed its own cells. -/
theorem open_many {te : TypeId} {Pred : Heap → List Value → Prop} (hs : Stable Pred) (ho : OpenC enc P W te Pred) : ∀ (css : List (List Value)) (ρ : Rho) (H : Heap), (∀ cs ∈ css, ∃ fuel x, DataW.trod enc P W 0 (fun _ => true) true fuel te cs = some x) → R W.heap.size W ρ H W → noOwn H →
    ∃ ρ' H' acs, ρ <+: ρ' ∧ H <+: H' ∧ R W.heap.size W ρ' H' W ∧ noOwn H' ∧ VRs ρ' acs css.flatten ∧ (∀ v ∈ acs, v.oneCell' = true) ∧ ∃ es : List (List Value), es.length = css.length ∧ acs = es.flatten ∧ (∀ e ∈ es, Pred H' e) ∧ ∀ (i : Nat) (e cs : List Value), es[i]? = some e → css[i]? = some cs → e.length = cs.length
  | [], ρ, H, _, hR, hn => ⟨ρ, H, [], List.prefix_refl _, List.prefix_refl _, hR, hn, VRs.nil _, by simp, [], rfl, rfl, by simp, by simp⟩
  | cs :: css, ρ, H, hc, hR, hn => by
    obtain ⟨fuel, x, hx⟩ := hc cs (by simp)
    obtain ⟨ρ1, H1, acs1, a1, a2, a3, a4, a5, a6, a7⟩ := ho fuel cs x hx ρ H hR hn
    obtain ⟨ρ2, H2, acs2, b1, b2, b3, b4, b5, b6, es, e1, e2, e3, e4⟩ := open_many hs ho css ρ1 H1 (fun c hc' => hc c (by simp [hc'])) a3 a4
    refine ⟨ρ2, H2, acs1 ++ acs2, a1.trans b1, a2.trans b2, b3, b4, by simpa using (a5.mono b1).append b5, ?_, acs1 :: es, by simp [e1], by simp [e2], ?_, ?_⟩
    · intro v hv
      rcases List.mem_append.1 hv with hv | hv
      · exact a6 v hv
      · exact b6 v hv
    · intro e he
      rcases List.mem_cons.1 he with rfl | he
      · exact hs H1 H2 _ b2 a7
      · exact e3 e he
    · intro i e c h1 h2
      cases i with
      | zero => simp at h1 h2; subst h1; subst h2; exact a5.1
      | succ i => exact e4 i e c (by simpa using h1) (by simpa using h2)

/-- Rows of equal length, cut out of a list. -/
def chunks (c : Nat) : Nat → List Value → List (List Value)
  | 0, _ => []
  | n + 1, cs => cs.take c :: chunks c n (cs.drop c)

theorem chunks_length (c : Nat) : ∀ n cs, (chunks c n cs).length = n
  | 0, _ => rfl
  | n + 1, cs => by simp [chunks, chunks_length c n]
theorem chunks_flatten (c : Nat) : ∀ n cs, (chunks c n cs).flatten = cs.take (n * c)
  | 0, _ => by simp [chunks]
  | n + 1, cs => by
    simp only [chunks, List.flatten_cons, chunks_flatten c n]
    rw [Nat.add_mul, Nat.one_mul, Nat.add_comm, List.take_add]
theorem chunks_get (c : Nat) : ∀ n cs i, i < n → (chunks c n cs)[i]? = some ((cs.drop (i * c)).take c)
  | 0, _, i, h => by omega
  | n + 1, cs, 0, _ => by simp [chunks]
  | n + 1, cs, i + 1, h => by
    simp only [chunks, List.getElem?_cons_succ]
    rw [chunks_get c n _ i (by omega), List.drop_drop]
    congr 3
    rw [Nat.add_mul]; omega

theorem open_cArr {t te : TypeId} {n c : Nat} {Pred : Heap → List Value → Prop} (ht : P.underlying t = some (.array n te)) (hte : P.cellsOf te = c) (htc : P.cellsOf t = n * c) (hs : Stable Pred) (ho : OpenC enc P W te Pred) : OpenC enc P W t (cMany Pred n) := by
  intro fuel cs x h ρ H hR hn
  obtain ⟨xs, m, _, _, hlen, hxl, hel⟩ := DataW.trod_array ht h
  rw [hte] at hel
  rw [htc] at hlen
  obtain ⟨ρ', H', acs, h1, h2, h3, h4, h5, h6, es, e1, e2, e3, e4⟩ := open_many (enc := enc) (P := P) (te := te) hs ho (chunks c n cs) ρ H (fun d hd => by
    obtain ⟨i, hi, rfl⟩ := List.mem_iff_getElem.1 hd
    have hi' : i < n := by rw [chunks_length] at hi; exact hi
    have hg := chunks_get c n cs i hi'
    rw [List.getElem?_eq_getElem hi] at hg
    cases hg' : xs[i]? with
    | none => rw [List.getElem?_eq_none_iff] at hg'; omega
    | some y =>
      refine ⟨m, y, ?_⟩
      rw [← hg', ← hel i hi']
      simp only [Option.some.injEq] at hg
      rw [hg]) hR hn
  refine ⟨ρ', H', acs, h1, h2, h3, h4, ?_, h6, es, by rw [e1, chunks_length], e2, e3⟩
  rw [chunks_flatten, ← hlen, List.take_length] at h5
  exact h5

/-- A slice: its block holds the elements' cells. -/
def cSl (c : Nat) (Pred : Heap → List Value → Prop) (H : Heap) (vs : List Value) : Prop :=
  ∃ (id : Nat) (es : List (List Value)), vs = [lv c id 0 es.length] ∧ (es = [] ∨ cellsAt H id 0 (es.length * c) = some es.flatten) ∧ (∀ e ∈ es, Pred H e ∧ e.length = c) ∧ es.length ≤ maxLen

theorem cellsAt_pre {H H' : Heap} (hp : H <+: H') {i o n : Nat} {cs : List Value} (h : cellsAt H i o n = some cs) : cellsAt H' i o n = some cs := by
  obtain ⟨b, hb, hl, hn, rfl⟩ := cellsAt_inv h
  refine cellsAt_of ?_ hl hn
  obtain ⟨t, rfl⟩ := hp
  rw [List.getElem?_append_left (List.getElem?_eq_some_iff.1 hb).1]; exact hb

theorem cSl_stable {c : Nat} {Pred : Heap → List Value → Prop} (h : Stable Pred) : Stable (cSl c Pred) :=
  fun H H' vs hp ⟨id, es, h1, h2, h3, h4⟩ => ⟨id, es, h1, h2.imp (fun h => h) (cellsAt_pre hp), fun e he => ⟨h H H' e hp (h3 e he).1, (h3 e he).2⟩, h4⟩

theorem open_cSl {t te : TypeId} {c : Nat} {Pred : Heap → List Value → Prop} (ht : P.underlying t = some (.slice te)) (hte : P.cellsOf te = c) (hc : 0 < c) (hs : Stable Pred) (ho : OpenC enc P W te Pred) : OpenC enc P W t (cSl c Pred) := by
  intro fuel cs x h ρ H hR hn
  rcases DataW.trod_slice ht h with ⟨rfl, _⟩ | ⟨a, len, cap, elems, rest, m, _, rfl, _, _, hlc, hcm, hel, hell, hsp, _⟩
  · exact ⟨ρ, H, [lv c 0 0 0], List.prefix_refl _, List.prefix_refl _, hR, hn, VRs.cons (.sliceZero _ _ _ _) (VRs.nil _), by simp [Value.oneCell'], 0, [], rfl, .inl rfl, by simp, by simp⟩
  · by_cases hcap : cap = 0
    · subst hcap
      obtain rfl : len = 0 := by omega
      exact ⟨ρ, H, [lv c 0 0 0], List.prefix_refl _, List.prefix_refl _, hR, hn, VRs.cons (.sliceZero _ _ _ _) (VRs.nil _), by simp [Value.oneCell'], 0, [], rfl, .inl rfl, by simp, by simp⟩
    · obtain ⟨hrl, hrest⟩ := hsp rfl
      rw [hte] at hell hrest
      -- every element up to the capacity has its cells
      have each : ∀ i, i < cap → ∃ ecs y, W.cells? 0 (a.add (i * c)) c = some ecs ∧ DataW.trod enc P W 0 (fun _ => true) true m te ecs = some y := by
        intro i hi
        have : ∃ y, (W.cells? 0 (a.add (i * c)) c).bind (DataW.trod enc P W 0 (fun _ => true) true m te) = some y := by
          by_cases hil : i < len
          · have := hell i hil
            rw [List.getElem?_eq_getElem (by omega)] at this
            exact ⟨_, this⟩
          · have := hrest (i - len) (by omega)
            rw [List.getElem?_eq_getElem (by omega)] at this
            rw [show len + (i - len) = i by omega] at this
            exact ⟨_, this⟩
        obtain ⟨y, hy⟩ := this
        obtain ⟨ecs, h1, h2⟩ := Option.bind_eq_some_iff.1 hy
        exact ⟨ecs, y, h1, h2⟩
      have cellAt : ∀ i j, i < cap → j < c → ∃ v, W.cell? (a.add (i * c + j)) = some v := by
        intro i j hi hj
        obtain ⟨ecs, y, h1, h2⟩ := each i hi
        obtain ⟨_, hl, hg⟩ := World.cells?_some h1
        have := hg j hj
        rw [List.getElem?_eq_getElem (by omega)] at this
        rw [addr_add_add] at this
        exact ⟨_, this⟩
      obtain ⟨v0, hv0⟩ := cellAt 0 0 (by omega) hc
      rw [Nat.zero_mul, Nat.zero_add, show a.add 0 = a by simp [Addr.add]] at hv0
      have hspot : a.spot = none := World.cell?_spot hv0
      obtain ⟨g, o, sp⟩ := a
      simp only at hspot
      subst hspot
      obtain ⟨arr, elem, fz, hg⟩ : ∃ arr elem fz, W.heap[g]? = some (.cells arr elem fz) := by
        simp only [World.cell?] at hv0
        split at hv0
        · rename_i h1; exact ⟨_, _, _, h1⟩
        · cases hv0
      have arrAt : ∀ i j, i < cap → j < c → ∃ v, arr[o + (i * c + j)]? = some v ∧ W.cell? ⟨g, o + (i * c + j), none⟩ = some v := by
        intro i j hi hj
        obtain ⟨v, hv⟩ := cellAt i j hi hj
        rw [add_zero_addr] at hv
        refine ⟨v, ?_, hv⟩
        simpa [World.cell?, hg] using hv
      have hroom : o + cap * c ≤ arr.size := by
        obtain ⟨v, hv, _⟩ := arrAt (cap - 1) (c - 1) (by omega) (by omega)
        have := (Array.getElem?_eq_some_iff.1 hv).1
        have e : (cap - 1) * c = cap * c - c := by rw [Nat.sub_mul]; simp
        have : c ≤ cap * c := Nat.le_mul_of_pos_left c (by omega)
        omega
      let css : List (List Value) := (List.range len).map fun i => ((W.cells? 0 (Addr.add ⟨g, o, none⟩ (i * c)) c).getD [])
      have hcss : ∀ i, i < len → ∃ ecs y, css[i]? = some ecs ∧ ecs.length = c ∧ (∀ j, j < c → ecs[j]? = W.cell? ⟨g, o + (i * c + j), none⟩) ∧ DataW.trod enc P W 0 (fun _ => true) true m te ecs = some y := by
        intro i hi
        obtain ⟨ecs, y, h1, h2⟩ := each i (by omega)
        obtain ⟨_, hl, hgc⟩ := World.cells?_some h1
        refine ⟨ecs, y, by simp [css, hi, h1], hl, fun j hj => ?_, h2⟩
        rw [← hgc j hj, addr_add_add, add_zero_addr]
      have hcl : css.length = len := by simp [css]
      obtain ⟨ρ1, H1, acs, h1, h2, h3, h4, h5, h6, es, e1, e2, e3, e4⟩ := open_many (enc := enc) (P := P) (te := te) hs ho css ρ H (fun d hd => by
        obtain ⟨i, hi, rfl⟩ := List.mem_iff_getElem.1 hd
        obtain ⟨ecs, y, h1, _, _, h2⟩ := hcss i (by omega)
        rw [List.getElem?_eq_getElem hi] at h1
        simp only [Option.some.injEq] at h1
        rw [h1]
        exact ⟨m, y, h2⟩) hR hn
      have hlens : ∀ e ∈ es, e.length = c := by
        intro e he
        obtain ⟨i, hi, rfl⟩ := List.mem_iff_getElem.1 he
        obtain ⟨ecs, y, g1, g2, _⟩ := hcss i (by omega)
        rw [e4 i _ ecs (List.getElem?_eq_getElem hi) g1, g2]
      -- the concrete cells, one behind the other
      have hflat : ∀ (l : List (List Value)), (∀ e ∈ l, e.length = c) → ∀ (k : Nat) (v : Value), l.flatten[k]? = some v → ∃ i j e, k = i * c + j ∧ j < c ∧ l[i]? = some e ∧ e[j]? = some v := by
        intro l
        induction l with
        | nil => intro _ k v hk; simp at hk
        | cons e l ih =>
          intro hl k v hk
          have hec := hl e (by simp)
          by_cases hkc : k < c
          · refine ⟨0, k, e, by omega, hkc, rfl, ?_⟩
            rw [List.flatten_cons, List.getElem?_append_left (by omega)] at hk; exact hk
          · rw [List.flatten_cons, List.getElem?_append_right (by omega)] at hk
            obtain ⟨i, j, e', hk', hj, hi, hv⟩ := ih (fun e he => hl e (by simp [he])) _ _ hk
            exact ⟨i + 1, j, e', by rw [Nat.add_mul]; omega, hj, by simpa using hi, hv⟩
      have hcssc : ∀ e ∈ css, e.length = c := by
        intro e he
        obtain ⟨i, hi, rfl⟩ := List.mem_iff_getElem.1 he
        obtain ⟨ecs, y, g1, g2, _⟩ := hcss i (by omega)
        rw [List.getElem?_eq_getElem hi] at g1
        simp only [Option.some.injEq] at g1
        rw [g1]; exact g2
      have hold : ∀ (k : Nat) (v : Value), acs[k]? = some v → v.oneCell' = true ∧ ∃ cv, arr[o + k]? = some cv ∧ VR ρ1 v cv := by
        intro k v hk
        refine ⟨h6 v (List.mem_of_getElem? hk), ?_⟩
        have hlt : k < css.flatten.length := by rw [← h5.1]; exact (List.getElem?_eq_some_iff.1 hk).1
        have hcv : css.flatten[k]? = some css.flatten[k] := List.getElem?_eq_getElem hlt
        refine ⟨_, ?_, h5.2 k v _ hk hcv⟩
        obtain ⟨i, j, e, rfl, hj, hi, hv⟩ := hflat css hcssc k _ hcv
        have hil : i < len := by rw [← hcl]; exact (List.getElem?_eq_some_iff.1 hi).1
        obtain ⟨ecs, y, g1, g2, g3, _⟩ := hcss i hil
        rw [hi] at g1; cases g1
        obtain ⟨u, hu1, hu2⟩ := arrAt i j (by omega) hj
        rw [hu1, ← hu2, ← g3 j hj, hv]
      have hR2 := h3.addOld acs g o arr elem fz hg h4 hold
      have hfl : es.flatten.length = len * c := by
        have : ∀ l : List (List Value), (∀ e ∈ l, e.length = c) → l.flatten.length = l.length * c := by
          intro l
          induction l with
          | nil => simp
          | cons e l ih => intro hl; rw [List.flatten_cons, List.length_append, ih (fun e he => hl e (by simp [he])), hl e (by simp), List.length_cons, Nat.add_mul]; omega
        rw [this es hlens, e1, hcl]
      refine ⟨ρ1 ++ [⟨g, o, arr.size⟩], H1 ++ [⟨acs, true, false⟩], [lv c H1.length 0 len], h1.trans (List.prefix_append _ _), h2.trans (List.prefix_append _ _), hR2, ?_, ?_, by simp [Value.oneCell'], H1.length, es, by rw [e1, hcl], ?_, ?_, by rw [e1, hcl]; omega⟩
      · intro b hb hbo
        rcases List.mem_append.1 hb with hb | hb
        · exact h4 b hb hbo
        · simp at hb; subst hb; cases hbo
      · refine VRs.cons ?_ (VRs.nil _)
        refine .sliceUnk _ _ _ _ _ _ ⟨g, o, arr.size⟩ ?_ (.inl rfl) hlc (by simpa using hroom)
        rw [List.getElem?_append_right (by rw [h3.len]; exact Nat.le_refl _), h3.len]; simp
      · right
        rw [e1, hcl]
        have := cellsAt_of (H := H1 ++ [⟨acs, true, false⟩]) (i := H1.length) (o := 0) (n := len * c) (b := ⟨acs, true, false⟩) (by simp) rfl (by simp only [e2]; omega)
        rw [this]
        simp only [List.drop_zero]
        rw [← hfl, e2, List.take_length]
      · intro e he
        exact ⟨hs H1 _ e (List.prefix_append _ _) (e3 e he), hlens e he⟩

/-- A struct whose fields have one cell each. -/
def cFields : List (Heap → List Value → Prop) → Heap → List Value → Prop
  | [], _, vs => vs = []
  | p :: ps, H, vs => ∃ v us, vs = v :: us ∧ p H [v] ∧ cFields ps H us

theorem cFields_stable : ∀ (ps : List (Heap → List Value → Prop)), (∀ p ∈ ps, Stable p) → Stable (cFields ps)
  | [], _ => fun _ _ _ _ h => h
  | p :: ps, hs => fun H H' vs hp ⟨v, us, h1, h2, h3⟩ => ⟨v, us, h1, hs p (by simp) H H' _ hp h2, cFields_stable ps (fun q hq => hs q (by simp [hq])) H H' us hp h3⟩

/-- Fields and what is said of them. -/
def FieldsOpen (enc : TypeId × Value → D) (P : Program) (W : World) : List Field → Nat → List (Heap → List Value → Prop) → Prop
  | [], _, [] => True
  | f :: fs, k, p :: ps => f.offset = k ∧ P.cellsOf f.type = 1 ∧ Stable p ∧ OpenC enc P W f.type p ∧ FieldsOpen enc P W fs (k + 1) ps
  | _, _, _ => False

theorem FieldsOpen.stable : ∀ {fs : List Field} {k : Nat} {ps : List (Heap → List Value → Prop)}, FieldsOpen enc P W fs k ps → ∀ p ∈ ps, Stable p
  | [], _, [], _ => by simp
  | f :: fs, k, p :: ps, h => by
    intro q hq
    rcases List.mem_cons.1 hq with rfl | hq
    · exact h.2.2.1
    · exact FieldsOpen.stable h.2.2.2.2 q hq
  | [], _, _ :: _, h => h.elim
  | _ :: _, _, [], h => h.elim

theorem open_fields : ∀ (fs : List Field) (k : Nat) (ps : List (Heap → List Value → Prop)) (cs all : List Value) (ρ : Rho) (H : Heap), FieldsOpen enc P W fs k ps → all.drop k = cs → cs.length = fs.length →
    (∀ f ∈ fs, ∃ fuel x, DataW.trod enc P W 0 (fun _ => true) true fuel f.type ((all.drop f.offset).take (P.cellsOf f.type)) = some x) → R W.heap.size W ρ H W → noOwn H →
    ∃ ρ' H' acs, ρ <+: ρ' ∧ H <+: H' ∧ R W.heap.size W ρ' H' W ∧ noOwn H' ∧ VRs ρ' acs cs ∧ (∀ v ∈ acs, v.oneCell' = true) ∧ cFields ps H' acs
  | [], k, [], cs, all, ρ, H, _, _, hl, _, hR, hn => by
    obtain rfl : cs = [] := List.eq_nil_of_length_eq_zero (by simpa using hl)
    exact ⟨ρ, H, [], List.prefix_refl _, List.prefix_refl _, hR, hn, VRs.nil _, by simp, rfl⟩
  | f :: fs, k, p :: ps, cs, all, ρ, H, hf, hd, hl, hx, hR, hn => by
    obtain ⟨rfl, hc, hs, ho, hrest⟩ := hf
    match cs, hl with
    | c :: cs, hl =>
      obtain ⟨fuel, x, h⟩ := hx f (by simp)
      rw [hd, hc] at h
      simp only [List.take_succ_cons, List.take_zero] at h
      obtain ⟨ρ1, H1, acs1, a1, a2, a3, a4, a5, a6, a7⟩ := ho fuel [c] x h ρ H hR hn
      obtain ⟨ρ2, H2, acs2, b1, b2, b3, b4, b5, b6, b7⟩ := open_fields fs (f.offset + 1) ps cs all ρ1 H1 hrest (by rw [← List.drop_drop, hd]; simp) (by simpa using hl) (fun f hf => hx f (by simp [hf])) a3 a4
      match acs1, a5.1 with
      | [v], _ =>
        refine ⟨ρ2, H2, v :: acs2, a1.trans b1, a2.trans b2, b3, b4, VRs.cons (a5.head.mono b1) b5, ?_, v, acs2, rfl, hs H1 H2 _ b2 a7, b7⟩
        intro u hu
        rcases List.mem_cons.1 hu with rfl | hu
        · exact a6 _ (by simp)
        · exact b6 u hu
  | [], _, _ :: _, _, _, _, _, h, _, _, _, _, _ => h.elim
  | _ :: _, _, [], _, _, _, _, h, _, _, _, _, _ => h.elim

theorem open_cStruct {t : TypeId} {fs : Array Field} {ps : List (Heap → List Value → Prop)} (ht : P.underlying t = some (.struct fs)) (htc : P.cellsOf t = fs.size) (hf : FieldsOpen enc P W fs.toList 0 ps) : OpenC enc P W t (cFields ps) := by
  intro fuel cs x h ρ H hR hn
  obtain ⟨xs, m, _, _, hlen, hxl, hel⟩ := DataW.trod_struct ht h
  refine open_fields fs.toList 0 ps cs cs ρ H hf rfl (by rw [hlen, htc]; simp) ?_ hR hn
  intro f hm
  obtain ⟨i, hi, rfl⟩ := List.mem_iff_getElem.1 hm
  have hi' : i < fs.size := by simpa using hi
  have := hel i fs[i] (by simp [hi'])
  rw [List.getElem?_eq_getElem (by omega)] at this
  exact ⟨m, _, by simpa using this⟩

/-- A parameter: its type, whether its values are written out, what is said of its cells. -/
structure Shape where
  type : TypeId
  agg : Bool
  pred : Heap → List Value → Prop

def Shape.fits (enc : TypeId × Value → D) (P : Program) (W : World) (s : Shape) : Prop :=
  Stable s.pred ∧ OpenC enc P W s.type s.pred ∧ (match P.underlying s.type with
    | some (.struct _) | some (.array _ _) => s.agg = true
    | some (.int _) | some .string | some (.slice _) => s.agg = false
    | _ => False)

def Shape.says (s : Shape) (H : Heap) (v : Value) : Prop :=
  match s.agg with
  | true => ∃ acs : List Value, v = .agg acs.toArray ∧ s.pred H acs
  | false => s.pred H [v]

theorem Shape.says_mono {s : Shape} (hs : Stable s.pred) {H H' : Heap} (hp : H <+: H') {v : Value} (h : s.says H v) : s.says H' v := by
  unfold Shape.says at h ⊢
  cases hg : s.agg with
  | true => simp only [hg] at h ⊢; obtain ⟨acs, h1, h2⟩ := h; exact ⟨acs, h1, hs H H' _ hp h2⟩
  | false => simp only [hg] at h ⊢; exact hs H H' _ hp h

def argsSay : List Shape → Heap → List Value → Prop
  | [], _, vs => vs = []
  | s :: ss, H, vs => ∃ v us, vs = v :: us ∧ s.says H v ∧ argsSay ss H us

theorem open_arg {s : Shape} (hs : s.fits enc P W) {base : Nat} {v : Value} {d : DataW D} {p : List MemPlace} (hok : Value.okWide P W .any base s.type v) (hd : DataW.Trod enc P W 0 (fun _ => true) true s.type v d p)
    {ρ : Rho} {H : Heap} (hR : R W.heap.size W ρ H W) (hn : noOwn H) : ∃ ρ' H' av, ρ <+: ρ' ∧ H <+: H' ∧ R W.heap.size W ρ' H' W ∧ noOwn H' ∧ VR ρ' av v ∧ s.says H' av := by
  obtain ⟨h1, h2, h3⟩ := hs
  obtain ⟨fuel, hf⟩ := hd
  obtain ⟨ρ', H', acs, a1, a2, a3, a4, a5, _, a6⟩ := h2 fuel _ _ hf ρ H hR hn
  have one : (∃ w, v = w ∧ v.cells = #[w]) → s.agg = false → ∃ ρ' H' av, ρ <+: ρ' ∧ H <+: H' ∧ R W.heap.size W ρ' H' W ∧ noOwn H' ∧ VR ρ' av v ∧ s.says H' av := by
    rintro ⟨w, rfl, hw⟩ hag
    rw [hw] at a5
    match acs, a5 with
    | [a], a5 => exact ⟨ρ', H', a, a1, a2, a3, a4, a5.head, by unfold Shape.says; rw [hag]; exact a6⟩
    | [], a5 => exact absurd a5.1 (by simp)
    | _ :: _ :: _, a5 => exact absurd a5.1 (by simp)
  have many : (∃ cs, v = .agg cs) → s.agg = true → ∃ ρ' H' av, ρ <+: ρ' ∧ H <+: H' ∧ R W.heap.size W ρ' H' W ∧ noOwn H' ∧ VR ρ' av v ∧ s.says H' av := by
    rintro ⟨cs, rfl⟩ hag
    refine ⟨ρ', H', .agg acs.toArray, a1, a2, a3, a4, VR.agg_of (by simpa [Value.cells] using a5), ?_⟩
    unfold Shape.says; rw [hag]
    exact ⟨acs, rfl, a6⟩
  split at h3
  · rename_i fs ht
    unfold Value.okWide at hok
    rw [ht] at hok
    obtain ⟨cs, rfl, _⟩ := hok
    exact many ⟨_, rfl⟩ h3
  · rename_i n e ht
    unfold Value.okWide at hok
    rw [ht] at hok
    obtain ⟨cs, rfl, _⟩ := hok
    exact many ⟨_, rfl⟩ h3
  · rename_i k ht
    obtain ⟨n, rfl⟩ := okWide_int ht hok
    exact one ⟨_, rfl, rfl⟩ h3
  · rename_i ht
    obtain ⟨n, rfl⟩ : ∃ x, v = .string x := by
      unfold Value.okWide at hok
      rw [ht] at hok
      cases v <;> simp [Cell.okWide, Cell.ok, ht] at hok ⊢
    exact one ⟨_, rfl, rfl⟩ h3
  · rename_i e ht
    obtain ⟨a, n, c, rfl⟩ := okWide_slice ht hok
    exact one ⟨_, rfl, rfl⟩ h3
  · exact h3.elim

theorem open_args {base : Nat} : ∀ (ss : List Shape) (vs : List Value) (ds : List (DataW D)) (ps : List MemPlace) (ρ : Rho) (H : Heap), (∀ s ∈ ss, s.fits enc P W) →
    (∀ (j : Nat) t v, (ss.map (·.type))[j]? = some t → vs[j]? = some v → Value.okWide P W .any base t v) → DataW.TrodAll enc P W 0 (fun _ => true) true (ss.map (·.type)) vs ds ps → R W.heap.size W ρ H W → noOwn H →
    ∃ ρ' H' avs, ρ <+: ρ' ∧ H <+: H' ∧ R W.heap.size W ρ' H' W ∧ noOwn H' ∧ VRs ρ' avs vs ∧ argsSay ss H' avs
  | [], vs, ds, ps, ρ, H, _, _, hT, hR, hn => by
    cases vs with
    | nil => exact ⟨ρ, H, [], List.prefix_refl _, List.prefix_refl _, hR, hn, VRs.nil _, rfl⟩
    | cons v vs => simp [DataW.TrodAll] at hT
  | s :: ss, vs, ds, ps, ρ, H, hs, hok, hT, hR, hn => by
    simp only [List.map_cons] at hT hok
    cases vs with
    | nil => cases ds <;> simp [DataW.TrodAll] at hT
    | cons v vs =>
      cases ds with
      | nil => simp [DataW.TrodAll] at hT
      | cons d ds =>
        obtain ⟨p, q, h1, h2, rfl⟩ := hT
        obtain ⟨ρ1, H1, av, a1, a2, a3, a4, a5, a6⟩ := open_arg (hs s (by simp)) (hok 0 _ v rfl rfl) h1 hR hn
        obtain ⟨ρ2, H2, avs, b1, b2, b3, b4, b5, b6⟩ := open_args ss vs ds q ρ1 H1 (fun s' h => hs s' (by simp [h])) (fun j t u hj hu => hok (j + 1) t u (by simpa using hj) (by simpa using hu)) h2 a3 a4
        exact ⟨ρ2, H2, av :: avs, a1.trans b1, a2.trans b2, b3, b4, VRs.cons (a5.mono b1) b5, av, avs, rfl, Shape.says_mono (hs s (by simp)).1 b2 a6, b6⟩

theorem trodAll_stays (hl : laidOutB P = true) {W' : World} (hb : Below W.heap.size W W') : ∀ (ts : List TypeId) (vs : List Value) (ds : List (DataW D)) (ps : List MemPlace), ts.all (fun t => P.readableRec t && decide (t < P.types.size)) = true →
    DataW.TrodAll enc P W 0 (fun _ => true) true ts vs ds ps → DataW.TrodAll enc P W' 0 (fun b => decide (b < W.heap.size)) true ts vs ds ps
  | [], vs, ds, ps, _, h => by
    cases vs <;> cases ds <;> first | exact h | exact h.elim
  | t :: ts, vs, ds, ps, ht, h => by
    cases vs with
    | nil => cases ds <;> exact h.elim
    | cons v vs =>
      cases ds with
      | nil => exact h.elim
      | cons d ds =>
        obtain ⟨p, q, h1, h2, rfl⟩ := h
        simp only [List.all_cons, Bool.and_eq_true, decide_eq_true_eq] at ht
        refine ⟨p, q, ?_, trodAll_stays hl hb ts vs ds q (by simpa using ht.2) h2, rfl⟩
        exact Below.trod hl ht.1.1 ht.1.2 h1 hb (by obtain ⟨m, hm⟩ := h1; exact DataW.trod_lt m _ _ _ hm)

theorem R.start (W : World) : R W.heap.size W [] [] W :=
  ⟨rfl, Below.refl _ _, Nat.le_refl _, by simp, by simp, by simp⟩

end

/-- THE FRAME of a law: from its abstract contract to the row's own words. -/
theorem law_lifted {C : Checked} {os : Os} {D : Type} {enc : TypeId × Value → D} {f : FuncId} {fn : Func} {s : ChangeSpec} {conds : List PathCond} {apart fresh handsOn : Bool} (ss : List Shape) (own : ownKnob C.prog.godebug = none) (laid : laidOutB C.prog = true) (started : os.Started)
    (noInit : C.prog.inits.idxOf? f = none) (hfn : C.prog.funcs[f]? = some fn)
    (witness : ∃ (w : World) (tape : Tape) (i : Input), w.os = os ∧ (w.forCall tape i).Shaped C.prog ∧ i.vars = [] ∧ Input.okWide C.prog (w.forCall tape i) .any w.heap.size f i ∧
      s.pre6 enc C.prog fn conds apart (w.forCall tape i).memory i.args ∧ ({} : Assume).holds C.prog (lone (Frame.enter C.prog f i.args .normal) [] (w.forCall tape i)))
    (hparams : fn.params.toList = ss.map (·.type)) (hread : fn.params.toList.all (fun t => C.prog.readableRec t && decide (t < C.prog.types.size)) = true) {tb : TypeId} (hres : fn.resultTypes = #[tb]) (hb : C.prog.underlying tb = some .bool)
    (hvars : s.vars = []) (hspec : ∀ ds : List (DataW D), ds.length = ss.length → s.fn D ds = { results := [.lit (.bool true)], args := ds })
    (hfits : ∀ W : World, ∀ x ∈ ss, x.fits enc C.prog W)
    (hlaw : ∀ (H : Heap) (avs : List Value), argsSay ss H avs → ACalls C.prog f avs H fun v _ => v = .bool true) :
    ReturnsInHanded {} C os f .any (s.pre6 enc C.prog fn conds apart) (s.post enc C.prog fn apart fresh handsOn false) := by
  refine returnsInHanded_of_change (C := C) own started noInit hfn witness ?_
  intro W base args ds gs before hval hW hcnd _
  have hW' := hW
  obtain ⟨p, q, hA, hV, rfl, hfz, hnd⟩ := hW
  rw [hvars] at hV
  obtain ⟨rfl, rfl⟩ : gs = [] ∧ q = [] := by
    cases gs with
    | nil => exact ⟨rfl, hV⟩
    | cons g gs => exact hV.elim
  have hA' := hA
  rw [hparams] at hA'
  obtain ⟨ρ, H, avs, _, _, hR, _, hvr, hsay⟩ := open_args (base := base) ss args.toList ds p [] [] (hfits W) (fun j t v hj hv => hval j t v (by rw [← Array.getElem?_toList, hparams]; exact hj) (by rw [← Array.getElem?_toList]; exact hv)) hA' (R.start W) (by simp [noOwn])
  have hlen : ds.length = ss.length := by
    have key : ∀ (ts : List TypeId) (vs : List Value) (ds : List (DataW D)) (ps : List MemPlace), DataW.TrodAll enc C.prog W 0 (fun _ => true) true ts vs ds ps → ds.length = ts.length := by
      intro ts
      induction ts with
      | nil => intro vs ds ps h; cases vs <;> cases ds <;> first | rfl | exact h.elim
      | cons t ts ih =>
        intro vs ds ps h
        cases vs with
        | nil => cases ds <;> exact h.elim
        | cons v vs => cases ds with
          | nil => exact h.elim
          | cons d ds => obtain ⟨_, _, _, h2, _⟩ := h; simp [ih _ _ _ h2]
    simpa using key _ _ _ _ hA'
  have hc := (hlaw H avs hsay).2 W.heap.size W ρ W args.toList hR hvr
  rw [Array.toArray_toList] at hc
  refine hc.mono fun e W' ⟨ρ', H', v, cv, he, _, hR', hv, hp⟩ => ?_
  subst hp
  have := hv.bool_inv
  subst this
  subst he
  have bel : Below W.heap.size W W' := hR'.below
  refine ⟨_, rfl, ds, [], p ++ [], [], p, [], hW', ?_, ?_, ?_, bel.frame _, fun h => by cases h⟩
  · rw [List.append_nil, hspec ds hlen, hres]
    exact trodAll_mk1 (shut_bool hb _)
  · rw [List.append_nil, hspec ds hlen]
    exact trodAll_stays laid bel _ _ _ _ hread hA
  · rw [List.append_nil, hspec ds hlen, hvars]
    rfl

end Go.Ab
