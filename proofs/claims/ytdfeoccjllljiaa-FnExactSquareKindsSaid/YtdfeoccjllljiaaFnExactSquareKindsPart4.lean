/- Part 4 of what the proof of the law FnExactSquareKinds rests on: contracts of functions of the program, for every argument that each names; no statement of the seat is proved here. -/
import Derived.Sort.LotA
import Derived.Sort.LotD3
import Derived.Sort.LotB
import Derived.Sort.LotC
import Derived.RangeFuncBox
import Derived.RangeFuncLeaves
import Derived.Shelf.Abstract
import Derived.WalkKit
import Derived.OwnWalkIn
import Derived.TacticsInMore
import Derived.LoopNIn
import Derived.LoopIn
import Derived.Maps.AppendAt
import Derived.Test.YtdfeoccjllljiaaProg
import Derived.Test.YtdfeoccjllljiaaFnExactSquareKindsPart3

section
/- The arguments' shapes: numbers, lists, systems. It holds for every program that has these types. -/
set_option linter.all false
set_option maxRecDepth 20000
namespace Go.Proofs.Ytdfeoccjllljiaa
open Go.Ab

/-- A number that 64 bits hold. -/
def In64 (n : Int) : Prop := -9223372036854775808 ≤ n ∧ n ≤ 9223372036854775807
theorem In64.of_wf {n : Int} (h : (Lit.int .i64 n).wf = true) : In64 n := by
  simp only [Lit.wf, Bool.and_eq_true, decide_eq_true_eq] at h
  have h1 : IntKind.i64.min = -9223372036854775808 := rfl
  have h2 : IntKind.i64.max = 9223372036854775807 := rfl
  rw [h1, h2] at h
  exact h
/-- As IntsAt, but the length is only what 64 bits hold. -/
def IntsAt0 (H : Heap) (v : Value) (xs : List Int) : Prop := ∃ i o, v = lv 1 i o xs.length ∧ At H i o (ints xs) ∧ xs.length ≤ 9223372036854775807
theorem IntsAt0.at {H : Heap} {v : Value} {xs : List Int} (h : IntsAt0 H v xs) (hl : xs.length ≤ 140737488355328) : IntsAt H v xs := by
  obtain ⟨i, o, h1, h2, _⟩ := h; exact ⟨i, o, h1, h2, hl⟩
theorem IntsAt0.pre {H H' : Heap} (hp : H <+: H') {v : Value} {xs : List Int} (h : IntsAt0 H v xs) : IntsAt0 H' v xs := by
  obtain ⟨i, o, h1, h2, h3⟩ := h; exact ⟨i, o, h1, h2.pre hp, h3⟩
def BlocksAt0 (H : Heap) (v : Value) (bs : List Bk) : Prop := ∃ i o, v = lv 3 i o bs.length ∧ At H i o (tri bs) ∧ bs.length ≤ 9223372036854775807
theorem BlocksAt0.at {H : Heap} {v : Value} {bs : List Bk} (h : BlocksAt0 H v bs) (hl : bs.length ≤ 140737488355328) : BlocksAt H v bs := by
  obtain ⟨i, o, h1, h2, _⟩ := h; exact ⟨i, o, h1, h2, hl⟩
theorem BlocksAt0.pre {H H' : Heap} (hp : H <+: H') {v : Value} {bs : List Bk} (h : BlocksAt0 H v bs) : BlocksAt0 H' v bs := by
  obtain ⟨i, o, h1, h2, h3⟩ := h; exact ⟨i, o, h1, h2.pre hp, h3⟩
def IntssAt0 (H : Heap) (v : Value) (xss : List (List Int)) : Prop :=
  ∃ i o vs, v = lv 1 i o xss.length ∧ vs.length = xss.length ∧ At H i o vs ∧ (∀ (k : Nat) (v : Value) (xs : List Int), vs[k]? = some v → xss[k]? = some xs → IntsAt0 H v xs) ∧ xss.length ≤ 9223372036854775807
theorem IntssAt0.at {H : Heap} {v : Value} {xss : List (List Int)} (h : IntssAt0 H v xss) (hl : xss.length ≤ 140737488355328) (hls : ∀ xs ∈ xss, xs.length ≤ 140737488355328) : IntssAt H v xss := by
  obtain ⟨i, o, vs, h1, h2, h3, h4, _⟩ := h
  exact ⟨i, o, vs, h1, h2, h3, fun k v xs hv hx => (h4 k v xs hv hx).at (hls xs (List.mem_of_getElem? hx)), hl⟩
theorem IntssAt0.pre {H H' : Heap} (hp : H <+: H') {v : Value} {xss : List (List Int)} (h : IntssAt0 H v xss) : IntssAt0 H' v xss := by
  obtain ⟨i, o, vs, h1, h2, h3, h4, h5⟩ := h
  exact ⟨i, o, vs, h1, h2, h3.pre hp, fun k v xs hv hx => (h4 k v xs hv hx).pre hp, h5⟩

/-- Cells that are numbers, one by one. -/
theorem ints_of_many {H : Heap} : ∀ {es : List (List Value)}, (∀ e ∈ es, cInt .i64 H e ∧ e.length = 1) → ∃ xs : List Int, es.flatten = ints xs ∧ xs.length = es.length ∧ ∀ x ∈ xs, In64 x
  | [], _ => ⟨[], rfl, rfl, by simp⟩
  | e :: es, h => by
    obtain ⟨xs, h1, h2, h3⟩ := ints_of_many (es := es) fun e he => h e (List.mem_cons_of_mem _ he)
    obtain ⟨⟨n, hn, hw⟩, _⟩ := h e List.mem_cons_self
    refine ⟨n :: xs, by simp [hn, h1, ints], by simp [h2], ?_⟩
    intro x hx
    rcases List.mem_cons.1 hx with rfl | hx
    · exact In64.of_wf hw
    · exact h3 x hx

theorem says_ints {H : Heap} {v : Value} (h : cSl 1 (cInt .i64) H [v]) : ∃ xs, IntsAt0 H v xs ∧ ∀ x ∈ xs, In64 x := by
  obtain ⟨id, es, h1, h2, h3, h4⟩ := h
  obtain ⟨xs, h5, h6, h7⟩ := ints_of_many h3
  simp only [List.cons.injEq, and_true] at h1
  refine ⟨xs, ⟨id, 0, by rw [h1, h6], ?_, by rw [h6]; exact h4⟩, h7⟩
  rcases h2 with rfl | h2
  · left; rw [← h5]; rfl
  · right; rw [← h5, show es.flatten.length = es.length * 1 by rw [h5, ints_length, h6]; omega]; exact h2
def shIntss : Shape := ⟨51, false, cSl 1 (cSl 1 (cInt .i64))⟩
theorem fits_shIntss {D : Type} {enc : TypeId × Value → D} (W : World) : shIntss.fits enc Try.prog W :=
  ⟨cSl_stable (cSl_stable (cInt_stable _)), open_cSl Try.underlying51 (by kernel_rfl) (by omega) (cSl_stable (cInt_stable _)) (open_cSl Try.underlying56 (by kernel_rfl) (by omega) (cInt_stable _) (open_cInt Try.underlying2)), by show (match Try.prog.underlying 51 with | _ => _); rw [Try.underlying51]; rfl⟩
theorem intss_of_many {H : Heap} : ∀ {es : List (List Value)}, (∀ e ∈ es, cSl 1 (cInt .i64) H e ∧ e.length = 1) → ∃ (vs : List Value) (xss : List (List Int)), es.flatten = vs ∧ vs.length = es.length ∧ xss.length = es.length ∧ (∀ (k : Nat) (v : Value) (xs : List Int), vs[k]? = some v → xss[k]? = some xs → IntsAt0 H v xs) ∧ ∀ xs ∈ xss, ∀ x ∈ xs, In64 x
  | [], _ => ⟨[], [], rfl, rfl, rfl, by simp, by simp⟩
  | e :: es, h => by
    obtain ⟨vs, xss, h1, h2, h3, h4, h5⟩ := intss_of_many (es := es) fun e he => h e (List.mem_cons_of_mem _ he)
    obtain ⟨hc, hl⟩ := h e List.mem_cons_self
    obtain ⟨v, rfl⟩ : ∃ v, e = [v] := by
      match e, hl with
      | [v], _ => exact ⟨v, rfl⟩
    obtain ⟨xs, h6, h7⟩ := says_ints hc
    refine ⟨v :: vs, xs :: xss, by simp [h1], by simp [h2], by simp [h3], ?_, ?_⟩
    · intro k u ys hu hy
      cases k with
      | zero => simp at hu hy; subst hu; subst hy; exact h6
      | succ k => exact h4 k u ys (by simpa using hu) (by simpa using hy)
    · intro ys hy
      rcases List.mem_cons.1 hy with rfl | hy
      · exact h7
      · exact h5 ys hy
theorem says_shIntss {H : Heap} {v : Value} (h : shIntss.says H v) : ∃ xss, IntssAt0 H v xss ∧ ∀ xs ∈ xss, ∀ x ∈ xs, In64 x := by
  obtain ⟨id, es, h1, h2, h3, h4⟩ := h
  obtain ⟨vs, xss, h5, h6, h7, h8, h9⟩ := intss_of_many h3
  simp only [List.cons.injEq, and_true] at h1
  refine ⟨xss, ⟨id, 0, vs, by rw [h1, h7], by omega, ?_, h8, by rw [h7]; exact h4⟩, h9⟩
  rcases h2 with rfl | h2
  · left; rw [← h5]; rfl
  · right; rw [← h5, show es.flatten.length = es.length * 1 by rw [h5, h6]; omega]; exact h2

theorem szInt64S0_ok {H : Heap} {u : Value} {xs : List Int} {k : Int} (hu : IntsAt0 H u xs) (hk0 : 0 ≤ k) (hk : k ≤ 1048576) (Post : Value → Heap → Prop) (h : Post (.int .i64 (if k < xs.length then -1 else k - xs.length)) H) :
    ACalls Try.prog 91 [u, .int .i64 k] H Post := by
  obtain ⟨i, o, rfl, h1, h2⟩ := hu
  refine acalls_vc (rs := [.tmp 4]) Try.func91 rfl rfl Try.ntmps91 rfl rfl ?_
  have hw : IntKind.i64.wrap (k - xs.length) = k - xs.length := i64w (by omega) (by omega)
  simp (maxSteps := 1000000) [go_sem, hw]
  refine condK_intro (fun h1 => ?_) (fun h1 => ?_)
  · rw [if_pos (by simp at h1; omega)] at h; exact h
  · rw [if_neg (by simp at h1; omega)] at h; exact h

end Go.Proofs.Ytdfeoccjllljiaa
end

section
/- Contracts of the laws' own helpers: copies of lists of numbers, marks over blocks and systems. -/
set_option linter.all false
set_option maxRecDepth 20000
namespace Go.Proofs.Ytdfeoccjllljiaa
open Go.Ab

/-- A slice of numbers that the call holds alone. -/
def OwnInts (H : Heap) (v : Value) (id : Nat) (xs : List Int) : Prop := v = lv 1 id 0 xs.length ∧ (xs = [] ∨ H[id]? = some ⟨ints xs, true, true⟩) ∧ xs.length ≤ 140737488355328
theorem OwnInts.read {H : Heap} {v : Value} {id : Nat} {xs : List Int} (h : OwnInts H v id xs) : IntsAt H v xs := by
  obtain ⟨h1, h2, h3⟩ := h
  refine ⟨id, 0, h1, ?_, h3⟩
  rcases h2 with rfl | h2
  · exact .inl rfl
  · exact Holds.at ⟨true, h2⟩
theorem OwnInts.keep {H H' : Heap} {v : Value} {id : Nat} {xs : List Int} (h : OwnInts H v id xs) {S : Nat → Prop} (hs : Same S H H') (hi : ¬ S id) : OwnInts H' v id xs :=
  ⟨h.1, h.2.1.imp (fun h => h) fun hb => hs.get hb hi, h.2.2⟩
theorem OwnInts.pre {H H' : Heap} (hp : H <+: H') {v : Value} {id : Nat} {xs : List Int} (h : OwnInts H v id xs) : OwnInts H' v id xs := h.keep (S := fun _ => False) (Same.of_prefix hp) (fun h => h)
theorem OwnInts.of_ol {H : Heap} {id : Nat} {xs : List Int} (h : OL 1 H id (ints xs) xs.length) (hl : xs.length ≤ 140737488355328) : OwnInts H (lv 1 id 0 xs.length) id xs :=
  ⟨rfl, h.2.imp (fun h => List.eq_nil_of_length_eq_zero h.1) (fun h => h), hl⟩
theorem OwnInts.one {H : Heap} {v : Value} {id : Nat} {xs : List Int} (h : OwnInts H v id xs) : v.oneCell' = true := h.read.one
theorem _root_.Go.Ab.OwnBlocks.pre {H H' : Heap} (hp : H <+: H') {v : Value} {id : Nat} {bs : List Bk} (h : OwnBlocks H v id bs) : OwnBlocks H' v id bs := h.keep (S := fun _ => False) (Same.of_prefix hp) (fun h => h)
theorem _root_.Go.Ab.OwnBlocks.one {H : Heap} {v : Value} {id : Nat} {bs : List Bk} (h : OwnBlocks H v id bs) : v.oneCell' = true := h.read.one
theorem _root_.Go.Ab.OwnBlocks.of_ol {H : Heap} {id : Nat} {bs : List Bk} (h : OL 3 H id (tri bs) bs.length) (hl : bs.length ≤ 140737488355328) : OwnBlocks H (lv 3 id 0 bs.length) id bs :=
  ⟨rfl, h.2.imp (fun h => List.eq_nil_of_length_eq_zero h.1) (fun h => h), hl⟩
theorem _root_.Go.Ab.OwnBlocks.lt {H : Heap} {v : Value} {id : Nat} {bs : List Bk} (h : OwnBlocks H v id bs) : bs = [] ∨ id < H.length := h.2.1.imp (fun h => h) fun h => (List.getElem?_eq_some_iff.1 h).1

theorem _root_.Go.Ab.Holds.keepS {H H' : Heap} {i : Nat} {cs : List Value} (h : Holds H i cs) {S : Nat → Prop} (hs : Same S H H') (hi : ¬ S i) : Holds H' i cs := by
  obtain ⟨o, h⟩ := h; exact ⟨o, hs.get h hi⟩
theorem _root_.Go.Ab.Holds.last (H : Heap) (cs : List Value) : Holds (H ++ [⟨cs, true, true⟩]) H.length cs := ⟨true, by simp⟩

theorem toInt64S_ok {H : Heap} {u : Value} {xs : List Int} (hu : IntsAt H u xs) (Post : Value → Heap → Prop) (hb : xs.length ≤ 1048576) (h : ∀ H' v id, H <+: H' → H.length ≤ id → OwnInts H' v id xs → Post v H') :
    ACalls Try.prog 64 [u] H Post := by
  obtain ⟨i, o, rfl, h1, h2⟩ := hu
  refine ACalls.res ?_
  refine acalls_vc (rs := [.tmp 2]) Try.func64 rfl rfl Try.ntmps64 rfl rfl ?_
  have hm : ∀ n, (madeCells #[Value.int .i64 0] n).toList = ints (List.replicate n 0) := by
    intro n
    rw [made_same (v := .int .i64 0) (by simp) (by intro i hi; simp at hi; subst hi; rfl)]
    simp [ints]
  simp (maxSteps := 1000000) [go_sem, hm]
  refine andK_intro (by omega) ?_
  refine AWp.loopVc (fun s : Nat => [(0, lv 1 i o xs.length), (3, .slice (some ⟨H.length, 0, none⟩) xs.length xs.length), (4, .int .i64 s)])
    (fun s H' => s ≤ xs.length ∧ H <+: H' ∧ H'[H.length]? = some ⟨ints (xs.take s ++ List.replicate (xs.length - s) 0), true, true⟩) (fun s => xs.length - s) 0 ?_ ?_ ?_
  · simp [upF, Fr.get, Up.refl]
  · refine ⟨by omega, List.prefix_append _ _, by simp⟩
  · rintro K s H' ⟨hs, hp, hc⟩ hK
    by_cases hlt : s < xs.length
    · have c1 := (h1.pre hp).cell (k := s) (v := .int .i64 xs[s]) (by simp [ints_get, hlt])
      have hw_s : IntKind.i64.wrap ((s : Int) + 1) = (s : Int) + 1 := i64w (by omega) (by omega)
      have hlt2 : H.length < H'.length := (List.getElem?_eq_some_iff.1 hc).1
      have hst : storeAt H' H.length s [.int .i64 xs[s]] = some (H'.set H.length ⟨ints (xs.take (s + 1) ++ List.replicate (xs.length - (s + 1)) 0), true, true⟩) := by
        rw [storeAt_of hc rfl rfl (by simp only [ints_length, List.length_append, List.length_take, List.length_replicate, List.length_singleton]; omega) (by simp [Value.oneCell']), over_one (by simp only [ints_length, List.length_append, List.length_take, List.length_replicate]; omega), ints_set]
        congr 4
        rw [List.set_append_right _ _ (by simp; omega), List.length_take, Nat.min_eq_left hs, Nat.sub_self, show xs.length - s = (xs.length - (s + 1)) + 1 by omega, List.replicate_succ, List.set_cons_zero, List.take_succ_eq_append_getElem hlt, List.append_assoc]
        rfl
      simp (maxSteps := 1000000) [go_sem, hlt, c1, hst, hw_s]
      refine hK (s + 1) _ _ (by omega) (by simp [upF, Fr.get, Up.refl]) ⟨by omega, ?_, by rw [List.getElem?_set_self hlt2]⟩
      exact (show Same (fun j => j = H.length) H _ from (Same.of_prefix hp).trans Same.set).prefix (by omega)
    · have : s = xs.length := by omega
      subst this
      simp (maxSteps := 1000000) [go_sem]
      simp only [List.take_length, Nat.sub_self, List.replicate_zero, List.append_nil] at hc
      refine ⟨lv 1 H.length 0 xs.length, Up.ex (by omega) ?_, h H' _ H.length hp (Nat.le_refl _) ⟨rfl, .inr hc, by omega⟩⟩
      right
      rw [(Holds.cells ⟨true, hc⟩ (by rw [ints_length]; omega))]; rfl

end Go.Proofs.Ytdfeoccjllljiaa
end

section
/- The third point of two: both sides. -/
set_option linter.all false
set_option maxRecDepth 20000
namespace Go.Proofs.Ytdfeoccjllljiaa
open Go.Ab

theorem _root_.Go.Ab.IsSys.good {p : Int} {bs : List Bk} (h : IsSys p bs) : ∀ x ∈ bs, good p x = true := by
  intro x hx
  obtain ⟨k, hk⟩ := List.mem_iff_getElem?.1 hx
  exact (h.2.2.1 k x hk).1
end Go.Proofs.Ytdfeoccjllljiaa
end

section
/- Degrees: both sides. -/
set_option linter.all false
set_option maxRecDepth 20000
namespace Go.Ab

/-- A list that a call builds, behind the memory H. -/
def Bl (e : Nat) (H H' : Heap) (id : Nat) (cs : List Value) (n : Nat) : Prop := H <+: H' ∧ OL e H' id cs n ∧ H.length ≤ id
theorem Bl.ghost (e : Nat) (H : Heap) : Bl e H (H ++ [⟨[], false, false⟩]) H.length [] 0 := ⟨List.prefix_append _ _, OL.ghost e H, Nat.le_refl _⟩
theorem Bl.nil (e : Nat) (H : Heap) : Bl e H (H ++ [⟨[], true, true⟩]) H.length [] 0 := ⟨List.prefix_append _ _, ⟨by simp, .inr (by simp)⟩, Nat.le_refl _⟩
theorem Bl.pre {e : Nat} {H H' H'' : Heap} {id n : Nat} {cs : List Value} (h : Bl e H H' id cs n) (hp : H' <+: H'') : Bl e H H'' id cs n :=
  ⟨h.1.trans hp, h.2.1.keep (S := fun _ => False) (Same.of_prefix hp) (fun h => h), h.2.2⟩
theorem Bl.push {e : Nat} {H H' : Heap} {id n : Nat} {cs xs : List Value} (h : Bl e H H' id cs n) (he : 0 < e) (hx : xs.length = e) :
    cellsAt (H' ++ [⟨xs, true, true⟩]) H'.length 0 e = some xs ∧ ∃ H3, appendH (H' ++ [⟨xs, true, true⟩]) e (lv e id 0 n) 1 xs = some (lv e (H'.length + 1) 0 (n + 1), H3) ∧ Bl e H H3 (H'.length + 1) (cs ++ xs) (n + 1) := by
  obtain ⟨h1, H3, h2, h3, h4, h5⟩ := h.2.1.push he hx
  refine ⟨h1, H3, h2, ((Same.of_prefix h.1).trans h4).prefix (by have := h.2.2; omega), h3, ?_⟩
  have := h.1.length_le
  omega

end Go.Ab
namespace Go.Proofs.Ytdfeoccjllljiaa
open Go.Ab

end Go.Proofs.Ytdfeoccjllljiaa
end

section
/- Results that a call holds alone, told by the span of the blocks that they lie in; marks on them. -/
set_option linter.all false
set_option maxRecDepth 20000
namespace Go.Proofs.Ytdfeoccjllljiaa
open Go.Ab

/-- The blocks from a to below b. -/
def Span (a b : Nat) (j : Nat) : Prop := a ≤ j ∧ j < b

def IntsIn (a b : Nat) (H : Heap) (v : Value) (xs : List Int) : Prop := ∃ id, OwnInts H v id xs ∧ (xs ≠ [] → Span a b id)
def BlocksIn (a b : Nat) (H : Heap) (v : Value) (bs : List Bk) : Prop := ∃ id, OwnBlocks H v id bs ∧ (bs ≠ [] → Span a b id)
/-- A slice of numbers, marked from k on. -/
def MarkIn (e : Nat) (a b : Nat) (H : Heap) (v : Value) (k : Int) (n : Nat) : Prop := ∃ id, v = lv e id 0 n ∧ At H id 0 (ints (upFrom k (n * e))) ∧ n ≤ 140737488355328 ∧ (n ≠ 0 → Span a b id)

theorem OwnInts.inn {H H' : Heap} {v : Value} {id : Nat} {xs : List Int} (h : OwnInts H' v id xs) (hid : H.length ≤ id) : IntsIn H.length H'.length H' v xs :=
  ⟨id, h, fun hne => ⟨hid, (List.getElem?_eq_some_iff.1 (h.2.1.resolve_left hne)).1⟩⟩
theorem OwnBlocks.inn {H H' : Heap} {v : Value} {id : Nat} {bs : List Bk} (h : OwnBlocks H' v id bs) (hid : H.length ≤ id) : BlocksIn H.length H'.length H' v bs :=
  ⟨id, h, fun hne => ⟨hid, h.lt.resolve_left hne⟩⟩

theorem IntsIn.keep {a b : Nat} {H H' : Heap} {v : Value} {xs : List Int} (h : IntsIn a b H v xs) {S : Nat → Prop} (hs : Same S H H') (hd : ∀ j, Span a b j → ¬ S j) : IntsIn a b H' v xs := by
  obtain ⟨id, h1, h2⟩ := h
  by_cases hne : xs = []
  · subst hne; exact ⟨id, ⟨h1.1, .inl rfl, h1.2.2⟩, h2⟩
  · exact ⟨id, h1.keep hs (hd _ (h2 hne)), h2⟩
theorem BlocksIn.keep {a b : Nat} {H H' : Heap} {v : Value} {bs : List Bk} (h : BlocksIn a b H v bs) {S : Nat → Prop} (hs : Same S H H') (hd : ∀ j, Span a b j → ¬ S j) : BlocksIn a b H' v bs := by
  obtain ⟨id, h1, h2⟩ := h
  by_cases hne : bs = []
  · subst hne; exact ⟨id, ⟨h1.1, .inl rfl, h1.2.2⟩, h2⟩
  · exact ⟨id, OwnBlocks.keep h1 hs (hd _ (h2 hne)), h2⟩
theorem MarkIn.keep {e a b : Nat} {H H' : Heap} {v : Value} {k : Int} {n : Nat} (h : MarkIn e a b H v k n) {S : Nat → Prop} (hs : Same S H H') (hd : ∀ j, Span a b j → ¬ S j) : MarkIn e a b H' v k n := by
  obtain ⟨id, h1, h2, h3, h4⟩ := h
  refine ⟨id, h1, ?_, h3, h4⟩
  rcases h2 with h0 | h2
  · exact .inl h0
  · by_cases hn : n = 0
    · subst hn; left; simp [upFrom, ints]
    · right
      obtain ⟨blk, hb, hbl, hbn, he⟩ := cellsAt_inv h2
      rw [cellsAt_of (hs.get hb (hd _ (h4 hn))) hbl hbn, ← he]
theorem IntsIn.pre {a b : Nat} {H H' : Heap} (hp : H <+: H') {v : Value} {xs : List Int} (h : IntsIn a b H v xs) : IntsIn a b H' v xs := h.keep (S := fun _ => False) (Same.of_prefix hp) (fun _ _ h => h)
theorem BlocksIn.pre {a b : Nat} {H H' : Heap} (hp : H <+: H') {v : Value} {bs : List Bk} (h : BlocksIn a b H v bs) : BlocksIn a b H' v bs := h.keep (S := fun _ => False) (Same.of_prefix hp) (fun _ _ h => h)
theorem MarkIn.pre {e a b : Nat} {H H' : Heap} (hp : H <+: H') {v : Value} {k : Int} {n : Nat} (h : MarkIn e a b H v k n) : MarkIn e a b H' v k n := h.keep (S := fun _ => False) (Same.of_prefix hp) (fun _ _ h => h)
theorem IntsIn.read {a b : Nat} {H : Heap} {v : Value} {xs : List Int} (h : IntsIn a b H v xs) : IntsAt H v xs := by obtain ⟨id, h, _⟩ := h; exact h.read
theorem BlocksIn.read {a b : Nat} {H : Heap} {v : Value} {bs : List Bk} (h : BlocksIn a b H v bs) : BlocksAt H v bs := by obtain ⟨id, h, _⟩ := h; exact OwnBlocks.read h
theorem IntsIn.one {a b : Nat} {H : Heap} {v : Value} {xs : List Int} (h : IntsIn a b H v xs) : v.oneCell' = true := h.read.one
theorem BlocksIn.one {a b : Nat} {H : Heap} {v : Value} {bs : List Bk} (h : BlocksIn a b H v bs) : v.oneCell' = true := h.read.one
theorem IntsIn.nil (a b : Nat) (H : Heap) : IntsIn a b H (lv 1 0 0 0) [] := ⟨0, ⟨rfl, .inl rfl, by simp⟩, fun h => absurd rfl h⟩
theorem BlocksIn.nil (a b : Nat) (H : Heap) : BlocksIn a b H (lv 3 0 0 0) [] := ⟨0, ⟨rfl, .inl rfl, by simp⟩, fun h => absurd rfl h⟩
theorem markInts_ok {a b : Nat} {H : Heap} {v : Value} {xs : List Int} {k : Int} (h : IntsIn a b H v xs) (hk0 : 0 ≤ k) (hk : k ≤ 1000000000) (Post : Value → Heap → Prop)
    (hP : ∀ H', Same (Span a b) H H' → MarkIn 1 a b H' v k xs.length → Post (.int .i64 (k + xs.length)) H') : ACalls Try.prog 44 [v, .int .i64 k] H Post := by
  obtain ⟨id, ⟨rfl, h1, h2⟩, h3⟩ := h
  refine markInt64S_ok h1 h2 hk0 (by omega) _ (hP _ ?_ ⟨id, rfl, ?_, h2, fun hn => h3 (by rintro rfl; simp at hn)⟩)
  · refine ⟨by unfold setInts; split <;> simp, fun j hj hS => ?_⟩
    by_cases hne : xs = []
    · subst hne; simp [setInts, upFrom]
    · exact setInts_get (fun e => hS (e ▸ h3 hne))
  · rw [Nat.mul_one]
    by_cases hne : xs = []
    · subst hne; left; simp [upFrom, ints]
    · have hb := h1.resolve_left hne
      unfold setInts
      rw [if_neg (by intro e; have := congrArg List.length e; rw [upFrom_length] at this; exact hne (List.eq_nil_of_length_eq_zero this))]
      exact Holds.at ⟨true, by rw [List.getElem?_set_self (List.getElem?_eq_some_iff.1 hb).1]⟩
theorem heldInts_ok {a b : Nat} {H : Heap} {v : Value} {n : Nat} {k : Int} (h : MarkIn 1 a b H v k n) (hk0 : 0 ≤ k) (hk : k ≤ 1000000000) (Post : Value → Heap → Prop)
    (hP : Post (.int .i64 (k + n)) H) : ACalls Try.prog 45 [v, .int .i64 k] H Post := by
  obtain ⟨id, rfl, h1, h2, h3⟩ := h
  rw [Nat.mul_one] at h1
  exact heldInt64S_ok (n := n) ⟨id, 0, by rw [upFrom_length], h1, by rw [upFrom_length]; exact h2⟩ hk0 (by omega) _ hP
end Go.Proofs.Ytdfeoccjllljiaa
end

section
/- Common blocks: both sides. -/
set_option linter.all false
set_option maxRecDepth 20000
namespace Go.Proofs.Ytdfeoccjllljiaa
open Go.Ab

theorem infoInt : (Try.prog.info? 2).map (·.size) = some 1 := by kernel_rfl
theorem intsOf3 (a b c : Int) : intsOf .i64 [.int .i64 a, .int .i64 b, .int .i64 c] = some [a, b, c] := by simp [intsOf]
attribute [go_sem] infoInt intsOf3

/-- Where a thing stands first in a list, or -1. -/
def IdxIs {α : Type} (xs : List α) (x : α) (n : Int) : Prop := (n = -1 ∧ x ∉ xs) ∨ ∃ s : Nat, n = s ∧ xs[s]? = some x ∧ x ∉ xs.take s

theorem IdxIs.pos {α : Type} {xs : List α} {x : α} {n : Int} (h : IdxIs xs x n) : 0 ≤ n ↔ x ∈ xs := by
  rcases h with ⟨rfl, h⟩ | ⟨s, rfl, h, _⟩
  · constructor
    · intro hh; omega
    · intro hh; exact absurd hh h
  · exact ⟨fun _ => List.mem_of_getElem? h, fun _ => by omega⟩

end Go.Proofs.Ytdfeoccjllljiaa
end

section
/- Regions whose order is open, where old blocks alone are read: what stands from L on may be changed. No statement of the seat is proved here; it holds for every program. -/
set_option linter.all false
namespace Go.Ab
open Go.RowKit (Below)

/-- The block that a value leads to. -/
def blkOf : Value → Option Nat
  | .pointer (some ⟨i, _, _⟩) => some i
  | .slice (some ⟨i, _, _⟩) _ _ => some i
  | _ => none
/-- The block that an operation may read. -/
def rdBlk (o : Op) (fr : Fr) : Option Nat :=
  match o with
  | .load _ x => (ev fr x).bind blkOf
  | .convert _ _ x => (ev fr x).bind blkOf
  | .slice _ x _ _ _ => (ev fr x).bind blkOf
  | _ => none
def offL (L : Nat) (o : Op) (fr : Fr) : Prop := ∀ i, rdBlk o fr = some i → i < L
/-- The blocks ahead of L stay. -/
def KeepL (L : Nat) (H h : Heap) : Prop := ∀ i, i < L → h[i]? = H[i]?

section
variable {P : Program} {N : Nat} {o : Oper} {fr fr' : Fr} {H : Heap} {K : Fr → Heap → Prop}

end

def eKX (L : Nat) (fl : Bool) (H : Heap) (k : Fr → Heap → Prop) (f : Fr) (h : Heap) : Prop :=
  match fl with
  | true => andK (KeepL L H h) (k f h)
  | false => k f h

def vEX (P : Program) (N : Nat) (ops : Array Oper) (L : Nat) (K : Fr → Heap → Prop) : List (Nat × Bool) → Fr → Heap → Prop
  | [], fr, H => K fr H
  | (i, fl) :: l, fr, H => match ops[i]? with
    | none => False
    | some o => match isR o.op with
      | true => offL L o.op fr ∧ vstep P N ops o (vEX P N ops L K l) fr H
      | false => vstep P N ops o (eKX L fl H (vEX P N ops L K l)) fr H

section
variable {P : Program} {N : Nat} {ops : Array Oper} {L : Nat} {K : Fr → Heap → Prop}

/-! The words of such an order, for simp. -/

def vEXK (P : Program) (N : Nat) (ops : Array Oper) (L : Nat) (K : Fr → Heap → Prop) (l : List (Nat × Bool)) (fr : Fr) (H : Heap) : Prop := vEX P N ops L K l fr H
def eKXK (P : Program) (N : Nat) (ops : Array Oper) (L : Nat) (K : Fr → Heap → Prop) (l : List (Nat × Bool)) (fl : Bool) (H : Heap) (fr : Fr) (H' : Heap) : Prop :=
  match fl with
  | true => andK (KeepL L H H') (vEX P N ops L K l fr H')
  | false => vEX P N ops L K l fr H'
def offB (L : Nat) (o : Op) (fr : Fr) : Prop := match rdBlk o fr with
  | some i => i < L
  | none => True
theorem offB_iff {L : Nat} {o : Op} {fr : Fr} : offB L o fr = offL L o fr := by
  unfold offB offL
  cases rdBlk o fr with
  | none => simp
  | some i => simp
def vEXo (P : Program) (N : Nat) (ops : Array Oper) (L : Nat) (K : Fr → Heap → Prop) (l : List (Nat × Bool)) (fl : Bool) (fr : Fr) (H : Heap) (o : Oper) : Prop :=
  match isR o.op with
  | true => andK (offB L o.op fr) (vstep P N ops o (vEXK P N ops L K l) fr H)
  | false => vstep P N ops o (eKXK P N ops L K l fl H) fr H

theorem vEX_nil (K : Fr → Heap → Prop) (fr : Fr) (H : Heap) : vEX P N ops L K [] fr H = K fr H := rfl
theorem vEX_cons (K : Fr → Heap → Prop) (i : Nat) (fl : Bool) (l : List (Nat × Bool)) (fr : Fr) (H : Heap) : vEX P N ops L K ((i, fl) :: l) fr H = bindO ops[i]? (vEXo P N ops L K l fl fr H) := by
  have e : eKX L fl H (vEX P N ops L K l) = eKXK P N ops L K l fl H := by
    funext f h
    cases fl <;> rfl
  simp only [vEX]
  cases ops[i]? with
  | none => simp [bindO]
  | some o =>
    simp only [bindO_some, vEXo]
    cases isR o.op with
    | true => rw [offB_iff]; rfl
    | false => simp only [e]

attribute [go_sem] vEXK eKXK vEXo vEX_nil vEX_cons offB rdBlk blkOf

end
end Go.Ab
end

section
/- Appending whole lists to a list that the call holds alone; slices.Clone, Grow and Concat over blocks. -/
set_option linter.all false
set_option maxRecDepth 20000
namespace Go.Ab

/-- A slice of n elements that the call holds alone: nil, empty, or a block of its own, from L on. -/
def OE (e L : Nat) (H : Heap) (v : Value) (cs : List Value) (n : Nat) : Prop :=
  cs.length = n * e ∧ ((n = 0 ∧ v = .slice none 0 0) ∨ (∃ id, n = 0 ∧ L ≤ id ∧ v = .slice (some ⟨id, 0, none⟩) 0 0 ∧ H[id]? = some ⟨[], true, true⟩) ∨
    ∃ id, L ≤ id ∧ v = lv e id 0 n ∧ ((n = 0 ∧ (ghostAt H id = true ∨ ownAt H id = true)) ∨ H[id]? = some ⟨cs, true, true⟩))

theorem OE.nil (e L : Nat) (H : Heap) : OE e L H (.slice none 0 0) [] 0 := ⟨by simp, .inl ⟨rfl, rfl⟩⟩
theorem OE.empty {e L : Nat} {H : Heap} {id : Nat} (hL : L ≤ id) (h : H[id]? = some ⟨[], true, true⟩) : OE e L H (.slice (some ⟨id, 0, none⟩) 0 0) [] 0 := ⟨by simp, .inr (.inl ⟨id, rfl, hL, rfl, h⟩)⟩
theorem OE.len {e L : Nat} {H : Heap} {v : Value} {cs : List Value} {n : Nat} (h : OE e L H v cs n) : lenV v = n := by
  rcases h.2 with ⟨rfl, rfl⟩ | ⟨id, rfl, _, rfl, _⟩ | ⟨id, _, rfl, _⟩ <;> rfl
theorem OE.one {e L : Nat} {H : Heap} {v : Value} {cs : List Value} {n : Nat} (h : OE e L H v cs n) : v.oneCell' = true := by
  rcases h.2 with ⟨rfl, rfl⟩ | ⟨id, rfl, _, rfl, _⟩ | ⟨id, _, rfl, _⟩ <;> rfl
theorem OE.shape {e L : Nat} {H : Heap} {v : Value} {cs : List Value} {n : Nat} (h : OE e L H v cs n) : ∃ a, v = .slice a n n := by
  rcases h.2 with ⟨rfl, rfl⟩ | ⟨id, rfl, _, rfl, _⟩ | ⟨id, _, rfl, _⟩ <;> exact ⟨_, rfl⟩
theorem OE.keep {e L : Nat} {H H' : Heap} {S : Nat → Prop} (hs : Same S H H') (hS : ∀ j, L ≤ j → ¬ S j) {v : Value} {cs : List Value} {n : Nat} (h : OE e L H v cs n) : OE e L H' v cs n := by
  have keep : ∀ {id : Nat} {b : Blk}, L ≤ id → H[id]? = some b → H'[id]? = some b := fun hL hb => hs.get hb (hS _ hL)
  refine ⟨h.1, ?_⟩
  rcases h.2 with h | ⟨id, h1, h2, h3, h4⟩ | ⟨id, h1, h2, h3⟩
  · exact .inl h
  · exact .inr (.inl ⟨id, h1, h2, h3, keep h2 h4⟩)
  · refine .inr (.inr ⟨id, h1, h2, ?_⟩)
    rcases h3 with ⟨h0, h3⟩ | h3
    · refine .inl ⟨h0, ?_⟩
      rcases h3 with h3 | h3
      · obtain ⟨b, hb, h5, h6⟩ := ghostAt_inv h3
        left; simp [ghostAt, keep h1 hb, h5, h6]
      · obtain ⟨b, hb, h5, h6⟩ := ownAt_inv h3
        right; simp [ownAt, keep h1 hb, h5, h6]
    · exact .inr (keep h1 h3)
theorem OE.pre {e L : Nat} {H H' : Heap} (hp : H <+: H') {v : Value} {cs : List Value} {n : Nat} (h : OE e L H v cs n) : OE e L H' v cs n := h.keep (S := fun _ => False) (Same.of_prefix hp) (fun _ _ h => h)

theorem KeepL.of_prefix {L : Nat} {H H' : Heap} (hp : H <+: H') (hL : L ≤ H.length) : KeepL L H H' := by
  intro i hi
  obtain ⟨t, rfl⟩ := hp
  exact List.getElem?_append_left (by omega)
theorem KeepL.refl (L : Nat) (H : Heap) : KeepL L H H := fun _ _ => rfl

theorem OE.append {e L : Nat} {H : Heap} {v : Value} {cs : List Value} {n : Nat} (h : OE e L H v cs n) (he : 0 < e) (hL : L ≤ H.length) {m : Nat} {news : List Value} (hn : news.length = m * e) :
    ∃ v' H', appendH H e v m news = some (v', H') ∧ OE e L H' v' (cs ++ news) (n + m) ∧ KeepL L H H' ∧ H.length ≤ H'.length := by
  by_cases hm : m = 0
  · subst hm
    have : news = [] := List.eq_nil_of_length_eq_zero (by simpa using hn)
    subst this
    obtain ⟨a, rfl⟩ := h.shape
    exact ⟨.slice a n n, H, by simp [appendH], by simpa using h, KeepL.refl _ _, Nat.le_refl _⟩
  · have new : ∀ cs' : List Value, (H ++ [(⟨cs', true, true⟩ : Blk)])[H.length]? = some ⟨cs', true, true⟩ := by intro cs'; simp
    rcases h.2 with ⟨rfl, rfl⟩ | ⟨id, rfl, h1, rfl, h2⟩ | ⟨id, h1, rfl, h2⟩
    · have : cs = [] := List.eq_nil_of_length_eq_zero (by simpa using h.1)
      subst this
      refine ⟨lv e H.length 0 m, H ++ [⟨news, true, true⟩], by simp [appendH, hm], ⟨by simpa using hn, .inr (.inr ⟨H.length, hL, by simp, .inr (new _)⟩)⟩, KeepL.of_prefix (List.prefix_append _ _) hL, by simp⟩
    · have : cs = [] := List.eq_nil_of_length_eq_zero (by simpa using h.1)
      subst this
      have hc : cellsAt H id 0 0 = some [] := by rw [cellsAt_of h2 rfl (by simp)]; simp
      refine ⟨lv e H.length 0 m, H ++ [⟨news, true, true⟩], by simp [appendH, hm, hc], ⟨by simpa using hn, .inr (.inr ⟨H.length, hL, by simp, .inr (new _)⟩)⟩, KeepL.of_prefix (List.prefix_append _ _) hL, by simp⟩
    · have kill : ∀ cs' : List Value, KeepL L H (H.kill id ++ [⟨cs', true, true⟩]) := by
        intro cs' i hi
        rw [List.getElem?_append_left (by rw [Heap.kill_length]; omega)]
        unfold Heap.kill
        split
        · exact List.getElem?_set_ne (by omega)
        · rfl
      have newk : ∀ cs' : List Value, (H.kill id ++ [(⟨cs', true, true⟩ : Blk)])[H.length]? = some ⟨cs', true, true⟩ := by
        intro cs'
        rw [List.getElem?_append_right (by rw [Heap.kill_length]; exact Nat.le_refl _), Heap.kill_length]; simp
      rcases h2 with ⟨rfl, h2⟩ | h2
      · have : cs = [] := List.eq_nil_of_length_eq_zero (by simpa using h.1)
        subst this
        by_cases hg : ghostAt H id = true
        · refine ⟨lv e H.length 0 m, H ++ [⟨news, true, true⟩], by simp [appendH, hm, hg, he], ⟨by simpa using hn, .inr (.inr ⟨H.length, hL, by simp, .inr (new _)⟩)⟩, KeepL.of_prefix (List.prefix_append _ _) hL, by simp⟩
        · have ho := h2.resolve_left hg
          obtain ⟨b, hb, hbl, hbo⟩ := ownAt_inv ho
          have hc : cellsAt H id 0 0 = some [] := by rw [cellsAt_of hb hbl (by simp)]; simp
          exact ⟨lv e H.length 0 m, H.kill id ++ [⟨news, true, true⟩], by simp [appendH, hm, hg, ho, hc], ⟨by simpa using hn, .inr (.inr ⟨H.length, hL, by simp, .inr (newk _)⟩)⟩, kill _, by simp [Heap.kill_length]⟩
      · have hc : cellsAt H id 0 (n * e) = some cs := by rw [← h.1, cellsAt_of h2 rfl (by simp)]; simp
        have hown : ownAt H id = true := by simp [ownAt, h2]
        have hng : ghostAt H id = false := by simp [ghostAt, h2]
        exact ⟨lv e H.length 0 (n + m), H.kill id ++ [⟨cs ++ news, true, true⟩], by simp [appendH, hm, hown, hng, hc], ⟨by simp [h.1, hn, Nat.add_mul], .inr (.inr ⟨H.length, hL, rfl, .inr (newk _)⟩)⟩, kill _, by simp [Heap.kill_length]⟩

theorem KeepL.prefix {L : Nat} {H0 H H' : Heap} (hp : H0 <+: H) (hL : H0.length ≤ L) (hk : KeepL L H H') (hl : H.length ≤ H'.length) : H0 <+: H' :=
  (show Same (fun j => L ≤ j) H0 H' from (Same.of_prefix hp).trans ⟨hl, fun j _ hj => hk j (by omega)⟩).prefix (by intro j hj h; omega)

theorem At.src {H : Heap} {i o n : Nat} {cs : List Value} {e : Nat} {s : Option Nat} (h : At H i o cs) (hn : cs.length = n * e) (he : 0 < e) (c : Nat) : srcCells H e (.slice (some ⟨i, o, s⟩) n c) = some cs := by
  simp only [srcCells]
  by_cases h0 : n = 0
  · rw [if_pos h0]; subst h0; simp at hn; rw [hn]
  · rw [if_neg h0, ← hn]
    refine h.resolve_left (fun hc => ?_)
    have hpos : 0 < n * e := Nat.mul_pos (by omega) he
    rw [hc, List.length_nil] at hn
    omega

end Go.Ab
namespace Go.Proofs.Ytdfeoccjllljiaa
open Go.Ab

theorem _root_.Go.Ab.OE.blocks {L : Nat} {H : Heap} {v : Value} {bs : List Bk} (h : OE 3 L H v (tri bs) bs.length) (hl : bs.length ≤ 140737488355328) : ∃ w, Up H v w ∧ BlocksIn L H.length H w bs := by
  rcases h.2 with ⟨h0, rfl⟩ | ⟨id, h0, h1, rfl, h2⟩ | ⟨id, h1, rfl, h2⟩
  · obtain rfl := List.eq_nil_of_length_eq_zero h0
    exact ⟨_, Up.nil _ 0 0 3, BlocksIn.nil _ _ _⟩
  · obtain rfl := List.eq_nil_of_length_eq_zero h0
    exact ⟨_, Up.ex0 _ _ _ 3 0 0, BlocksIn.nil _ _ _⟩
  · refine ⟨_, Up.refl _ _, id, ⟨rfl, ?_, hl⟩, fun hne => ?_⟩
    · rcases h2 with ⟨h0, _⟩ | h2
      · exact .inl (List.eq_nil_of_length_eq_zero h0)
      · exact .inr h2
    · rcases h2 with ⟨h0, _⟩ | h2
      · exact absurd (List.eq_nil_of_length_eq_zero h0) hne
      · exact ⟨h1, (List.getElem?_eq_some_iff.1 h2).1⟩
theorem _root_.Go.Ab.OE.ints {L : Nat} {H : Heap} {v : Value} {xs : List Int} (h : OE 1 L H v (ints xs) xs.length) (hl : xs.length ≤ 140737488355328) : ∃ w, Up H v w ∧ IntsIn L H.length H w xs := by
  rcases h.2 with ⟨h0, rfl⟩ | ⟨id, h0, h1, rfl, h2⟩ | ⟨id, h1, rfl, h2⟩
  · obtain rfl := List.eq_nil_of_length_eq_zero h0
    exact ⟨_, Up.nil _ 0 0 1, IntsIn.nil _ _ _⟩
  · obtain rfl := List.eq_nil_of_length_eq_zero h0
    exact ⟨_, Up.ex0 _ _ _ 1 0 0, IntsIn.nil _ _ _⟩
  · refine ⟨_, Up.refl _ _, id, ⟨rfl, ?_, hl⟩, fun hne => ?_⟩
    · rcases h2 with ⟨h0, _⟩ | h2
      · exact .inl (List.eq_nil_of_length_eq_zero h0)
      · exact .inr h2
    · rcases h2 with ⟨h0, _⟩ | h2
      · exact absurd (List.eq_nil_of_length_eq_zero h0) hne
      · exact ⟨h1, (List.getElem?_eq_some_iff.1 h2).1⟩

end Go.Proofs.Ytdfeoccjllljiaa
end

section
/- Sets of points by their bits. -/
set_option linter.all false
set_option maxRecDepth 20000
set_option maxHeartbeats 4000000
namespace Go.Proofs.Ytdfeoccjllljiaa
open Go.Ab

/-- The bits of a list of points. -/
def maskL (xs : List Int) : Nat := xs.foldl (fun m x => m ||| 2 ^ x.toNat) 0
def bm (b : Bk) : Nat := maskL [b.a, b.b, b.c]
theorem maskL_snoc (xs : List Int) (x : Int) : maskL (xs ++ [x]) = maskL xs ||| 2 ^ x.toNat := by simp [maskL, List.foldl_append]
theorem or_lt {a b n : Nat} (ha : a < 2 ^ n) (hb : b < 2 ^ n) : a ||| b < 2 ^ n := Nat.or_lt_two_pow ha hb
theorem maskL_lt {xs : List Int} {n : Nat} (h : ∀ x ∈ xs, 0 ≤ x ∧ x < n) : maskL xs < 2 ^ n := by
  have key : ∀ (xs : List Int) (m : Nat), m < 2 ^ n → (∀ x ∈ xs, 0 ≤ x ∧ x < n) → xs.foldl (fun m x => m ||| 2 ^ x.toNat) m < 2 ^ n := by
    intro xs
    induction xs with
    | nil => intro m hm _; exact hm
    | cons x xs ih =>
      intro m hm hx
      have h1 := hx x List.mem_cons_self
      exact ih _ (or_lt hm (Nat.pow_lt_pow_right (by omega) (by omega))) fun y hy => hx y (List.mem_cons_of_mem _ hy)
  exact key xs 0 (Nat.two_pow_pos n) h

theorem or_i64 {a b : Nat} (ha : a < 2 ^ 62) (hb : b < 2 ^ 62) : IntKind.i64.wrap ((BitVec.ofNat 64 a ||| BitVec.ofNat 64 b).toNat : Int) = ((a ||| b : Nat) : Int) := by
  have h3 : a ||| b < 2 ^ 62 := or_lt ha hb
  rw [BitVec.toNat_or, BitVec.toNat_ofNat, BitVec.toNat_ofNat, Nat.mod_eq_of_lt (by omega), Nat.mod_eq_of_lt (by omega)]
  exact i64w (by omega) (by omega)
/-! The same, in the shape that a walk shows. -/
theorem or_i64w {a b : Nat} (ha : a < 2 ^ 62) (hb : b < 2 ^ 62) : IntKind.i64.wrap ((@BitVec.toNat 64 (@HOr.hOr (BitVec 64) (BitVec 64) (BitVec 64) (@instHOrOfOrOp (BitVec IntKind.i64.bits) (@BitVec.instOrOp IntKind.i64.bits)) (BitVec.ofNat 64 a) (BitVec.ofNat 64 b)) : Nat) : Int) = ((a ||| b : Nat) : Int) := or_i64 ha hb
end Go.Proofs.Ytdfeoccjllljiaa
end

section
/- Colourings: the tests on both sides. -/
set_option linter.all false
set_option maxRecDepth 20000
set_option maxHeartbeats 8000000
namespace Go.Proofs.Ytdfeoccjllljiaa
open Go.Ab

/-- Where a list first has such a thing, or -1. -/
def IdxP {α : Type} (xs : List α) (P : α → Bool) (n : Int) : Prop := (n = -1 ∧ ∀ x ∈ xs, P x = false) ∨ ∃ (s : Nat) (x : α), n = s ∧ xs[s]? = some x ∧ P x = true ∧ ∀ y ∈ xs.take s, P y = false
theorem IdxP.pos {α : Type} {xs : List α} {P : α → Bool} {n : Int} (h : IdxP xs P n) : decide (0 ≤ n) = xs.any P := by
  rcases h with ⟨rfl, h⟩ | ⟨s, x, rfl, h, hP, _⟩
  · have : xs.any P = false := by rw [List.any_eq_false]; intro x hx; simp [h x hx]
    rw [this]; rfl
  · have : xs.any P = true := List.any_eq_true.2 ⟨x, List.mem_of_getElem? h, hP⟩
    rw [this]; simp

end Go.Proofs.Ytdfeoccjllljiaa
end

section
/- Independent sets: both sides. -/
set_option linter.all false
set_option maxRecDepth 20000
set_option maxHeartbeats 4000000
namespace Go.Proofs.Ytdfeoccjllljiaa
open Go.Ab

/-- No block lies in the set. -/
def inSet (m : Nat) (b : Bk) : Bool := decide (bm b &&& m = bm b)
def indep (bs : List Bk) (m : Nat) : Bool := bs.all fun b => !inSet m b

end Go.Proofs.Ytdfeoccjllljiaa
end

section
/- Arrays of elements of a fixed number of cells in one block that the call holds alone; swapping two of them. No statement of the seat is proved here; it holds for every program. -/
set_option linter.all false
namespace Go.Ab
open Go.Sort

section
variable {α : Type} {cells : α → List Value} {w : Nat}

theorem flat_len (hc : ∀ x, (cells x).length = w) : ∀ l : List α, (l.flatMap cells).length = l.length * w
  | [] => by simp
  | b :: l => by rw [List.flatMap_cons, List.length_append, flat_len hc l, hc, List.length_cons, Nat.succ_mul, Nat.add_comm]
theorem flat_cut (hc : ∀ x, (cells x).length = w) : ∀ {l : List α} {s : Nat} {b : α}, l[s]? = some b → ((l.flatMap cells).drop (s * w)).take w = cells b
  | [], s, b, h => by simp at h
  | d :: l, 0, b, h => by
    simp at h; subst h
    rw [List.flatMap_cons, Nat.zero_mul, List.drop_zero, List.take_append_of_le_length (by rw [hc]; exact Nat.le_refl _), List.take_of_length_le (by rw [hc]; exact Nat.le_refl _)]
  | d :: l, s + 1, b, h => by
    have ih := flat_cut hc (l := l) (s := s) (b := b) (by simpa using h)
    rw [List.flatMap_cons, show (s + 1) * w = (cells d).length + s * w by rw [hc, Nat.succ_mul, Nat.add_comm], List.drop_append, List.drop_eq_nil_of_le (by omega), List.nil_append, Nat.add_sub_cancel_left]
    exact ih
theorem flat_over (hc : ∀ x, (cells x).length = w) : ∀ {l : List α} {s : Nat} {b : α}, s < l.length → over (l.flatMap cells) (s * w) (cells b) = (l.set s b).flatMap cells
  | [], s, b, h => by simp at h
  | d :: l, 0, b, h => by
    simp only [List.set_cons_zero, List.flatMap_cons, over, Nat.zero_mul, List.take_zero, List.nil_append, Nat.zero_add, hc]
    rw [List.drop_append, List.drop_eq_nil_of_le (by rw [hc]; exact Nat.le_refl _), hc, Nat.sub_self, List.drop_zero, List.nil_append]
  | d :: l, s + 1, b, h => by
    have ih := flat_over hc (l := l) (s := s) (b := b) (by simpa using h)
    simp only [List.set_cons_succ, List.flatMap_cons]
    rw [← ih]
    have e : (s + 1) * w = (cells d).length + s * w := by rw [hc, Nat.succ_mul, Nat.add_comm]
    simp only [over, e]
    rw [List.take_append, List.take_of_length_le (by omega), Nat.add_sub_cancel_left, Nat.add_assoc, List.drop_append, List.drop_eq_nil_of_le (by omega), List.nil_append, Nat.add_sub_cancel_left]
    simp

theorem Same.via {S T : Nat → Prop} {H A B : Heap} (h : Same S H A) (h' : Same T A B) (k : ∀ j, j < H.length → T j → S j) : Same S H B :=
  ⟨Nat.le_trans h.1 h'.1, fun j hj hs => (h'.2 j (Nat.lt_of_lt_of_le hj h.1) fun ht => hs (k j hj ht)).trans (h.2 j hj hs)⟩

/-- The block id holds an array's elements. -/
def Arr (cells : α → List Value) (H : Heap) (id : Nat) (d : Array α) : Prop := H[id]? = some ⟨d.toList.flatMap cells, true, true⟩

theorem Arr.lt {H : Heap} {id : Nat} {d : Array α} (h : Arr cells H id d) : id < H.length := (List.getElem?_eq_some_iff.1 h).1
theorem Arr.pre {H H' : Heap} {id : Nat} {d : Array α} (h : Arr cells H id d) (hp : H <+: H') : Arr cells H' id d := Same.get (S := fun _ => False) (Same.of_prefix hp) h (fun h => h)
theorem Arr.load [Inhabited α] {H : Heap} {id : Nat} {d : Array α} (h : Arr cells H id d) (hc : ∀ x, (cells x).length = w) {i : Nat} (hi : i < d.size) : cellsAt H id (i * w) w = some (cells d[i]!) := by
  have hl : d.toList[i]? = some d[i]! := by rw [Array.getElem?_toList, Array.getElem?_eq_getElem hi, getElem!_pos d i hi]
  have hle : i * w + w ≤ (d.toList.flatMap cells).length := by
    rw [flat_len hc, Array.length_toList, ← Nat.succ_mul]
    exact Nat.mul_le_mul_right w hi
  rw [cellsAt_of h rfl hle, flat_cut hc hl]
theorem Arr.store {H : Heap} {id : Nat} {d : Array α} (h : Arr cells H id d) (hc : ∀ x, (cells x).length = w) (ho : ∀ x, (cells x).all Value.oneCell' = true) {i : Nat} {x : α} (hi : i < d.size) :
    storeAt H id (i * w) (cells x) = some (H.set id ⟨(d.setIfInBounds i x).toList.flatMap cells, true, true⟩) ∧ Arr cells (H.set id ⟨(d.setIfInBounds i x).toList.flatMap cells, true, true⟩) id (d.setIfInBounds i x) := by
  have hle : i * w + w ≤ (d.toList.flatMap cells).length := by
    rw [flat_len hc, Array.length_toList, ← Nat.succ_mul]
    exact Nat.mul_le_mul_right w hi
  refine ⟨?_, List.getElem?_set_self h.lt⟩
  rw [storeAt_of h rfl rfl (by rw [hc]; exact hle) (ho x), flat_over hc (by simpa using hi)]
  simp

theorem same_set {H : Heap} {id : Nat} {b : Blk} : Same (fun j => j = id) H (H.set id b) := ⟨by simp, fun j hj hS => List.getElem?_set_ne (fun e => hS e.symm)⟩
/-- 'data[i], data[j] = data[j], data[i]'. -/
theorem Arr.swap [Inhabited α] {H : Heap} {id : Nat} {d : Array α} (h : Arr cells H id d) (hc : ∀ x, (cells x).length = w) (ho : ∀ x, (cells x).all Value.oneCell' = true) {i j : Nat} (hi : i < d.size) (hj : j < d.size) :
    ∃ H1 H2, storeAt H id (i * w) (cells d[j]!) = some H1 ∧ storeAt H1 id (j * w) (cells d[i]!) = some H2 ∧ Arr cells H2 id (swp d i j) ∧ Same (fun k => k = id) H H2 ∧ H2.length = H.length := by
  obtain ⟨s1, a1⟩ := h.store hc ho (x := d[j]!) hi
  obtain ⟨s2, a2⟩ := a1.store hc ho (x := d[i]!) (i := j) (by simpa using hj)
  exact ⟨_, _, s1, s2, a2, same_set.trans (same_set (id := id)), by simp⟩

/-- Every element is such. -/
def QA (Q : α → Prop) [Inhabited α] (d : Array α) : Prop := ∀ k, k < d.size → Q d[k]!
theorem QA.swp [Inhabited α] {Q : α → Prop} {d : Array α} (h : QA Q d) {i j : Nat} (hi : i < d.size) (hj : j < d.size) : QA Q (swp d i j) := by
  intro k hk
  rw [Go.Sort.swp_size] at hk
  rw [Go.Sort.swp_get d hi hj]
  split
  · exact h _ hi
  · split
    · exact h _ hj
    · exact h _ hk

end

/-- A function value that compares two elements. -/
def Cmp {α : Type} (P : Program) (val : α → Value) (lt : α → α → Bool) (g : FuncId) (fs cs : List Value) (Q : α → Prop) (id : Nat) (H : Heap) : Prop :=
  ∀ (H' : Heap) (x y : α) (Post : Value → Heap → Prop), Same (fun k => k = id) H H' → Q x → Q y →
    (∀ (H'' : Heap) (c : Int), H' <+: H'' → decide (c < 0) = lt x y → Post (.int .i64 c) H'') → ACalls P g (fs ++ val x :: val y :: cs) H' Post
theorem Cmp.keep {α : Type} {P : Program} {val : α → Value} {lt : α → α → Bool} {g : FuncId} {fs cs : List Value} {Q : α → Prop} {id : Nat} {H H' : Heap} (h : Cmp P val lt g fs cs Q id H) (hs : Same (fun k => k = id) H H') : Cmp P val lt g fs cs Q id H' :=
  fun H2 x y Post h2 => h H2 x y Post (hs.trans h2)

end Go.Ab
end

section
/- Numbers in ascending order, the block of three numbers, lists that have the numbers below n once each. Plain Lean. -/
set_option linter.all false
set_option maxRecDepth 20000
namespace Go.Proofs.Ytdfeoccjllljiaa
open Go.Ab Go.Sort

def ltI (x y : Int) : Bool := decide (x < y)
theorem swoI : SWO ltI := by
  refine ⟨fun x => ?_, fun x y z h1 h2 => ?_, fun x y z h1 h2 => ?_⟩ <;> simp only [ltI, decide_eq_true_eq, decide_eq_false_iff_not] at * <;> omega
/-- Ascending, equal numbers side by side. -/
def AscI (l : List Int) : Prop := l.Pairwise (fun x y => ltI y x = false)
theorem AscI.get {l : List Int} (h : AscI l) {i j : Nat} (hi : i < l.length) (hj : j < l.length) (hij : i < j) : l[i] ≤ l[j] := by
  have := List.pairwise_iff_getElem.1 h i j hi hj hij
  simp only [ltI, decide_eq_false_iff_not] at this; omega
/-- The block of three numbers. -/
def blk (a b c : Int) : Bk := ⟨min a (min b c), a + b + c - min a (min b c) - max a (max b c), max a (max b c)⟩
def Bk.list (b : Bk) : List Int := [b.a, b.b, b.c]
/-- A list has the numbers below n, each once. -/
def OrdL (n : Int) (xs : List Int) : Prop := (xs.length : Int) = n ∧ xs.Nodup ∧ ∀ x ∈ xs, 0 ≤ x ∧ x < n
theorem rises_sorted {n : Int} {xs l : List Int} (hp : l.Perm xs) (hs : AscI l) : Rises n l ↔ xs.Nodup ∧ ∀ x ∈ xs, 0 ≤ x ∧ x < n := by
  constructor
  · intro h
    have hlt : ∀ (j : Nat) (hj : j + 1 < l.length), l[j] < l[j + 1] := fun j hj =>
      (h (j + 1) l[j + 1] (List.getElem?_eq_getElem hj)).2 l[j] (by omega) (by simp only [Nat.add_sub_cancel]; exact List.getElem?_eq_getElem (by omega))
    refine ⟨hp.nodup_iff.1 ?_, fun x hx => ?_⟩
    · rw [List.Nodup, List.pairwise_iff_getElem]
      intro i j hi hj hij e
      obtain ⟨k, rfl⟩ : ∃ k, j = k + 1 := ⟨j - 1, by omega⟩
      have h1 := hlt k hj
      by_cases hk : i = k
      · subst hk; omega
      · have h2 := hs.get hi (by omega : k < l.length) (by omega)
        omega
    · obtain ⟨i, hi, rfl⟩ := List.mem_iff_getElem.1 (hp.mem_iff.2 hx)
      exact (h i _ (List.getElem?_eq_getElem hi)).1
  · rintro ⟨h1, h2⟩ a x hx
    obtain ⟨ha, rfl⟩ := List.getElem?_eq_some_iff.1 hx
    refine ⟨h2 _ (hp.mem_iff.1 (List.getElem_mem ha)), fun y hy hxy => ?_⟩
    obtain ⟨hb, rfl⟩ := List.getElem?_eq_some_iff.1 hxy
    have h3 := hs.get hb ha (by omega)
    have h4 := hp.nodup_iff.2 h1
    rw [List.Nodup, List.pairwise_iff_getElem] at h4
    have := h4 (a - 1) a hb ha (by omega)
    omega

theorem perm_of_subset : ∀ {R l : List Int}, R.Nodup → (∀ x ∈ R, x ∈ l) → l.length ≤ R.length → R.Perm l
  | [], l, _, _, hl => by
    have : l = [] := List.eq_nil_of_length_eq_zero (by simpa using hl)
    subst this; exact List.Perm.refl _
  | r :: R, l, hn, hs, hl => by
    have hr : r ∈ l := hs r (by simp)
    have hp := List.perm_cons_erase hr
    have hn' := List.nodup_cons.1 hn
    refine ((perm_of_subset hn'.2 (fun x hx => ?_) ?_).cons r).trans hp.symm
    · exact (List.mem_erase_of_ne (by rintro rfl; exact hn'.1 hx)).2 (hs x (by simp [hx]))
    · rw [List.length_erase_of_mem hr]; simp at hl; omega
def upI (n : Nat) : List Int := (List.range n).map fun k : Nat => (k : Int)
theorem mem_upI {n : Nat} {x : Int} : x ∈ upI n ↔ 0 ≤ x ∧ x < n := by
  simp only [upI, List.mem_map, List.mem_range]
  constructor
  · rintro ⟨k, hk, rfl⟩; omega
  · intro h; exact ⟨x.toNat, by omega, by omega⟩
theorem upI_nodup (n : Nat) : (upI n).Nodup := by
  rw [upI, List.Nodup, List.pairwise_map]
  exact (List.nodup_range (n := n)).imp (by intro a b h; omega)
theorem upI_length (n : Nat) : (upI n).length = n := by simp [upI]
theorem ordL_iff {n : Nat} {xs : List Int} (hl : xs.length = n) (hin : ∀ x ∈ xs, 0 ≤ x ∧ x < n) : OrdL n xs ↔ ∀ j : Nat, j < n → (j : Int) ∈ xs := by
  constructor
  · rintro ⟨_, h, _⟩ j hj
    exact (perm_of_subset h (fun x hx => mem_upI.2 (hin x hx)) (by rw [upI_length, hl]; exact Nat.le_refl _)).mem_iff.2 (mem_upI.2 (by omega))
  · intro h
    have hp := perm_of_subset (l := xs) (upI_nodup n) (fun x hx => by
      have := mem_upI.1 hx
      have := h x.toNat (by omega)
      rwa [show ((x.toNat : Nat) : Int) = x by omega] at this) (by rw [upI_length, hl]; exact Nat.le_refl _)
    exact ⟨by omega, hp.nodup_iff.1 (upI_nodup n), hin⟩
theorem maskF_bit : ∀ (xs : List Int) (m j : Nat), (∀ x ∈ xs, 0 ≤ x) → ((xs.foldl (fun m x => m ||| 2 ^ x.toNat) m).testBit j = true ↔ m.testBit j = true ∨ (j : Int) ∈ xs)
  | [], m, j, _ => by simp
  | x :: xs, m, j, h => by
    rw [List.foldl_cons, maskF_bit xs _ j (fun y hy => h y (by simp [hy])), Nat.testBit_or, Nat.testBit_two_pow]
    have h0 := h x (by simp)
    have e : (x.toNat = j) ↔ ((j : Int) = x) := by omega
    simp only [Bool.or_eq_true, decide_eq_true_eq, List.mem_cons, e, or_assoc]
theorem maskL_bit {xs : List Int} (h : ∀ x ∈ xs, 0 ≤ x) (j : Nat) : (maskL xs).testBit j = true ↔ (j : Int) ∈ xs := by
  unfold maskL
  rw [maskF_bit xs 0 j h]; simp
theorem maskL_full {n : Nat} {xs : List Int} (hin : ∀ x ∈ xs, 0 ≤ x ∧ x < n) : maskL xs = 2 ^ n - 1 ↔ ∀ j : Nat, j < n → (j : Int) ∈ xs := by
  constructor
  · intro h j hj
    rw [← maskL_bit (fun x hx => (hin x hx).1), h, Nat.testBit_two_pow_sub_one]
    exact decide_eq_true hj
  · intro h
    apply Nat.eq_of_testBit_eq
    intro j
    rw [Nat.testBit_two_pow_sub_one, Bool.eq_iff_iff, maskL_bit (fun x hx => (hin x hx).1), decide_eq_true_eq]
    exact ⟨fun hj => by have := hin _ hj; omega, h j⟩

end Go.Proofs.Ytdfeoccjllljiaa
end

section
/- Squares: rows and columns have the numbers below n, each once. Plain Lean. -/
set_option linter.all false
set_option maxRecDepth 20000
namespace Go.Proofs.Ytdfeoccjllljiaa
open Go.Ab Go.Sort

/-- The number at a place of a list (0 behind its end). -/
def nthN (xs : List Int) (k : Nat) : Int := xs.getD k 0
theorem nthN_in {xs : List Int} {k : Nat} (h : k < xs.length) : xs[k]? = some (nthN xs k) := by
  rw [nthN, List.getD_eq_getElem?_getD, List.getElem?_eq_getElem h]; rfl
def rowN (sq : List (List Int)) (x : Nat) : List Int := sq.getD x []
theorem rowN_in {sq : List (List Int)} {x : Nat} (h : x < sq.length) : sq[x]? = some (rowN sq x) := by
  rw [rowN, List.getD_eq_getElem?_getD, List.getElem?_eq_getElem h]; rfl
theorem rowN_mem {sq : List (List Int)} {x : Nat} (h : x < sq.length) : rowN sq x ∈ sq := List.mem_of_getElem? (rowN_in h)
/-- The entry at x, y. -/
def atN (sq : List (List Int)) (x y : Nat) : Int := nthN (rowN sq x) y
def colN (sq : List (List Int)) (k : Nat) : List Int := sq.map fun r => nthN r k
theorem colN_length (sq : List (List Int)) (k : Nat) : (colN sq k).length = sq.length := by simp [colN]
theorem colN_get {sq : List (List Int)} {k y : Nat} (h : y < sq.length) : (colN sq k)[y]? = some (atN sq y k) := by
  simp only [colN, List.getElem?_map, rowN_in h, Option.map_some]; rfl
def IsSq (sq : List (List Int)) : Prop := (2 ≤ sq.length ∧ sq.length ≤ 5) ∧ (∀ x, x < sq.length → OrdL sq.length (rowN sq x)) ∧ ∀ k, k < sq.length → OrdL sq.length (colN sq k)
open Classical in
noncomputable def sqB (sq : List (List Int)) : Bool := decide (IsSq sq)
theorem sqB_iff {sq : List (List Int)} : sqB sq = true ↔ IsSq sq := by simp [sqB]
theorem sqB_no {sq : List (List Int)} (h : ¬ IsSq sq) : sqB sq = false := by simp [sqB, h]
theorem sqB_yes {sq : List (List Int)} (h : IsSq sq) : sqB sq = true := by simp [sqB, h]
open Classical in
noncomputable def ordB (n : Int) (xs : List Int) : Bool := decide (OrdL n xs)
theorem ordB_iff {n : Int} {xs : List Int} : ordB n xs = true ↔ OrdL n xs := by simp [ordB]
theorem ordB_eq {n : Int} {xs : List Int} {b : Bool} (h : b = true ↔ OrdL n xs) : b = ordB n xs := by
  rw [← ordB_iff] at h
  cases b <;> cases ho : ordB n xs <;> simp_all
theorem rows_all {sq : List (List Int)} {P : List Int → Prop} : (∀ r ∈ sq, P r) ↔ ∀ x, x < sq.length → P (rowN sq x) := by
  constructor
  · intro h x hx; exact h _ (rowN_mem hx)
  · intro h r hr
    obtain ⟨x, hx⟩ := List.mem_iff_getElem?.1 hr
    have hlt := (List.getElem?_eq_some_iff.1 hx).1
    have := rowN_in hlt
    rw [hx] at this
    cases this
    exact h x hlt
theorem ordL_in {n : Nat} {xs : List Int} (h : OrdL n xs) {y : Nat} (hy : y < n) : 0 ≤ nthN xs y ∧ nthN xs y < n := by
  have hl : xs.length = n := by have := h.1; omega
  exact h.2.2 _ (List.mem_of_getElem? (nthN_in (by omega)))
/-- A list of n numbers below n has each of them if its mask is full. -/
theorem ordL_mask {n : Nat} {xs : List Int} (hl : xs.length = n) (hin : ∀ x ∈ xs, 0 ≤ x ∧ x < n) : OrdL n xs ↔ maskL xs = 2 ^ n - 1 := by
  rw [ordL_iff hl hin, maskL_full hin]
theorem take_in {xs : List Int} {n y : Nat} (h : ∀ j, j < y → 0 ≤ nthN xs j ∧ nthN xs j < n) : ∀ x ∈ xs.take y, 0 ≤ x ∧ x < n := by
  intro x hx
  obtain ⟨j, hj⟩ := List.mem_iff_getElem?.1 hx
  have hlt := (List.getElem?_eq_some_iff.1 hj).1
  rw [List.length_take] at hlt
  rw [List.getElem?_take, if_pos (by omega), nthN_in (by omega)] at hj
  cases hj
  exact h j (by omega)
theorem mask_step {xs : List Int} {y : Nat} (hy : y < xs.length) : maskL (xs.take (y + 1)) = maskL (xs.take y) ||| 2 ^ (nthN xs y).toNat := by
  have e := nthN_in hy
  rw [List.getElem?_eq_getElem hy] at e
  rw [List.take_succ_eq_append_getElem hy, maskL_snoc, Option.some.inj e]

end Go.Proofs.Ytdfeoccjllljiaa
end

section
/- slices.Collect over slices.Values at numbers: a new list that holds the same numbers, and nothing that lay has turned. -/
set_option linter.all false
namespace Go.Proofs.Ytdfeoccjllljiaa
open Go.RowKit Go.Shelf

attribute [local go_sem] Oper.semAt_some

def iupto {α : Type} (f : Nat → α) (k : Nat) : List α := (List.range k).map f
theorem iupto_succ {α : Type} (f : Nat → α) (k : Nat) : iupto f (k + 1) = iupto f k ++ [f k] := by simp [iupto, List.range_succ]
theorem iupto_length {α : Type} (f : Nat → α) (k : Nat) : (iupto f k).length = k := by simp [iupto]
theorem iupto_all (zs : List Int) : iupto (fun j => zs[j]?.getD 0) zs.length = zs := by
  apply List.ext_getElem
  · simp [iupto]
  · intro i h1 h2
    simp [iupto, h2]
theorem iupto_take (zs : List Int) {k : Nat} (hk : k ≤ zs.length) : iupto (fun j => zs[j]?.getD 0) k = zs.take k := by
  apply List.ext_getElem
  · simp [iupto, hk]
  · intro i h1 h2
    have : i < zs.length := by simp [iupto] at h1; omega
    simp [iupto, this]

set_option maxRecDepth 100000 in
set_option maxHeartbeats 2000000 in
theorem values1_in (F : Fence) (n : Nat) (h7 : F.fn 179) (hro : F.round = none) (hn : 1 ≤ n) (l Bs bo n₀ b off len cap : Nat) (zs : List Int) (hreach : len * 8 ≤ 140737488351232) (hb : b < n₀) (J Jx : List Int → World → Prop)
    (hY : ∀ pre x W, J pre W → pre.length < len → YieldAt F (n - 1) Try.prog l #[.int .i64 x] W fun e W' =>
      (e = .returned (.bool true) ∧ J (pre ++ [x]) W' ∧ Below n₀ W W') ∨ (e = .returned (.bool false) ∧ Jx (pre ++ [x]) W'))
    (W : World) (hBs : W.cell? ⟨Bs, bo, none⟩ = some (.slice (some ⟨b, off, none⟩) len cap)) (hc : ∀ j, j < len → W.cell? ⟨b, off + j, none⟩ = some (.int .i64 (zs[j]?.getD 0))) (h0 : J [] W) :
    CallsIn F n Try.prog 179 #[.func (.yield l) #[] #[], .pointer (some ⟨Bs, bo, none⟩)] W fun e W' => (∃ v, e = .returned v) ∧
      ((∃ ys, ys = iupto (fun j => zs[j]?.getD 0) len ∧ J ys W') ∨ (∃ pre, (∃ k, k ≤ len ∧ pre = iupto (fun j => zs[j]?.getD 0) k) ∧ Jx pre W')) := by
  refine callsIn_of_wp Try.func179 rfl h7 ?_ hro
  simp only [Try.ntmps179, List.size_toArray, List.length_cons, List.length_nil, Nat.reduceAdd, Nat.reduceSub, Array.replicate_succ, Array.replicate_zero, List.push_toArray, List.append_toArray, List.nil_append, List.cons_append]
  gi_wp2
  gi_loopw [7] (fun i wr => ∃ k : Nat, k ≤ len ∧ i = .int .i64 k ∧ J (iupto (fun j => zs[j]?.getD 0) k) wr ∧ Below n₀ W wr)
    (fun i _ => len - (intOf i).toNat)
  case atStart => exact ⟨0, Nat.zero_le _, rfl, h0, Below.refl _ _⟩
  case round =>
    obtain ⟨k, hk, rfl, hJs, hnx⟩ := hrel
    have hcx : k < len → wr.cell? ⟨b, off + k, none⟩ = some (.int .i64 (zs[k]?.getD 0)) := fun h => (hnx.cell (p := ⟨b, off + k, none⟩) hb).trans (hc k h)
    by_cases hlt : k < len
    · obtain ⟨fn, tmps, assign, body, hy, hR⟩ := hY _ (zs[k]?.getD 0) wr hJs (by rw [iupto_length]; exact hlt)
      have hcx' := hcx hlt
      gi_wp2
      refine hR.mono ?_
      rintro e W3 (⟨rfl, hJ3, hk3⟩ | ⟨rfl, hJx3⟩)
      · gi_wp2
        go_roundw
        case rel => exact ⟨k + 1, by omega, by simp, by rw [iupto_succ]; exact hJ3, hnx.trans hk3⟩
        case measure => simp [intOf]; omega
      · gi_wp2
        refine bodyPost_ret (results_none rfl _ _ _) rfl ?_
        exact ⟨⟨_, rfl⟩, .inr ⟨_, ⟨k + 1, by omega, (iupto_succ _ _).symm⟩, hJx3⟩⟩
    · obtain rfl : k = len := by omega
      gi_wp2
      go_end0
      exact ⟨⟨_, rfl⟩, .inl ⟨_, rfl, hJs⟩⟩

/-- The slice value sv holds the numbers zs, in a block below n₀; or it has no element. -/
def IIn (n₀ : Nat) (W : World) (sv : Value) (zs : List Int) : Prop :=
  (∃ a cap, sv = .slice a 0 cap ∧ zs = []) ∨ ∃ b off cap, sv = .slice (some ⟨b, off, none⟩) zs.length cap ∧ b < n₀ ∧ ∀ j, j < zs.length → W.cell? ⟨b, off + j, none⟩ = some (.int .i64 (zs[j]?.getD 0))
theorem IIn.below {n₀ : Nat} {A B : World} (h : Below n₀ A B) {sv : Value} {zs : List Int} : IIn n₀ A sv zs → IIn n₀ B sv zs
  | .inl e => .inl e
  | .inr ⟨b, off, cap, e, hb, hc⟩ => .inr ⟨b, off, cap, e, hb, fun j hj => (h.cell (p := ⟨b, off + j, none⟩) hb).trans (hc j hj)⟩

set_option maxRecDepth 100000 in
set_option maxHeartbeats 1000000 in
theorem values1_nil_in (F : Fence) (n : Nat) (h7 : F.fn 179) (hro : F.round = none) (l Bs bo cap : Nat) (a : Option Addr) (J : List Int → World → Prop) (W : World) (hBs : W.cell? ⟨Bs, bo, none⟩ = some (.slice a 0 cap)) (h0 : J [] W) :
    CallsIn F n Try.prog 179 #[.func (.yield l) #[] #[], .pointer (some ⟨Bs, bo, none⟩)] W fun e W' => (∃ v, e = .returned v) ∧ J [] W' := by
  refine callsIn_of_wp Try.func179 rfl h7 ?_ hro
  simp only [Try.ntmps179, List.size_toArray, List.length_cons, List.length_nil, Nat.reduceAdd, Nat.reduceSub, Array.replicate_succ, Array.replicate_zero, List.push_toArray, List.append_toArray, List.nil_append, List.cons_append]
  gi_wp2
  gi_loopw [7] (fun i wr => i = .int .i64 0 ∧ J [] wr) (fun _ _ => 0)
  case atStart => exact ⟨rfl, h0⟩
  case round =>
    obtain ⟨rfl, hJs⟩ := hrel
    gi_wp2
    go_end0
    exact ⟨⟨_, rfl⟩, hJs⟩

theorem values_stops (F : Fence) (n : Nat) (h7 : F.fn 179) (hro : F.round = none) (hn : 1 ≤ n) (Bs bo n₀ : Nat) (sv : Value) (zs : List Int) (hreach : zs.length * 8 ≤ 140737488351232) (w : World) (hBs : Bs < w.heap.size) (hn₀ : n₀ ≤ w.heap.size)
    (hc : w.cell? ⟨Bs, bo, none⟩ = some sv) (hI : IIn n₀ w sv zs) :
    SeqStopsK F n Try.prog 179 #[.pointer (some ⟨Bs, bo, none⟩)] (fun x : Int => #[Value.int .i64 x]) (Below n₀) (fun ys => ys = zs) (fun pre => pre <+: zs) zs.length w := fun l J Jx W hW _ _ hY h0 => by
  have hc' := (hW.cell (p := ⟨Bs, bo, none⟩) hBs).trans hc
  rcases hI.below (hW.mono hn₀) with ⟨a, cap, rfl, rfl⟩ | ⟨b, off, cap, rfl, hb, hcs⟩
  · exact (values1_nil_in F n h7 hro l Bs bo cap a J W hc' h0).mono fun e W' ⟨he, hj⟩ => ⟨he, .inl ⟨_, rfl, hj⟩⟩
  · refine (values1_in F n h7 hro hn l Bs bo n₀ b off zs.length cap zs hreach hb J Jx hY W hc' hcs h0).mono ?_
    rintro e W' ⟨he, ⟨ys, rfl, hj⟩ | ⟨pre, ⟨k, hk, rfl⟩, hj⟩⟩
    · exact ⟨he, .inl ⟨_, iupto_all zs, hj⟩⟩
    · exact ⟨he, .inr ⟨_, by rw [iupto_take zs hk]; exact List.take_prefix _ _, hj⟩⟩

theorem infoInt64 : (Try.prog.info? 2).map (fun i => (i.zero, i.size, i.bytes)) = some (some (.int .i64 0), 1, 8) := by kernel_rfl

set_option maxRecDepth 100000 in
set_option maxHeartbeats 2000000 in
theorem appendVals_in (F : Fence) (n : Nat) (h3 : F.fn 189) (h7 : F.fn 179) (hro : F.round = none) (hn : 3 ≤ n) (Bs bo : Nat) (sv : Value) (zs : List Int) (hlen : zs.length ≤ maxLen) (hreach : zs.length * 8 ≤ 140737488351232) (w : World)
    (hBs : Bs < w.heap.size) (hc0 : w.cell? ⟨Bs, bo, none⟩ = some sv) (hI : IIn w.heap.size w sv zs) :
    CallsIn F n Try.prog 189 #[.slice none 0 0, .func (.func 179) #[] #[.pointer (some ⟨Bs, bo, none⟩)]] w fun e W' =>
      ∃ v, e = .returned v ∧ W'.ownsRow w.heap.size 2 1 v zs.length (zs.map (Value.int .i64)) ∧ (v = .slice none 0 0 ↔ zs = []) ∧ Below w.heap.size w W' := by
  have h1 : 1 ≤ n := by omega
  obtain ⟨i0, hi, hz0, hz1, hz2⟩ := info_parts infoInt64
  refine callsIn_of_wp_marks Try.func189 rfl h3 ?_ hro
  simp only [Try.ntmps189, List.size_toArray, List.length_cons, List.length_nil, Nat.reduceAdd, Nat.reduceSub, Array.replicate_succ, Array.replicate_zero, List.push_toArray, List.append_toArray, List.nil_append, List.cons_append]
  gi_wp2
  have bO := Boxed.new w 56 (.slice none 0 0)
  have hB0 : Below w.heap.size w (w.alloc (.cells #[.slice none 0 0] 56)) := (Below.refl _ w).alloc (Nat.le_refl _) _
  refine wpIn_rangeFunc_ownG hro h1 (gf := 179) (lb := #[.pointer (some ⟨Bs, bo, none⟩)]) rfl h7 (enters_of Try.func179 (by kernel_rfl) rfl)
    (values_stops F (n - 1) h7 hro (by omega) Bs bo w.heap.size sv zs hreach (w.alloc (.cells #[.slice none 0 0] 56)) (by simp; omega) (by simp) ((hB0.cell (p := ⟨Bs, bo, none⟩) hBs).trans hc0) (hI.below hB0)) belowK_t (belowK_b (by simp)) (Below.refl _ _) (fun _ => rfl)
    (fun pre W => (∃ v, Boxed W w.heap.size 56 v ∧ W.ownsRow w.heap.size 2 1 v pre.length (pre.map (Value.int .i64)) ∧ (v = .slice none 0 0 ↔ pre = [])) ∧ Below w.heap.size w W)
    (fun _ _ _ => False)
    (OwnFrom.and (Own.from (holdsRow_own w.heap.size w.heap.size 56 2 1 (fun pre => pre.length) (fun pre => pre.map (Value.int .i64)) (fun pre v => v = .slice none 0 0 ↔ pre = [])) _) (ownFrom_below (Nat.le_refl _) (by simp)))
    (fun _ _ _ _ _ hs _ _ => hs)
    ⟨⟨_, bO, World.ownsRow_nil _ _ _ _, by simp⟩, hB0⟩
    (fun x => { tmps := #[.slice none 0 0, .func (.func 179) #[] #[.pointer (some ⟨Bs, bo, none⟩)], .pointer (some ⟨w.heap.size, 0, none⟩), undef, .slice none 0 0, .int .i64 x, .func (.func 179) #[] #[.pointer (some ⟨Bs, bo, none⟩)], .int .i64 x, undef, undef, undef, undef, undef], defers := [] }) ?assign ?body ?done ?stop
  case assign =>
    intro l x W K hK
    gi_wp2
    exact hK
  case body =>
    rintro l pre x W ⟨⟨v, hv, hrow, hnil⟩, hB⟩ hlt
    have hc := hv.cell
    gi_wp2_with (gi_at_builtin; refine wpListIn_append_own _ rfl _ _ 56 rfl w.heap.size 2 i0 (.int .i64 0) 1 8 Try.underlying56 hi hz0 hz1 hz2 rfl (by decide) _ _ _ rfl (hrow.alloc _) ⟨W.heap.size, 0, none⟩ 1 1 [.int .i64 x] rfl rfl (cell_one_new _ _ _) (by simp [Value.oneCell']) (by omega) (by omega) (by have := hB.size; simp; omega) ?_; intro v' w1 hown' hgrow _; obtain ⟨g', cap', rfl⟩ := ownsRow_succ hown'; obtain ⟨hv1, hv2, hr2, hk2, hb2⟩ := hv.appended (by decide) hrow hB.size (Nat.le_refl _) hown' hgrow; have hc1 := hv1.cell; have hf1 := hv1.frozen)
    exact ⟨hk2.from _, hb2, ⟨_, hv2, by simpa using hr2, by simp⟩, hB.trans hb2⟩
  case done =>
    rintro D ys W hD rfl ⟨⟨v, hv, hrow, hnil⟩, hB⟩ hK
    have hc := hv.cell
    gi_wp2
    refine ⟨by simp, .inl ⟨_, _, rfl, run_takeDeferred hK, ?_⟩⟩
    exact ⟨_, results_tmp rfl _ _ _, v, rfl, ownsRow_putObj hrow _ hK rfl, hnil, hB.trans (belowK_b (w := w) (Nat.le_refl _) W D _ _ (by simp at hD; omega) hK rfl rfl)⟩
  case stop =>
    rintro D c pre W _ _ h _
    exact h.elim

set_option maxHeartbeats 1000000 in
theorem collectVals_in (F : Fence) (n : Nat) (h8 : F.fn 178) (h3 : F.fn 189) (h7 : F.fn 179) (hro : F.round = none) (hn : 4 ≤ n) (Bs bo : Nat) (sv : Value) (zs : List Int) (hlen : zs.length ≤ maxLen) (hreach : zs.length * 8 ≤ 140737488351232) (w : World)
    (hBs : Bs < w.heap.size) (hc0 : w.cell? ⟨Bs, bo, none⟩ = some sv) (hI : IIn w.heap.size w sv zs) :
    CallsIn F n Try.prog 178 #[.func (.func 179) #[] #[.pointer (some ⟨Bs, bo, none⟩)]] w fun e W' =>
      ∃ v, e = .returned v ∧ W'.ownsRow w.heap.size 2 1 v zs.length (zs.map (Value.int .i64)) ∧ (v = .slice none 0 0 ↔ zs = []) ∧ Below w.heap.size w W' := by
  have h1 : 1 ≤ n := by omega
  refine callsIn_of_wp Try.func178 rfl h8 ?_ hro
  simp only [Try.ntmps178, List.size_toArray, List.length_cons, List.length_nil, Nat.reduceAdd, Nat.reduceSub, Array.replicate_succ, Array.replicate_zero, List.push_toArray, List.append_toArray, List.nil_append, List.cons_append]
  gi_wp2_with (gi_at_call 189; refine (appendVals_in F (n - 1) h3 h7 hro (by omega) Bs bo sv zs hlen hreach _ hBs hc0 hI).mono ?_; rintro e w' ⟨v, rfl, hrow, hnil, hb⟩)
  go_ret
  exact ⟨v, rfl, hrow, hnil, hb⟩

theorem collectVals (Bs bo : Nat) (sv : Value) (zs : List Int) (hlen : zs.length ≤ maxLen) (hreach : zs.length * 8 ≤ 140737488351232) (w : World)
    (hBs : Bs < w.heap.size) (hc0 : w.cell? ⟨Bs, bo, none⟩ = some sv) (hI : IIn w.heap.size w sv zs) :
    Calls Try.prog 178 #[.func (.func 179) #[] #[.pointer (some ⟨Bs, bo, none⟩)]] w fun e W' =>
      ∃ v, e = .returned v ∧ W'.ownsRow w.heap.size 2 1 v zs.length (zs.map (Value.int .i64)) ∧ (v = .slice none 0 0 ↔ zs = []) ∧ Below w.heap.size w W' :=
  callsIn_wide.1 (collectVals_in Fence.wide 4 trivial trivial trivial rfl (Nat.le_refl _) Bs bo sv zs hlen hreach w hBs hc0 hI)

end Go.Proofs.Ytdfeoccjllljiaa
end

section
/- The kinds of elements that are sorted. No statement of the seat is proved here. -/
set_option linter.all false
namespace Go.Ab
open Go.Sort

instance : Inhabited Bk := ⟨⟨0, 0, 0⟩⟩
def cellsI (x : Int) : List Value := [.int .i64 x]
theorem cellsI_len (x : Int) : (cellsI x).length = 1 := rfl
theorem cellsI_one (x : Int) : (cellsI x).all Value.oneCell' = true := by simp [cellsI, Value.oneCell']

/-- A list of numbers by its place. -/
structure Row where
  id : Nat
  o : Nat
  xs : List Int
instance : Inhabited Row := ⟨⟨0, 0, []⟩⟩
def Row.val (r : Row) : Value := lv 1 r.id r.o r.xs.length
def Row.cells (r : Row) : List Value := [r.val]
end Go.Ab
end

section
/- cmp.Less on numbers. -/
set_option linter.all false
set_option maxRecDepth 20000
set_option maxHeartbeats 4000000
namespace Go.Proofs.Ytdfeoccjllljiaa
open Go.Ab Go.Sort

/-- cmp.Less compares two numbers. -/
def CmpO (lt : Int → Int → Bool) (Q : Int → Prop) (id : Nat) (H : Heap) : Prop :=
  ∀ (H' : Heap) (x y : Int) (Post : Value → Heap → Prop), Same (fun k => k = id) H H' → Q x → Q y →
    (∀ (H'' : Heap) (c : Bool), H' <+: H'' → c = lt x y → Post (.bool c) H'') → ACalls Try.prog 196 [.int .i64 x, .int .i64 y] H' Post
theorem CmpO.keep {lt : Int → Int → Bool} {Q : Int → Prop} {id : Nat} {H H' : Heap} (h : CmpO lt Q id H) (hs : Same (fun k => k = id) H H') : CmpO lt Q id H' :=
  fun H2 x y Post h2 => h H2 x y Post (hs.trans h2)
theorem isNaNO_ok {H : Heap} {x : Int} (Post : Value → Heap → Prop) (h : Post (.bool false) H) : ACalls Try.prog 188 [.int .i64 x] H Post := by
  refine acalls_vc (rs := [.tmp 2]) Try.func188 rfl rfl Try.ntmps188 rfl rfl ?_
  simp (maxSteps := 1000000) [go_sem]
  exact h
theorem cmpLess_ok {H : Heap} {x y : Int} (Post : Value → Heap → Prop) (h : Post (.bool (decide (x < y))) H) : ACalls Try.prog 196 [.int .i64 x, .int .i64 y] H Post := by
  refine acalls_vc (rs := [.tmp 4]) Try.func196 rfl rfl Try.ntmps196 rfl rfl ?_
  simp (maxSteps := 1000000) [go_sem]
  refine isNaNO_ok _ ?_
  simp (maxSteps := 1000000) [go_sem, undef]
  exact h

end Go.Proofs.Ytdfeoccjllljiaa
end

section
/- Sorting by a function: insertion sort. -/
set_option linter.all false
set_option maxRecDepth 20000
set_option maxHeartbeats 4000000
namespace Go.Proofs.Ytdfeoccjllljiaa
open Go.Ab Go.Sort

theorem insO_ok {H : Heap} {id a b n : Nat} {d : Array Int} {lt : Int → Int → Bool} {Q : Int → Prop} (hA : Arr cellsI H id d) (hn : d.size = n) (hl : n ≤ 1048576) (hab : a ≤ b) (hb : b ≤ n) (hQ : QA Q d)
    (hC : CmpO lt Q id H) (Post : Value → Heap → Prop) (h : ∀ H', Same (fun k => k = id) H H' → Arr cellsI H' id (insertionSort lt d a b) → Post (.tuple #[]) H') :
    ACalls Try.prog 190 [lv 1 id 0 n, .int .i64 a, .int .i64 b] H Post := by
  refine acalls_vc (rs := []) Try.func190 rfl rfl Try.ntmps190 rfl rfl ?_
  have w0 : IntKind.i64.wrap ((a : Int) + 1) = (a : Int) + 1 := i64w (by omega) (by omega)
  simp (maxSteps := 1000000) [go_sem, w0]
  refine AWp.loopVc (St := Nat × Array Int) (fun s => [(0, lv 1 id 0 n), (1, .int .i64 a), (2, .int .i64 b), (6, .int .i64 s.1)])
    (fun s H' => a + 1 ≤ s.1 ∧ s.1 ≤ n + 1 ∧ s.2.size = n ∧ QA Q s.2 ∧ Same (fun k => k = id) H H' ∧ Arr cellsI H' id s.2 ∧ insOuter lt a b s.1 s.2 = insertionSort lt d a b) (fun s => n + 1 - s.1) (a + 1, d) ?_ ?_ ?_
  · simp [upF, Fr.get, Up.refl]
  · exact ⟨Nat.le_refl _, by simp only; omega, hn, hQ, Same.refl _ _, hA, rfl⟩
  · rintro K ⟨i, d1⟩ H' ⟨hai, hin, hsz, hQ1, hS, hA1, hO⟩ hK
    simp only at hai hin hsz hQ1 hS hA1 hO
    rw [insOuter] at hO
    by_cases hlt : i < b
    · rw [if_pos hlt] at hO
      have hw_i : IntKind.i64.wrap ((i : Int) + 1) = (i : Int) + 1 := i64w (by omega) (by omega)
      simp (maxSteps := 1000000) [go_sem, hlt]
      refine AWp.loopVc (St := Nat × Array Int) (fun s => [(0, lv 1 id 0 n), (1, .int .i64 a), (2, .int .i64 b), (6, .int .i64 i), (7, .int .i64 s.1)])
        (fun s H2 => a ≤ s.1 ∧ s.1 ≤ i ∧ s.2.size = n ∧ QA Q s.2 ∧ Same (fun k => k = id) H H2 ∧ Arr cellsI H2 id s.2 ∧ insInner lt a s.1 s.2 = insInner lt a i d1) (fun s => s.1) (i, d1) ?_ ?_ ?_
      · simp [upF, Fr.get, Up.refl]
      · exact ⟨by simp only; omega, Nat.le_refl _, hsz, hQ1, hS, hA1, rfl⟩
      · rintro K2 ⟨j, d2⟩ H2 ⟨haj, hji, hsz2, hQ2, hS2, hA2, hI⟩ hK2
        simp only at haj hji hsz2 hQ2 hS2 hA2 hI
        by_cases hja : a < j
        · obtain ⟨r, rfl⟩ : ∃ r, j = r + 1 := ⟨j - 1, by omega⟩
          have hr1 : r + 1 < d2.size := by omega
          have hr0 : r < d2.size := by omega
          have c1 := hA2.load cellsI_len hr1
          have c0 := hA2.load cellsI_len hr0
          have q1 := hQ2 _ hr1
          have q0 := hQ2 _ hr0
          rw [insInner] at hI
          obtain ⟨x, hx⟩ : ∃ x, x = d2[r + 1]! := ⟨_, rfl⟩
          obtain ⟨y, hy⟩ : ∃ y, y = d2[r]! := ⟨_, rfl⟩
          rw [← hx] at c1 q1 hI
          rw [← hy] at c0 q0 hI
          have e1 : decide (r + 1 > a) = true := decide_eq_true hja
          rw [e1, Bool.true_and] at hI
          simp only [cellsI, Nat.mul_one, Row.val] at c1 c0
          have n1 : r + 1 < n := by omega
          have n0 : r < n := by omega
          have m1 : (r : Int) + 1 < n := by omega
          have m0 : (r : Int) < n := by omega
          have z1 : (0 : Int) ≤ (r : Int) + 1 := by omega
          have hwr : IntKind.i64.wrap (r : Int) = (r : Int) := i64w (by omega) (by omega)
          have ja : (a : Int) < (r : Int) + 1 := by omega
          refine AWp.draw mixed [(0, false), (1, false), (2, false), (3, false), (4, false), (5, false), (6, false), (7, false), (8, false), (9, false), (10, false), (11, false), (12, false), (13, false), (14, false)] (by kernel_rfl) ?_
          simp (maxSteps := 1000000) [go_sem, hja, ja, c1, c0, n1, n0, m1, m0, z1, hwr]
          refine hC H2 x y _ hS2 q1 q0 ?_
          intro H3 c hp3 hc
          have hS3 := hS2.via (Same.of_prefix (S := fun _ => False) hp3) (fun _ _ h => h.elim)
          have hA3 := hA2.pre hp3
          cases hxy : lt x y with
          | false =>
            rw [hxy] at hc hI
            have hc0 := hc
            simp (maxSteps := 1000000) [go_sem, hc, hc0, hw_i]
            exact hK (i + 1, d2) _ _ (by simp only; omega) (by simp [upF, Fr.get, Up.refl]) ⟨by simp only; omega, by simp only; omega, hsz2, hQ2, hS3, hA3, by simp only; rw [← hO, ← hI]; simp⟩
          | true =>
            rw [hxy] at hc hI
            have hc0 := hc
            have c1 := hA3.load cellsI_len hr1
            have c0 := hA3.load cellsI_len hr0
            obtain ⟨H4, H5, s1, s0, hA5, hS5, hl5⟩ := hA3.swap cellsI_len cellsI_one hr1 hr0
            rw [← hx] at c1 s0
            rw [← hy] at c0 s1
            simp only [cellsI, Nat.mul_one, Row.val] at c1 c0 s1 s0
            simp (maxSteps := 1000000) [go_sem, hc, hc0]
            refine AWp.draw mixed [(0, false), (1, false), (2, false), (3, false), (4, false), (5, false), (6, false), (7, false), (8, false), (9, false), (10, false), (11, false), (12, false), (13, false), (14, false), (15, false), (16, false), (17, false)] (by kernel_rfl) ?_
            simp (maxSteps := 1000000) [go_sem, c1, c0, n1, n0, m1, m0, z1, hwr, s1, s0]
            exact hK2 (r, swp d2 (r + 1) r) _ _ (by simp only; omega) (by simp [upF, Fr.get, Up.refl]) ⟨by simp only; omega, by simp only; omega, by rw [size_swp]; exact hsz2, hQ2.swp hr1 hr0, hS3.trans hS5, hA5, by simp only; rw [← hI]; simp⟩
        · have hja' : j = a := by omega
          subst hja'
          have e : insInner lt j j d2 = d2 := by
            cases j with
            | zero => rfl
            | succ r => rw [insInner]; simp
          refine AWp.draw mixed [(0, false), (1, false), (2, false), (3, false), (4, false), (5, false), (6, false), (7, false), (8, false), (9, false), (10, false), (11, false), (12, false), (13, false), (14, false)] (by kernel_rfl) ?_
          simp (maxSteps := 1000000) [go_sem, undef, hw_i]
          exact hK (i + 1, d2) _ _ (by simp only; omega) (by simp [upF, Fr.get, Up.refl]) ⟨by simp only; omega, by simp only; omega, hsz2, hQ2, hS2, hA2, by simp only; rw [← hO, ← hI, e]⟩
    · rw [if_neg hlt] at hO
      simp (maxSteps := 1000000) [go_sem, hlt]
      exact h H' hS (hO ▸ hA1)

end Go.Proofs.Ytdfeoccjllljiaa
end

section
/- The sort's plain functions, one step each. No statement of the seat is proved here. -/
set_option linter.all false
namespace Go.Ab
open Go.Sort
variable {α : Type} [Inhabited α] {lt : α → α → Bool}

theorem sift_end {hi first root ch : Nat} {d : Array α} (h : ch = 2 * root + 1) (hh : hi ≤ ch) : siftDown lt hi first root d = d := by
  subst h; rw [siftDown]; exact dif_pos hh
theorem sift_step {hi first root ch c2 fr fc fc2 : Nat} {d : Array α} (h : ch = 2 * root + 1) (h2 : c2 = ch + 1) (e1 : fr = first + root) (e2 : fc = first + ch) (e3 : fc2 = first + c2) (hh : ¬ hi ≤ ch) :
    siftDown lt hi first root d = if decide (c2 < hi) && lt d[fc]! d[fc2]! then (if lt d[fr]! d[fc2]! then siftDown lt hi first c2 (swp d fr fc2) else d)
      else (if lt d[fr]! d[fc]! then siftDown lt hi first ch (swp d fr fc) else d) := by
  subst h; subst h2; subst e1; subst e2; subst e3
  have a1 : 2 * root + 1 + 1 = 2 * root + 2 := rfl
  have a2 : first + (2 * root + 1) + 1 = first + (2 * root + 2) := rfl
  rw [siftDown, dif_neg hh, a1, a2]
  by_cases hc : 2 * root + 2 < hi
  · have hd : decide (2 * root + 2 < hi) = true := decide_eq_true hc
    simp only [hd, Bool.true_and, dif_pos hc]
    cases hl : lt d[first + (2 * root + 1)]! d[first + (2 * root + 2)]! with
    | true =>
      have e : (2 * root + 2 < hi ∧ True) := ⟨hc, trivial⟩
      cases hm : lt d[first + root]! d[first + (2 * root + 2)]! <;> simp [hl, hm, hc]
    | false =>
      cases hm : lt d[first + root]! d[first + (2 * root + 1)]! <;> simp [hl, hm, hc]
  · have hd : decide (2 * root + 2 < hi) = false := decide_eq_false hc
    simp only [hd, Bool.false_and]
    cases hm : lt d[first + root]! d[first + (2 * root + 1)]! <;> simp [hm, hc]

theorem sift_size (hi first root : Nat) (d : Array α) : (siftDown lt hi first root d).size = d.size := by
  fun_induction siftDown lt hi first root d <;> simp_all [size_swp]
theorem sift_QA {Q : α → Prop} {hi first root : Nat} {d : Array α} (hs : first + hi ≤ d.size) (h : QA Q d) : QA Q (siftDown lt hi first root d) := by
  fun_induction siftDown lt hi first root d with
  | case1 => exact h
  | case2 => exact h
  | case3 root d h1 h2 h3 h4 ih =>
    refine ih (by rw [size_swp]; exact hs) (h.swp (by omega) (by omega))
  | case4 => exact h
  | case5 => exact h
  | case6 root d h1 h2 h3 ih => exact ih (by rw [size_swp]; exact hs) (h.swp (by omega) (by omega))

theorem scanUp_stop {p : α → Bool} {d : Array α} {j i : Nat} (h : j < i ∨ p d[i]! = false) : scanUp p d j i = i := by
  rw [scanUp, if_neg]
  rintro hc
  rw [Bool.and_eq_true, decide_eq_true_eq] at hc
  rcases h with h | h
  · omega
  · rw [h] at hc; cases hc.2
theorem scanUp_go {p : α → Bool} {d : Array α} {j i : Nat} (h : i ≤ j) (h' : p d[i]! = true) : scanUp p d j i = scanUp p d j (i + 1) := by
  rw [scanUp, if_pos]; simp [h, h']
theorem scanDown_stop {p : α → Bool} {d : Array α} {i j : Nat} (h : j < i ∨ p d[j]! = false) : scanDown p d i j = j := by
  cases j with
  | zero => rfl
  | succ r =>
    rw [scanDown, if_neg]
    rintro hc
    rw [Bool.and_eq_true, decide_eq_true_eq] at hc
    rcases h with h | h
    · omega
    · rw [h] at hc; cases hc.2
theorem scanDown_go {p : α → Bool} {d : Array α} {i r : Nat} (h : i ≤ r + 1) (h' : p d[r + 1]! = true) : scanDown p d i (r + 1) = scanDown p d i r := by
  rw [scanDown, if_pos]; simp [h, h']
theorem scanSorted_stop {d : Array α} {b i : Nat} (h : b ≤ i ∨ lt d[i]! d[i - 1]! = true) : scanSorted lt d b i = i := by
  rw [scanSorted, if_neg]
  rintro hc
  rw [Bool.and_eq_true, decide_eq_true_eq] at hc
  rcases h with h | h
  · omega
  · rw [h] at hc; cases hc.2
theorem scanSorted_go {d : Array α} {b i : Nat} (h : i < b) (h' : lt d[i]! d[i - 1]! = false) : scanSorted lt d b i = scanSorted lt d b (i + 1) := by
  rw [scanSorted, if_pos]; simp [h, h']
theorem scanSorted_bd {d : Array α} {b i : Nat} (h : i ≤ b) : i ≤ scanSorted lt d b i ∧ scanSorted lt d b i ≤ b := by
  fun_induction scanSorted lt d b i with
  | case1 i hc ih =>
    rw [Bool.and_eq_true, decide_eq_true_eq] at hc
    have := ih (by omega); omega
  | case2 i hc => omega
theorem shiftDown_stop {j : Nat} {d : Array α} (h : lt d[j + 1]! d[j]! = false) : shiftDown lt (j + 1) d = d := by rw [shiftDown, h]; rfl
theorem shiftDown_go {j : Nat} {d : Array α} (h : lt d[j + 1]! d[j]! = true) : shiftDown lt (j + 1) d = shiftDown lt j (swp d (j + 1) j) := by rw [shiftDown, h]; rfl
theorem shiftUp_end {b j : Nat} {d : Array α} (h : b ≤ j) : shiftUp lt b j d = d := by rw [shiftUp, if_neg (by omega)]
theorem shiftUp_stop {b j : Nat} {d : Array α} (hj : j < b) (h : lt d[j]! d[j - 1]! = false) : shiftUp lt b j d = d := by rw [shiftUp, if_pos hj, h]; rfl
theorem shiftUp_go {b j : Nat} {d : Array α} (hj : j < b) (h : lt d[j]! d[j - 1]! = true) : shiftUp lt b j d = shiftUp lt b (j + 1) (swp d j (j - 1)) := by rw [shiftUp, if_pos hj, h]; rfl
theorem shiftDown_size : ∀ (j : Nat) (d : Array α), (shiftDown lt j d).size = d.size
  | 0, d => rfl
  | j + 1, d => by
    cases h : lt d[j + 1]! d[j]! with
    | true => rw [shiftDown_go h, shiftDown_size j, size_swp]
    | false => rw [shiftDown_stop h]
theorem shiftDown_QA {Q : α → Prop} : ∀ {j : Nat} {d : Array α}, j < d.size → QA Q d → QA Q (shiftDown lt j d)
  | 0, d, _, h => h
  | j + 1, d, hj, h => by
    cases hl : lt d[j + 1]! d[j]! with
    | true => rw [shiftDown_go hl]; exact shiftDown_QA (by rw [size_swp]; omega) (h.swp hj (by omega))
    | false => rw [shiftDown_stop hl]; exact h
theorem shiftUp_size (b j : Nat) (d : Array α) : (shiftUp lt b j d).size = d.size := by
  fun_induction shiftUp lt b j d <;> simp_all [size_swp]
theorem shiftUp_QA {Q : α → Prop} {b j : Nat} {d : Array α} (hb : b ≤ d.size) (h : QA Q d) : QA Q (shiftUp lt b j d) := by
  fun_induction shiftUp lt b j d with
  | case1 => exact h
  | case2 j d h1 h2 ih => exact ih (by rw [size_swp]; exact hb) (h.swp (by omega) (by omega))
  | case3 => exact h

theorem QA_perm {Q : α → Prop} {a b : Nat} {d d' : Array α} (hb : b ≤ d.size) (hp : PermIn a b d d') (h : QA Q d) : QA Q d' := by
  intro k hk
  rw [hp.1] at hk
  by_cases hin : a ≤ k ∧ k < b
  · exact permIn_all d d' a b Q hb hp (fun i _ h2 => h i (by omega)) k hin.1 hin.2
  · rw [hp.2.1 k (by omega)]; exact h k hk

theorem perm_list {n : Nat} {d d' : Array α} (hn : d.size = n) (h : PermIn 0 n d d') : d'.toList.Perm d.toList := by
  have h3 := h.2.2
  rw [← hn, Array.extract_size] at h3
  rw [← h.1, Array.extract_size] at h3
  exact h3
theorem sorted_list {n : Nat} {d : Array α} (hn : d.size = n) (h : SortedIn lt 0 n d) : d.toList.Pairwise fun x y => lt y x = false := by
  rw [List.pairwise_iff_getElem]
  intro i j hi hj hij
  have hi' : i < d.size := by simpa using hi
  have hj' : j < d.size := by simpa using hj
  have := h i j (Nat.zero_le _) hij (by omega)
  rw [getElem!_pos d j hj', getElem!_pos d i hi'] at this
  simpa using this

theorem reverse_stop {i j : Nat} {d : Array α} (h : ¬ i < j) : reverseLoop i j d = d := by rw [reverseLoop, if_neg h]
theorem reverse_go {i j : Nat} {d : Array α} (h : i < j) : reverseLoop i j d = reverseLoop (i + 1) (j - 1) (swp d i j) := by rw [reverseLoop, if_pos h]

end Go.Ab
end

section
/- Sorting by a function: the heap. -/
set_option linter.all false
set_option maxRecDepth 20000
set_option maxHeartbeats 4000000
namespace Go.Proofs.Ytdfeoccjllljiaa
open Go.Ab Go.Sort

theorem siftO_ok {H : Heap} {id lo hi first n : Nat} {d : Array Int} {lt : Int → Int → Bool} {Q : Int → Prop} (hA : Arr cellsI H id d) (hn : d.size = n) (hl : n ≤ 1048576) (hlo : lo ≤ n) (hhi : first + hi ≤ n) (hQ : QA Q d)
    (hC : CmpO lt Q id H) (Post : Value → Heap → Prop) (h : ∀ H', Same (fun k => k = id) H H' → Arr cellsI H' id (siftDown lt hi first lo d) → Post (.tuple #[]) H') :
    ACalls Try.prog 203 [lv 1 id 0 n, .int .i64 lo, .int .i64 hi, .int .i64 first] H Post := by
  refine acalls_vc (rs := []) Try.func203 rfl rfl Try.ntmps203 rfl rfl ?_
  simp (maxSteps := 1000000) [go_sem]
  refine AWp.loopVc (St := Nat × Array Int) (fun s => [(0, lv 1 id 0 n), (2, .int .i64 hi), (3, .int .i64 first), (8, .int .i64 s.1)])
    (fun s H' => s.1 ≤ n ∧ s.2.size = n ∧ QA Q s.2 ∧ Same (fun k => k = id) H H' ∧ Arr cellsI H' id s.2 ∧ siftDown lt hi first s.1 s.2 = siftDown lt hi first lo d) (fun s => n - s.1) (lo, d) ?_ ?_ ?_
  · simp [upF, Fr.get, Up.refl]
  · exact ⟨hlo, hn, hQ, Same.refl _ _, hA, rfl⟩
  · rintro K ⟨root, d1⟩ H1 ⟨hr, hsz, hQ1, hS1, hA1, hO⟩ hK
    simp only at hr hsz hQ1 hS1 hA1 hO
    obtain ⟨ch, hch⟩ : ∃ ch, ch = 2 * root + 1 := ⟨_, rfl⟩
    obtain ⟨c2, hc2⟩ : ∃ c2, c2 = ch + 1 := ⟨_, rfl⟩
    obtain ⟨fr, hfr⟩ : ∃ fr, fr = first + root := ⟨_, rfl⟩
    obtain ⟨fc, hfc⟩ : ∃ fc, fc = first + ch := ⟨_, rfl⟩
    obtain ⟨fc2, hfc2⟩ : ∃ fc2, fc2 = first + c2 := ⟨_, rfl⟩
    have w1 : IntKind.i64.wrap (2 * (root : Int)) = 2 * (root : Int) := i64w (by omega) (by omega)
    have w2 : IntKind.i64.wrap (2 * (root : Int) + 1) = (ch : Int) := by rw [hch]; rw [i64w (by omega) (by omega)]; omega
    have w3 : IntKind.i64.wrap ((ch : Int) + 1) = (c2 : Int) := by rw [hc2]; rw [i64w (by omega) (by omega)]; omega
    by_cases hh : hi ≤ ch
    · rw [sift_end hch hh] at hO
      have hh' : (hi : Int) ≤ ch := by omega
      simp (maxSteps := 1000000) [go_sem, w1, w2, hh, hh']
      exact h H1 hS1 (hO ▸ hA1)
    · rw [sift_step hch hc2 hfr hfc hfc2 hh] at hO
      have hh' : ¬ ((hi : Int) ≤ ch) := by omega
      have hh2 : ch < hi := by omega
      have w4 : IntKind.i64.wrap ((first : Int) + root) = (fr : Int) := by rw [hfr]; rw [i64w (by omega) (by omega)]; omega
      have w5 : IntKind.i64.wrap ((first : Int) + ch) = (fc : Int) := by rw [hfc]; rw [i64w (by omega) (by omega)]; omega
      have w6 : IntKind.i64.wrap ((first : Int) + c2) = (fc2 : Int) := by rw [hfc2]; rw [i64w (by omega) (by omega)]; omega
      have w7 : IntKind.i64.wrap ((fc : Int) + 1) = (fc2 : Int) := by rw [hfc2, hfc, hc2]; rw [i64w (by omega) (by omega)]; omega
      have hfr1 : fr < d1.size := by omega
      have hfc1 : fc < d1.size := by omega
      have n1 : fr < n := by omega
      have n2 : fc < n := by omega
      obtain ⟨x, hx⟩ : ∃ x, x = d1[fr]! := ⟨_, rfl⟩
      obtain ⟨y, hy⟩ : ∃ y, y = d1[fc]! := ⟨_, rfl⟩
      obtain ⟨z, hz⟩ : ∃ z, z = d1[fc2]! := ⟨_, rfl⟩
      rw [← hx, ← hy, ← hz] at hO
      have qx := hQ1 _ hfr1
      have qy := hQ1 _ hfc1
      rw [← hx] at qx
      rw [← hy] at qy
      have cy := hA1.load cellsI_len hfc1
      rw [← hy] at cy
      simp only [cellsI, Nat.mul_one, Row.val] at cy
      by_cases h2 : c2 < hi
      · have h2' : (c2 : Int) < hi := by omega
        have hfc21 : fc2 < d1.size := by omega
        have n3 : fc2 < n := by omega
        have qz := hQ1 _ hfc21
        rw [← hz] at qz
        have cz := hA1.load cellsI_len hfc21
        rw [← hz] at cz
        simp only [cellsI, Nat.mul_one, Row.val] at cz
        have e2 : decide (c2 < hi) = true := decide_eq_true h2
        rw [e2, Bool.true_and] at hO
        simp (maxSteps := 1000000) [go_sem, w1, w2, w3, hh, hh', hh2]
        refine AWp.draw mixed [(0, false), (1, false), (2, false), (3, false), (4, false), (5, false), (6, false), (7, false), (8, false), (9, false), (10, false), (11, false), (12, false), (13, false), (14, false), (15, false), (16, false), (17, false), (18, false), (19, false)] (by kernel_rfl) ?_
        simp (maxSteps := 1000000) [go_sem, w3, w5, w7, h2, h2', cy, cz, n2, n3]
        refine hC H1 y z _ hS1 qy qz ?_
        intro H3 c hp3 hc
        have hS3 := hS1.via (Same.of_prefix (S := fun _ => False) hp3) (fun _ _ h => h.elim)
        have hA3 := hA1.pre hp3
        have cx := hA3.load cellsI_len hfr1
        rw [← hx] at cx
        simp only [cellsI, Nat.mul_one, Row.val] at cx
        cases hyz : lt y z with
        | true =>
          rw [hyz] at hc hO
          have hc0 := hc
          have cz := hA3.load cellsI_len hfc21
          rw [← hz] at cz
          simp only [cellsI, Nat.mul_one, Row.val] at cz
          simp (maxSteps := 1000000) [go_sem, hc, hc0, w3]
          refine AWp.draw mixed [(0, false), (1, false), (2, false), (3, false), (4, false), (5, false), (6, false), (7, false), (8, false), (9, false), (10, false), (11, false), (12, false), (13, false)] (by kernel_rfl) ?_
          simp (maxSteps := 1000000) [go_sem, w4, w6, cx, cz, n1, n3]
          refine hC H3 x z _ hS3 qx qz ?_
          intro H4 e hp4 he
          have hS4 := hS3.via (Same.of_prefix (S := fun _ => False) hp4) (fun _ _ h => h.elim)
          have hA4 := hA3.pre hp4
          cases hxz : lt x z with
          | false =>
            rw [hxz] at he hO
            have he0 := he
            simp (maxSteps := 1000000) [go_sem, he, he0]
            exact h H4 hS4 (by simpa [← hO] using hA4)
          | true =>
            rw [hxz] at he hO
            have he0 := he
            have ca := hA4.load cellsI_len hfr1
            have cb := hA4.load cellsI_len hfc21
            obtain ⟨H5, H6, s1, s0, hA6, hS6, hl6⟩ := hA4.swap cellsI_len cellsI_one hfr1 hfc21
            rw [← hx] at ca s0
            rw [← hz] at cb s1
            simp only [cellsI, Nat.mul_one, Row.val] at ca cb s0 s1
            simp (maxSteps := 1000000) [go_sem, he, he0]
            refine AWp.draw mixed [(0, false), (1, false), (2, false), (3, false), (4, false), (5, false), (6, false), (7, false), (8, false), (9, false), (10, false), (11, false), (12, false), (13, false), (14, false), (15, false), (16, false), (17, false), (18, false), (19, false), (20, false), (21, false), (22, false), (23, false)] (by kernel_rfl) ?_
            simp (maxSteps := 1000000) [go_sem, w4, w6, ca, cb, n1, n3, s1, s0]
            exact hK (c2, swp d1 fr fc2) _ _ (by simp only; omega) (by simp [upF, Fr.get, Up.refl]) ⟨by simp only; omega, by rw [size_swp]; exact hsz, hQ1.swp hfr1 hfc21, hS4.trans hS6, hA6, by simp only; rw [← hO]; simp⟩
        | false =>
          rw [hyz] at hc hO
          have hc0 := hc
          have cy := hA3.load cellsI_len hfc1
          rw [← hy] at cy
          simp only [cellsI, Nat.mul_one, Row.val] at cy
          simp (maxSteps := 1000000) [go_sem, hc, hc0]
          refine AWp.draw mixed [(0, false), (1, false), (2, false), (3, false), (4, false), (5, false), (6, false), (7, false), (8, false), (9, false), (10, false), (11, false), (12, false), (13, false)] (by kernel_rfl) ?_
          simp (maxSteps := 1000000) [go_sem, w4, w5, cx, cy, n1, n2]
          refine hC H3 x y _ hS3 qx qy ?_
          intro H4 e hp4 he
          have hS4 := hS3.via (Same.of_prefix (S := fun _ => False) hp4) (fun _ _ h => h.elim)
          have hA4 := hA3.pre hp4
          cases hxz : lt x y with
          | false =>
            rw [hxz] at he hO
            have he0 := he
            simp (maxSteps := 1000000) [go_sem, he, he0]
            exact h H4 hS4 (by simpa [← hO] using hA4)
          | true =>
            rw [hxz] at he hO
            have he0 := he
            have ca := hA4.load cellsI_len hfr1
            have cb := hA4.load cellsI_len hfc1
            obtain ⟨H5, H6, s1, s0, hA6, hS6, hl6⟩ := hA4.swap cellsI_len cellsI_one hfr1 hfc1
            rw [← hx] at ca s0
            rw [← hy] at cb s1
            simp only [cellsI, Nat.mul_one, Row.val] at ca cb s0 s1
            simp (maxSteps := 1000000) [go_sem, he, he0]
            refine AWp.draw mixed [(0, false), (1, false), (2, false), (3, false), (4, false), (5, false), (6, false), (7, false), (8, false), (9, false), (10, false), (11, false), (12, false), (13, false), (14, false), (15, false), (16, false), (17, false), (18, false), (19, false), (20, false), (21, false), (22, false), (23, false)] (by kernel_rfl) ?_
            simp (maxSteps := 1000000) [go_sem, w4, w5, ca, cb, n1, n2, s1, s0]
            exact hK (ch, swp d1 fr fc) _ _ (by simp only; omega) (by simp [upF, Fr.get, Up.refl]) ⟨by simp only; omega, by rw [size_swp]; exact hsz, hQ1.swp hfr1 hfc1, hS4.trans hS6, hA6, by simp only; rw [← hO]; simp⟩
      · have h2' : ¬ ((c2 : Int) < hi) := by omega
        have e2 : decide (c2 < hi) = false := decide_eq_false h2
        rw [e2, Bool.false_and] at hO
        have hA3 := hA1
        have hS3 := hS1
        have cx := hA3.load cellsI_len hfr1
        rw [← hx] at cx
        simp only [cellsI, Nat.mul_one, Row.val] at cx
        simp (maxSteps := 1000000) [go_sem, w1, w2, w3, hh, hh', hh2]
        refine AWp.draw mixed [(0, false), (1, false), (2, false), (3, false), (4, false), (5, false), (6, false), (7, false), (8, false), (9, false), (10, false), (11, false), (12, false), (13, false), (14, false), (15, false), (16, false), (17, false), (18, false), (19, false)] (by kernel_rfl) ?_
        simp (maxSteps := 1000000) [go_sem, undef, w3, h2, h2']
        obtain ⟨H3, eH3⟩ : ∃ H3, H3 = H1 := ⟨_, rfl⟩
        rw [← eH3] at hA3 hS3 cx cy ⊢
        refine AWp.draw mixed [(0, false), (1, false), (2, false), (3, false), (4, false), (5, false), (6, false), (7, false), (8, false), (9, false), (10, false), (11, false), (12, false), (13, false)] (by kernel_rfl) ?_
        simp (maxSteps := 1000000) [go_sem, w4, w5, cx, cy, n1, n2]
        refine hC H3 x y _ hS3 qx qy ?_
        intro H4 e hp4 he
        have hS4 := hS3.via (Same.of_prefix (S := fun _ => False) hp4) (fun _ _ h => h.elim)
        have hA4 := hA3.pre hp4
        cases hxz : lt x y with
        | false =>
          rw [hxz] at he hO
          have he0 := he
          simp (maxSteps := 1000000) [go_sem, he, he0]
          exact h H4 hS4 (by simpa [← hO] using hA4)
        | true =>
          rw [hxz] at he hO
          have he0 := he
          have ca := hA4.load cellsI_len hfr1
          have cb := hA4.load cellsI_len hfc1
          obtain ⟨H5, H6, s1, s0, hA6, hS6, hl6⟩ := hA4.swap cellsI_len cellsI_one hfr1 hfc1
          rw [← hx] at ca s0
          rw [← hy] at cb s1
          simp only [cellsI, Nat.mul_one, Row.val] at ca cb s0 s1
          simp (maxSteps := 1000000) [go_sem, he, he0]
          refine AWp.draw mixed [(0, false), (1, false), (2, false), (3, false), (4, false), (5, false), (6, false), (7, false), (8, false), (9, false), (10, false), (11, false), (12, false), (13, false), (14, false), (15, false), (16, false), (17, false), (18, false), (19, false), (20, false), (21, false), (22, false), (23, false)] (by kernel_rfl) ?_
          simp (maxSteps := 1000000) [go_sem, w4, w5, ca, cb, n1, n2, s1, s0]
          exact hK (ch, swp d1 fr fc) _ _ (by simp only; omega) (by simp [upF, Fr.get, Up.refl]) ⟨by simp only; omega, by rw [size_swp]; exact hsz, hQ1.swp hfr1 hfc1, hS4.trans hS6, hA6, by simp only; rw [← hO]; simp⟩

theorem heapO_ok {H : Heap} {id a b n : Nat} {d : Array Int} {lt : Int → Int → Bool} {Q : Int → Prop} (hA : Arr cellsI H id d) (hn : d.size = n) (hl : n ≤ 1048576) (hab : a < b) (hb : b ≤ n) (hQ : QA Q d)
    (hC : CmpO lt Q id H) (Post : Value → Heap → Prop) (h : ∀ H', Same (fun k => k = id) H H' → Arr cellsI H' id (heapSort lt d a b) → Post (.tuple #[]) H') :
    ACalls Try.prog 191 [lv 1 id 0 n, .int .i64 a, .int .i64 b] H Post := by
  refine acalls_vc (rs := []) Try.func191 rfl rfl Try.ntmps191 rfl rfl ?_
  obtain ⟨hi, hhi⟩ : ∃ hi, hi = b - a := ⟨_, rfl⟩
  obtain ⟨h1, hh1⟩ : ∃ h1, h1 = hi - 1 := ⟨_, rfl⟩
  obtain ⟨k0, hk0⟩ : ∃ k0, k0 = h1 / 2 := ⟨_, rfl⟩
  have w0 : IntKind.i64.wrap ((b : Int) - a) = (hi : Int) := by rw [hhi, i64w (by omega) (by omega)]; omega
  have w1 : IntKind.i64.wrap ((hi : Int) - 1) = (h1 : Int) := by rw [hh1, i64w (by omega) (by omega)]; omega
  have w2 : IntKind.i64.wrap ((h1 : Int) / 2) = (k0 : Int) := by rw [hk0, i64w (by omega) (by omega)]; omega
  have e0 : heapSort lt d a b = heapPop lt a hi (heapBuild lt hi a (k0 + 1) d) := by rw [hk0, hh1, hhi]; rfl
  rw [e0] at h
  simp (maxSteps := 1000000) [go_sem, w0, w1, w2]
  refine AWp.loopVc (St := Nat × Array Int) (fun s => [(0, lv 1 id 0 n), (6, .int .i64 a), (7, .int .i64 0), (8, .int .i64 hi), (9, .int .i64 ((s.1 : Int) - 1))])
    (fun s H' => s.1 ≤ k0 + 1 ∧ s.2.size = n ∧ QA Q s.2 ∧ Same (fun k => k = id) H H' ∧ Arr cellsI H' id s.2 ∧ heapBuild lt hi a s.1 s.2 = heapBuild lt hi a (k0 + 1) d) (fun s => s.1) (k0 + 1, d) ?_ ?_ ?_
  · have e : ((k0 + 1 : Nat) : Int) - 1 = k0 := by omega
    simp [upF, Fr.get, Up.refl, e]
  · exact ⟨Nat.le_refl _, hn, hQ, Same.refl _ _, hA, rfl⟩
  · rintro K ⟨k, d1⟩ H1 ⟨hk, hsz, hQ1, hS1, hA1, hO⟩ hK
    simp only at hk hsz hQ1 hS1 hA1 hO
    cases k with
    | succ r =>
      have hwr : IntKind.i64.wrap ((r : Int) - 1) = (r : Int) - 1 := i64w (by omega) (by omega)
      simp (maxSteps := 1000000) [go_sem]
      refine siftO_ok hA1 hsz hl (by omega) (by omega) hQ1 (hC.keep hS1) _ ?_
      intro H2 hS2 hA2
      have hsz2 : (siftDown lt hi a r d1).size = n := by rw [sift_size]; exact hsz
      simp (maxSteps := 1000000) [go_sem, hwr]
      exact hK (r, siftDown lt hi a r d1) _ _ (by simp only; omega) (by simp [upF, Fr.get, Up.refl]) ⟨by simp only; omega, hsz2, sift_QA (by omega) hQ1, hS1.trans hS2, hA2, hO⟩
    | zero =>
      simp (maxSteps := 1000000) [go_sem, w1]
      have hO' : d1 = heapBuild lt hi a (k0 + 1) d := hO
      rw [← hO'] at h
      refine AWp.loopVc (St := Nat × Array Int) (fun s => [(0, lv 1 id 0 n), (6, .int .i64 a), (7, .int .i64 0), (10, .int .i64 ((s.1 : Int) - 1))])
        (fun s H' => s.1 ≤ hi ∧ s.2.size = n ∧ QA Q s.2 ∧ Same (fun k => k = id) H H' ∧ Arr cellsI H' id s.2 ∧ heapPop lt a s.1 s.2 = heapPop lt a hi d1) (fun s => s.1) (hi, d1) ?_ ?_ ?_
      · have e : (hi : Int) - 1 = h1 := by omega
        simp [upF, Fr.get, Up.refl, e]
      · exact ⟨Nat.le_refl _, hsz, hQ1, hS1, hA1, rfl⟩
      · rintro K2 ⟨k, d2⟩ H2 ⟨hk2, hsz2, hQ2, hS2, hA2, hP⟩ hK2
        simp only at hk2 hsz2 hQ2 hS2 hA2 hP
        cases k with
        | succ r =>
          have hwr : IntKind.i64.wrap ((r : Int) - 1) = (r : Int) - 1 := i64w (by omega) (by omega)
          obtain ⟨ar, har⟩ : ∃ ar, ar = a + r := ⟨_, rfl⟩
          have w4 : IntKind.i64.wrap ((a : Int) + r) = (ar : Int) := by rw [har]; rw [i64w (by omega) (by omega)]; omega
          have hi1 : a < d2.size := by omega
          have hi2 : ar < d2.size := by omega
          have n1 : a < n := by omega
          have n2 : ar < n := by omega
          have ca := hA2.load cellsI_len hi1
          have cb := hA2.load cellsI_len hi2
          obtain ⟨H5, H6, s1, s0, hA6, hS6, hl6⟩ := hA2.swap cellsI_len cellsI_one hi1 hi2
          obtain ⟨x, hx⟩ : ∃ x, x = d2[a]! := ⟨_, rfl⟩
          obtain ⟨y, hy⟩ : ∃ y, y = d2[ar]! := ⟨_, rfl⟩
          rw [← hx] at ca s0
          rw [← hy] at cb s1
          simp only [cellsI, Nat.mul_one, Row.val] at ca cb s0 s1
          rw [heapPop, ← har] at hP
          have hsz3 : (swp d2 a ar).size = n := by rw [size_swp]; exact hsz2
          have hQ3 := hQ2.swp hi1 hi2
          simp (maxSteps := 1000000) [go_sem]
          refine AWp.draw mixed [(0, false), (1, false), (2, false), (3, false), (4, false), (5, false), (6, false), (7, false), (8, false), (9, false), (10, false), (11, false), (12, false), (13, false), (14, false), (15, false), (16, false), (17, false), (18, false), (19, false)] (by kernel_rfl) ?_
          simp (maxSteps := 1000000) [go_sem, w4, ca, cb, n1, n2, s1, s0]
          refine siftO_ok (lo := 0) hA6 hsz3 hl (by omega) (by omega) hQ3 (hC.keep (hS2.trans hS6)) _ ?_
          intro H7 hS7 hA7
          have hsz4 : (siftDown lt r a 0 (swp d2 a ar)).size = n := by rw [sift_size]; exact hsz3
          simp (maxSteps := 1000000) [go_sem, hwr]
          exact hK2 (r, siftDown lt r a 0 (swp d2 a ar)) _ _ (by simp only; omega) (by simp [upF, Fr.get, Up.refl]) ⟨by simp only; omega, hsz4, sift_QA (by omega) hQ3, (hS2.trans hS6).trans hS7, hA7, hP⟩
        | zero =>
          simp (maxSteps := 1000000) [go_sem]
          refine h H2 hS2 ?_
          rw [← hP]; exact hA2

end Go.Proofs.Ytdfeoccjllljiaa
end
