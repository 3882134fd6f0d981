/- Part 4 of what the proof of the law FnExactSystemText rests on: contracts of functions of the program, for every argument that each names; no statement of the seat is proved here. -/
import Derived.Test.YtkimaohcmcfcnaaDoorFnExactSystemTextPart3

set_option linter.all false
set_option maxRecDepth 20000
set_option maxHeartbeats 8000000
section
namespace Go.Ab

def Bk.has (b : Bk) (p : Int) : Bool := decide (b.a = p) || (decide (b.b = p) || decide (b.c = p))
theorem Bk.has_iff {b : Bk} {p : Int} : b.has p = true ↔ (b.a = p \/ b.b = p \/ b.c = p) := by simp [Bk.has]

def third (bs : List Bk) (p q : Int) : Int :=
  match bs.find? (fun c => c.has p && c.has q) with
  | some c => c.a + c.b + c.c - p - q
  | none => -1

theorem good_iff {v : Int} {b : Bk} : good v b = true ↔ 0 <= b.a /\ b.a < b.b /\ b.b < b.c /\ b.c < v := by
  simp only [good, Bool.and_eq_true, decide_eq_true_eq, and_assoc]

theorem third_value {v : Int} {c : Bk} {p q : Int} (hc : good v c = true) (hpq : p ≠ q) (hp : c.has p = true) (hq : c.has q = true) :
    0 <= c.a + c.b + c.c - p - q /\ c.a + c.b + c.c - p - q < v /\ c.has (c.a + c.b + c.c - p - q) = true /\ c.a + c.b + c.c - p - q ≠ p /\ c.a + c.b + c.c - p - q ≠ q := by
  rw [good_iff] at hc
  rw [Bk.has_iff] at hp hq ⊢
  obtain ⟨h1, h2, h3, h4⟩ := hc
  refine ⟨?_, ?_, ?_, ?_, ?_⟩ <;> rcases hp with hp | hp | hp <;> rcases hq with hq | hq | hq <;> omega

theorem third_neg {v : Int} {bs : List Bk} (hg : ∀ x ∈ bs, good v x = true) {p q : Int} (hpq : p ≠ q) : third bs p q = -1 ↔ ∀ x ∈ bs, ¬ (x.has p = true /\ x.has q = true) := by
  unfold third
  cases hf : bs.find? (fun c => c.has p && c.has q) with
  | none =>
    simp only [true_iff]
    intro x hx h
    have := List.find?_eq_none.1 hf x hx
    simp [h.1, h.2] at this
  | some c =>
    have h1 := List.find?_some hf
    have h2 := List.mem_of_find?_eq_some hf
    simp only [Bool.and_eq_true] at h1
    have := third_value (hg c h2) hpq h1.1 h1.2
    constructor
    · intro h
      have h : c.a + c.b + c.c - p - q = -1 := h
      omega
    · intro h; exact absurd h1 (h c h2)

theorem third_comm (bs : List Bk) (p q : Int) : third bs p q = third bs q p := by
  unfold third
  rw [show (fun c : Bk => c.has p && c.has q) = (fun c => c.has q && c.has p) from funext fun c => Bool.and_comm _ _]
  split <;> omega

theorem third_snoc {bs : List Bk} {b : Bk} {p q : Int} : third (bs ++ [b]) p q = match bs.find? (fun c => c.has p && c.has q) with
    | some c => c.a + c.b + c.c - p - q
    | none => if b.has p && b.has q then b.a + b.b + b.c - p - q else -1 := by
  unfold third
  rw [List.find?_append]
  cases bs.find? (fun c => c.has p && c.has q) with
  | some c => rfl
  | none =>
    simp only [Option.none_or, List.find?_cons]
    cases b.has p && b.has q <;> rfl

theorem third_snoc_in {v : Int} {bs : List Bk} {b : Bk} (hg : ∀ x ∈ bs, good v x = true) {p q : Int} (hpq : p ≠ q) (hp : b.has p = true) (hq : b.has q = true) (hn : third bs p q = -1) : third (bs ++ [b]) p q = b.a + b.b + b.c - p - q := by
  have h := (third_neg hg hpq).1 hn
  rw [third_snoc]
  cases hf : bs.find? (fun c => c.has p && c.has q) with
  | none => simp [hp, hq]
  | some c =>
    have h1 := List.find?_some hf
    simp only [Bool.and_eq_true] at h1
    exact absurd h1 (h c (List.mem_of_find?_eq_some hf))

theorem third_snoc_out {bs : List Bk} {b : Bk} {p q : Int} (h : ¬ (b.has p = true /\ b.has q = true)) : third (bs ++ [b]) p q = third bs p q := by
  rw [third_snoc]
  unfold third
  have : (b.has p && b.has q) = false := by
    cases hp : b.has p <;> cases hq : b.has q <;> simp_all
  cases bs.find? (fun c => c.has p && c.has q) with
  | none => simp [this]
  | some c => rfl

def hasN (x : Bk) (p : Int) : Nat := eq01 x.a p + eq01 x.b p + eq01 x.c p
theorem hasN_eq {v : Int} {x : Bk} (hx : good v x = true) (p : Int) : hasN x p = if x.has p then 1 else 0 := by
  rw [good_iff] at hx
  simp only [hasN, eq01, Bk.has_iff]
  split <;> split <;> split <;> split <;> omega
theorem common_eq (x y : Bk) : common x y = hasN x y.a + hasN x y.b + hasN x y.c := by
  simp only [common, hasN]; omega
theorem common_le_one {v w : Int} {x y : Bk} (hx : good v x = true) :
    common x y <= 1 ↔ ¬ (x.has y.a = true /\ x.has y.b = true) /\ ¬ (x.has y.a = true /\ x.has y.c = true) /\ ¬ (x.has y.b = true /\ x.has y.c = true) := by
  rw [common_eq, hasN_eq hx, hasN_eq hx, hasN_eq hx]
  cases x.has y.a <;> cases x.has y.b <;> cases x.has y.c <;> simp

theorem common_comm (x y : Bk) : common x y = common y x := by
  have : ∀ a b : Int, eq01 a b = eq01 b a := by intro a b; simp only [eq01]; split <;> split <;> omega
  simp only [common, this y.a, this y.b, this y.c]
  omega

def leftB (bs : List Bk) (b : Bk) : Bool := decide (third bs b.a b.b = -1) && (decide (third bs b.a b.c = -1) && decide (third bs b.b b.c = -1))
theorem leftB_iff {v w : Int} {bs : List Bk} (hg : ∀ x ∈ bs, good v x = true) {b : Bk} (hb : good w b = true) : leftB bs b = true ↔ ∀ x ∈ bs, common x b <= 1 := by
  have hb' := good_iff.1 hb
  simp only [leftB, Bool.and_eq_true, decide_eq_true_eq]
  rw [third_neg hg (by omega), third_neg hg (by omega), third_neg hg (by omega)]
  constructor
  · intro h x hx
    exact (common_le_one (w := w) (hg x hx)).2 ⟨h.1 x hx, h.2.1 x hx, h.2.2 x hx⟩
  · intro h
    refine ⟨fun x hx => ?_, fun x hx => ?_, fun x hx => ?_⟩
    · exact ((common_le_one (w := w) (hg x hx)).1 (h x hx)).1
    · exact ((common_le_one (w := w) (hg x hx)).1 (h x hx)).2.1
    · exact ((common_le_one (w := w) (hg x hx)).1 (h x hx)).2.2

theorem fits_snoc {bs : List Bk} {b : Bk} : Fits (bs ++ [b]) ↔ Fits bs /\ ∀ x ∈ bs, common x b <= 1 := by
  constructor
  · intro h
    refine ⟨fun i k x y hk hx hy => ?_, fun x hx => ?_⟩
    · have h1 := (List.getElem?_eq_some_iff.1 hx).1
      exact h i k x y hk (by rw [List.getElem?_append_left h1]; exact hx) (by rw [List.getElem?_append_left (by omega)]; exact hy)
    · obtain ⟨k, hk⟩ := List.mem_iff_getElem?.1 hx
      have h1 := (List.getElem?_eq_some_iff.1 hk).1
      have := h bs.length k b x h1 (by simp) (by rw [List.getElem?_append_left h1]; exact hk)
      rw [common_comm]; exact this
  · rintro ⟨h, hb⟩ i k x y hk hx hy
    have hi := (List.getElem?_eq_some_iff.1 hx).1
    simp only [List.length_append, List.length_singleton] at hi
    rw [List.getElem?_append_left (by omega)] at hy
    by_cases e : i < bs.length
    · rw [List.getElem?_append_left e] at hx
      exact h i k x y hk hx hy
    · have : i = bs.length := by omega
      subst this
      simp at hx; subst hx
      rw [common_comm]; exact hb y (List.mem_of_getElem? hy)

theorem fits_take {bs : List Bk} (h : Fits bs) (n : Nat) : Fits (bs.take n) := by
  intro i k x y hk hx hy
  rw [List.getElem?_take] at hx hy
  split at hx
  · split at hy
    · exact h i k x y hk hx hy
    · cases hy
  · cases hx

def gAt (gs : List Int) (p q : Nat) : Int := gs.getD (p * 15 + q) 0
def gSet (gs : List Int) (p q : Nat) (n : Int) : List Int := (gs.set (p * 15 + q) n).set (q * 15 + p) n

theorem gSet_length (gs : List Int) (p q : Nat) (n : Int) : (gSet gs p q n).length = gs.length := by simp [gSet]
theorem gAt_set {gs : List Int} (hl : gs.length = 225) {a b p q : Nat} (ha : a < 15) (hb : b < 15) (hp : p < 15) (hq : q < 15) (n : Int) :
    gAt (gSet gs a b n) p q = if (p = a /\ q = b) \/ (p = b /\ q = a) then n else gAt gs p q := by
  simp only [gAt, gSet, List.getD_eq_getElem?_getD, List.getElem?_set, List.length_set]
  by_cases h1 : b * 15 + a = p * 15 + q
  · rw [if_pos h1, if_pos (by omega), if_pos (by omega)]; rfl
  · rw [if_neg h1]
    by_cases h2 : a * 15 + b = p * 15 + q
    · rw [if_pos h2, if_pos (by omega), if_pos (by omega)]; rfl
    · rw [if_neg h2, if_neg (by omega)]

def GridOf (gs : List Int) (bs : List Bk) : Prop := gs.length = 225 /\ ∀ p q : Nat, p < 15 -> q < 15 -> gAt gs p q = if p = q then -1 else third bs p q

theorem gridOf_nil : GridOf (List.replicate 225 (-1)) [] := by
  refine ⟨List.length_replicate, fun p q hp hq => ?_⟩
  simp only [gAt, List.getD_eq_getElem?_getD, List.getElem?_replicate, third, List.find?_nil]
  rw [if_pos (by omega)]
  split <;> rfl

theorem gridOf_snoc {gs : List Int} {bs : List Bk} (h : GridOf gs bs) (hg : ∀ x ∈ bs, good 15 x = true) {a b c : Nat} (hab : a < b) (hbc : b < c) (hc : c < 15) (hl : leftB bs ⟨a, b, c⟩ = true) :
    GridOf (gSet (gSet (gSet gs a b (c : Int)) b c (a : Int)) c a (b : Int)) (bs ++ [⟨a, b, c⟩]) := by
  obtain ⟨hl0, h⟩ := h
  simp only [leftB, Bool.and_eq_true, decide_eq_true_eq] at hl
  refine ⟨by simp [gSet_length, hl0], fun p q hp hq => ?_⟩
  rw [gAt_set (by simp [gSet_length, hl0]) hc (by omega) hp hq, gAt_set (by simp [gSet_length, hl0]) (by omega) hc hp hq, gAt_set hl0 (by omega) (by omega) hp hq, h p q hp hq]
  have hac := hl.2.1
  have hca : third bs (c : Int) (a : Int) = -1 := by rw [third_comm]; exact hac
  by_cases e : p = q
  · subst e
    rw [if_neg (by omega), if_neg (by omega), if_neg (by omega), if_pos rfl, if_pos rfl]
  · rw [if_neg e, if_neg e]
    by_cases h1 : (p = c /\ q = a) \/ (p = a /\ q = c)
    · rw [if_pos h1, third_snoc_in hg (by omega) (by rw [Bk.has_iff]; simp only; omega) (by rw [Bk.has_iff]; simp only; omega)]
      · simp only; omega
      · rcases h1 with ⟨rfl, rfl⟩ | ⟨rfl, rfl⟩
        · exact hca
        · exact hac
    · rw [if_neg h1]
      by_cases h2 : (p = b /\ q = c) \/ (p = c /\ q = b)
      · rw [if_pos h2, third_snoc_in hg (by omega) (by rw [Bk.has_iff]; simp only; omega) (by rw [Bk.has_iff]; simp only; omega)]
        · simp only; omega
        · rcases h2 with ⟨rfl, rfl⟩ | ⟨rfl, rfl⟩
          · exact hl.2.2
          · rw [third_comm]; exact hl.2.2
      · rw [if_neg h2]
        by_cases h3 : (p = a /\ q = b) \/ (p = b /\ q = a)
        · rw [if_pos h3, third_snoc_in hg (by omega) (by rw [Bk.has_iff]; simp only; omega) (by rw [Bk.has_iff]; simp only; omega)]
          · simp only; omega
          · rcases h3 with ⟨rfl, rfl⟩ | ⟨rfl, rfl⟩
            · exact hl.1
            · rw [third_comm]; exact hl.1
        · rw [if_neg h3, third_snoc_out]
          rw [Bk.has_iff, Bk.has_iff]; simp only; omega

theorem gridOf_left {gs : List Int} {bs : List Bk} (h : GridOf gs bs) {a b c : Nat} (hab : a < b) (hbc : b < c) (hc : c < 15) :
    (decide (gAt gs a b = -1) && (decide (gAt gs a c = -1) && decide (gAt gs b c = -1))) = leftB bs ⟨a, b, c⟩ := by
  rw [h.2 a b (by omega) (by omega), h.2 a c (by omega) (by omega), h.2 b c (by omega) (by omega), if_neg (by omega), if_neg (by omega), if_neg (by omega)]
  rfl

end Go.Ab
end

section
namespace Go.Proofs.YtkimaohcmcfcnaaDoor
open Go.Ab

def GridAt (H : Heap) (id : Nat) (gs : List Int) : Prop := H[id]? = some ⟨ints gs, true, true⟩ /\ gs.length = 225

theorem GridAt.load {H : Heap} {id : Nat} {gs : List Int} (h : GridAt H id gs) {k : Nat} (hk : k < 225) : cellsAt H id k 1 = some [.int .i64 (gs.getD k 0)] := by
  refine Holds.cell ⟨true, h.1⟩ ?_
  have := h.2
  rw [ints_get, List.getD_eq_getElem?_getD, List.getElem?_eq_getElem (by omega)]
  rfl

theorem GridAt.store {H : Heap} {id : Nat} {gs : List Int} (h : GridAt H id gs) {k : Nat} (hk : k < 225) (n : Int) :
    storeAt H id k [.int .i64 n] = some (H.set id ⟨ints (gs.set k n), true, true⟩) /\ GridAt (H.set id ⟨ints (gs.set k n), true, true⟩) id (gs.set k n) := by
  have hl := h.2
  refine ⟨?_, by rw [List.getElem?_set_self (List.getElem?_eq_some_iff.1 h.1).1], by simpa using hl⟩
  rw [storeAt_of h.1 rfl rfl (by simp only [ints_length, List.length_singleton]; omega) (by simp [Value.oneCell']), over_one (by simp only [ints_length]; omega), ints_set]

theorem newGrid_ok {H : Heap} (Post : Value -> Heap -> Prop) (h : ∀ H' id, H <+: H' -> H.length <= id -> GridAt H' id (List.replicate 225 (-1)) -> Post (.pointer (some ⟨id, 0, none⟩)) H') :
    ACalls Tryd.prog 64 [] H Post := by
  refine acalls_vc (rs := [.tmp 0]) Tryd.func64 rfl rfl Tryd.ntmps64 rfl rfl ?_
  simp (maxSteps := 1000000) [go_sem, -List.reduceReplicate]
  have hz : List.replicate 225 (Value.int .i64 0) = ints (List.replicate 225 0) := by simp only [ints, List.map_replicate]
  rw [hz]
  have hg0 : GridAt (H ++ [⟨ints (List.replicate 225 0), true, true⟩]) H.length (List.replicate 225 0) := ⟨by simp only [List.getElem?_concat_length], List.length_replicate⟩
  have hp0 : H <+: H ++ [⟨ints (List.replicate 225 0), true, true⟩] := List.prefix_append _ _
  generalize H ++ [⟨ints (List.replicate 225 0), true, true⟩] = H1 at hg0 hp0 ⊢
  have hset : ∀ m, m < 225 -> (List.replicate m (-1 : Int) ++ List.replicate (225 - m) 0).set m (-1) = List.replicate (m + 1) (-1) ++ List.replicate (225 - (m + 1)) 0 := by
    intro m hm
    rw [List.set_append_right _ _ (by rw [List.length_replicate]; exact Nat.le_refl _), List.length_replicate, Nat.sub_self, show 225 - m = (225 - (m + 1)) + 1 by omega, List.replicate_succ, List.set_cons_zero, <- List.replicate_append_replicate, List.append_assoc]
    rfl
  have keep : ∀ {H' : Heap} {b : Blk}, H <+: H' -> H <+: H'.set H.length b := fun hp =>
    (show Same (fun j => j = H.length) H _ from (Same.of_prefix hp).trans Same.set).prefix (by omega)
  refine AWp.loopVc (fun s : Nat => [(1, .pointer (some ⟨H.length, 0, none⟩)), (4, .int .i64 s)])
    (fun s H' => s <= 15 /\ H <+: H' /\ GridAt H' H.length (List.replicate (s * 15) (-1) ++ List.replicate (225 - s * 15) 0)) (fun s => 15 - s) 0 ?_ ?_ ?_
  · simp [upF, Fr.get, Up.refl]
  · exact ⟨by omega, hp0, by simpa only [Nat.zero_mul, List.replicate_zero, List.nil_append, Nat.sub_zero] using hg0⟩
  · rintro K s H' ⟨hs, hp, hg⟩ hK
    by_cases hlt : s < 15
    · have hlt' : (s : Int) < 15 := by omega
      simp (maxSteps := 1000000) [go_sem, hlt, hlt']
      refine AWp.loopVc (fun t : Nat => [(1, .pointer (some ⟨H.length, 0, none⟩)), (2, .int .i64 s), (4, .int .i64 s), (7, .int .i64 t)])
        (fun t H2 => t <= 15 /\ H <+: H2 /\ GridAt H2 H.length (List.replicate (s * 15 + t) (-1) ++ List.replicate (225 - (s * 15 + t)) 0)) (fun t => 15 - t) 0 ?_ ?_ ?_
      · simp [upF, Fr.get, Up.refl]
      · exact ⟨by omega, hp, by simpa only [Nat.add_zero] using hg⟩
      · rintro K2 t H2 ⟨ht, hp2, hg2⟩ hK2
        by_cases htl : t < 15
        · have htl' : (t : Int) < 15 := by omega
          have hw : IntKind.i64.wrap ((t : Int) + 1) = (t : Int) + 1 := i64w (by omega) (by omega)
          obtain ⟨hst, hg3⟩ := hg2.store (k := s * 15 + t) (by omega) (-1)
          rw [hset _ (by omega)] at hst hg3
          rw [show 225 - (s * 15 + t + 1) = 224 - (s * 15 + t) by omega] at hst hg3
          simp (maxSteps := 1000000) [go_sem, hlt, hlt', htl, htl', hw, Value.oneCell', hst, -List.reduceReplicate]
          exact hK2 (t + 1) _ _ (by omega) (by simp [upF, Fr.get, Up.refl]) ⟨by omega, keep hp2, by rw [show 225 - (s * 15 + (t + 1)) = 224 - (s * 15 + t) by omega]; exact hg3⟩
        · have : t = 15 := by omega
          subst this
          have hw : IntKind.i64.wrap ((s : Int) + 1) = (s : Int) + 1 := i64w (by omega) (by omega)
          simp (maxSteps := 1000000) [go_sem, hw]
          refine hK (s + 1) _ _ (by omega) (by simp [upF, Fr.get, Up.refl]) ⟨by omega, hp2, ?_⟩
          rw [Nat.add_mul, Nat.one_mul]; exact hg2
    · have : s = 15 := by omega
      subst this
      simp (maxSteps := 1000000) [go_sem]
      exact h H' H.length hp (Nat.le_refl _) (by simpa using hg)

theorem isLeft_ok {H : Heap} {id : Nat} {gs : List Int} (hg : GridAt H id gs) {a b c : Nat} (ha : a < 15) (hb : b < 15) (hc : c < 15) (Post : Value -> Heap -> Prop)
    (h : ∀ H', H <+: H' -> Post (.bool (decide (gAt gs a b = -1) && (decide (gAt gs a c = -1) && decide (gAt gs b c = -1)))) H') :
    ACalls Tryd.prog 65 [.pointer (some ⟨id, 0, none⟩), (Bk.mk a b c).val] H Post := by
  refine acalls_vc (rs := [.tmp 4]) Tryd.func65 rfl rfl Tryd.ntmps65 rfl rfl ?_
  simp (maxSteps := 1000000) [go_sem, Bk.val, Value.oneCell']
  refine AWp.draw mixed [(0, false), (1, false), (2, false), (3, false), (4, false), (5, false), (6, false), (7, false), (8, false), (9, false), (10, false), (11, false), (12, false), (13, false), (14, false), (15, false), (16, false), (17, false), (18, false), (19, false), (20, false), (21, false), (22, false), (23, false), (24, false), (25, false), (26, false), (27, false), (28, false), (29, false), (30, false), (31, false), (32, false), (33, false), (34, false)] (by kernel_rfl) ?_
  have keep : GridAt (H ++ [⟨[.int .i64 a, .int .i64 b, .int .i64 c], true, true⟩]) id gs := ⟨Same.get (S := fun _ => False) (Same.of_prefix (List.prefix_append _ _)) hg.1 (fun h => h), hg.2⟩
  have h := h _ (List.prefix_append H [⟨[.int .i64 a, .int .i64 b, .int .i64 c], true, true⟩])
  have c1 : cellsAt _ id (a * 15 + b) 1 = some [.int .i64 (gAt gs a b)] := keep.load (by omega)
  have c2 : cellsAt _ id (a * 15 + c) 1 = some [.int .i64 (gAt gs a c)] := keep.load (by omega)
  have c3 : cellsAt _ id (b * 15 + c) 1 = some [.int .i64 (gAt gs b c)] := keep.load (by omega)
  generalize gAt gs a b = x at c1 h
  generalize gAt gs a c = y at c2 h
  generalize gAt gs b c = z at c3 h
  have ha' : (a : Int) < 15 := by omega
  have hb' : (b : Int) < 15 := by omega
  have hc' : (c : Int) < 15 := by omega
  by_cases hx : x = -1
  · by_cases hy : y = -1
    · by_cases hz : z = -1
      · simp (maxSteps := 1000000) [go_sem, ha, hb, hc, ha', hb', hc', c1, c2, c3, hx, hy, hz]
        simpa [hx, hy, hz] using h
      · have hz' : (z == -1) = false := by simpa using hz
        simp (maxSteps := 1000000) [go_sem, ha, hb, hc, ha', hb', hc', c1, c2, c3, hx, hy, hz']
        simpa [hx, hy, hz] using h
    · have hy' : (y == -1) = false := by simpa using hy
      simp (maxSteps := 1000000) [go_sem, ha, hb, hc, ha', hb', hc', c1, c2, c3, hx, hy']
      simpa [hx, hy] using h
  · have hx' : (x == -1) = false := by simpa using hx
    simp (maxSteps := 1000000) [go_sem, ha, hb, hc, ha', hb', hc', c1, c2, c3, hx']
    simpa [hx] using h

def gPut (is : Bool) (a b c : Nat) : Nat -> List Int -> List Int
  | 0, gs => gs
  | 1, gs => gSet gs a b (if is then (c : Int) else -1)
  | 2, gs => gSet (gSet gs a b (if is then (c : Int) else -1)) b c (if is then (a : Int) else -1)
  | _, gs => gSet (gSet (gSet gs a b (if is then (c : Int) else -1)) b c (if is then (a : Int) else -1)) c a (if is then (b : Int) else -1)

theorem put_ok {H : Heap} {id : Nat} {gs : List Int} {is : Bool} (hg : GridAt H id gs) {a b c : Nat} (ha : a < 15) (hb : b < 15) (hc : c < 15) (Post : Value -> Heap -> Prop)
    (h : ∀ H', Same (fun j => j = id) H H' -> GridAt H' id (gPut is a b c 3 gs) -> Post (.tuple #[]) H') :
    ACalls Tryd.prog 66 [.pointer (some ⟨id, 0, none⟩), (Bk.mk a b c).val, .bool is] H Post := by
  refine acalls_vc (rs := []) Tryd.func66 rfl rfl Tryd.ntmps66 rfl rfl ?_
  simp (maxSteps := 1000000) [go_sem, Bk.val, Value.oneCell']
  have hid : id < H.length := (List.getElem?_eq_some_iff.1 hg.1).1
  have ha' : (a : Int) < 15 := by omega
  have hb' : (b : Int) < 15 := by omega
  have hc' : (c : Int) < 15 := by omega
  refine AWp.loopVc (fun s : Nat => [(0, .pointer (some ⟨id, 0, none⟩)), (2, .bool is), (4, .pointer (some ⟨H.length, 0, none⟩)), (10, .agg #[.int .i64 a, .int .i64 b, .int .i64 c]), (11, .int .i64 s)])
    (fun s H' => s <= 3 /\ Same (fun j => j = id) H H' /\ H'[H.length]? = some ⟨[.int .i64 a, .int .i64 b, .int .i64 c], true, true⟩ /\ GridAt H' id (gPut is a b c s gs)) (fun s => 3 - s) 0 ?_ ?_ ?_
  · simp [upF, Fr.get, Up.refl]
  · exact ⟨by omega, Same.of_prefix (List.prefix_append _ _), by simp, ⟨Same.get (S := fun _ => False) (Same.of_prefix (List.prefix_append _ _)) hg.1 (fun h => h), hg.2⟩⟩
  · rintro K s H' ⟨hs, hsame, hbox, hg⟩ hK
    have : s = 0 \/ s = 1 \/ s = 2 \/ s = 3 := by omega
    rcases this with rfl | rfl | rfl | rfl
    · have hw : IntKind.i64.wrap 1 = 1 := i64w (by omega) (by omega)
      have hm1 : (IntKind.i64.wrap 1).tmod 3 = 1 := by rw [i64w (by omega) (by omega)]; rfl
      have hm2 : (IntKind.i64.wrap 2).tmod 3 = 2 := by rw [i64w (by omega) (by omega)]; rfl
      have hm1' : (1 : Int).tmod 3 = 1 := rfl
      have hm2' : (2 : Int).tmod 3 = 2 := rfl
      obtain ⟨st1, g1⟩ := hg.store (k := a * 15 + b) (by omega) (if is then (c : Int) else -1)
      obtain ⟨st2, g2⟩ := g1.store (k := b * 15 + a) (by omega) (if is then (c : Int) else -1)
      simp only [List.set_set] at st2 g2
      have l0 : cellsAt H' H.length 1 1 = some [.int .i64 b] := Holds.cell ⟨true, hbox⟩ rfl
      have l1 : cellsAt H' H.length 2 1 = some [.int .i64 c] := Holds.cell ⟨true, hbox⟩ rfl
      have fin : ∀ fr', upF _ [(0, .pointer (some ⟨id, 0, none⟩)), (2, .bool is), (4, .pointer (some ⟨H.length, 0, none⟩)), (10, .agg #[.int .i64 a, .int .i64 b, .int .i64 c]), (11, .int .i64 1)] fr' -> K fr' _ := fun fr' hf =>
        hK 1 fr' _ (by omega) hf ⟨by omega, hsame.trans Same.set, by rw [List.getElem?_set_ne (by omega)]; exact hbox, g2⟩
      simp (maxSteps := 1000000) [go_sem, hw, partV]
      refine AWp.draw mixed [(0, false), (1, false), (2, false), (3, false), (4, false), (5, false), (6, false), (7, false), (8, false), (9, false), (10, false), (11, false)] (by kernel_rfl) ?_
      simp (maxSteps := 1000000) [go_sem, hw, hm1, hm2, hm1', hm2', l0, l1]
      refine condK_intro (fun his => ?_) (fun his => ?_)
      · obtain rfl : is = false := by simpa using his
        simp only [Bool.false_eq_true, if_false] at st1 st2 fin
        refine AWp.draw mixed [(0, false), (1, false), (2, false), (3, false), (4, false), (5, false), (6, false), (7, false), (8, false), (10, false), (11, false), (9, false), (12, false), (13, false)] (by kernel_rfl) ?_
        simp (maxSteps := 1000000) [go_sem, hw, hm1, hm2, hm1', hm2', l0, l1, st1, st2, ha', hb', hc', Value.oneCell']
        exact fin _ (by simp [upF, Fr.get, Up.refl])
      · obtain rfl : is = true := by simpa using his
        simp only [if_true] at st1 st2 fin
        refine AWp.draw mixed [(0, false), (1, false), (2, false), (3, false), (4, false), (5, false), (6, false), (7, false), (8, false), (9, false), (10, false), (12, false), (13, false), (11, false), (14, false), (15, false)] (by kernel_rfl) ?_
        simp (maxSteps := 1000000) [go_sem, hw, hm1, hm2, hm1', hm2', l0, l1, st1, st2, ha', hb', hc', Value.oneCell']
        exact fin _ (by simp [upF, Fr.get, Up.refl])
    · have hw : IntKind.i64.wrap 2 = 2 := i64w (by omega) (by omega)
      have hm1 : (IntKind.i64.wrap 2).tmod 3 = 2 := by rw [i64w (by omega) (by omega)]; rfl
      have hm2 : (IntKind.i64.wrap 3).tmod 3 = 0 := by rw [i64w (by omega) (by omega)]; rfl
      have hm1' : (2 : Int).tmod 3 = 2 := rfl
      have hm2' : (3 : Int).tmod 3 = 0 := rfl
      obtain ⟨st1, g1⟩ := hg.store (k := b * 15 + c) (by omega) (if is then (a : Int) else -1)
      obtain ⟨st2, g2⟩ := g1.store (k := c * 15 + b) (by omega) (if is then (a : Int) else -1)
      simp only [List.set_set] at st2 g2
      have l0 : cellsAt H' H.length 2 1 = some [.int .i64 c] := Holds.cell ⟨true, hbox⟩ rfl
      have l1 : cellsAt H' H.length 0 1 = some [.int .i64 a] := Holds.cell ⟨true, hbox⟩ rfl
      have fin : ∀ fr', upF _ [(0, .pointer (some ⟨id, 0, none⟩)), (2, .bool is), (4, .pointer (some ⟨H.length, 0, none⟩)), (10, .agg #[.int .i64 a, .int .i64 b, .int .i64 c]), (11, .int .i64 2)] fr' -> K fr' _ := fun fr' hf =>
        hK 2 fr' _ (by omega) hf ⟨by omega, hsame.trans Same.set, by rw [List.getElem?_set_ne (by omega)]; exact hbox, g2⟩
      simp (maxSteps := 1000000) [go_sem, hw, partV]
      refine AWp.draw mixed [(0, false), (1, false), (2, false), (3, false), (4, false), (5, false), (6, false), (7, false), (8, false), (9, false), (10, false), (11, false)] (by kernel_rfl) ?_
      simp (maxSteps := 1000000) [go_sem, hw, hm1, hm2, hm1', hm2', l0, l1]
      refine condK_intro (fun his => ?_) (fun his => ?_)
      · obtain rfl : is = false := by simpa using his
        simp only [Bool.false_eq_true, if_false] at st1 st2 fin
        refine AWp.draw mixed [(0, false), (1, false), (2, false), (3, false), (4, false), (5, false), (6, false), (7, false), (8, false), (10, false), (11, false), (9, false), (12, false), (13, false)] (by kernel_rfl) ?_
        simp (maxSteps := 1000000) [go_sem, hw, hm1, hm2, hm1', hm2', l0, l1, st1, st2, ha', hb', hc', Value.oneCell']
        exact fin _ (by simp [upF, Fr.get, Up.refl])
      · obtain rfl : is = true := by simpa using his
        simp only [if_true] at st1 st2 fin
        refine AWp.draw mixed [(0, false), (1, false), (2, false), (3, false), (4, false), (5, false), (6, false), (7, false), (8, false), (9, false), (10, false), (12, false), (13, false), (11, false), (14, false), (15, false)] (by kernel_rfl) ?_
        simp (maxSteps := 1000000) [go_sem, hw, hm1, hm2, hm1', hm2', l0, l1, st1, st2, ha', hb', hc', Value.oneCell']
        exact fin _ (by simp [upF, Fr.get, Up.refl])
    · have hw : IntKind.i64.wrap 3 = 3 := i64w (by omega) (by omega)
      have hm1 : (IntKind.i64.wrap 3).tmod 3 = 0 := by rw [i64w (by omega) (by omega)]; rfl
      have hm2 : (IntKind.i64.wrap 4).tmod 3 = 1 := by rw [i64w (by omega) (by omega)]; rfl
      have hm1' : (3 : Int).tmod 3 = 0 := rfl
      have hm2' : (4 : Int).tmod 3 = 1 := rfl
      obtain ⟨st1, g1⟩ := hg.store (k := c * 15 + a) (by omega) (if is then (b : Int) else -1)
      obtain ⟨st2, g2⟩ := g1.store (k := a * 15 + c) (by omega) (if is then (b : Int) else -1)
      simp only [List.set_set] at st2 g2
      have l0 : cellsAt H' H.length 0 1 = some [.int .i64 a] := Holds.cell ⟨true, hbox⟩ rfl
      have l1 : cellsAt H' H.length 1 1 = some [.int .i64 b] := Holds.cell ⟨true, hbox⟩ rfl
      have fin : ∀ fr', upF _ [(0, .pointer (some ⟨id, 0, none⟩)), (2, .bool is), (4, .pointer (some ⟨H.length, 0, none⟩)), (10, .agg #[.int .i64 a, .int .i64 b, .int .i64 c]), (11, .int .i64 3)] fr' -> K fr' _ := fun fr' hf =>
        hK 3 fr' _ (by omega) hf ⟨by omega, hsame.trans Same.set, by rw [List.getElem?_set_ne (by omega)]; exact hbox, g2⟩
      simp (maxSteps := 1000000) [go_sem, hw, partV]
      refine AWp.draw mixed [(0, false), (1, false), (2, false), (3, false), (4, false), (5, false), (6, false), (7, false), (8, false), (9, false), (10, false), (11, false)] (by kernel_rfl) ?_
      simp (maxSteps := 1000000) [go_sem, hw, hm1, hm2, hm1', hm2', l0, l1]
      refine condK_intro (fun his => ?_) (fun his => ?_)
      · obtain rfl : is = false := by simpa using his
        simp only [Bool.false_eq_true, if_false] at st1 st2 fin
        refine AWp.draw mixed [(0, false), (1, false), (2, false), (3, false), (4, false), (5, false), (6, false), (7, false), (8, false), (10, false), (11, false), (9, false), (12, false), (13, false)] (by kernel_rfl) ?_
        simp (maxSteps := 1000000) [go_sem, hw, hm1, hm2, hm1', hm2', l0, l1, st1, st2, ha', hb', hc', Value.oneCell']
        exact fin _ (by simp [upF, Fr.get, Up.refl])
      · obtain rfl : is = true := by simpa using his
        simp only [if_true] at st1 st2 fin
        refine AWp.draw mixed [(0, false), (1, false), (2, false), (3, false), (4, false), (5, false), (6, false), (7, false), (8, false), (9, false), (10, false), (12, false), (13, false), (11, false), (14, false), (15, false)] (by kernel_rfl) ?_
        simp (maxSteps := 1000000) [go_sem, hw, hm1, hm2, hm1', hm2', l0, l1, st1, st2, ha', hb', hc', Value.oneCell']
        exact fin _ (by simp [upF, Fr.get, Up.refl])
    · simp (maxSteps := 1000000) [go_sem]
      exact h H' hsame hg

end Go.Proofs.YtkimaohcmcfcnaaDoor
end

section
namespace Go.Proofs.YtkimaohcmcfcnaaDoor
open Go.Ab

theorem GridAt.keep {H H' : Heap} {id : Nat} {gs : List Int} (h : GridAt H id gs) (hp : H <+: H') : GridAt H' id gs :=
  ⟨Same.get (S := fun _ => False) (Same.of_prefix hp) h.1 (fun h => h), h.2⟩

theorem good_nat {v : Int} {b : Bk} (h : good v b = true) (hv : v <= 15) : ∃ x y z : Nat, b = ⟨x, y, z⟩ /\ x < y /\ y < z /\ z < 15 := by
  rw [good_iff] at h
  obtain ⟨a, b, c⟩ := b
  simp only at h
  exact ⟨a.toNat, b.toNat, c.toNat, by simp only [Bk.mk.injEq]; omega, by omega, by omega, by omega⟩

theorem gridOf_ok {H : Heap} {u : Value} {bs : List Bk} (hu : BlocksAt H u bs) (hg : ∀ x ∈ bs, good 15 x = true) (Post : Value -> Heap -> Prop)
    (hbad : ∀ H', H <+: H' -> ¬ Fits bs -> Post (.tuple #[.pointer none, .bool false]) H')
    (hgood : ∀ H' id gs, H <+: H' -> H.length <= id -> GridAt H' id gs -> GridOf gs bs -> Fits bs -> Post (.tuple #[.pointer (some ⟨id, 0, none⟩), .bool true]) H') :
    ACalls Tryd.prog 49 [u] H Post := by
  obtain ⟨i, o, rfl, h1, h2⟩ := hu
  refine acalls_vc (rs := [.tmp 2, .tmp 3]) Tryd.func49 rfl rfl Tryd.ntmps49 rfl rfl ?_
  simp (maxSteps := 1000000) [go_sem]
  refine newGrid_ok _ ?_
  intro H0 id hp0 hid hg0
  simp (maxSteps := 1000000) [go_sem]
  refine AWp.loopVc (St := Nat × List Int) (fun s => [(4, .pointer (some ⟨id, 0, none⟩)), (8, lv 3 i o bs.length), (9, .int .i64 bs.length), (10, .int .i64 s.1)])
    (fun s H' => s.1 <= bs.length /\ H <+: H' /\ GridAt H' id s.2 /\ GridOf s.2 (bs.take s.1) /\ Fits (bs.take s.1)) (fun s => bs.length - s.1) (0, List.replicate 225 (-1)) ?_ ?_ ?_
  · simp [upF, Fr.get, Up.refl]
  · refine ⟨by simp, hp0, hg0, by simpa using gridOf_nil, ?_⟩
    intro i k x y hk hx; simp at hx
  · rintro K ⟨s, gs⟩ H' ⟨hs, hp, hgr, hof, hfit⟩ hK
    simp only at hs hgr hof hfit
    by_cases hlt : s < bs.length
    · have hbs : bs[s]? = some bs[s] := List.getElem?_eq_getElem hlt
      have c1 := (h1.pre hp).bk hbs
      obtain ⟨a, b, c, hb, hab, hbc, hc⟩ := good_nat (hg _ (List.mem_of_getElem? hbs)) (by omega)
      have hgt : ∀ x ∈ bs.take s, good 15 x = true := fun x hx => hg x (List.mem_of_mem_take hx)
      have htake : bs.take (s + 1) = bs.take s ++ [⟨a, b, c⟩] := by rw [List.take_succ_eq_append_getElem hlt, hb]
      have hgb : good 15 ⟨a, b, c⟩ = true := by rw [good_iff]; simp only; omega
      rw [hb] at c1
      simp only [Bk.cells] at c1
      have hw_s : IntKind.i64.wrap ((s : Int) + 1) = (s : Int) + 1 := i64w (by omega) (by omega)
      simp (maxSteps := 1000000) [go_sem, hlt, c1, Value.oneCell']
      have hp2 : H' <+: H' ++ [⟨[.int .i64 a, .int .i64 b, .int .i64 c], true, true⟩] := List.prefix_append _ _
      have hbox : (H' ++ [(⟨[.int .i64 a, .int .i64 b, .int .i64 c], true, true⟩ : Blk)])[H'.length]? = some ⟨[.int .i64 a, .int .i64 b, .int .i64 c], true, true⟩ := by simp
      refine isLeft_ok (hgr.keep hp2) (by omega) (by omega) hc _ ?_
      intro H3 hp3
      rw [gridOf_left hof hab hbc hc]
      have d1 : cellsAt H3 H'.length 0 3 = some [.int .i64 a, .int .i64 b, .int .i64 c] := by
        have := Holds.cells (n := 3) (o := 0) ⟨true, pget hp3 hbox⟩ (by simp)
        simpa using this
      cases hl : leftB (bs.take s) ⟨a, b, c⟩ with
      | false =>
        simp (maxSteps := 1000000) [go_sem]
        refine hbad H3 (hp.trans (hp2.trans hp3)) (fun hF => ?_)
        have := (leftB_iff hgt hgb).2 (fits_snoc.1 (htake ▸ fits_take hF (s + 1))).2
        rw [hl] at this; cases this
      | true =>
        simp (maxSteps := 1000000) [go_sem, d1]
        refine put_ok ((hgr.keep hp2).keep hp3) (by omega) (by omega) hc _ ?_
        intro H4 hs4 hg4
        simp (maxSteps := 1000000) [go_sem, hw_s]
        refine hK (s + 1, gPut true a b c 3 gs) _ _ (by simp only; omega) (by simp [upF, Fr.get, Up.refl]) ⟨by simp only; omega, ?_, hg4, ?_, ?_⟩
        · exact ((Same.of_prefix (hp.trans (hp2.trans hp3))).trans hs4).prefix (by omega)
        · simp only [htake]; exact gridOf_snoc hof hgt hab hbc hc hl
        · simp only [htake]; exact fits_snoc.2 ⟨hfit, (leftB_iff hgt hgb).1 hl⟩
    · have : s = bs.length := by omega
      subst this
      simp (maxSteps := 1000000) [go_sem]
      rw [List.take_length] at hof hfit
      exact hgood H' id gs hp hid hgr hof hfit

theorem sorted_snoc {p : Int} {bs : List Bk} {s : Nat} (hs : s < bs.length) (h : ∀ (a : Nat) (x : Bk), a < s -> bs[a]? = some x -> good p x = true /\ ∀ y, 0 < a -> bs[a - 1]? = some y -> before y x = true)
    (hg : good p bs[s] = true) (hb : ∀ y, 0 < s -> bs[s - 1]? = some y -> before y bs[s] = true) : ∀ (a : Nat) (x : Bk), a < s + 1 -> bs[a]? = some x -> good p x = true /\ ∀ y, 0 < a -> bs[a - 1]? = some y -> before y x = true := by
  intro a x ha hx
  by_cases e : a = s
  · subst e
    rw [List.getElem?_eq_getElem hs] at hx; cases hx
    exact ⟨hg, hb⟩
  · exact h a x (by omega) hx

theorem areBlocks_ok {H : Heap} {u : Value} {p : Int} {bs : List Bk} (hu : BlocksAt H u bs) (Post : Value -> Heap -> Prop) (h : ∀ H' b, H <+: H' -> (b = true ↔ IsSys p bs) -> Post (.bool b) H') :
    ACalls Tryd.prog 35 [.int .i64 p, u] H Post := by
  obtain ⟨i, o, rfl, h1, h2⟩ := hu
  refine acalls_vc (rs := [.tmp 4]) Tryd.func35 rfl rfl Tryd.ntmps35 rfl rfl ?_
  simp (maxSteps := 1000000) [go_sem]
  refine within_ok _ ?_
  by_cases hin : 3 <= p /\ p <= 15
  · by_cases hl35 : bs.length <= 35
    · have hgt : ¬ ((35 : Int) < bs.length) := by omega
      simp (maxSteps := 1000000) [go_sem, hin.1, hin.2, hgt]
      refine AWp.loopVc (fun s : Nat => [(0, .int .i64 p), (1, lv 3 i o bs.length), (17, lv 3 i o bs.length), (18, .int .i64 bs.length), (19, .int .i64 s)])
        (fun s H' => s <= bs.length /\ H <+: H' /\ ∀ (a : Nat) (x : Bk), a < s -> bs[a]? = some x -> good p x = true /\ ∀ y, 0 < a -> bs[a - 1]? = some y -> before y x = true) (fun s => bs.length - s) 0 ?_ ?_ ?_
      · simp [upF, Fr.get, Up.refl]
      · exact ⟨by omega, List.prefix_refl _, by intro a x ha; omega⟩
      · rintro K s H' ⟨hs, hp, hf⟩ hK
        by_cases hlt : s < bs.length
        · have hbs : bs[s]? = some bs[s] := List.getElem?_eq_getElem hlt
          have c1 := (h1.pre hp).bk hbs
          simp only [Bk.cells] at c1
          have hw_s : IntKind.i64.wrap ((s : Int) + 1) = (s : Int) + 1 := i64w (by omega) (by omega)
          simp (maxSteps := 1000000) [go_sem, hlt, c1, Value.oneCell']
          refine AWp.draw mixed [(0, false), (1, false), (2, false), (3, false), (4, false), (5, false), (6, false), (7, false), (8, false), (9, false), (10, false), (11, false), (12, false), (13, false), (14, false), (15, false), (16, false), (17, false)] (by kernel_rfl) ?_
          simp (maxSteps := 1000000) [go_sem]
          refine isBlock_ok (b := bs[s]) (by omega) (by omega) _ ?_
          intro H2 hp2
          have hp2' : H' <+: H2 := (List.prefix_append _ _).trans hp2
          have hbox : H2[H'.length]? = some ⟨[.int .i64 bs[s].a, .int .i64 bs[s].b, .int .i64 bs[s].c], true, true⟩ := pget hp2 (by simp)
          have d1 : cellsAt H2 H'.length 0 3 = some [.int .i64 bs[s].a, .int .i64 bs[s].b, .int .i64 bs[s].c] := by
            simpa using Holds.cells (n := 3) (o := 0) ⟨true, hbox⟩ (by simp)
          by_cases hg : good p bs[s] = true
          · by_cases h0 : s = 0
            · subst h0
              simp (maxSteps := 1000000) [go_sem, hg, i64w (n := 1)]
              exact hK 1 _ _ (by omega) (by simp [upF, Fr.get, Up.refl]) ⟨by omega, hp.trans hp2', sorted_snoc hlt hf hg (by intro y hy; omega)⟩
            · obtain ⟨r, rfl⟩ : ∃ r, s = r + 1 := ⟨s - 1, by omega⟩
              have hbr : bs[r]? = some (bs[r]'(by omega)) := List.getElem?_eq_getElem _
              have e2 := (h1.pre (hp.trans hp2')).bk hbr
              simp only [Bk.cells] at e2
              have hr : r < bs.length := by omega
              have hw3 : IntKind.i64.wrap (r : Int) = (r : Int) := i64w (by omega) (by omega)
              have hw4 : IntKind.i64.wrap ((r : Int) + 1 + 1) = (r : Int) + 1 + 1 := i64w (by omega) (by omega)
              simp (maxSteps := 1000000) [go_sem, hg, d1, e2, hlt, hr, hw3]
              refine compare_ok (b := bs[r]'(by omega)) (d := bs[r + 1]) _ ?_
              intro H3 hp3
              by_cases hbf : before (bs[r]'(by omega)) bs[r + 1] = true
              · have hlx : decide (0 <= lexC [(bs[r]'(by omega)).a, (bs[r]'(by omega)).b, (bs[r]'(by omega)).c] [bs[r + 1].a, bs[r + 1].b, bs[r + 1].c]) = false := by
                  rw [decide_eq_false_iff_not, lexC_block, hbf]; simp
                simp (maxSteps := 1000000) [go_sem, hlx, hw4]
                refine hK (r + 1 + 1) _ _ (by omega) (by simp [upF, Fr.get, Up.refl]) ⟨by omega, hp.trans (hp2'.trans hp3), sorted_snoc hlt hf hg ?_⟩
                intro y _ hy
                simp only [Nat.add_sub_cancel] at hy
                rw [hbr] at hy; cases hy; exact hbf
              · have hlx : decide (0 <= lexC [(bs[r]'(by omega)).a, (bs[r]'(by omega)).b, (bs[r]'(by omega)).c] [bs[r + 1].a, bs[r + 1].b, bs[r + 1].c]) = true := by
                  rw [decide_eq_true_eq, lexC_block]; simpa using hbf
                simp (maxSteps := 1000000) [go_sem, hlx]
                refine h H3 false (hp.trans (hp2'.trans hp3)) ⟨by simp, fun hS => ?_⟩
                exact absurd ((hS.2.2.1 (r + 1) _ hbs).2 _ (by omega) (by simpa using hbr)) hbf
          · simp (maxSteps := 1000000) [go_sem, hg]
            refine h H2 false (hp.trans hp2') ⟨by simp, fun hS => ?_⟩
            exact absurd (hS.2.2.1 s _ hbs).1 hg
        · have : s = bs.length := by omega
          subst this
          have hso : Sorted p bs := fun a x hx => hf a x (List.getElem?_eq_some_iff.1 hx).1 hx
          have hg15 : ∀ x ∈ bs, good 15 x = true := by
            intro x hx
            obtain ⟨k, hk⟩ := List.mem_iff_getElem?.1 hx
            have := (hso k x hk).1
            rw [good_iff] at this ⊢; omega
          simp (maxSteps := 1000000) [go_sem]
          refine gridOf_ok ⟨i, o, rfl, h1.pre hp, h2⟩ hg15 _ (fun H2 hp2 hn => ?_) (fun H2 id gs hp2 _ _ _ hF => ?_)
          · simp (maxSteps := 1000000) [go_sem]
            exact h H2 false (hp.trans hp2) ⟨by simp, fun hS => absurd hS.2.2.2 hn⟩
          · simp (maxSteps := 1000000) [go_sem]
            exact h H2 true (hp.trans hp2) ⟨fun _ => ⟨hin, hl35, hso, hF⟩, fun _ => rfl⟩
    · have hgt : (35 : Int) < bs.length := by omega
      simp (maxSteps := 1000000) [go_sem, hin.1, hin.2, hgt]
      exact h H false (List.prefix_refl _) ⟨by simp, fun hS => absurd hS.2.1 hl35⟩
  · have hn : (decide (3 <= p) && decide (p <= 15)) = false := by simp; omega
    rw [hn]
    simp (maxSteps := 1000000) [go_sem]
    exact h H false (List.prefix_refl _) ⟨by simp, fun hS => absurd hS.1 hin⟩

theorem implIsSystem_ok {H : Heap} {u : Value} {p : Int} {bs : List Bk} (hu : BlocksAt H u bs) (Post : Value -> Heap -> Prop) (h : ∀ H' b, H <+: H' -> (b = true ↔ IsSys p bs) -> Post (.bool b) H') :
    ACalls Tryd.prog 18 [sysV p u] H Post := by
  obtain ⟨i, o, rfl, h1, h2⟩ := hu
  refine acalls_vc (rs := [.tmp 2]) Tryd.func18 rfl rfl Tryd.ntmps18 rfl rfl ?_
  simp (maxSteps := 1000000) [go_sem, sysV, Value.oneCell']
  have hp1 : H <+: H ++ [⟨[.int .i64 p, lv 3 i o bs.length], true, true⟩] := List.prefix_append _ _
  refine areBlocks_ok ⟨i, o, rfl, h1.pre hp1, h2⟩ _ ?_
  intro H' b hp hb
  simp (maxSteps := 1000000) [go_sem]
  exact h H' b (hp1.trans hp) hb

end Go.Proofs.YtkimaohcmcfcnaaDoor
end

section
namespace Go.Proofs.YtkimaohcmcfcnaaDoor
open Go.Ab

def In64 (n : Int) : Prop := -9223372036854775808 <= n /\ n <= 9223372036854775807
theorem In64.of_wf {n : Int} (h : (Lit.int .i64 n).wf = true) : In64 n := by
  simp only [Lit.wf, Bool.and_eq_true, decide_eq_true_eq] at h
  have h1 : IntKind.i64.min = -9223372036854775808 := rfl
  have h2 : IntKind.i64.max = 9223372036854775807 := rfl
  rw [h1, h2] at h
  exact h
def BlocksAt0 (H : Heap) (v : Value) (bs : List Bk) : Prop := ∃ i o, v = lv 3 i o bs.length /\ At H i o (tri bs) /\ bs.length <= 9223372036854775807
theorem BlocksAt0.at {H : Heap} {v : Value} {bs : List Bk} (h : BlocksAt0 H v bs) (hl : bs.length <= 140737488355328) : BlocksAt H v bs := by
  obtain ⟨i, o, h1, h2, _⟩ := h; exact ⟨i, o, h1, h2, hl⟩
theorem BlocksAt0.pre {H H' : Heap} (hp : H <+: H') {v : Value} {bs : List Bk} (h : BlocksAt0 H v bs) : BlocksAt0 H' v bs := by
  obtain ⟨i, o, h1, h2, h3⟩ := h; exact ⟨i, o, h1, h2.pre hp, h3⟩
theorem bk_of_many {H : Heap} {e : List Value} (h : cMany (cInt .i64) 3 H e) : ∃ b : Bk, e = b.cells /\ In64 b.a /\ In64 b.b /\ In64 b.c := by
  obtain ⟨es, h1, h2, h3⟩ := h
  match es, h1 with
  | [x, y, z], _ =>
    obtain ⟨a, rfl, ha⟩ := h3 x (by simp)
    obtain ⟨b, rfl, hb⟩ := h3 y (by simp)
    obtain ⟨c, rfl, hc⟩ := h3 z (by simp)
    exact ⟨⟨a, b, c⟩, by simp [h2, Bk.cells], In64.of_wf ha, In64.of_wf hb, In64.of_wf hc⟩
theorem bks_of_many {H : Heap} : ∀ {es : List (List Value)}, (∀ e ∈ es, cMany (cInt .i64) 3 H e /\ e.length = 3) -> ∃ bs : List Bk, es.flatten = tri bs /\ bs.length = es.length /\ ∀ b ∈ bs, In64 b.a /\ In64 b.b /\ In64 b.c
  | [], _ => ⟨[], rfl, rfl, by simp⟩
  | e :: es, h => by
    obtain ⟨bs, h1, h2, h3⟩ := bks_of_many (es := es) fun e he => h e (List.mem_cons_of_mem _ he)
    obtain ⟨b, hb, hw⟩ := bk_of_many (h e List.mem_cons_self).1
    refine ⟨b :: bs, by simp [hb, h1, tri_cons], by simp [h2], ?_⟩
    intro x hx
    rcases List.mem_cons.1 hx with rfl | hx
    · exact hw
    · exact h3 x hx

abbrev cBks : Heap -> List Value -> Prop := cSl 3 (cMany (cInt .i64) 3)
theorem says_bks {H : Heap} {v : Value} (h : cBks H [v]) : ∃ bs, BlocksAt0 H v bs /\ ∀ b ∈ bs, In64 b.a /\ In64 b.b /\ In64 b.c := by
  obtain ⟨id, es, h1, h2, h3, h4⟩ := h
  obtain ⟨bs, h5, h6, h7⟩ := bks_of_many h3
  simp only [List.cons.injEq, and_true] at h1
  refine ⟨bs, ⟨id, 0, by rw [h1, h6], ?_, by rw [h6]; exact h4⟩, h7⟩
  rcases h2 with rfl | h2
  · left; rw [<- h5]; rfl
  · right; rw [<- h5, show es.flatten.length = es.length * 3 by rw [h5, tri_length, h6]]; exact h2
theorem open_bks {D : Type} {enc : TypeId × Value -> D} (W : World) : OpenC enc Tryd.prog W 22 cBks :=
  open_cSl Tryd.underlying22 (by kernel_rfl) (by omega) (cMany_stable (cInt_stable _) 3) (open_cArr (c := 1) Tryd.underlying53 (by kernel_rfl) (by kernel_rfl) (cInt_stable _) (open_cInt Tryd.underlying2))

def shSystem : Shape := ⟨24, true, cFields [cInt .i64, cBks]⟩
theorem fits_shSystem {D : Type} {enc : TypeId × Value -> D} (W : World) : shSystem.fits enc Tryd.prog W :=
  ⟨cFields_stable _ (by intro p hp; simp only [List.mem_cons, List.not_mem_nil, or_false] at hp; rcases hp with rfl | rfl; exact cInt_stable _; exact cSl_stable (cMany_stable (cInt_stable _) 3)),
   open_cStruct Tryd.underlying24 (by kernel_rfl) ⟨by kernel_rfl, by kernel_rfl, cInt_stable _, open_cInt Tryd.underlying2, by kernel_rfl, by kernel_rfl, cSl_stable (cMany_stable (cInt_stable _) 3), open_bks W, trivial⟩,
   by show (match Tryd.prog.underlying 24 with | _ => _); rw [Tryd.underlying24]; rfl⟩
theorem says_shSystem {H : Heap} {v : Value} (h : shSystem.says H v) : ∃ p u bs, v = sysV p u /\ In64 p /\ BlocksAt0 H u bs /\ ∀ b ∈ bs, In64 b.a /\ In64 b.b /\ In64 b.c := by
  obtain ⟨acs, rfl, x, us, rfl, ⟨p, h1, h2⟩, y, us', rfl, h3, rfl⟩ := h
  simp only [List.cons.injEq, and_true] at h1
  subst h1
  obtain ⟨bs, h4, h5⟩ := says_bks h3
  exact ⟨p, y, bs, rfl, In64.of_wf h2, h4, h5⟩

theorem szBlockS0_ok {H : Heap} {u : Value} {bs : List Bk} {k : Int} (hu : BlocksAt0 H u bs) (hk0 : 0 <= k) (hk : k <= 1048576) (Post : Value -> Heap -> Prop) (h : Post (.int .i64 (if k < bs.length then -1 else k - bs.length)) H) :
    ACalls Tryd.prog 14 [u, .int .i64 k] H Post := by
  obtain ⟨i, o, rfl, h1, h2⟩ := hu
  refine acalls_vc (rs := [.tmp 4]) Tryd.func14 rfl rfl Tryd.ntmps14 rfl rfl ?_
  have hw : IntKind.i64.wrap (k - bs.length) = k - bs.length := i64w (by omega) (by omega)
  simp (maxSteps := 1000000) [go_sem, hw]
  refine condK_intro (fun h1 => ?_) (fun h1 => ?_)
  · rw [if_pos (by simp at h1; omega)] at h; exact h
  · rw [if_neg (by simp at h1; omega)] at h; exact h

theorem szSystem0_ok {H : Heap} {u : Value} {p : Int} {bs : List Bk} {k : Int} (hu : BlocksAt0 H u bs) (hk0 : 0 <= k) (hk : k <= 1048576) (Post : Value -> Heap -> Prop) (h : ∀ H', H <+: H' -> Post (.int .i64 (if k < bs.length then -1 else k - bs.length)) H') :
    ACalls Tryd.prog 5 [sysV p u, .int .i64 k] H Post := by
  obtain ⟨i, o, hu', h1, h2⟩ := hu
  refine acalls_vc (rs := [.tmp 4]) Tryd.func5 rfl rfl Tryd.ntmps5 rfl rfl ?_
  subst hu'
  simp (maxSteps := 1000000) [go_sem, sysV, Value.oneCell']
  refine szBlockS0_ok ⟨i, o, rfl, h1.pre (List.prefix_append _ _), h2⟩ hk0 hk _ ?_
  simp (maxSteps := 1000000) [go_sem]
  refine condK_intro (fun h1 => ?_) (fun h1 => ?_)
  · by_cases hb : k < bs.length
    · have := h _ (List.prefix_append H [⟨[.int .i64 p, lv 3 i o bs.length], true, true⟩])
      rwa [if_pos hb] at this
    · rw [if_neg hb] at h1; simp at h1; omega
  · exact h _ (List.prefix_append _ _)

end Go.Proofs.YtkimaohcmcfcnaaDoor
end

section
namespace Go.Proofs.YtkimaohcmcfcnaaDoor
open Go.Ab

noncomputable def sysB (p : Int) (bs : List Bk) : Bool := @decide (IsSys p bs) (Classical.propDecidable _)
theorem sysB_iff {p : Int} {bs : List Bk} : sysB p bs = true ↔ IsSys p bs := by simp [sysB]
theorem sysB_eq {p : Int} {bs : List Bk} {b : Bool} (h : b = true ↔ IsSys p bs) : b = sysB p bs := by
  cases hs : sysB p bs with
  | true => exact h.2 (sysB_iff.1 hs)
  | false =>
    cases b with
    | false => rfl
    | true => exact absurd (sysB_iff.2 (h.1 rfl)) (by simp [hs])

theorem implIsSys {H : Heap} {u : Value} {p : Int} {bs : List Bk} (hu : BlocksAt H u bs) (Post : Value -> Heap -> Prop) (h : ∀ H', H <+: H' -> Post (.bool (sysB p bs)) H') :
    ACalls Tryd.prog 18 [sysV p u] H Post := implIsSystem_ok hu Post fun H' b hp hb => sysB_eq hb ▸ h H' hp
theorem l01Is' {H : Heap} {u : Value} {p : Int} {bs : List Bk} (hu : BlocksAt H u bs) (hl : bs.length <= 1048576) (Post : Value -> Heap -> Prop) (h : ∀ H', H <+: H' -> Post (.bool (sysB p bs)) H') :
    ACalls Tryd.prog 15 [sysV p u] H Post := l01Is_ok hu hl Post fun H' b hp hb => sysB_eq hb ▸ h H' hp
theorem sysBox {H H' : Heap} {p : Int} {u : Value} (hp : H ++ [⟨[.int .i64 p, u], true, true⟩] <+: H') : cellsAt H' H.length 0 2 = some [.int .i64 p, u] /\ cellsAt H' H.length 0 1 = some [.int .i64 p] /\ cellsAt H' H.length 1 1 = some [u] := by
  have hb : H'[H.length]? = some ⟨[.int .i64 p, u], true, true⟩ := pget hp (by simp)
  exact ⟨by simpa using Holds.cells (n := 2) (o := 0) ⟨true, hb⟩ (by simp), Holds.cell ⟨true, hb⟩ rfl, Holds.cell ⟨true, hb⟩ rfl⟩
theorem pre_box {H H' : Heap} {b : Blk} (hp : H ++ [b] <+: H') : H <+: H' := (List.prefix_append _ _).trans hp

end Go.Proofs.YtkimaohcmcfcnaaDoor
end

section
namespace Go.Ab
open Go.RowKit (Below)

theorem R.afterB {B : Nat} {w0 : World} {ρ : Rho} {H : Heap} {w w' : World} (h : R B w0 ρ H w) (hb : Below w.heap.size w w') : R B w0 ρ H w' :=
  ⟨h.len, h.below.trans (hb.mono h.base), Nat.le_trans h.base hb.size, fun i b l h1 h2 h3 => (h.blk i b l h1 h2 h3).kept (List.prefix_refl _) (hb.block _ (h.blk i b l h1 h2 h3).lt), h.apart, h.ghost⟩

def bstr (l : List UInt8) : ByteArray := ⟨l.toArray⟩
theorem bstr_append (a b : List UInt8) : bstr a ++ bstr b = bstr (a ++ b) := by
  apply ByteArray.ext; simp [bstr]
theorem bstr_size (l : List UInt8) : (bstr l).size = l.length := by simp [bstr, ByteArray.size]
theorem bstr_list (l : List UInt8) : (bstr l).data.toList = l := by simp [bstr]
def strs (xs : List (List UInt8)) : List Value := xs.map fun l => .string (bstr l)
theorem u8w {n : Int} (h : 0 <= n /\ n < 256) : IntKind.u8.wrap n = n := by
  simp only [IntKind.wrap, IntKind.bits, IntKind.signed]; simp; omega

def letter (x : Int) : UInt8 := UInt8.ofNat (97 + x).toNat
def letters (b : Bk) : List UInt8 := [letter b.a, letter b.b, letter b.c]
def sysText (p : Int) (bs : List Bk) : List UInt8 := Lib.decDigits p.toNat ++ [58] ++ Lib.join (bs.map letters) [44]
def small15 (b : Bk) : Prop := (0 <= b.a /\ b.a < 15) /\ (0 <= b.b /\ b.b < 15) /\ (0 <= b.c /\ b.c < 15)

theorem join_snoc (xs : List (List UInt8)) (x sep : List UInt8) : Lib.join (xs ++ [x]) sep = (if 0 < xs.length then Lib.join xs sep ++ sep else []) ++ x := by
  cases xs with
  | nil => simp [Lib.join_one]
  | cons y r => simp [Lib.join_cons, Lib.joinTail]
theorem join_short {xs : List (List UInt8)} {n : Nat} (h : ∀ x ∈ xs, x.length = n) (sep : List UInt8) : (Lib.join xs sep).length <= xs.length * (n + sep.length) := by
  induction xs with
  | nil => simp [Lib.join_nil]
  | cons y r ih =>
    have ih' : (Lib.joinTail sep r).length = r.length * (n + sep.length) := by
      have hr : ∀ x ∈ r, x.length = n := fun x hx => h x (by simp [hx])
      clear ih h
      induction r with
      | nil => simp [Lib.joinTail]
      | cons z t ih2 =>
        have := ih2 (fun x hx => hr x (by simp [hx]))
        simp only [Lib.joinTail, List.map_cons, List.flatten_cons, List.length_append, hr z (by simp), List.length_cons] at this ⊢
        rw [this, Nat.add_mul]; omega
    rw [Lib.join_cons, List.length_append, ih', h y (by simp), List.length_cons, Nat.add_mul]
    omega
end Go.Ab

namespace Go.Proofs.YtkimaohcmcfcnaaDoor
open Go.Ab

theorem bytes3 (x y z : Int) : bytesOf [.int .u8 x, .int .u8 y, .int .u8 z] = some [UInt8.ofNat x.toNat, UInt8.ofNat y.toNat, UInt8.ofNat z.toNat] := rfl

theorem blockText_ok {H : Heap} {b : Bk} (hb : small15 b) (Post : Value -> Heap -> Prop) (h : ∀ H', H <+: H' -> Post (.string (bstr (letters b))) H') : ACalls Tryd.prog 51 [b.val] H Post := by
  obtain ⟨⟨a1, a2⟩, ⟨b1, b2⟩, c1, c2⟩ := hb
  refine acalls_vc (rs := [.tmp 2]) Tryd.func51 rfl rfl Tryd.ntmps51 rfl rfl ?_
  have w1 := u8w (n := b.a) (by omega)
  have w2 := u8w (n := b.b) (by omega)
  have w3 := u8w (n := b.c) (by omega)
  have w4 := u8w (n := 97 + b.a) (by omega)
  have w5 := u8w (n := 97 + b.b) (by omega)
  have w6 := u8w (n := 97 + b.c) (by omega)
  simp (maxSteps := 1000000) [go_sem, Bk.val, w1, w2, w3, w4, w5, w6, bytes3]
  exact h _ (List.prefix_append _ _)

theorem l01Letters_ok {H : Heap} {b : Bk} (hb : small15 b) (Post : Value -> Heap -> Prop) (h : ∀ H', H <+: H' -> Post (.string (bstr (letters b))) H') : ACalls Tryd.prog 33 [b.val] H Post := by
  obtain ⟨⟨a1, a2⟩, ⟨b1, b2⟩, c1, c2⟩ := hb
  refine acalls_vc (rs := [.tmp 2]) Tryd.func33 rfl rfl Tryd.ntmps33 rfl rfl ?_
  have w1 := i64w (n := 97 + b.a) (by omega) (by omega)
  have w2 := i64w (n := 97 + b.b) (by omega) (by omega)
  have w3 := i64w (n := 97 + b.c) (by omega) (by omega)
  have w4 := u8w (n := 97 + b.a) (by omega)
  have w5 := u8w (n := 97 + b.b) (by omega)
  have w6 := u8w (n := 97 + b.c) (by omega)
  simp (maxSteps := 1000000) [go_sem, Bk.val, w1, w2, w3, w4, w5, w6, bytes3]
  exact h _ (List.prefix_append _ _)

theorem format_ok {H : Heap} {n : Nat} (hn : n < 100) (Post : Value -> Heap -> Prop) (h : Post (.string (bstr (Lib.decDigits n))) H) : ACalls Tryd.prog 36 [.int .i64 n, .int .i64 10] H Post := by
  refine ⟨⟨_, Tryd.func36, rfl, rfl⟩, ?_⟩
  intro B w0 ρ w cargs hR hv
  obtain ⟨c, cs, rfl, h1, h2⟩ := hv.cons_inv
  obtain ⟨c2, cs2, rfl, h3, h4⟩ := h2.cons_inv
  obtain rfl := h4.nil_inv
  rw [h1.int_inv, h3.int_inv]
  refine (formatSmall_c n hn w).mono ?_
  rintro e W ⟨rfl, rfl⟩
  exact ⟨ρ, H, _, _, rfl, List.prefix_refl _, hR, .string _, h⟩

theorem join_ok {H : Heap} {id n : Nat} {xs : List (List UInt8)} {sep : List UInt8} (hn : xs.length = n) (hx : xs = [] \/ Holds H id (strs xs)) (hl : xs.length <= 1048576) (hs : (Lib.join xs sep).length <= 140737488355328) (Post : Value -> Heap -> Prop) (h : Post (.string (bstr (Lib.join xs sep))) H) :
    ACalls Tryd.prog 52 [.slice (some ⟨id, 0, none⟩) n n, .string (bstr sep)] H Post := by
  subst hn
  refine ⟨⟨_, Tryd.func52, rfl, rfl⟩, ?_⟩
  intro B w0 ρ w cargs hR hv
  obtain ⟨c, cs, rfl, h1, h2⟩ := hv.cons_inv
  obtain ⟨c2, cs2, rfl, h3, h4⟩ := h2.cons_inv
  obtain rfl := h4.nil_inv
  rw [h3.string_inv]
  by_cases h0 : xs = []
  · subst h0
    cases h1 with
    | sliceEx _ _ _ l hl' =>
      refine (joinNone_c _ _ _ w).mono ?_
      rintro e W ⟨rfl, rfl⟩
      exact ⟨ρ, H, _, _, rfl, List.prefix_refl _, hR, .string _, h⟩
  · have hpos : 0 < xs.length := List.length_pos_iff.2 h0
    obtain ⟨own, hb⟩ := hx.resolve_left h0
    generalize hm : xs.length = m at *
    cases h1 with
    | sliceEx _ _ _ l hl' =>
      have hlt := (hR.blk id _ l hb hl' rfl).lt
      have hxl : (xs.map bstr).length = m := by simp [hm]
      have key := join_c l.blk (l.off + 0) m (xs.map bstr) (bstr sep) w (by
        intro j x hj
        rw [List.getElem?_map] at hj
        obtain ⟨y, hy, rfl⟩ := Option.map_eq_some_iff.1 hj
        obtain ⟨cv, h7, h8, _⟩ := (hR.blk id _ l hb hl' rfl).cell (k := j) (v := .string (bstr y)) (by simp [strs, hy])
        rw [h8.string_inv] at h7
        rw [Nat.add_zero]; exact h7) hlt (by omega) (by omega) (by simpa [Function.comp_def, bstr_list] using hs)
      rw [hxl] at key
      refine key.mono ?_
      rintro e W ⟨rfl, hbel⟩
      refine ⟨ρ, H, _, _, rfl, List.prefix_refl _, hR.afterB hbel, .string _, ?_⟩
      simpa [Function.comp_def, bstr_list, bstr] using h
end Go.Proofs.YtkimaohcmcfcnaaDoor
end

section
namespace Go.Ab
open Go.RowKit (Below)

def pairOKF (ops : Array Oper) (fs : List Nat) (ms : List Nat) (x y : Nat × Bool) : Bool :=
  match ops[x.1]?, ops[y.1]? with
  | some p, some q =>
    let d := (ms.getD y.1 0).testBit x.1
    !directTo p y.1 && x.1 != y.1 &&
    (match isR p.op with
     | true => (d || indep ops p q) && (isR q.op || y.2 || !readsH p.op || d)
     | false => d || (fs.contains y.1 && y.2 && !isR q.op))
  | _, _ => false
def pairsOKF (ops : Array Oper) (fs : List Nat) (ms : List Nat) : List (Nat × Bool) -> Bool
  | [] => true
  | x :: l => l.all (pairOKF ops fs ms x) && pairsOKF ops fs ms l
def drawOKF (ops : Array Oper) (fs : List Nat) (canon : List (Nat × Bool)) : Bool :=
  let ms := masksGo ops.toList []
  pairsOKF ops fs ms canon && edgesOK ops && decide (canon.length = ops.size) && canon.all (fun x => decide (x.1 < ops.size)) && (List.range ops.size).all (fun i => (canon.map (·.1)).contains i)

section
variable {P : Program} {N : Nat} {ops : Array Oper} {K : Fr -> Heap -> Prop} {fs : List Nat}

def vF (P : Program) (N : Nat) (ops : Array Oper) (fs : List Nat) (K : Fr -> Heap -> Prop) : Nat -> List (Nat × Bool) -> Fr -> Heap -> Prop
  | _, [], fr, H => K fr H
  | 0, _ :: _, _, _ => False
  | n + 1, (i, fl) :: l, fr, H => match ops[i]? with
    | none => False
    | some o => match isR o.op with
      | true => vstep P N ops o (vF P N ops fs K n l) fr H
      | false => vstep P N ops o (eK fl H (vF P N ops fs K n l)) fr H /\
          ∀ f, f ∈ fs -> f ∈ l.map (·.1) -> ∃ o', ops[f]? = some o' /\ isR o'.op = false /\ vstep P N ops o' (eK true H (vF P N ops fs K n ((i, fl) :: l.filter fun y => y.1 != f))) fr H

theorem vstep_closed {o : Oper} {T : Fr -> Heap -> Prop} (hT : Closed T) {f g : Fr} {H : Heap} (hfg : feq f g) (h : vstep P N ops o T f H) : vstep P N ops o T g H := by
  cases hR : isR o.op with
  | true =>
    obtain ⟨v, h1, h2⟩ := vstep_R hR hT h
    exact h2 g H _ hT (agreeG.of_feq hfg) (fun _ => List.prefix_refl _) (hT _ _ _ (hfg.put _ _) h1)
  | false =>
    refine vstep_weak (vstep_E hT h (agreeG.of_feq hfg)) ?_
    rintro f' h' ⟨v, h1, h2⟩
    exact hT _ _ _ ((hfg.put _ _).trans h1) h2
theorem eK_closed {fl : Bool} {H : Heap} {T : Fr -> Heap -> Prop} (hT : Closed T) : Closed (eK fl H T) := by
  intro f g h' hfg hk
  cases fl with
  | true => exact ⟨hk.1, hT _ _ _ hfg hk.2⟩
  | false => exact hT _ _ _ hfg hk
theorem vF_closed (hK : Closed K) : ∀ n l, Closed (vF P N ops fs K n l)
  | 0, [] => hK
  | n + 1, [] => hK
  | 0, _ :: _ => fun _ _ _ _ h => h
  | n + 1, (i, fl) :: l => by
    intro f g H hfg h
    simp only [vF] at h ⊢
    split at h
    · exact h.elim
    · rename_i o ho
      cases hR : isR o.op with
      | true => simp only [hR] at h ⊢; exact vstep_closed (vF_closed hK n l) hfg h
      | false =>
        simp only [hR] at h ⊢
        refine ⟨vstep_closed (eK_closed (vF_closed hK n l)) hfg h.1, fun f hf hm => ?_⟩
        obtain ⟨o', h1, h2, h3⟩ := h.2 f hf hm
        exact ⟨o', h1, h2, vstep_closed (eK_closed (vF_closed hK n _)) hfg h3⟩

def seqR (P : Program) (N : Nat) (ops : Array Oper) (T : Fr -> Heap -> Prop) : List (Nat × Bool) -> Fr -> Heap -> Prop
  | [], fr, H => T fr H
  | (j, _) :: l, fr, H => match ops[j]? with
    | none => False
    | some p => vstep P N ops p (seqR P N ops T l) fr H
theorem seqR_closed {T : Fr -> Heap -> Prop} (hT : Closed T) : ∀ l, Closed (seqR P N ops T l)
  | [] => hT
  | (j, fj) :: l => by
    intro f g H hfg h
    simp only [seqR] at h ⊢
    split at h
    · exact h.elim
    · exact vstep_closed (seqR_closed hT l) hfg h
theorem vF_seqR {n : Nat} {rest : List (Nat × Bool)} : ∀ (l1 : List (Nat × Bool)) (fr : Fr) (H : Heap), (∀ x ∈ l1, ∃ p, ops[x.1]? = some p /\ isR p.op = true) ->
    (vF P N ops fs K (l1.length + n) (l1 ++ rest) fr H ↔ seqR P N ops (vF P N ops fs K n rest) l1 fr H)
  | [], fr, H, _ => by simp [seqR]
  | (j, fj) :: l1, fr, H, hl => by
    obtain ⟨p, hp, hR⟩ := hl (j, fj) (by simp)
    have ih := fun fr H => vF_seqR (n := n) (rest := rest) l1 fr H fun x hx => hl x (by simp [hx])
    rw [show ((j, fj) :: l1).length + n = (l1.length + n) + 1 by simp; omega]
    simp only [List.cons_append, vF, seqR, hp, hR]
    exact ⟨fun h => vstep_weak h fun f h => (ih f h).1, fun h => vstep_weak h fun f h => (ih f h).2⟩

theorem front_gen {o : Oper} {fl : Bool} {T T' : Fr -> Heap -> Prop} (hT : Closed T) (hT' : Closed T') (hstep : ∀ fr H, T fr H -> vstep P N ops o (fun f h => rel o fl H h /\ T' f h) fr H) : ∀ (l1 : List (Nat × Bool)) (fr : Fr) (H : Heap),
    (∀ x ∈ l1, ∃ p, ops[x.1]? = some p /\ isR p.op = true /\ indep ops p o = true /\ (readsH p.op = true -> isR o.op = true \/ fl = true)) ->
    seqR P N ops T l1 fr H -> vstep P N ops o (fun f h => rel o fl H h /\ seqR P N ops T' l1 f h) fr H
  | [], fr, H, _, h => hstep fr H h
  | (j, fj) :: l1, fr, H, hl, h => by
    obtain ⟨p, hp, hR, hin, hrd⟩ := hl (j, fj) (by simp)
    simp only [seqR, hp] at h ⊢
    have hc1 := seqR_closed (P := P) (N := N) (ops := ops) hT l1
    have hc2 := seqR_closed (P := P) (N := N) (ops := ops) hT' l1
    obtain ⟨v, h1, h2⟩ := vstep_R hR hc1 h
    have ih := front_gen hT hT' hstep l1 (fr.put p.dst v) H (fun x hx => hl x (by simp [hx])) h1
    obtain ⟨i1, i2, i3⟩ := indep_spec hin
    have hcK : Closed (fun f h => rel o fl H h /\ seqR P N ops T' l1 f h) := fun f g h hfg hk => ⟨hk.1, hc2 _ _ _ hfg hk.2⟩
    have hag : agreeG ops o (fr.put p.dst v) fr := agreeG.symm (agreeG.put i1)
    refine vstep_weak (vstep_E hcK ih hag) ?_
    rintro f h' ⟨u, hf, hrel, hv⟩
    refine ⟨hrel, ?_⟩
    have hvE : vstep P N ops p (seqR P N ops T' l1) (fr.put o.dst u) h' := by
      refine h2 (fr.put o.dst u) h' _ hc2 (agreeG.put i2) (fun hr => hrel (hrd hr)) ?_
      exact hc2 _ _ _ (put_comm fr i3 v u) hv
    exact vstep_closed hc2 hf hvE

theorem eK_rel {o : Oper} {fl : Bool} {T : Fr -> Heap -> Prop} {fr : Fr} {H : Heap} (hR : isR o.op = false) (h : vstep P N ops o (eK fl H T) fr H) : vstep P N ops o (fun f h => rel o fl H h /\ T f h) fr H := by
  refine vstep_weak h ?_
  intro f h' hk
  cases fl with
  | true => exact ⟨fun _ => hk.1, hk.2⟩
  | false => exact ⟨fun e => by simp [hR] at e, hk⟩

theorem vF_front (hK : Closed K) {n i : Nat} {fl : Bool} {l1 l2 : List (Nat × Bool)} {o : Oper} (ho : ops[i]? = some o) {fr : Fr} {H : Heap}
    (hl1 : ∀ x ∈ l1, ∃ p, ops[x.1]? = some p /\ isR p.op = true /\ indep ops p o = true /\ (readsH p.op = true -> isR o.op = true \/ fl = true))
    (h : vF P N ops fs K (l1.length + (n + 1)) (l1 ++ (i, fl) :: l2) fr H) : vstep P N ops o (fun f h => rel o fl H h /\ vF P N ops fs K (l1.length + n) (l1 ++ l2) f h) fr H := by
  have hl1' : ∀ x ∈ l1, ∃ p, ops[x.1]? = some p /\ isR p.op = true := fun x hx => by obtain ⟨p, h1, h2, _⟩ := hl1 x hx; exact ⟨p, h1, h2⟩
  rw [vF_seqR l1 fr H hl1'] at h
  have hstep : ∀ fr H, vF P N ops fs K (n + 1) ((i, fl) :: l2) fr H -> vstep P N ops o (fun f h => rel o fl H h /\ vF P N ops fs K n l2 f h) fr H := by
    intro fr H h
    simp only [vF, ho] at h
    cases hR : isR o.op with
    | true =>
      simp only [hR] at h
      obtain ⟨v, h1, h2⟩ := vstep_R hR (vF_closed hK n l2) h
      refine h2 fr H _ ?_ (fun _ _ => rfl) (fun _ => List.prefix_refl _) ⟨fun _ => List.prefix_refl _, h1⟩
      intro f g h hfg hk
      exact ⟨hk.1, vF_closed hK n l2 _ _ _ hfg hk.2⟩
    | false => simp only [hR] at h; exact eK_rel hR h.1
  refine vstep_weak (front_gen (vF_closed hK _ _) (vF_closed hK n l2) hstep l1 fr H hl1 h) ?_
  rintro f h' ⟨h1, h2⟩
  exact ⟨h1, (vF_seqR l1 f h' hl1').2 h2⟩
theorem vF_float (hK : Closed K) {n i f : Nat} {fl : Bool} {r1 l2 : List (Nat × Bool)} {o o' : Oper} (ho : ops[i]? = some o) (hE : isR o.op = false) (hf : ops[f]? = some o') (hff : f ∈ fs) (hfl : f ∈ l2.map (·.1)) {fr : Fr} {H : Heap}
    (hl1 : ∀ x ∈ r1, ∃ p, ops[x.1]? = some p /\ isR p.op = true /\ indep ops p o' = true)
    (h : vF P N ops fs K (r1.length + (n + 1)) (r1 ++ (i, fl) :: l2) fr H) : vstep P N ops o' (fun f' h => rel o' true H h /\ vF P N ops fs K (r1.length + n) (r1 ++ (i, fl) :: l2.filter fun y => y.1 != f) f' h) fr H := by
  have hl1' : ∀ x ∈ r1, ∃ p, ops[x.1]? = some p /\ isR p.op = true := fun x hx => by obtain ⟨p, h1, h2, _⟩ := hl1 x hx; exact ⟨p, h1, h2⟩
  rw [vF_seqR r1 fr H hl1'] at h
  have hstep : ∀ fr H, vF P N ops fs K (n + 1) ((i, fl) :: l2) fr H -> vstep P N ops o' (fun f' h => rel o' true H h /\ vF P N ops fs K n ((i, fl) :: l2.filter fun y => y.1 != f) f' h) fr H := by
    intro fr H h
    simp only [vF, ho, hE] at h
    obtain ⟨o2, h1, h2, h3⟩ := h.2 f hff hfl
    rw [hf] at h1; cases h1
    exact eK_rel h2 h3
  refine vstep_weak (front_gen (vF_closed hK _ _) (vF_closed hK n _) hstep r1 fr H (fun x hx => by obtain ⟨p, h1, h2, h3⟩ := hl1 x hx; exact ⟨p, h1, h2, h3, fun _ => .inr rfl⟩) h) ?_
  rintro f h' ⟨h1, h2⟩
  exact ⟨h1, (vF_seqR r1 f h' hl1').2 h2⟩

theorem pairsOKF_spec {ms : List Nat} : ∀ {l1 : List (Nat × Bool)} {y : Nat × Bool} {l2 : List (Nat × Bool)}, pairsOKF ops fs ms (l1 ++ y :: l2) = true -> (∀ x ∈ l1, pairOKF ops fs ms x y = true) /\ (∀ z ∈ l2, pairOKF ops fs ms y z = true) /\ pairsOKF ops fs ms (l1 ++ l2) = true
  | [], y, l2, h => by
    simp only [List.nil_append, pairsOKF, Bool.and_eq_true, List.all_eq_true] at h
    exact ⟨by simp, h.1, h.2⟩
  | x :: l1, y, l2, h => by
    simp only [List.cons_append, pairsOKF, Bool.and_eq_true, List.all_eq_true] at h ⊢
    obtain ⟨h1, h2⟩ := h
    obtain ⟨h3, h4, h5⟩ := pairsOKF_spec h2
    refine ⟨fun z hz => ?_, h4, fun z hz => h1 z ?_, h5⟩
    · rcases List.mem_cons.1 hz with rfl | hz
      · exact h1 y (by simp)
      · exact h3 z hz
    · rcases List.mem_append.1 hz with hz | hz
      · simp [hz]
      · simp [hz]

theorem first_effect : ∀ (l : List (Nat × Bool)), (∀ x ∈ l, ∃ p, ops[x.1]? = some p) -> (∀ x ∈ l, ∃ p, ops[x.1]? = some p /\ isR p.op = true) \/
    ∃ r1 e o r2, l = r1 ++ e :: r2 /\ ops[e.1]? = some o /\ isR o.op = false /\ ∀ x ∈ r1, ∃ p, ops[x.1]? = some p /\ isR p.op = true
  | [], _ => .inl (by simp)
  | x :: l, h => by
    obtain ⟨p, hp⟩ := h x (by simp)
    cases hR : isR p.op with
    | false => exact .inr ⟨[], x, p, l, rfl, hp, hR, by simp⟩
    | true =>
      rcases first_effect l fun y hy => h y (by simp [hy]) with h1 | ⟨r1, e, o, r2, rfl, h2, h3, h4⟩
      · left
        intro y hy
        rcases List.mem_cons.1 hy with rfl | hy
        · exact ⟨p, hp, hR⟩
        · exact h1 y hy
      · refine .inr ⟨x :: r1, e, o, r2, rfl, h2, h3, fun y hy => ?_⟩
        rcases List.mem_cons.1 hy with rfl | hy
        · exact ⟨p, hp, hR⟩
        · exact h4 y hy

theorem drawF_any {B : Nat} {w0 : World} {Q : Exit -> Act -> World -> Prop} (hK : Closed K) (hedge : edgesOK ops = true) : ∀ (n : Nat) (listed : Array Bool) (l : List (Nat × Bool)) (fr : Fr) (H : Heap) (ρ : Rho) (w : World) (a : Act),
    listed.size = ops.size -> l.length = n -> pairsOKF ops fs (masksGo ops.toList []) l = true -> (∀ x ∈ l, x.1 < ops.size /\ listed.getD x.1 true = false) -> (∀ i, i < ops.size -> listed.getD i true = false -> ∃ x ∈ l, x.1 = i) ->
    (∀ (j : Nat) (o : Oper), ops[j]? = some o -> listed.getD j false = true -> ∀ e ∈ o.after.toList, Region.binds .any e = true -> listed.getD e.on false = true) ->
    vF P N ops fs K n l fr H -> R B w0 ρ H w -> FR N ρ fr a ->
    (∀ (ρ' : Rho) (fr' : Fr) (H' : Heap) (a' : Act) (w' : World), ρ <+: ρ' -> K fr' H' -> R B w0 ρ' H' w' -> FR N ρ' fr' a' -> Q .normal a' w') -> wpAny P .any ops Q n listed a w := by
  intro n
  have getD2 : ∀ (listed : Array Bool) (i : Nat), listed.size = ops.size -> i < ops.size -> listed.getD i true = listed.getD i false := by
    intro listed i h1 h2
    simp [Array.getD_eq_getD_getElem?, h1, h2]
  induction n with
  | zero =>
    intro listed l fr H ρ w a hsz hl hp hin hall hcl hv hR hF hq
    have : l = [] := List.eq_nil_of_length_eq_zero hl
    subst this
    refine ⟨?_, hq ρ fr H a w (List.prefix_refl _) hv hR hF⟩
    rw [List.eq_nil_iff_forall_not_mem]
    intro i hi
    simp only [Region.ready, List.mem_filter, List.mem_range, Bool.and_eq_true, Bool.not_eq_true'] at hi
    obtain ⟨x, hx, _⟩ := hall i hi.1 hi.2.1
    simp at hx
  | succ n ih =>
    intro listed l fr H ρ w a hsz hl hp hin hall hcl hv hR hF hq
    refine ⟨?_, ?_⟩
    · intro hnil
      exfalso
      match l, hl with
      | (i, fl) :: l, hl =>
        obtain ⟨h1, h2⟩ := hin (i, fl) (by simp)
        have hi : i ∈ Region.ready .any ops listed := by
          simp only [Region.ready, List.mem_filter, List.mem_range, Bool.and_eq_true, Bool.not_eq_true']
          refine ⟨h1, h2, ?_⟩
          rw [Array.getElem?_eq_getElem h1]
          simp only [Option.map_some, Option.getD_some, Array.all_eq_true']
          intro e he
          rw [Bool.or_eq_true, Bool.not_eq_true']
          by_cases hb : Region.binds .any e = true
          · right
            have hedge' := List.all_eq_true.1 hedge i (by simpa using h1)
            simp only [Array.getElem?_eq_getElem h1, List.all_eq_true] at hedge'
            have he' := hedge' e (by simpa using he)
            simp only [hb, Bool.not_true, Bool.false_or, Bool.and_eq_true, decide_eq_true_eq, bne_iff_ne, ne_eq] at he'
            rw [<- getD2 listed e.on hsz he'.1]
            cases hg : listed.getD e.on true with
            | true => rfl
            | false =>
              obtain ⟨x, hx, hxe⟩ := hall e.on he'.1 hg
              rcases List.mem_cons.1 hx with rfl | hx
              · exact absurd hxe.symm he'.2
              · have hpo := (pairsOKF_spec (l1 := []) hp).2.1 x hx
                have hx1 := (hin x (by simp [hx])).1
                simp only [pairOKF, Array.getElem?_eq_getElem h1, Array.getElem?_eq_getElem hx1, Bool.and_eq_true, Bool.not_eq_true'] at hpo
                have hd := hpo.1.1
                simp only [directTo, List.any_eq_false, Bool.and_eq_true, beq_iff_eq, not_and] at hd
                exact absurd hxe.symm (hd e (by simpa using he) hb)
          · left; simpa using hb
        rw [hnil] at hi
        simp at hi
    · intro i hi
      simp only [Region.ready, List.mem_filter, List.mem_range, Bool.and_eq_true, Bool.not_eq_true'] at hi
      obtain ⟨hilt, hnl, hrdy⟩ := hi
      rw [Array.getElem?_eq_getElem hilt] at hrdy
      simp only [Option.map_some, Option.getD_some, Array.all_eq_true'] at hrdy
      have ho : ops[i]? = some ops[i] := Array.getElem?_eq_getElem hilt
      obtain ⟨x, hx, hxi⟩ := hall i hilt hnl
      obtain ⟨l1, l2, rfl⟩ := List.append_of_mem hx
      obtain ⟨i', fl⟩ := x
      simp only at hxi
      subst hxi
      obtain ⟨hp1, hp2, hp3⟩ := pairsOKF_spec hp
      have hpre : ∀ e ∈ (ops[i']).after.toList, Region.binds .any e = true -> listed.getD e.on false = true := by
        intro e he hb
        have := hrdy e (by simpa using he)
        simpa [hb] using this
      have hdep : ∀ y ∈ l1, ¬ ((masksGo ops.toList []).getD i' 0).testBit y.1 = true := by
        intro y hy hb
        have := masks_sound (ops := ops) (fun j => listed.getD j false = true) hcl ops.toList [] (fun j _ => by simp) (fun j o p hj => by simp at hj) i' _ y.1 ho hb hpre
        obtain ⟨hy1, hy2⟩ := hin y (by simp [hy])
        rw [getD2 listed y.1 hsz hy1] at hy2
        rw [hy2] at this; cases this
      have hR1 : ∀ y ∈ l1, ∀ p, ops[y.1]? = some p -> isR p.op = true -> indep ops p ops[i'] = true /\ (readsH p.op = true -> isR (ops[i']).op = true \/ fl = true) := by
        intro y hy p hp' hRp
        have hy1 := (hin y (by simp [hy])).1
        have hpo := hp1 y hy
        have hd := hdep y hy
        simp only [pairOKF, hp', ho, Bool.and_eq_true] at hpo
        have hpo2 := hpo.2
        simp only [Bool.not_eq_true] at hd
        simp only [hRp, hd, Bool.false_or, Bool.or_false, Bool.and_eq_true, Bool.or_eq_true, Bool.not_eq_true'] at hpo2
        refine ⟨hpo2.1, fun hr => ?_⟩
        rcases hpo2.2 with (h | h) | h
        · exact .inl h
        · exact .inr h
        · rw [hr] at h; cases h
      have hE1 : ∀ y ∈ l1, ∀ p, ops[y.1]? = some p -> isR p.op = false -> i' ∈ fs /\ fl = true /\ isR (ops[i']).op = false := by
        intro y hy p hp' hRp
        have hpo := hp1 y hy
        have hd := hdep y hy
        simp only [pairOKF, hp', ho, Bool.and_eq_true] at hpo
        have hpo2 := hpo.2
        simp only [Bool.not_eq_true] at hd
        simp only [hRp, hd, Bool.false_or, Bool.and_eq_true, Bool.not_eq_true', List.contains_iff_mem] at hpo2
        exact ⟨hpo2.1.1, hpo2.1.2, hpo2.2⟩
      have hnd : ∀ y ∈ l1 ++ l2, y.1 ≠ i' := by
        intro y hy e
        rcases List.mem_append.1 hy with hy | hy
        · have hpo := hp1 y hy
          have hy1 := (hin y (by simp [hy])).1
          simp [pairOKF, Array.getElem?_eq_getElem hy1, ho, e] at hpo
        · have hpo := hp2 y hy
          have hy1 := (hin y (by simp [hy])).1
          simp [pairOKF, Array.getElem?_eq_getElem hy1, ho, e] at hpo
      have hstep : vstep P N ops ops[i'] (fun f h => rel ops[i'] fl H h /\ vF P N ops fs K n (l1 ++ l2) f h) fr H := by
        simp only [List.length_append, List.length_cons] at hl
        rcases first_effect (ops := ops) l1 (fun x hx => ⟨_, Array.getElem?_eq_getElem (hin x (by simp [hx])).1⟩) with hall1 | ⟨r1, e, oe, r2, rfl, he1, he2, he3⟩
        · rw [show n = l1.length + l2.length by omega]
          rw [show n + 1 = l1.length + (l2.length + 1) by omega] at hv
          exact vF_front hK ho (fun x hx => by obtain ⟨p, h1, h2⟩ := hall1 x hx; obtain ⟨h3, h4⟩ := hR1 x hx p h1 h2; exact ⟨p, h1, h2, h3, h4⟩) hv
        · obtain ⟨hif, hfl, hEi⟩ := hE1 e (by simp) oe he1 he2
          subst hfl
          simp only [List.length_append, List.length_cons] at hl
          rw [show n + 1 = r1.length + ((r2.length + 1 + l2.length) + 1) by omega, List.append_assoc, List.cons_append] at hv
          have hfilt : (r2 ++ (i', true) :: l2).filter (fun y => y.1 != i') = r2 ++ l2 := by
            rw [List.filter_append, List.filter_cons]
            simp only [bne_self_eq_false, Bool.false_eq_true, if_false]
            rw [List.filter_eq_self.2, List.filter_eq_self.2]
            · intro y hy; simpa using hnd y (by simp [hy])
            · intro y hy; simpa using hnd y (by simp [hy])
          have := vF_float (f := i') hK he1 he2 ho hif (by simp) (fun x hx => by
            obtain ⟨p, h1, h2⟩ := he3 x hx
            exact ⟨p, h1, h2, (hR1 x (by simp [hx]) p h1 h2).1⟩) hv
          rw [hfilt] at this
          rw [show n = r1.length + (r2.length + 1 + l2.length) by omega, List.append_assoc, List.cons_append]
          exact this
      unfold wpOp
      rw [ho]
      refine vstep_sound hstep hR hF Q ?_
      rintro ρ' fr' H' a' w' hpre' ⟨_, hv'⟩ hR' hF'
      refine ih (listed.setIfInBounds i' true) (l1 ++ l2) fr' H' ρ' w' a' (by simpa using hsz) (by simp at hl ⊢; omega) hp3 ?_ ?_ ?_ hv' hR' hF' (fun ρ'' f'' H'' a'' w'' h1 => hq ρ'' f'' H'' a'' w'' (hpre'.trans h1))
      · intro y hy
        have hne := hnd y hy
        obtain ⟨h1, h2⟩ := hin y (by rcases List.mem_append.1 hy with hy | hy <;> simp [hy])
        exact ⟨h1, by rw [getD_set_ne _ (fun e => hne e.symm)]; exact h2⟩
      · intro j hj hnj
        by_cases e : i' = j
        · subst e
          exfalso
          have : (listed.setIfInBounds i' true).getD i' true = true := by simp [Array.getD_eq_getD_getElem?]
          rw [this] at hnj; cases hnj
        · rw [getD_set_ne _ e] at hnj
          obtain ⟨y, hy, rfl⟩ := hall j hj hnj
          refine ⟨y, ?_, rfl⟩
          rcases List.mem_append.1 hy with hy | hy
          · simp [hy]
          · rcases List.mem_cons.1 hy with rfl | hy
            · exact absurd rfl e
            · simp [hy]
      · intro j o hj hlj e he hb
        by_cases e' : i' = j
        · subst e'
          rw [ho] at hj; cases hj
          exact getD_set_true (hpre e he hb)
        · rw [getD_set_ne _ e'] at hlj
          exact getD_set_true (hcl j o hj hlj e he hb)

inductive Tree
  | nil
  | one (i : Nat) (fl : Bool) (t : Tree)
  | two (i : Nat) (fl : Bool) (t : Tree) (f : Nat) (t' : Tree)

def vT (P : Program) (N : Nat) (ops : Array Oper) (K : Fr -> Heap -> Prop) : Tree -> Fr -> Heap -> Prop
  | .nil, fr, H => K fr H
  | .one i fl t, fr, H => match ops[i]? with
    | none => False
    | some o => match isR o.op with
      | true => vstep P N ops o (vT P N ops K t) fr H
      | false => vstep P N ops o (eK fl H (vT P N ops K t)) fr H
  | .two i fl t f t', fr, H => match ops[i]?, ops[f]? with
    | some o, some o' => vstep P N ops o (eK fl H (vT P N ops K t)) fr H /\ vstep P N ops o' (eK true H (vT P N ops K t')) fr H
    | _, _ => False
def treeOK (ops : Array Oper) (fs : List Nat) : Tree -> List (Nat × Bool) -> Bool
  | .nil, l => l.isEmpty
  | .one i fl t, (j, fl') :: l => i == j && fl == fl' && ((match ops[i]? with | some o => isR o.op | none => false) || fs.all fun f => !(l.map (·.1)).contains f) && treeOK ops fs t l
  | .two i fl t f t', (j, fl') :: l => i == j && fl == fl' && (match ops[i]?, ops[f]? with | some o, some o' => !isR o.op && !isR o'.op | _, _ => false) && (fs.all fun g => g == f || !(l.map (·.1)).contains g) && treeOK ops fs t l && treeOK ops fs t' ((j, fl') :: l.filter fun y => y.1 != f)
  | _, [] => false
theorem vT_vF : ∀ (t : Tree) (n : Nat) (l : List (Nat × Bool)) (fr : Fr) (H : Heap), l.length <= n -> (∀ x y, x ∈ l -> y ∈ l -> x.1 = y.1 -> x = y) -> treeOK ops fs t l = true -> vT P N ops K t fr H -> vF P N ops fs K n l fr H := by
  intro t
  induction t with
  | nil =>
    intro n l fr H hn _ hok h
    cases l with
    | nil => cases n <;> exact h
    | cons x l => simp [treeOK] at hok
  | one i fl t ih =>
    intro n l fr H hn hu hok h
    cases l with
    | nil => simp [treeOK] at hok
    | cons x l =>
      obtain ⟨j, fl'⟩ := x
      simp only [treeOK, Bool.and_eq_true, beq_iff_eq] at hok
      obtain ⟨⟨⟨rfl, rfl⟩, hfl⟩, hok⟩ := hok
      cases n with
      | zero => simp at hn
      | succ n =>
        simp only [List.length_cons] at hn
        have hu' : ∀ x y, x ∈ l -> y ∈ l -> x.1 = y.1 -> x = y := fun x y hx hy => hu x y (by simp [hx]) (by simp [hy])
        simp only [vT] at h
        simp only [vF]
        cases ho : ops[i]? with
        | none => simp [ho] at h
        | some o =>
          simp only [ho] at h hfl ⊢
          cases hR : isR o.op with
          | true => simp only [hR] at h ⊢; exact vstep_weak h fun f h => ih n l f h (by omega) hu' hok
          | false =>
            simp only [hR, Bool.false_or, List.all_eq_true] at h hfl ⊢
            refine ⟨vstep_weak h fun f h' hk => ?_, fun f hf hm => ?_⟩
            · cases fl with
              | true => exact ⟨hk.1, ih n l f h' (by omega) hu' hok hk.2⟩
              | false => exact ih n l f h' (by omega) hu' hok hk
            · have := hfl f hf
              simp only [Bool.not_eq_true', List.contains_eq_mem, decide_eq_false_iff_not] at this
              exact absurd hm this
  | two i fl t f t' ih ih' =>
    intro n l fr H hn hu hok h
    cases l with
    | nil => simp [treeOK] at hok
    | cons x l =>
      obtain ⟨j, fl'⟩ := x
      simp only [treeOK, Bool.and_eq_true, beq_iff_eq] at hok
      obtain ⟨⟨⟨⟨⟨rfl, rfl⟩, hE⟩, hfl⟩, hok⟩, hok'⟩ := hok
      cases n with
      | zero => simp at hn
      | succ n =>
        simp only [List.length_cons] at hn
        have hu' : ∀ x y, x ∈ l -> y ∈ l -> x.1 = y.1 -> x = y := fun x y hx hy => hu x y (by simp [hx]) (by simp [hy])
        simp only [vT] at h
        simp only [vF]
        cases ho : ops[i]? with
        | none => simp [ho] at h
        | some o =>
          cases ho' : ops[f]? with
          | none => simp [ho, ho'] at h
          | some o' =>
            simp only [ho, ho', Bool.and_eq_true, Bool.not_eq_true'] at h hE ⊢
            simp only [hE.1]
            refine ⟨vstep_weak h.1 fun g h' hk => ?_, fun g hg hm => ?_⟩
            · cases fl with
              | true => exact ⟨hk.1, ih n l g h' (by omega) hu' hok hk.2⟩
              | false => exact ih n l g h' (by omega) hu' hok hk
            · rw [List.all_eq_true] at hfl
              have hgf := hfl g hg
              simp only [Bool.or_eq_true, beq_iff_eq, Bool.not_eq_true', List.contains_eq_mem, decide_eq_false_iff_not] at hgf
              have : g = f := hgf.resolve_right (fun e => e hm)
              subst this
              refine ⟨o', ho', hE.2, vstep_weak h.2 fun q h' hk => ⟨hk.1, ih' n _ q h' ?_ ?_ hok' hk.2⟩⟩
              · obtain ⟨z, hz, hzg⟩ := List.mem_map.1 hm
                have : (l.filter fun y => y.1 != g).length < l.length := by
                  rw [List.length_filter_lt_length_iff_exists]
                  exact ⟨z, hz, by simp [hzg]⟩
                simp only [List.length_cons]; omega
              · intro x y hx hy
                refine hu x y ?_ ?_
                · rcases List.mem_cons.1 hx with rfl | hx
                  · simp
                  · exact List.mem_cons_of_mem _ (List.mem_filter.1 hx).1
                · rcases List.mem_cons.1 hy with rfl | hy
                  · simp
                  · exact List.mem_cons_of_mem _ (List.mem_filter.1 hy).1

theorem AWp.drawF {id : Nat} {fr : Fr} {H : Heap} {Q : Exit -> Fr -> Heap -> Prop} (hm : P.follows .mixedOrders = true) (fs : List Nat) (canon : List (Nat × Bool)) (t : Tree) (hok : (drawOKF ops fs canon && treeOK ops fs t canon) = true) (h : vT P N ops (Q .normal) t fr H) : AWp P N (.region id ops true) Q fr H := by
  intro B w0 ρ w a hR hF
  simp only [drawOKF, Bool.and_eq_true, decide_eq_true_eq, List.all_eq_true, List.mem_range, List.contains_iff_mem, List.mem_map] at hok
  obtain ⟨⟨⟨⟨⟨h1, h2⟩, h3⟩, h4⟩, h5⟩, h6⟩ := hok
  refine wp_region_any hm ?_
  let K : Fr -> Heap -> Prop := fun f h => ∃ g, feq g f /\ Q .normal g h
  have hK : Closed K := fun f g h hfg ⟨k, hk, hq⟩ => ⟨k, hk.trans hfg, hq⟩
  have hu : ∀ x y, x ∈ canon -> y ∈ canon -> x.1 = y.1 -> x = y := by
    intro x y hx hy e
    obtain ⟨l1, l2, rfl⟩ := List.append_of_mem hx
    obtain ⟨hp1, hp2, _⟩ := pairsOKF_spec h1
    rcases List.mem_append.1 hy with hy | hy
    · have := hp1 y hy
      unfold pairOKF at this
      split at this
      · simp [e] at this
      · cases this
    · rcases List.mem_cons.1 hy with rfl | hy
      · rfl
      · have := hp2 y hy
        unfold pairOKF at this
        split at this
        · simp [e] at this
        · cases this
  have hv : vF P N ops fs K ops.size canon fr H := by
    refine vT_vF t ops.size canon fr H (by omega) hu h6 ?_
    have weak : ∀ (t : Tree) (fr : Fr) (H : Heap), vT P N ops (Q .normal) t fr H -> vT P N ops K t fr H := by
      intro t
      induction t with
      | nil => exact fun fr H h => ⟨fr, feq.rfl' _, h⟩
      | one i fl t ih =>
        intro fr H h
        simp only [vT] at h ⊢
        split at h
        · exact h
        · rename_i o ho
          cases hR : isR o.op with
          | true => simp only [hR] at h ⊢; exact vstep_weak h ih
          | false =>
            simp only [hR] at h ⊢
            refine vstep_weak h ?_
            intro f h' hk
            cases fl with
            | true => exact ⟨hk.1, ih _ _ hk.2⟩
            | false => exact ih _ _ hk
      | two i fl t f t' ih ih' =>
        intro fr H h
        simp only [vT] at h ⊢
        split at h
        · rename_i o o' ho ho'
          refine ⟨vstep_weak h.1 ?_, vstep_weak h.2 fun f h' hk => ⟨hk.1, ih' _ _ hk.2⟩⟩
          intro f h' hk
          cases fl with
          | true => exact ⟨hk.1, ih _ _ hk.2⟩
          | false => exact ih _ _ hk
        · exact h
    exact weak t fr H h
  have hgt : ∀ i, i < ops.size -> (Array.replicate ops.size false).getD i true = false := by
    intro i hi
    simp [Array.getD_eq_getD_getElem?, hi]
  refine drawF_any (B := B) (w0 := w0) hK h2 ops.size (Array.replicate ops.size false) canon fr H ρ w.drew a (by simp) h3 h1 ?_ ?_ ?_ hv hR.drew hF ?_
  · intro x hx
    exact ⟨h4 x hx, hgt x.1 (h4 x hx)⟩
  · intro i hi _
    obtain ⟨x, hx, rfl⟩ := h5 i hi
    exact ⟨x, hx, rfl⟩
  · intro j o hj hl
    rw [Array.getD_eq_getD_getElem?, Array.getElem?_replicate] at hl
    split at hl <;> simp at hl
  · rintro ρ' fr' H' a' w' hp ⟨g, hg, hq⟩ hR' hF'
    exact ⟨ρ', g, H', hp, hR', hF'.feq hg.symm, hq⟩

/-! The words of such a tree, for simp. -/

def vTK (P : Program) (N : Nat) (ops : Array Oper) (K : Fr -> Heap -> Prop) (t : Tree) (fr : Fr) (H : Heap) : Prop := vT P N ops K t fr H
def eTK (P : Program) (N : Nat) (ops : Array Oper) (K : Fr -> Heap -> Prop) (t : Tree) (fl : Bool) (H : Heap) (fr : Fr) (H' : Heap) : Prop :=
  match fl with
  | true => andK (H <+: H') (vT P N ops K t fr H')
  | false => vT P N ops K t fr H'
def vTo (P : Program) (N : Nat) (ops : Array Oper) (K : Fr -> Heap -> Prop) (t : Tree) (fl : Bool) (fr : Fr) (H : Heap) (o : Oper) : Prop :=
  match isR o.op with
  | true => vstep P N ops o (vTK P N ops K t) fr H
  | false => vstep P N ops o (eTK P N ops K t fl H) fr H
def vTe (P : Program) (N : Nat) (ops : Array Oper) (K : Fr -> Heap -> Prop) (t : Tree) (fl : Bool) (fr : Fr) (H : Heap) (o : Oper) : Prop := vstep P N ops o (eTK P N ops K t fl H) fr H

theorem vT_nil (K : Fr -> Heap -> Prop) (fr : Fr) (H : Heap) : vT P N ops K .nil fr H = K fr H := rfl
theorem eTK_eq (K : Fr -> Heap -> Prop) (t : Tree) (fl : Bool) (H : Heap) : eK fl H (vT P N ops K t) = eTK P N ops K t fl H := by
  funext f h
  cases fl <;> rfl
theorem vT_one (K : Fr -> Heap -> Prop) (i : Nat) (fl : Bool) (t : Tree) (fr : Fr) (H : Heap) : vT P N ops K (.one i fl t) fr H = bindO ops[i]? (vTo P N ops K t fl fr H) := by
  simp only [vT]
  cases ops[i]? with
  | none => simp [bindO]
  | some o =>
    simp only [bindO_some, vTo]
    cases isR o.op with
    | true => rfl
    | false => simp only [eTK_eq]
theorem vT_two {i : Nat} {fl : Bool} {t : Tree} {f : Nat} {t' : Tree} {K : Fr -> Heap -> Prop} {fr : Fr} {H : Heap} (h1 : bindO ops[i]? (vTe P N ops K t fl fr H)) (h2 : bindO ops[f]? (vTe P N ops K t' true fr H)) : vT P N ops K (.two i fl t f t') fr H := by
  simp only [vT]
  cases ho : ops[i]? with
  | none => simp [ho, bindO] at h1
  | some o =>
    cases ho' : ops[f]? with
    | none => simp [ho', bindO] at h2
    | some o' =>
      simp only [ho, ho', bindO_some, vTe] at h1 h2 ⊢
      exact ⟨by rw [eTK_eq]; exact h1, by rw [eTK_eq]; exact h2⟩

attribute [go_sem] vTK eTK vTo vTe vT_nil vT_one

end
end Go.Ab
end

section
namespace Go.Proofs.YtkimaohcmcfcnaaDoor
open Go.Ab

theorem bytes1 (x : Int) : bytesOf [.int .u8 x] = some [UInt8.ofNat x.toNat] := rfl
theorem dec_small {n : Nat} (hn : n < 10) : Lib.decDigits n = [UInt8.ofNat (48 + n)] := by
  rw [Lib.decDigits, dif_pos hn]
theorem dec_two {n : Nat} (hn : 10 <= n) (h2 : n < 100) : Lib.decDigits n = [UInt8.ofNat (48 + n / 10), UInt8.ofNat (48 + n % 10)] := by
  rw [Lib.decDigits, dif_neg (by omega), dec_small (by omega)]; rfl

theorem l01Dec_small {H : Heap} {n : Nat} (hn : n < 10) (Post : Value -> Heap -> Prop) (h : ∀ H', H <+: H' -> Post (.string (bstr (Lib.decDigits n))) H') : ACalls Tryd.prog 32 [.int .i64 n] H Post := by
  refine acalls_vc (rs := [.tmp 2]) Tryd.func32 rfl rfl Tryd.ntmps32 rfl rfl ?_
  have w1 := i64w (n := 48 + (n : Int)) (by omega) (by omega)
  have w4 := u8w (n := 48 + (n : Int)) (by omega)
  have f1 : ¬ ((n : Int) < 0) := by omega
  have f2 : (n : Int) < 10 := by omega
  simp (maxSteps := 1000000) [go_sem, w1, w4, f1, f2, bytes1]
  have := h _ (List.prefix_append H [(⟨[.int .u8 (48 + (n : Int))], true, true⟩ : Blk)])
  rw [dec_small hn] at this
  have e : (48 + (n : Int)).toNat = 48 + n := by omega
  rw [e]
  simpa [bstr] using this

theorem l01Dec_ok {H : Heap} {n : Nat} (hn : n < 16) (Post : Value -> Heap -> Prop) (h : ∀ H', H <+: H' -> Post (.string (bstr (Lib.decDigits n))) H') : ACalls Tryd.prog 32 [.int .i64 n] H Post := by
  rcases Nat.lt_or_ge n 10 with h10 | h10
  · exact l01Dec_small h10 Post h
  refine acalls_vc (rs := [.tmp 2]) Tryd.func32 rfl rfl Tryd.ntmps32 rfl rfl ?_
  have f1 : ¬ ((n : Int) < 0) := by omega
  have f2 : ¬ ((n : Int) < 10) := by omega
  simp (maxSteps := 1000000) [go_sem, f1, f2]
  refine AWp.drawF mixed [2] [(0, false), (1, false), (3, false), (4, false), (5, false), (6, false), (7, true), (8, false), (2, true), (9, false), (10, false)] (.one 0 false (.one 1 false (.one 3 false (.one 4 false (.one 5 false (.one 6 false (.two 7 true (.one 8 false (.one 2 true (.one 9 false (.one 10 false .nil)))) 2 (.one 7 true (.one 8 false (.one 9 false (.one 10 false .nil))))))))))) (by kernel_rfl) ?_
  obtain ⟨q, hq⟩ : ∃ q : Nat, n / 10 = q := ⟨_, rfl⟩
  obtain ⟨r, hr⟩ : ∃ r : Nat, n % 10 = r := ⟨_, rfl⟩
  have e1 : (n : Int) / 10 = q := by omega
  have e2 : (n : Int) % 10 = r := by omega
  have e3 : (n : Int).tmod 10 = r := by rw [Int.tmod_eq_emod_of_nonneg (by omega)]; exact e2
  have w0 := i64w (n := (q : Int)) (by omega) (by omega)
  have w1 := i64w (n := 48 + (r : Int)) (by omega) (by omega)
  have w4 := u8w (n := 48 + (r : Int)) (by omega)
  have ed : Lib.decDigits n = Lib.decDigits q ++ [UInt8.ofNat (48 + r)] := by rw [dec_two h10 (by omega), dec_small (by omega), hq, hr]; rfl
  have er : (48 + (r : Int)).toNat = 48 + r := by omega
  have ex : UInt8.ofNat (48 + r) = 48 + UInt8.ofNat r := by simp
  have es : bstr (Lib.decDigits q) ++ ({ data := #[48 + UInt8.ofNat r] } : ByteArray) = bstr (Lib.decDigits n) := by rw [ed, ex]; exact bstr_append _ [_]
  have hlen : (bstr (Lib.decDigits q)).size = 1 := by rw [bstr_size, dec_small (by omega)]; rfl
  simp (maxSteps := 1000000) [go_sem, e1, e2, e3, w0, w1, w4]
  refine vT_two ?_ ?_
  · simp (maxSteps := 1000000) [go_sem, bytes1, e3, w0, w1, w4, er]
    refine l01Dec_small (by omega) _ ?_
    intro H' hp
    have hpp := (List.prefix_append H [(⟨[.int .u8 (48 + (r : Int))], true, true⟩ : Blk)]).trans hp
    simp (maxSteps := 1000000) [go_sem, e3, w1, w4, er, es, hlen, hpp, hp]
    exact h _ hpp
  · simp (maxSteps := 1000000) [go_sem, bytes1, e3, w0, w1, w4, er]
    refine l01Dec_small (by omega) _ ?_
    intro H' hp
    simp (maxSteps := 1000000) [go_sem, bytes1, e3, w1, w4, er, es, hlen]
    refine andK_intro hp ?_
    exact h _ (hp.trans (List.prefix_append _ _))
end Go.Proofs.YtkimaohcmcfcnaaDoor
end

section
namespace Go.Proofs.YtkimaohcmcfcnaaDoor
open Go.Ab

theorem _root_.Go.Ab.Holds.sys {H : Heap} {i : Nat} {p : Int} {u : Value} (h : Holds H i [.int .i64 p, u]) : cellsAt H i 0 2 = some [.int .i64 p, u] /\ cellsAt H i 0 1 = some [.int .i64 p] /\ cellsAt H i 1 1 = some [u] :=
  ⟨by simpa using h.cells (n := 2) (o := 0) (by simp), h.cell rfl, h.cell rfl⟩
end Go.Proofs.YtkimaohcmcfcnaaDoor
end

section
namespace Go.Proofs.YtkimaohcmcfcnaaDoor
open Go.Ab

def textTo (p : Nat) (bs : List Bk) (k : Nat) : List UInt8 := Lib.decDigits p ++ [58] ++ Lib.join ((bs.take k).map letters) [44]
theorem textTo_zero (p : Nat) (bs : List Bk) : textTo p bs 0 = Lib.decDigits p ++ [58] := by simp [textTo, Lib.join_nil]
theorem textTo_all (p : Nat) (bs : List Bk) : textTo p bs bs.length = sysText p bs := by simp [textTo, sysText]
theorem textTo_succ {p : Nat} {bs : List Bk} {k : Nat} (hk : k < bs.length) : textTo p bs (k + 1) = (if 0 < k then textTo p bs k ++ [44] else textTo p bs k) ++ letters bs[k] := by
  unfold textTo
  rw [List.take_succ_eq_append_getElem hk, List.map_append, List.map_cons, List.map_nil, join_snoc]
  have : ((bs.take k).map letters).length = k := by simp; omega
  rw [this]
  by_cases h0 : 0 < k
  · simp [h0]
  · obtain rfl : k = 0 := by omega
    simp [Lib.join_nil]
theorem textTo_len {p : Nat} (hp : p < 16) {bs : List Bk} (hl : bs.length <= 35) (k : Nat) : (textTo p bs k).length <= 200 := by
  have h1 : (Lib.decDigits p).length <= 2 := by
    rcases Nat.lt_or_ge p 10 with h | h
    · rw [dec_small h]; simp
    · rw [dec_two h (by omega)]; simp
  have h2 := join_short (xs := (bs.take k).map letters) (n := 3) (fun x hx => by obtain ⟨b, _, rfl⟩ := List.mem_map.1 hx; rfl) [44]
  have h3 : ((bs.take k).map letters).length <= 35 := by rw [List.length_map, List.length_take]; omega
  simp only [textTo, List.length_append, List.length_cons, List.length_nil] at h2 ⊢
  have : ((bs.take k).map letters).length * (3 + (0 + 1)) <= 35 * 4 := Nat.mul_le_mul h3 (by omega)
  omega

theorem l01Text_ok {H : Heap} {u : Value} {p : Nat} {bs : List Bk} (hp : p < 16) (hu : BlocksAt H u bs) (hl : bs.length <= 35) (hg : ∀ b ∈ bs, small15 b) (Post : Value -> Heap -> Prop) (h : ∀ H', H <+: H' -> Post (.string (bstr (sysText p bs))) H') :
    ACalls Tryd.prog 16 [sysV p u] H Post := by
  obtain ⟨i, o, rfl, h1, h2⟩ := hu
  refine acalls_vc (rs := [.tmp 2]) Tryd.func16 rfl rfl Tryd.ntmps16 rfl rfl ?_
  simp (maxSteps := 1000000) [go_sem, sysV, Value.oneCell']
  have hp0 : H <+: H ++ [(⟨[.int .i64 p, lv 3 i o bs.length], true, true⟩ : Blk)] := List.prefix_append _ _
  have hx0 : Holds (H ++ [(⟨[.int .i64 p, lv 3 i o bs.length], true, true⟩ : Blk)]) H.length [.int .i64 p, lv 3 i o bs.length] := ⟨true, by simp⟩
  generalize H ++ [(⟨[.int .i64 p, lv 3 i o bs.length], true, true⟩ : Blk)] = H0 at hp0 hx0 ⊢
  refine l01Dec_ok hp _ ?_
  intro H1 hp1
  have h58 : bstr (Lib.decDigits p) ++ ({ data := #[58] } : ByteArray) = bstr (textTo p bs 0) := by rw [textTo_zero]; exact bstr_append _ [58]
  have hsz : (bstr (Lib.decDigits p)).size <= 200 := by
    have := textTo_len hp hl 0
    rw [textTo_zero, List.length_append] at this
    rw [bstr_size]; omega
  simp (maxSteps := 1000000) [go_sem, h58, hsz]
  refine andK_intro (by omega) ?_
  refine AWp.loopVc (St := Nat) (fun k => [(1, .pointer (some ⟨H.length, 0, none⟩)), (3, .string (bstr (textTo p bs k))), (4, .int .i64 k)])
    (fun k H' => k <= bs.length /\ H0 <+: H') (fun k => bs.length - k) 0 ?_ ?_ ?_
  · simp [upF, Fr.get, Up.refl]
  · exact ⟨by simp, hp1⟩
  rintro K k H' ⟨hk, hpk⟩ hK
  obtain ⟨d0, d1, d2⟩ := (hx0.pre hpk).sys
  by_cases hlt : k < bs.length
  · have hbs : bs[k]? = some bs[k] := List.getElem?_eq_getElem hlt
    have c1 := (h1.pre (hp0.trans hpk)).bk hbs
    simp only [Bk.cells] at c1
    have hb15 := hg bs[k] (List.getElem_mem hlt)
    have hts := textTo_succ (p := p) hlt
    have hsz1 : (bstr (textTo p bs k)).size <= 200 := by rw [bstr_size]; exact textTo_len hp hl k
    have hsz2 : (bstr (letters bs[k])).size = 3 := by rw [bstr_size]; rfl
    have h44 : bstr (textTo p bs k) ++ ({ data := #[44] } : ByteArray) = bstr (textTo p bs k ++ [44]) := bstr_append _ [44]
    have hw_k : IntKind.i64.wrap ((k : Int) + 1) = (k : Int) + 1 := i64w (by omega) (by omega)
    by_cases h0 : 0 < k
    · rw [if_pos h0] at hts
      have h0' : (0 : Int) < k := by omega
      have hsz3 : (bstr (textTo p bs k ++ [44])).size <= 201 := by rw [bstr_size, List.length_append]; have := textTo_len hp hl k; simp; omega
      simp (maxSteps := 1000000) [go_sem, hlt, d2, c1, h0, h0', h44]
      refine andK_intro (by omega) ?_
      refine l01Letters_ok (b := bs[k]) hb15 _ ?_
      intro H2 hp2
      simp (maxSteps := 1000000) [go_sem, hw_k, bstr_append, <- hts]
      refine andK_intro (by omega) ?_
      exact hK (k + 1) _ _ (by omega) (by simp [upF, Fr.get, Up.refl]) ⟨by omega, hpk.trans hp2⟩
    · rw [if_neg h0] at hts
      have h0' : ¬ (0 : Int) < k := by omega
      simp (maxSteps := 1000000) [go_sem, hlt, d2, c1, h0, h0', h44]
      refine l01Letters_ok (b := bs[k]) hb15 _ ?_
      intro H2 hp2
      simp (maxSteps := 1000000) [go_sem, hw_k, bstr_append, <- hts]
      refine andK_intro (by omega) ?_
      exact hK (k + 1) _ _ (by omega) (by simp [upF, Fr.get, Up.refl]) ⟨by omega, hpk.trans hp2⟩
  · have : k = bs.length := by omega
    subst this
    simp (maxSteps := 1000000) [go_sem, d2]
    rw [textTo_all]
    exact h _ (hp0.trans hpk)
end Go.Proofs.YtkimaohcmcfcnaaDoor
end

section
namespace Go.Proofs.YtkimaohcmcfcnaaDoor
open Go.Ab

def fillS (bs : List Bk) (k : Nat) : List (List UInt8) := (bs.take k).map letters ++ List.replicate (bs.length - k) []
theorem fillS_len {bs : List Bk} {k : Nat} (h : k <= bs.length) : (fillS bs k).length = bs.length := by simp [fillS]; omega
theorem fillS_all (bs : List Bk) : fillS bs bs.length = bs.map letters := by simp [fillS]
theorem fillS_set {bs : List Bk} {k : Nat} (hk : k < bs.length) : (strs (fillS bs k)).set k (.string (bstr (letters bs[k]))) = strs (fillS bs (k + 1)) := by
  have e : (fillS bs k).set k (letters bs[k]) = fillS bs (k + 1) := by
    unfold fillS
    have hl : ((bs.take k).map letters).length = k := by simp; omega
    rw [List.set_append_right _ _ (by omega), hl, Nat.sub_self, show bs.length - k = (bs.length - (k + 1)) + 1 by omega, List.replicate_succ, List.set_cons_zero, List.take_succ_eq_append_getElem hk, List.map_append, List.append_assoc]
    simp
  rw [<- e, strs, strs, List.map_set]
theorem made_strs (n : Nat) (bs : List Bk) (hn : bs.length = n) : (madeCells #[Value.string { data := #[] }] n).toList = strs (fillS bs 0) := by
  rw [made_same (v := .string { data := #[] }) (by simp) (by intro i hi; simp at hi; subst hi; rfl)]
  simp [fillS, strs, hn, bstr]
theorem storeS {H : Heap} {id : Nat} {cs : List Value} {s : Nat} {y : Value} (hb : H[id]? = some ⟨cs, true, true⟩) (hs : s < cs.length) (hy : y.oneCell' = true) : storeAt H id s [y] = some (H.set id ⟨cs.set s y, true, true⟩) := by
  rw [storeAt_of hb rfl rfl (by simp; omega) (by simp [hy])]
  simp [over_one hs]

theorem blocksText_ok {H : Heap} {u : Value} {bs : List Bk} (hu : BlocksAt H u bs) (hl : bs.length <= 35) (hg : ∀ b ∈ bs, small15 b) (Post : Value -> Heap -> Prop) (h : ∀ H', H <+: H' -> Post (.string (bstr (Lib.join (bs.map letters) [44]))) H') :
    ACalls Tryd.prog 37 [u] H Post := by
  obtain ⟨i, o, rfl, h1, h2⟩ := hu
  refine acalls_vc (rs := [.tmp 2]) Tryd.func37 rfl rfl Tryd.ntmps37 rfl rfl ?_
  simp (maxSteps := 1000000) [go_sem]
  refine andK_intro (by omega) ?_
  have hp1 : H <+: H ++ [(⟨(madeCells #[Value.string { data := #[] }] bs.length).toList, true, true⟩ : Blk)] := List.prefix_append _ _
  have hb1 : (H ++ [(⟨(madeCells #[Value.string { data := #[] }] bs.length).toList, true, true⟩ : Blk)])[H.length]? = some ⟨strs (fillS bs 0), true, true⟩ := by rw [<- made_strs bs.length bs rfl]; simp
  generalize H ++ [(⟨(madeCells #[Value.string { data := #[] }] bs.length).toList, true, true⟩ : Blk)] = H1 at hp1 hb1 ⊢
  refine AWp.loopVc (St := Nat) (fun k => [(3, .slice (some ⟨H.length, 0, none⟩) bs.length bs.length), (9, lv 3 i o bs.length), (10, .int .i64 bs.length), (11, .int .i64 k)])
    (fun k H' => k <= bs.length /\ H <+: H' /\ H'[H.length]? = some ⟨strs (fillS bs k), true, true⟩) (fun k => bs.length - k) 0 ?_ ?_ ?_
  · simp [upF, Fr.get, Up.refl]
  · exact ⟨by simp, hp1, hb1⟩
  rintro K k H' ⟨hk, hpk, hbk⟩ hK
  by_cases hlt : k < bs.length
  · have hbs : bs[k]? = some bs[k] := List.getElem?_eq_getElem hlt
    have c1 := (h1.pre hpk).bk hbs
    simp only [Bk.cells] at c1
    have hb15 := hg bs[k] (List.getElem_mem hlt)
    have hw_k : IntKind.i64.wrap ((k : Int) + 1) = (k : Int) + 1 := i64w (by omega) (by omega)
    simp (maxSteps := 1000000) [go_sem, hlt, c1]
    have hp2 : H' <+: H' ++ [(⟨[.int .i64 bs[k].a, .int .i64 bs[k].b, .int .i64 bs[k].c], true, true⟩ : Blk)] := List.prefix_append _ _
    refine blockText_ok (b := bs[k]) hb15 _ ?_
    intro H2 hp3
    have hb2 := pget (hp2.trans hp3) hbk
    have hst := storeS (s := k) (y := .string (bstr (letters bs[k]))) hb2 (by simp [strs, fillS_len hk]; omega) rfl
    rw [fillS_set hlt] at hst
    have hlt2 := (List.getElem?_eq_some_iff.1 hb2).1
    have hpn : H <+: H2.set H.length ⟨strs (fillS bs (k + 1)), true, true⟩ := by
      have hp := (hpk.trans hp2).trans hp3
      rw [List.prefix_iff_eq_take]
      apply List.ext_getElem?
      intro j
      by_cases hj : j < H.length
      · rw [List.getElem?_take, if_pos hj, List.getElem?_set_ne (by omega)]
        obtain ⟨t, rfl⟩ := hp
        rw [List.getElem?_append_left hj]
      · rw [List.getElem?_take, if_neg hj, List.getElem?_eq_none (by omega)]
    simp (maxSteps := 1000000) [go_sem, hlt, hw_k, hst]
    exact hK (k + 1) _ _ (by omega) (by simp [upF, Fr.get, Up.refl]) ⟨by omega, hpn, List.getElem?_set_self hlt2⟩
  · have : k = bs.length := by omega
    subst this
    rw [fillS_all] at hbk
    have hml : (bs.map letters).length = bs.length := by simp
    have hjl := join_short (xs := bs.map letters) (n := 3) (fun x hx => by obtain ⟨b, _, rfl⟩ := List.mem_map.1 hx; rfl) [44]
    simp (maxSteps := 1000000) [go_sem]
    refine join_ok (sep := [44]) hml (.inr ⟨true, hbk⟩) (by omega) (by simp at hjl ⊢; omega) _ ?_
    simp (maxSteps := 1000000) [go_sem]
    exact h _ hpk

theorem systemText_ok {H : Heap} {u : Value} {p : Nat} {bs : List Bk} (hp : p < 16) (hu : BlocksAt H u bs) (hl : bs.length <= 35) (hg : ∀ b ∈ bs, small15 b) (Post : Value -> Heap -> Prop) (h : ∀ H', H <+: H' -> Post (.string (bstr (sysText p bs))) H') :
    ACalls Tryd.prog 19 [sysV p u] H Post := by
  have ou := hu.one
  refine acalls_vc (rs := [.tmp 2]) Tryd.func19 rfl rfl Tryd.ntmps19 rfl rfl ?_
  simp (maxSteps := 1000000) [go_sem, sysV, ou]
  have hp0 : H <+: H ++ [(⟨[.int .i64 p, u], true, true⟩ : Blk)] := List.prefix_append _ _
  have hx0 : Holds (H ++ [(⟨[.int .i64 p, u], true, true⟩ : Blk)]) H.length [.int .i64 p, u] := ⟨true, by simp⟩
  generalize H ++ [(⟨[.int .i64 p, u], true, true⟩ : Blk)] = H0 at hp0 hx0 ⊢
  obtain ⟨d0, d1, d2⟩ := hx0.sys
  refine AWp.draw mixed [(0, false), (1, false), (4, false), (5, false), (2, true), (3, false), (6, false), (7, false), (8, false)] (by kernel_rfl) ?_
  simp (maxSteps := 1000000) [go_sem, d1, d2]
  have h58 : bstr (Lib.decDigits p) ++ ({ data := #[58] } : ByteArray) = bstr (textTo p bs 0) := by rw [textTo_zero]; exact bstr_append _ [58]
  have hall : bstr (textTo p bs 0) ++ bstr (Lib.join (bs.map letters) [44]) = bstr (sysText p bs) := by rw [textTo_zero, bstr_append]; simp [sysText]
  have s1 : (bstr (Lib.decDigits p)).size <= 200 := by
    have := textTo_len hp hl 0
    rw [textTo_zero, List.length_append] at this
    rw [bstr_size]; omega
  have s2 : (bstr (textTo p bs 0)).size <= 200 := by rw [bstr_size]; exact textTo_len hp hl 0
  have s3 : (bstr (Lib.join (bs.map letters) [44])).size <= 200 := by
    rw [bstr_size]
    have hjl := join_short (xs := bs.map letters) (n := 3) (fun x hx => by obtain ⟨b, _, rfl⟩ := List.mem_map.1 hx; rfl) [44]
    simp at hjl; omega
  refine format_ok (by omega) _ ?_
  simp (maxSteps := 1000000) [go_sem, d1, d2, h58]
  try refine andK_intro (List.prefix_refl _) ?_
  try refine andK_intro (by omega) ?_
  refine blocksText_ok (hu.pre hp0) hl hg _ ?_
  intro H2 hp2
  simp (maxSteps := 1000000) [go_sem, h58, hall]
  exact andK_intro (by omega) (h _ (hp0.trans hp2))

theorem isSys_nat {p : Int} {bs : List Bk} (h : IsSys p bs) : ∃ n : Nat, p = n /\ n < 16 /\ bs.length <= 35 /\ ∀ b ∈ bs, small15 b := by
  obtain ⟨⟨h3, h15⟩, hl, hs, _⟩ := h
  refine ⟨p.toNat, by omega, by omega, hl, fun b hb => ?_⟩
  obtain ⟨i, hi, rfl⟩ := List.mem_iff_getElem.1 hb
  have hgd := (hs i bs[i] (List.getElem?_eq_getElem hi)).1
  simp only [good, Bool.and_eq_true, decide_eq_true_eq] at hgd
  exact ⟨by omega, by omega, by omega⟩

noncomputable def rText (p : Int) (bs : List Bk) : List UInt8 × Int := if sysB p bs then (sysText p bs, 0) else ([], 1)

theorem specText_ok {H : Heap} {u : Value} {p : Int} {bs : List Bk} (hu : BlocksAt H u bs) (hl : bs.length <= 1048576) (Post : Value -> Heap -> Prop) (h : ∀ H', H <+: H' -> Post (.tuple #[.string (bstr (rText p bs).1), .int .i64 (rText p bs).2]) H') :
    ACalls Tryd.prog 6 [sysV p u] H Post := by
  have ou := hu.one
  refine acalls_vc (rs := [.tmp 2, .tmp 3]) Tryd.func6 rfl rfl Tryd.ntmps6 rfl rfl ?_
  simp (maxSteps := 1000000) [go_sem, sysV, ou]
  refine l01Is' (hu.pre (List.prefix_append _ _)) hl _ ?_
  intro H1 hp1
  obtain ⟨d1, d2, d3⟩ := sysBox hp1
  cases hs : sysB p bs with
  | false =>
    simp (maxSteps := 1000000) [go_sem]
    simpa [rText, hs, bstr] using h H1 (pre_box hp1)
  | true =>
    obtain ⟨n, rfl, hn, hl', hg⟩ := isSys_nat (sysB_iff.1 hs)
    simp (maxSteps := 1000000) [go_sem, d1]
    refine l01Text_ok hn (hu.pre (pre_box hp1)) hl' hg _ ?_
    intro H2 hp2
    simp (maxSteps := 1000000) [go_sem]
    simpa [rText, hs] using h H2 ((pre_box hp1).trans hp2)

theorem implText_ok {H : Heap} {u : Value} {p : Int} {bs : List Bk} (hu : BlocksAt H u bs) (hl : bs.length <= 1048576) (Post : Value -> Heap -> Prop) (h : ∀ H', H <+: H' -> Post (.tuple #[.string (bstr (rText p bs).1), .int .i64 (rText p bs).2]) H') :
    ACalls Tryd.prog 8 [sysV p u] H Post := by
  have ou := hu.one
  refine acalls_vc (rs := [.tmp 2, .tmp 3]) Tryd.func8 rfl rfl Tryd.ntmps8 rfl rfl ?_
  simp (maxSteps := 1000000) [go_sem, sysV, ou]
  refine implIsSys (hu.pre (List.prefix_append _ _)) _ ?_
  intro H1 hp1
  obtain ⟨d1, d2, d3⟩ := sysBox hp1
  cases hs : sysB p bs with
  | false =>
    simp (maxSteps := 1000000) [go_sem]
    simpa [rText, hs, bstr] using h H1 (pre_box hp1)
  | true =>
    obtain ⟨n, rfl, hn, hl', hg⟩ := isSys_nat (sysB_iff.1 hs)
    simp (maxSteps := 1000000) [go_sem, d1]
    refine systemText_ok hn (hu.pre (pre_box hp1)) hl' hg _ ?_
    intro H2 hp2
    simp (maxSteps := 1000000) [go_sem]
    simpa [rText, hs] using h H2 ((pre_box hp1).trans hp2)
end Go.Proofs.YtkimaohcmcfcnaaDoor
end

section
namespace Go.Proofs.YtkimaohcmcfcnaaDoor
open Go.Ab

theorem lawFnExactSystemText (H : Heap) (avs : List Value) (h : argsSay [shSystem] H avs) : ACalls Tryd.prog 3 avs H fun v _ => v = .bool true := by
  obtain ⟨v, us, rfl, hv, rfl⟩ := h
  obtain ⟨p, u, bs, rfl, hp, hu0, hb⟩ := says_shSystem hv
  have hone : u.oneCell' = true := by obtain ⟨i, o, rfl, _⟩ := hu0; rfl
  refine acalls_vc (rs := [.tmp 2]) Tryd.func3 rfl rfl Tryd.ntmps3 rfl rfl ?_
  simp (maxSteps := 1000000) [go_sem, sysV, hone]
  have hp0 := List.prefix_append H [(⟨[.int .i64 p, u], true, true⟩ : Blk)]
  refine szSystem0_ok (hu0.pre hp0) (by omega) (by omega) _ ?_
  intro H1 hp1
  by_cases hbig : (1048576 : Int) < bs.length
  · simp (maxSteps := 1000000) [go_sem, hbig]
  have hneg : decide ((1048576 : Int) - bs.length < 0) = false := by simp; omega
  obtain ⟨d1, _, _⟩ := sysBox hp1
  have hl : bs.length <= 1048576 := by omega
  have hu := hu0.at (by omega)
  simp (maxSteps := 1000000) [go_sem, hbig, hneg, d1]
  refine toSystem_ok (hu.pre (pre_box hp1)) _ hl ?_
  intro H2 u2 id2 hp2 _ ho2
  simp (maxSteps := 1000000) [go_sem]
  refine specText_ok ho2.read hl _ ?_
  intro H3 hp3
  obtain ⟨d3, _, _⟩ := sysBox (hp1.trans (hp2.trans hp3))
  simp (maxSteps := 1000000) [go_sem, d3]
  refine toSystem_ok (hu.pre (pre_box (hp1.trans (hp2.trans hp3)))) _ hl ?_
  intro H4 u4 id4 hp4 _ ho4
  have o4 : u4.oneCell' = true := ho4.read.one
  simp (maxSteps := 1000000) [go_sem, sysV, o4]
  have hx0 := List.prefix_append H4 [(⟨[.int .i64 p, u4], true, true⟩ : Blk)]
  refine implText_ok (ho4.read.pre hx0) hl _ ?_
  intro H5 hp5
  simp (maxSteps := 1000000) [go_sem]
  obtain ⟨e5, _, _⟩ := sysBox hp5
  have hq5 := hp1.trans (hp2.trans (hp3.trans (hp4.trans (hx0.trans hp5))))
  obtain ⟨d5, _, _⟩ := sysBox hq5
  refine AWp.draw mixed [(0, false), (1, false), (2, true), (3, false), (4, false)] (by kernel_rfl) ?_
  simp (maxSteps := 1000000) [go_sem, e5, d5]
  refine toSystem_ok (hu.pre (pre_box hq5)) _ hl ?_
  intro H6 u6 id6 hp6 _ ho6
  simp (maxSteps := 1000000) [go_sem, hp6]
  refine eqSystem_ok (ho4.read.pre (hx0.trans (hp5.trans hp6))) ho6.read _ ?_
  intro H7 hp7
  simp (maxSteps := 1000000) [go_sem]

end Go.Proofs.YtkimaohcmcfcnaaDoor
end

section
namespace Go.Ab
open Go.ChangeShapes Go.WideShapes Go.ChangeAt Go.RowKit

theorem law_lifted_laid {C : Checked} {os : Os} {D : Type} {enc : TypeId × Value -> D} {f : FuncId} {fn : Func} {s : ChangeSpec} {conds : List PathCond} {apart fresh handsOn : Bool} {X : World -> Array Value -> Prop} (hX : ∀ (w w' : World) (args : Array Value), w.heap = w'.heap -> X w args -> X w' args) (ss : List Shape) (own : ownKnob C.prog.godebug = none) (laid : laidOutB C.prog = true) (started : os.Started)
    (noInit : C.prog.inits.idxOf? f = none) (hfn : C.prog.funcs[f]? = some fn)
    (witness : ∃ (w : World) (tape : Tape) (i : Input), w.os = os /\ (w.forCall tape i).Shaped C.prog /\ i.vars = [] /\ Input.okWide C.prog (w.forCall tape i) .any w.heap.size f i /\
      ((s.pre enc C.prog fn conds apart (w.forCall tape i).memory i.args /\ X (w.forCall tape i).memory i.args) /\ sizedMet enc C.prog fn (OpenSpec.ofChange s) apart (w.forCall tape i).memory i.args) /\ ({} : Assume).holds C.prog (lone (Frame.enter C.prog f i.args .normal) [] (w.forCall tape i)))
    (hparams : fn.params.toList = ss.map (·.type)) (hread : fn.params.toList.all (fun t => C.prog.readableRec t && decide (t < C.prog.types.size)) = true) {tb : TypeId} (hres : fn.resultTypes = #[tb]) (hb : C.prog.underlying tb = some .bool)
    (hvars : s.vars = []) (hspec : ∀ ds : List (DataW D), ds.length = ss.length -> s.fn D ds = { results := [.lit (.bool true)], args := ds })
    (hfits : ∀ W : World, ∀ x ∈ ss, x.fits enc C.prog W)
    (hlaw : ∀ (H : Heap) (avs : List Value), argsSay ss H avs -> ACalls C.prog f avs H fun v _ => v = .bool true) :
    ReturnsInHanded {} C os f .any (fun w args => (s.pre enc C.prog fn conds apart w args /\ X w args) /\ sizedMet enc C.prog fn (OpenSpec.ofChange s) apart w args) (s.post enc C.prog fn apart fresh handsOn false) := by
  refine returnsInHanded_of_change_and (C := C) hX own started noInit hfn witness ?_
  intro W base args ds gs before hval hW hcnd _ hXW _
  have hW' := hW
  obtain ⟨p, q, hA, hV, rfl, hfz, hnd⟩ := hW
  rw [hvars] at hV
  obtain ⟨rfl, rfl⟩ : gs = [] /\ q = [] := by
    cases gs with
    | nil => exact ⟨rfl, hV⟩
    | cons g gs => exact hV.elim
  have hA' := hA
  rw [hparams] at hA'
  obtain ⟨ρ, H, avs, _, _, hR, _, hvr, hsay⟩ := open_args (base := base) ss args.toList ds p [] [] (hfits W) (fun j t v hj hv => hval j t v (by rw [<- Array.getElem?_toList, hparams]; exact hj) (by rw [<- Array.getElem?_toList]; exact hv)) hA' (R.start W) (by simp [noOwn])
  have hlen : ds.length = ss.length := by
    have key : ∀ (ts : List TypeId) (vs : List Value) (ds : List (DataW D)) (ps : List MemPlace), DataW.TrodAll enc C.prog W 0 (fun _ => true) true ts vs ds ps -> ds.length = ts.length := by
      intro ts
      induction ts with
      | nil => intro vs ds ps h; cases vs <;> cases ds <;> first | rfl | exact h.elim
      | cons t ts ih =>
        intro vs ds ps h
        cases vs with
        | nil => cases ds <;> exact h.elim
        | cons v vs => cases ds with
          | nil => exact h.elim
          | cons d ds => obtain ⟨_, _, _, h2, _⟩ := h; simp [ih _ _ _ h2]
    simpa using key _ _ _ _ hA'
  have hc := (hlaw H avs hsay).2 W.heap.size W ρ W args.toList hR hvr
  rw [Array.toArray_toList] at hc
  refine hc.mono fun e W' ⟨ρ', H', v, cv, he, _, hR', hv, hp⟩ => ?_
  subst hp
  have := hv.bool_inv
  subst this
  subst he
  have bel : Below W.heap.size W W' := hR'.below
  refine ⟨_, rfl, ds, [], p ++ [], [], p, [], hW', ?_, ?_, ?_, bel.frame _, fun h => by cases h⟩
  · rw [List.append_nil, hspec ds hlen, hres]
    exact trodAll_mk1 (shut_bool hb _)
  · rw [List.append_nil, hspec ds hlen]
    exact trodAll_stays laid bel _ _ _ _ hread hA
  · rw [List.append_nil, hspec ds hlen, hvars]
    rfl

end Go.Ab
end
