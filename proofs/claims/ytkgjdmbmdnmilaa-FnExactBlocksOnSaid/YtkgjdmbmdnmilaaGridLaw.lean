/- The grid of third points in plain terms: what its entries are, and when a block fits. No program is in sight here. -/
import Derived.Test.YtkgjdmbmdnmilaaSysLaw
set_option linter.all false
namespace Go.Ab

/-- A block has a point. -/
def Bk.has (b : Bk) (p : Int) : Bool := decide (b.a = p) || (decide (b.b = p) || decide (b.c = p))
theorem Bk.has_iff {b : Bk} {p : Int} : b.has p = true ↔ (b.a = p ∨ b.b = p ∨ b.c = p) := by simp [Bk.has]

/-- The third point of two, and -1 if there is none. -/
def third (bs : List Bk) (p q : Int) : Int :=
  match bs.find? (fun c => c.has p && c.has q) with
  | some c => c.a + c.b + c.c - p - q
  | none => -1

theorem good_iff {v : Int} {b : Bk} : good v b = true ↔ 0 ≤ b.a ∧ b.a < b.b ∧ b.b < b.c ∧ b.c < v := by
  simp only [good, Bool.and_eq_true, decide_eq_true_eq, and_assoc]

theorem third_value {v : Int} {c : Bk} {p q : Int} (hc : good v c = true) (hpq : p ≠ q) (hp : c.has p = true) (hq : c.has q = true) :
    0 ≤ c.a + c.b + c.c - p - q ∧ c.a + c.b + c.c - p - q < v ∧ c.has (c.a + c.b + c.c - p - q) = true ∧ c.a + c.b + c.c - p - q ≠ p ∧ c.a + c.b + c.c - p - q ≠ q := by
  rw [good_iff] at hc
  rw [Bk.has_iff] at hp hq ⊢
  obtain ⟨h1, h2, h3, h4⟩ := hc
  refine ⟨?_, ?_, ?_, ?_, ?_⟩ <;> rcases hp with hp | hp | hp <;> rcases hq with hq | hq | hq <;> omega

theorem third_neg {v : Int} {bs : List Bk} (hg : ∀ x ∈ bs, good v x = true) {p q : Int} (hpq : p ≠ q) : third bs p q = -1 ↔ ∀ x ∈ bs, ¬ (x.has p = true ∧ x.has q = true) := by
  unfold third
  cases hf : bs.find? (fun c => c.has p && c.has q) with
  | none =>
    simp only [true_iff]
    intro x hx h
    have := List.find?_eq_none.1 hf x hx
    simp [h.1, h.2] at this
  | some c =>
    have h1 := List.find?_some hf
    have h2 := List.mem_of_find?_eq_some hf
    simp only [Bool.and_eq_true] at h1
    have := third_value (hg c h2) hpq h1.1 h1.2
    constructor
    · intro h
      have h : c.a + c.b + c.c - p - q = -1 := h
      omega
    · intro h; exact absurd h1 (h c h2)

theorem third_some {v : Int} {bs : List Bk} (hg : ∀ x ∈ bs, good v x = true) {p q : Int} (hpq : p ≠ q) (h : third bs p q ≠ -1) :
    ∃ c ∈ bs, c.has p = true ∧ c.has q = true ∧ third bs p q = c.a + c.b + c.c - p - q ∧ 0 ≤ third bs p q ∧ third bs p q < v ∧ c.has (third bs p q) = true ∧ third bs p q ≠ p ∧ third bs p q ≠ q := by
  unfold third at h ⊢
  cases hf : bs.find? (fun c => c.has p && c.has q) with
  | none => simp [hf] at h
  | some c =>
    have h1 := List.find?_some hf
    have h2 := List.mem_of_find?_eq_some hf
    simp only [Bool.and_eq_true] at h1
    exact ⟨c, h2, h1.1, h1.2, rfl, third_value (hg c h2) hpq h1.1 h1.2⟩

theorem third_comm (bs : List Bk) (p q : Int) : third bs p q = third bs q p := by
  unfold third
  rw [show (fun c : Bk => c.has p && c.has q) = (fun c => c.has q && c.has p) from funext fun c => Bool.and_comm _ _]
  split <;> omega

theorem third_snoc {bs : List Bk} {b : Bk} {p q : Int} : third (bs ++ [b]) p q = match bs.find? (fun c => c.has p && c.has q) with
    | some c => c.a + c.b + c.c - p - q
    | none => if b.has p && b.has q then b.a + b.b + b.c - p - q else -1 := by
  unfold third
  rw [List.find?_append]
  cases bs.find? (fun c => c.has p && c.has q) with
  | some c => rfl
  | none =>
    simp only [Option.none_or, List.find?_cons]
    cases b.has p && b.has q <;> rfl

theorem third_snoc_in {v : Int} {bs : List Bk} {b : Bk} (hg : ∀ x ∈ bs, good v x = true) {p q : Int} (hpq : p ≠ q) (hp : b.has p = true) (hq : b.has q = true) (hn : third bs p q = -1) : third (bs ++ [b]) p q = b.a + b.b + b.c - p - q := by
  have h := (third_neg hg hpq).1 hn
  rw [third_snoc]
  cases hf : bs.find? (fun c => c.has p && c.has q) with
  | none => simp [hp, hq]
  | some c =>
    have h1 := List.find?_some hf
    simp only [Bool.and_eq_true] at h1
    exact absurd h1 (h c (List.mem_of_find?_eq_some hf))

theorem third_snoc_out {bs : List Bk} {b : Bk} {p q : Int} (h : ¬ (b.has p = true ∧ b.has q = true)) : third (bs ++ [b]) p q = third bs p q := by
  rw [third_snoc]
  unfold third
  have : (b.has p && b.has q) = false := by
    cases hp : b.has p <;> cases hq : b.has q <;> simp_all
  cases bs.find? (fun c => c.has p && c.has q) with
  | none => simp [this]
  | some c => rfl

/-- How often a block has a point. -/
def hasN (x : Bk) (p : Int) : Nat := eq01 x.a p + eq01 x.b p + eq01 x.c p
theorem hasN_eq {v : Int} {x : Bk} (hx : good v x = true) (p : Int) : hasN x p = if x.has p then 1 else 0 := by
  rw [good_iff] at hx
  simp only [hasN, eq01, Bk.has_iff]
  split <;> split <;> split <;> split <;> omega
theorem common_eq (x y : Bk) : common x y = hasN x y.a + hasN x y.b + hasN x y.c := by
  simp only [common, hasN]; omega
theorem common_le_one {v w : Int} {x y : Bk} (hx : good v x = true) :
    common x y ≤ 1 ↔ ¬ (x.has y.a = true ∧ x.has y.b = true) ∧ ¬ (x.has y.a = true ∧ x.has y.c = true) ∧ ¬ (x.has y.b = true ∧ x.has y.c = true) := by
  rw [common_eq, hasN_eq hx, hasN_eq hx, hasN_eq hx]
  cases x.has y.a <;> cases x.has y.b <;> cases x.has y.c <;> simp

theorem common_comm (x y : Bk) : common x y = common y x := by
  have : ∀ a b : Int, eq01 a b = eq01 b a := by intro a b; simp only [eq01]; split <;> split <;> omega
  simp only [common, this y.a, this y.b, this y.c]
  omega

/-- A block can be put in: its three pairs are left. -/
def leftB (bs : List Bk) (b : Bk) : Bool := decide (third bs b.a b.b = -1) && (decide (third bs b.a b.c = -1) && decide (third bs b.b b.c = -1))
theorem leftB_iff {v w : Int} {bs : List Bk} (hg : ∀ x ∈ bs, good v x = true) {b : Bk} (hb : good w b = true) : leftB bs b = true ↔ ∀ x ∈ bs, common x b ≤ 1 := by
  have hb' := good_iff.1 hb
  simp only [leftB, Bool.and_eq_true, decide_eq_true_eq]
  rw [third_neg hg (by omega), third_neg hg (by omega), third_neg hg (by omega)]
  constructor
  · intro h x hx
    exact (common_le_one (w := w) (hg x hx)).2 ⟨h.1 x hx, h.2.1 x hx, h.2.2 x hx⟩
  · intro h
    refine ⟨fun x hx => ?_, fun x hx => ?_, fun x hx => ?_⟩
    · exact ((common_le_one (w := w) (hg x hx)).1 (h x hx)).1
    · exact ((common_le_one (w := w) (hg x hx)).1 (h x hx)).2.1
    · exact ((common_le_one (w := w) (hg x hx)).1 (h x hx)).2.2

theorem fits_snoc {bs : List Bk} {b : Bk} : Fits (bs ++ [b]) ↔ Fits bs ∧ ∀ x ∈ bs, common x b ≤ 1 := by
  constructor
  · intro h
    refine ⟨fun i k x y hk hx hy => ?_, fun x hx => ?_⟩
    · have h1 := (List.getElem?_eq_some_iff.1 hx).1
      exact h i k x y hk (by rw [List.getElem?_append_left h1]; exact hx) (by rw [List.getElem?_append_left (by omega)]; exact hy)
    · obtain ⟨k, hk⟩ := List.mem_iff_getElem?.1 hx
      have h1 := (List.getElem?_eq_some_iff.1 hk).1
      have := h bs.length k b x h1 (by simp) (by rw [List.getElem?_append_left h1]; exact hk)
      rw [common_comm]; exact this
  · rintro ⟨h, hb⟩ i k x y hk hx hy
    have hi := (List.getElem?_eq_some_iff.1 hx).1
    simp only [List.length_append, List.length_singleton] at hi
    rw [List.getElem?_append_left (by omega)] at hy
    by_cases e : i < bs.length
    · rw [List.getElem?_append_left e] at hx
      exact h i k x y hk hx hy
    · have : i = bs.length := by omega
      subst this
      simp at hx; subst hx
      rw [common_comm]; exact hb y (List.mem_of_getElem? hy)

theorem fits_take {bs : List Bk} (h : Fits bs) (n : Nat) : Fits (bs.take n) := by
  intro i k x y hk hx hy
  rw [List.getElem?_take] at hx hy
  split at hx
  · split at hy
    · exact h i k x y hk hx hy
    · cases hy
  · cases hx

/-- The entry at two points. -/
def gAt (gs : List Int) (p q : Nat) : Int := gs.getD (p * 15 + q) 0
/-- A pair's entries, both ways. -/
def gSet (gs : List Int) (p q : Nat) (n : Int) : List Int := (gs.set (p * 15 + q) n).set (q * 15 + p) n

theorem gSet_length (gs : List Int) (p q : Nat) (n : Int) : (gSet gs p q n).length = gs.length := by simp [gSet]
theorem gAt_set {gs : List Int} (hl : gs.length = 225) {a b p q : Nat} (ha : a < 15) (hb : b < 15) (hp : p < 15) (hq : q < 15) (n : Int) :
    gAt (gSet gs a b n) p q = if (p = a ∧ q = b) ∨ (p = b ∧ q = a) then n else gAt gs p q := by
  simp only [gAt, gSet, List.getD_eq_getElem?_getD, List.getElem?_set, List.length_set]
  by_cases h1 : b * 15 + a = p * 15 + q
  · rw [if_pos h1, if_pos (by omega), if_pos (by omega)]; rfl
  · rw [if_neg h1]
    by_cases h2 : a * 15 + b = p * 15 + q
    · rw [if_pos h2, if_pos (by omega), if_pos (by omega)]; rfl
    · rw [if_neg h2, if_neg (by omega)]

/-- The grid of some blocks. -/
def GridOf (gs : List Int) (bs : List Bk) : Prop := gs.length = 225 ∧ ∀ p q : Nat, p < 15 → q < 15 → gAt gs p q = if p = q then -1 else third bs p q

theorem gridOf_nil : GridOf (List.replicate 225 (-1)) [] := by
  refine ⟨List.length_replicate, fun p q hp hq => ?_⟩
  simp only [gAt, List.getD_eq_getElem?_getD, List.getElem?_replicate, third, List.find?_nil]
  rw [if_pos (by omega)]
  split <;> rfl

theorem gridOf_snoc {gs : List Int} {bs : List Bk} (h : GridOf gs bs) (hg : ∀ x ∈ bs, good 15 x = true) {a b c : Nat} (hab : a < b) (hbc : b < c) (hc : c < 15) (hl : leftB bs ⟨a, b, c⟩ = true) :
    GridOf (gSet (gSet (gSet gs a b (c : Int)) b c (a : Int)) c a (b : Int)) (bs ++ [⟨a, b, c⟩]) := by
  obtain ⟨hl0, h⟩ := h
  simp only [leftB, Bool.and_eq_true, decide_eq_true_eq] at hl
  refine ⟨by simp [gSet_length, hl0], fun p q hp hq => ?_⟩
  rw [gAt_set (by simp [gSet_length, hl0]) hc (by omega) hp hq, gAt_set (by simp [gSet_length, hl0]) (by omega) hc hp hq, gAt_set hl0 (by omega) (by omega) hp hq, h p q hp hq]
  have hac := hl.2.1
  have hca : third bs (c : Int) (a : Int) = -1 := by rw [third_comm]; exact hac
  by_cases e : p = q
  · subst e
    rw [if_neg (by omega), if_neg (by omega), if_neg (by omega), if_pos rfl, if_pos rfl]
  · rw [if_neg e, if_neg e]
    by_cases h1 : (p = c ∧ q = a) ∨ (p = a ∧ q = c)
    · rw [if_pos h1, third_snoc_in hg (by omega) (by rw [Bk.has_iff]; simp only; omega) (by rw [Bk.has_iff]; simp only; omega)]
      · simp only; omega
      · rcases h1 with ⟨rfl, rfl⟩ | ⟨rfl, rfl⟩
        · exact hca
        · exact hac
    · rw [if_neg h1]
      by_cases h2 : (p = b ∧ q = c) ∨ (p = c ∧ q = b)
      · rw [if_pos h2, third_snoc_in hg (by omega) (by rw [Bk.has_iff]; simp only; omega) (by rw [Bk.has_iff]; simp only; omega)]
        · simp only; omega
        · rcases h2 with ⟨rfl, rfl⟩ | ⟨rfl, rfl⟩
          · exact hl.2.2
          · rw [third_comm]; exact hl.2.2
      · rw [if_neg h2]
        by_cases h3 : (p = a ∧ q = b) ∨ (p = b ∧ q = a)
        · rw [if_pos h3, third_snoc_in hg (by omega) (by rw [Bk.has_iff]; simp only; omega) (by rw [Bk.has_iff]; simp only; omega)]
          · simp only; omega
          · rcases h3 with ⟨rfl, rfl⟩ | ⟨rfl, rfl⟩
            · exact hl.1
            · rw [third_comm]; exact hl.1
        · rw [if_neg h3, third_snoc_out]
          rw [Bk.has_iff, Bk.has_iff]; simp only; omega

theorem gridOf_left {gs : List Int} {bs : List Bk} (h : GridOf gs bs) {a b c : Nat} (hab : a < b) (hbc : b < c) (hc : c < 15) :
    (decide (gAt gs a b = -1) && (decide (gAt gs a c = -1) && decide (gAt gs b c = -1))) = leftB bs ⟨a, b, c⟩ := by
  rw [h.2 a b (by omega) (by omega), h.2 a c (by omega) (by omega), h.2 b c (by omega) (by omega), if_neg (by omega), if_neg (by omega), if_neg (by omega)]
  rfl

end Go.Ab
