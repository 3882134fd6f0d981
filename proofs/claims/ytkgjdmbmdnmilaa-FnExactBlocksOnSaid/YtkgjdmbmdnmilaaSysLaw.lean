/- Systems in plain terms: what is a good block, what comes before, what fits. No program is in sight here. -/
import Derived.Test.YtkgjdmbmdnmilaaBlocks
set_option linter.all false
namespace Go.Ab

def good (v : Int) (b : Bk) : Bool := decide (0 ≤ b.a) && decide (b.a < b.b) && decide (b.b < b.c) && decide (b.c < v)
def before (x y : Bk) : Bool := if x.a ≠ y.a then decide (x.a < y.a) else if x.b ≠ y.b then decide (x.b < y.b) else decide (x.c < y.c)
def eq01 (x y : Int) : Nat := if x = y then 1 else 0
def common (x y : Bk) : Nat := eq01 x.a y.a + eq01 x.a y.b + eq01 x.a y.c + (eq01 x.b y.a + eq01 x.b y.b + eq01 x.b y.c) + (eq01 x.c y.a + eq01 x.c y.b + eq01 x.c y.c)
/-- The numbers of a block by their place. -/
def Bk.nth (b : Bk) (i : Nat) : Int := if i = 0 then b.a else if i = 1 then b.b else b.c
/-- How many of the first pairs are equal: i rows and k more. -/
def cnt (x y : Bk) (i k : Nat) : Nat :=
  (if 0 < i then eq01 x.a y.a + eq01 x.a y.b + eq01 x.a y.c else 0) + (if 1 < i then eq01 x.b y.a + eq01 x.b y.b + eq01 x.b y.c else 0) + (if 2 < i then eq01 x.c y.a + eq01 x.c y.b + eq01 x.c y.c else 0) +
  ((if 0 < k then eq01 (x.nth i) y.a else 0) + (if 1 < k then eq01 (x.nth i) y.b else 0) + (if 2 < k then eq01 (x.nth i) y.c else 0))

theorem eq01_le (x y : Int) : eq01 x y ≤ 1 := by unfold eq01; split <;> omega
theorem ite_le (p : Prop) [Decidable p] (a : Nat) : (if p then a else 0) ≤ a := by split <;> omega
theorem cnt_le (x y : Bk) (i k : Nat) : cnt x y i k ≤ 12 := by
  have a1 := eq01_le x.a y.a; have a2 := eq01_le x.a y.b; have a3 := eq01_le x.a y.c
  have b1 := eq01_le x.b y.a; have b2 := eq01_le x.b y.b; have b3 := eq01_le x.b y.c
  have c1 := eq01_le x.c y.a; have c2 := eq01_le x.c y.b; have c3 := eq01_le x.c y.c
  have d1 := eq01_le (x.nth i) y.a; have d2 := eq01_le (x.nth i) y.b; have d3 := eq01_le (x.nth i) y.c
  have e1 := ite_le (0 < i) (eq01 x.a y.a + eq01 x.a y.b + eq01 x.a y.c)
  have e2 := ite_le (1 < i) (eq01 x.b y.a + eq01 x.b y.b + eq01 x.b y.c)
  have e3 := ite_le (2 < i) (eq01 x.c y.a + eq01 x.c y.b + eq01 x.c y.c)
  have e4 := ite_le (0 < k) (eq01 (x.nth i) y.a)
  have e5 := ite_le (1 < k) (eq01 (x.nth i) y.b)
  have e6 := ite_le (2 < k) (eq01 (x.nth i) y.c)
  unfold cnt
  omega
theorem cnt_succ (x y : Bk) (i : Nat) {k : Nat} (h : k < 3) : cnt x y i (k + 1) = cnt x y i k + eq01 (x.nth i) (y.nth k) := by
  have : k = 0 ∨ k = 1 ∨ k = 2 := by omega
  rcases this with rfl | rfl | rfl <;> simp [cnt, Bk.nth] <;> omega
theorem cnt_end (x y : Bk) {i : Nat} (h : i < 3) : cnt x y i 3 = cnt x y (i + 1) 0 := by
  have : i = 0 ∨ i = 1 ∨ i = 2 := by omega
  rcases this with rfl | rfl | rfl <;> simp [cnt, Bk.nth] <;> omega
theorem cnt_all (x y : Bk) : cnt x y 3 0 = common x y := by simp [cnt, common]

/-- The first n blocks fit, each with those ahead of it. -/
def Fits (bs : List Bk) : Prop := ∀ (i k : Nat) (x y : Bk), k < i → bs[i]? = some x → bs[k]? = some y → common x y ≤ 1
/-- Each block is good and comes behind the one ahead of it. -/
def Sorted (v : Int) (bs : List Bk) : Prop := ∀ (i : Nat) (x : Bk), bs[i]? = some x → good v x = true ∧ ∀ y, 0 < i → bs[i - 1]? = some y → before y x = true
def IsSys (p : Int) (bs : List Bk) : Prop := (3 ≤ p ∧ p ≤ 15) ∧ bs.length ≤ 35 ∧ Sorted p bs ∧ Fits bs

/-- A list is strictly ascending, from 0 to below n. -/
def Rises (n : Int) (xs : List Int) : Prop := ∀ (a : Nat) (x : Int), xs[a]? = some x → (0 ≤ x ∧ x < n) ∧ ∀ y, 0 < a → xs[a - 1]? = some y → y < x

theorem rises_block (v : Int) (b : Bk) : Rises v [b.a, b.b, b.c] ↔ good v b = true := by
  simp only [good, Bool.and_eq_true, decide_eq_true_eq]
  constructor
  · intro h
    have h0 := h 0 b.a rfl
    have h1 := h 1 b.b rfl
    have h2 := h 2 b.c rfl
    have := h1.2 b.a (by omega) rfl
    have := h2.2 b.b (by omega) rfl
    omega
  · intro h a x hx
    match a, hx with
    | 0, hx => simp at hx; subst hx; exact ⟨by omega, by omega⟩
    | 1, hx => simp at hx; subst hx; exact ⟨by omega, fun y _ hy => by simp at hy; omega⟩
    | 2, hx => simp at hx; subst hx; exact ⟨by omega, fun y _ hy => by simp at hy; omega⟩
    | a + 3, hx => simp at hx

/-- How two lists compare. -/
def lexC : List Int → List Int → Int
  | [], [] => 0
  | [], _ :: _ => -1
  | _ :: _, [] => 1
  | x :: xs, y :: ys => if x < y then -1 else if y < x then 1 else lexC xs ys

theorem lexC_block (x y : Bk) : (0 ≤ lexC [x.a, x.b, x.c] [y.a, y.b, y.c]) ↔ before x y = false := by
  simp only [lexC, before]
  repeat' split
  all_goals simp_all
  all_goals omega

end Go.Ab
