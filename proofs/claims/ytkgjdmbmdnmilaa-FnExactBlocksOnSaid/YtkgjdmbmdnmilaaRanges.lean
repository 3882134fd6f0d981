/- Ranges of numbers, and lists that a loop builds up over them. No program is in sight here. -/
import Derived.Test.YtkgjdmbmdnmilaaGridLaw
set_option linter.all false
namespace Go.Ab

/-- The numbers from lo to below hi. -/
def upTo (lo hi : Nat) : List Nat := List.range' lo (hi - lo)
theorem upTo_succ {lo k : Nat} (h : lo ≤ k) : upTo lo (k + 1) = upTo lo k ++ [k] := by
  unfold upTo
  rw [show k + 1 - lo = (k - lo) + 1 by omega, List.range'_concat]
  congr 2; omega
theorem upTo_self {lo k : Nat} (h : k ≤ lo) : upTo lo k = [] := by
  unfold upTo; rw [show k - lo = 0 by omega]; rfl
theorem mem_upTo {lo hi k : Nat} : k ∈ upTo lo hi ↔ lo ≤ k ∧ k < hi := by
  unfold upTo; rw [List.mem_range'_1]; omega
theorem upTo_length (lo hi : Nat) : (upTo lo hi).length = hi - lo := by simp [upTo]

/-- All blocks of v points, in order. -/
def trip2 (v a b : Nat) (hi : Nat) : List Bk := (upTo (b + 1) hi).map fun c : Nat => ⟨a, b, c⟩
def trip1 (v a : Nat) (hi : Nat) : List Bk := (upTo (a + 1) hi).flatMap fun b => trip2 v a b v
def trip0 (v : Nat) (hi : Nat) : List Bk := (upTo 0 hi).flatMap fun a => trip1 v a v
def triples (v : Nat) : List Bk := trip0 v v

theorem trip2_succ {v a b k : Nat} (h : b + 1 ≤ k) : trip2 v a b (k + 1) = trip2 v a b k ++ [⟨a, b, k⟩] := by simp [trip2, upTo_succ h]
theorem trip1_succ {v a k : Nat} (h : a + 1 ≤ k) : trip1 v a (k + 1) = trip1 v a k ++ trip2 v a k v := by simp [trip1, upTo_succ h]
theorem trip0_succ {v k : Nat} : trip0 v (k + 1) = trip0 v k ++ trip1 v k v := by simp [trip0, upTo_succ (Nat.zero_le k)]
theorem trip2_start (v a b : Nat) : trip2 v a b (b + 1) = [] := by simp [trip2, upTo_self]
theorem trip1_start (v a : Nat) : trip1 v a (a + 1) = [] := by simp [trip1, upTo_self]
theorem trip0_start (v : Nat) : trip0 v 0 = [] := by simp [trip0, upTo_self]
theorem mem_triples {v : Nat} {b : Bk} (h : b ∈ triples v) : good v b = true ∧ ∃ x y z : Nat, b = ⟨x, y, z⟩ ∧ x < y ∧ y < z ∧ z < v := by
  simp only [triples, trip0, trip1, trip2, List.mem_flatMap, List.mem_map, mem_upTo] at h
  obtain ⟨x, h1, y, h2, z, h3, rfl⟩ := h
  refine ⟨?_, x, y, z, rfl, by omega, by omega, by omega⟩
  rw [good_iff]; simp only; omega

end Go.Ab
