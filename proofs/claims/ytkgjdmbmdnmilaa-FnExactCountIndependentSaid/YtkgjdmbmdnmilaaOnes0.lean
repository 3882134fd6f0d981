/- The number of bits of a word: the formula, by the kernel. -/
import Derived.Test.YtkgjdmbmdnmilaaPop
set_option linter.all false
set_option maxRecDepth 20000
set_option maxHeartbeats 4000000
namespace Go.Proofs.Ytkgjdmbmdnmilaa
open Go.Ab

/-- A test of all numbers of d bits behind b. -/
def allB (E : Nat → Int) : Nat → Nat → Bool
  | 0, b => decide (E b = (pc 15 b : Int))
  | d + 1, b => allB E d (2 * b) && allB E d (2 * b + 1)
theorem allB_ok {E : Nat → Int} : ∀ (d b : Nat), allB E d b = true → ∀ x, b * 2 ^ d ≤ x → x < (b + 1) * 2 ^ d → E x = (pc 15 x : Int)
  | 0, b, h, x, h1, h2 => by
    have : x = b := by simp at h1 h2; omega
    subst this
    simpa [allB] using h
  | d + 1, b, h, x, h1, h2 => by
    simp only [allB, Bool.and_eq_true] at h
    have e : 2 ^ (d + 1) = 2 ^ d * 2 := Nat.pow_succ 2 d
    rw [e] at h1 h2
    by_cases hx : x < (2 * b + 1) * 2 ^ d
    · exact allB_ok d (2 * b) h.1 x (by rw [Nat.mul_comm 2 b, Nat.mul_assoc, Nat.mul_comm 2]; exact h1) hx
    · refine allB_ok d (2 * b + 1) h.2 x (by omega) ?_
      rw [show (2 * b + 1 + 1) * 2 ^ d = (b + 1) * (2 ^ d * 2) by rw [show 2 * b + 1 + 1 = (b + 1) * 2 by omega, Nat.mul_assoc, Nat.mul_comm 2]]
      exact h2
theorem allLt {E : Nat → Int} (h : allB E 15 0 = true) (x : Nat) (hx : x < 2 ^ 15) : E x = (pc 15 x : Int) := allB_ok 15 0 h x (by omega) (by omega)

def ones1 (x : Nat) : Nat := (x / 2 &&& 6148914691236517205) + (x &&& 6148914691236517205)
def ones2 (x : Nat) : Nat := (x / 4 &&& 3689348814741910323) + (x &&& 3689348814741910323)
def ones3 (x : Nat) : Nat := (x / 16 + x) &&& 1085102592571150095
def ones4 (x : Nat) : Nat := x + x / 256
def ones5 (x : Nat) : Nat := x + x / 65536
def ones6 (x : Nat) : Nat := x + x / 4294967296
def onesN (x : Nat) : Nat := ones6 (ones5 (ones4 (ones3 (ones2 (ones1 x))))) &&& 127
theorem onesN_ok (x : Nat) (hx : x < 2 ^ 15) : onesN x = pc 15 x := by
  have := allLt (E := fun x => (onesN x : Int)) (by kernel_rfl) x hx
  omega

end Go.Proofs.Ytkgjdmbmdnmilaa
