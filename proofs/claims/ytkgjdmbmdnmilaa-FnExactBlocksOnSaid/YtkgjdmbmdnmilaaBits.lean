/- Sets of points by their bits. -/
import Derived.Test.YtkgjdmbmdnmilaaClone
set_option linter.all false
set_option maxRecDepth 20000
set_option maxHeartbeats 4000000
namespace Go.Proofs.Ytkgjdmbmdnmilaa
open Go.Ab

/-- The bits of a list of points. -/
def maskL (xs : List Int) : Nat := xs.foldl (fun m x => m ||| 2 ^ x.toNat) 0
def bm (b : Bk) : Nat := maskL [b.a, b.b, b.c]
theorem maskL_snoc (xs : List Int) (x : Int) : maskL (xs ++ [x]) = maskL xs ||| 2 ^ x.toNat := by simp [maskL, List.foldl_append]
theorem or_lt {a b n : Nat} (ha : a < 2 ^ n) (hb : b < 2 ^ n) : a ||| b < 2 ^ n := Nat.or_lt_two_pow ha hb
theorem maskL_lt {xs : List Int} {n : Nat} (h : ∀ x ∈ xs, 0 ≤ x ∧ x < n) : maskL xs < 2 ^ n := by
  have key : ∀ (xs : List Int) (m : Nat), m < 2 ^ n → (∀ x ∈ xs, 0 ≤ x ∧ x < n) → xs.foldl (fun m x => m ||| 2 ^ x.toNat) m < 2 ^ n := by
    intro xs
    induction xs with
    | nil => intro m hm _; exact hm
    | cons x xs ih =>
      intro m hm hx
      have h1 := hx x List.mem_cons_self
      exact ih _ (or_lt hm (Nat.pow_lt_pow_right (by omega) (by omega))) fun y hy => hx y (List.mem_cons_of_mem _ hy)
  exact key xs 0 (Nat.two_pow_pos n) h

theorem or_i64 {a b : Nat} (ha : a < 2 ^ 62) (hb : b < 2 ^ 62) : IntKind.i64.wrap ((BitVec.ofNat 64 a ||| BitVec.ofNat 64 b).toNat : Int) = ((a ||| b : Nat) : Int) := by
  have h3 : a ||| b < 2 ^ 62 := or_lt ha hb
  rw [BitVec.toNat_or, BitVec.toNat_ofNat, BitVec.toNat_ofNat, Nat.mod_eq_of_lt (by omega), Nat.mod_eq_of_lt (by omega)]
  exact i64w (by omega) (by omega)
theorem or_u64 {a b : Nat} (ha : a < 2 ^ 62) (hb : b < 2 ^ 62) : IntKind.u64.wrap ((BitVec.ofNat 64 a ||| BitVec.ofNat 64 b).toNat : Int) = ((a ||| b : Nat) : Int) := by
  have h3 : a ||| b < 2 ^ 62 := or_lt ha hb
  rw [BitVec.toNat_or, BitVec.toNat_ofNat, BitVec.toNat_ofNat, Nat.mod_eq_of_lt (by omega), Nat.mod_eq_of_lt (by omega), IntKind.wrap_u64]
  omega
theorem and_i64 {a b : Nat} (ha : a < 2 ^ 62) (hb : b < 2 ^ 62) : IntKind.i64.wrap ((BitVec.ofNat 64 a &&& BitVec.ofNat 64 b).toNat : Int) = ((a &&& b : Nat) : Int) := by
  have h3 : a &&& b ≤ a := Nat.and_le_left
  rw [BitVec.toNat_and, BitVec.toNat_ofNat, BitVec.toNat_ofNat, Nat.mod_eq_of_lt (by omega), Nat.mod_eq_of_lt (by omega)]
  exact i64w (by omega) (by omega)
/-- x without the bits of y is nothing just if they are all in y. -/
theorem andNot_u64 {a b : Nat} (ha : a < 2 ^ 62) (hb : b < 2 ^ 62) : (IntKind.u64.wrap ((BitVec.ofNat 64 a &&& ~~~BitVec.ofNat 64 b).toNat : Int) == 0) = decide (a &&& b = a) := by
  have h1 : (BitVec.ofNat 64 a &&& ~~~BitVec.ofNat 64 b).toNat < 2 ^ 64 := BitVec.isLt _
  have e : IntKind.u64.wrap ((BitVec.ofNat 64 a &&& ~~~BitVec.ofNat 64 b).toNat : Int) = ((BitVec.ofNat 64 a &&& ~~~BitVec.ofNat 64 b).toNat : Int) := by rw [IntKind.wrap_u64]; omega
  rw [e]
  apply Bool.eq_iff_iff.2
  rw [beq_iff_eq, decide_eq_true_eq]
  have key : (BitVec.ofNat 64 a &&& ~~~BitVec.ofNat 64 b).toNat = 0 ↔ a &&& b = a := by
    constructor
    · intro h
      have hz : BitVec.ofNat 64 a &&& ~~~BitVec.ofNat 64 b = 0#64 := BitVec.eq_of_toNat_eq (by simpa using h)
      apply Nat.eq_of_testBit_eq
      intro i
      rw [Nat.testBit_and]
      by_cases hi : i < 64
      · have := congrArg (fun v : BitVec 64 => v.getLsbD i) hz
        simp only [BitVec.getLsbD_and, BitVec.getLsbD_not, BitVec.getLsbD_ofNat, hi, decide_true, Bool.true_and, BitVec.getLsbD_zero] at this
        cases ha' : a.testBit i <;> cases hb' : b.testBit i <;> simp_all
      · have : a.testBit i = false := Nat.testBit_lt_two_pow (Nat.lt_of_lt_of_le ha (Nat.pow_le_pow_right (by omega) (by omega)))
        simp [this]
    · intro h
      have hz : BitVec.ofNat 64 a &&& ~~~BitVec.ofNat 64 b = 0#64 := by
        apply BitVec.eq_of_getLsbD_eq
        intro i hi
        have := congrArg (fun m : Nat => m.testBit i) h
        simp only [Nat.testBit_and] at this
        simp only [BitVec.getLsbD_and, BitVec.getLsbD_not, BitVec.getLsbD_ofNat, hi, decide_true, Bool.true_and, BitVec.getLsbD_zero]
        cases ha' : a.testBit i <;> cases hb' : b.testBit i <;> simp_all
      rw [hz]; rfl
  rw [← key]
  omega

/-! The same, in the shape that a walk shows. -/
theorem or_i64w {a b : Nat} (ha : a < 2 ^ 62) (hb : b < 2 ^ 62) : IntKind.i64.wrap ((@BitVec.toNat 64 (@HOr.hOr (BitVec 64) (BitVec 64) (BitVec 64) (@instHOrOfOrOp (BitVec IntKind.i64.bits) (@BitVec.instOrOp IntKind.i64.bits)) (BitVec.ofNat 64 a) (BitVec.ofNat 64 b)) : Nat) : Int) = ((a ||| b : Nat) : Int) := or_i64 ha hb
theorem or_u64w {a b : Nat} (ha : a < 2 ^ 62) (hb : b < 2 ^ 62) : IntKind.u64.wrap ((@BitVec.toNat 64 (@HOr.hOr (BitVec 64) (BitVec 64) (BitVec 64) (@instHOrOfOrOp (BitVec IntKind.u64.bits) (@BitVec.instOrOp IntKind.u64.bits)) (BitVec.ofNat 64 a) (BitVec.ofNat 64 b)) : Nat) : Int) = ((a ||| b : Nat) : Int) := or_u64 ha hb
theorem and_i64w {a b : Nat} (ha : a < 2 ^ 62) (hb : b < 2 ^ 62) : IntKind.i64.wrap ((@BitVec.toNat 64 (@HAnd.hAnd (BitVec 64) (BitVec 64) (BitVec 64) (@instHAndOfAndOp (BitVec IntKind.i64.bits) (@BitVec.instAndOp IntKind.i64.bits)) (BitVec.ofNat 64 a) (BitVec.ofNat 64 b)) : Nat) : Int) = ((a &&& b : Nat) : Int) := and_i64 ha hb

theorem l07Bits_ok {H : Heap} {v : Value} {xs : List Int} (hv : IntsAt H v xs) (hx : ∀ x ∈ xs, 0 ≤ x ∧ x < 60) (Post : Value → Heap → Prop) (h : Post (.int .i64 (maskL xs)) H) :
    ACalls Try.prog 123 [v] H Post := by
  obtain ⟨i, o, rfl, h1, h2⟩ := hv
  refine acalls_vc (rs := [.tmp 2]) Try.func123 rfl rfl Try.ntmps123 rfl rfl ?_
  simp (maxSteps := 1000000) [go_sem]
  refine AWp.loopVc (fun s : Nat => [(0, lv 1 i o xs.length), (3, .int .i64 (maskL (xs.take s))), (4, .int .i64 s)])
    (fun s H' => s ≤ xs.length ∧ H' = H) (fun s => xs.length - s) 0 ?_ ?_ ?_
  · simp [upF, Fr.get, Up.refl, maskL]
  · simp
  · rintro K s H' ⟨hs, rfl⟩ hK
    by_cases hlt : s < xs.length
    · have c1 := h1.cell (k := s) (v := .int .i64 xs[s]) (by simp [ints_get, hlt])
      obtain ⟨x0, x1⟩ := hx xs[s] (List.getElem_mem hlt)
      obtain ⟨n, hn⟩ : ∃ n : Nat, xs[s] = n := ⟨xs[s].toNat, by omega⟩
      rw [hn] at c1 x0 x1
      have hw_s : IntKind.i64.wrap ((s : Int) + 1) = (s : Int) + 1 := i64w (by omega) (by omega)
      have hsn : maskL (xs.take (s + 1)) = maskL (xs.take s) ||| 2 ^ n := by rw [List.take_succ_eq_append_getElem hlt, maskL_snoc, hn, Int.toNat_natCast]
      have hm1 : maskL (xs.take s) < 2 ^ 62 := Nat.lt_of_lt_of_le (maskL_lt (n := 60) fun x hx' => hx x (List.mem_of_mem_take hx')) (Nat.pow_le_pow_right (by omega) (by omega))
      have hm2 : 2 ^ n < 2 ^ 62 := Nat.pow_lt_pow_right (by omega) (by omega)
      have hcast : ((2 : Int) ^ n) = ((2 ^ n : Nat) : Int) := by rw [Int.natCast_pow]; rfl
      have hu : IntKind.u64.wrap (n : Int) = n := by rw [IntKind.wrap_u64]; omega
      have hmin : min n 64 = n := by omega
      obtain ⟨T, hT⟩ : ∃ T, T = 2 ^ n := ⟨_, rfl⟩
      rw [← hT] at hcast hm2 hsn
      have hsh : IntKind.i64.wrap ((2 : Int) ^ n) = T := by rw [hcast]; exact i64w (by omega) (by omega)
      have hor := or_i64w hm1 hm2
      simp (maxSteps := 1000000) [go_sem, hlt, c1, hw_s, hu, hmin, hsh, hor]
      exact hK (s + 1) _ _ (by omega) (by simp [upF, Fr.get, Up.refl, hsn]) ⟨by omega, rfl⟩
    · have : s = xs.length := by omega
      subst this
      simp (maxSteps := 1000000) [go_sem]
      exact h

end Go.Proofs.Ytkgjdmbmdnmilaa
