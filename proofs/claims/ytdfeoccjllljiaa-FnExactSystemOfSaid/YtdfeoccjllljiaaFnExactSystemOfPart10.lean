/- Part 10 of what the proof of the law FnExactSystemOf rests on: contracts of functions of the program, for every argument that each names; no statement of the seat is proved here. -/
import Derived.Test.YtdfeoccjllljiaaFnExactSystemOfPart9

section
/- Two involutions without fixed points: going round by them in turn. Plain Lean, no program in sight. -/
set_option linter.all false
namespace Go.Ab

theorem nodup_len : ∀ (v : Nat) (l : List Nat), l.Nodup → (∀ x ∈ l, x < v) → l.length ≤ v
  | 0, l, _, h => by
    cases l with
    | nil => simp
    | cons x l => exact absurd (h x List.mem_cons_self) (by omega)
  | v + 1, l, hn, h => by
    by_cases hv : v ∈ l
    · have h1 := nodup_len v (l.erase v) (hn.erase v) fun x hx => by
        have := (List.Nodup.mem_erase_iff hn).1 hx
        have := h x this.2
        omega
      rw [List.length_erase_of_mem hv] at h1
      omega
    · have := nodup_len v l hn fun x hx => by
        have h2 := h x hx
        have : x ≠ v := fun e => hv (e ▸ hx)
        omega
      omega

/-- By f and by g in turn. -/
def alt (f g : Nat → Nat) (p : Nat) : Nat → Nat
  | 0 => p
  | k + 1 => if k % 2 = 0 then f (alt f g p k) else g (alt f g p k)

structure Turn (f g : Nat → Nat) (S : Nat → Prop) : Prop where
  fS : ∀ x, S x → S (f x)
  gS : ∀ x, S x → S (g x)
  ff : ∀ x, S x → f (f x) = x
  gg : ∀ x, S x → g (g x) = x
  fne : ∀ x, S x → f x ≠ x
  gne : ∀ x, S x → g x ≠ x

theorem alt_S {f g : Nat → Nat} {S : Nat → Prop} (h : Turn f g S) {p : Nat} (hp : S p) : ∀ k, S (alt f g p k)
  | 0 => hp
  | k + 1 => by
    simp only [alt]
    split
    · exact h.fS _ (alt_S h hp k)
    · exact h.gS _ (alt_S h hp k)
/-- As long as all are different, what comes next is new, or it is the first one, at an even place. -/
theorem alt_next {f g : Nat → Nat} {S : Nat → Prop} (h : Turn f g S) {p n : Nat} (hp : S p) (hd : ∀ i j, i < j → j ≤ n → alt f g p i ≠ alt f g p j) :
    (∀ j, j ≤ n → alt f g p j ≠ alt f g p (n + 1)) ∨ (alt f g p (n + 1) = p ∧ n % 2 = 1) := by
  by_cases hx : ∃ j, j ≤ n ∧ alt f g p j = alt f g p (n + 1)
  · obtain ⟨j, hj, e⟩ := hx
    right
    have inj : ∀ i k, i ≤ n → k ≤ n → alt f g p i = alt f g p k → i = k := by
      intro i k hi hk e
      rcases Nat.lt_trichotomy i k with h1 | h1 | h1
      · exact absurd e (hd i k h1 hk)
      · exact h1
      · exact absurd e.symm (hd k i h1 hi)
    have hS := alt_S h hp
    by_cases hn : n % 2 = 0
    · -- by f
      exfalso
      have e1 : alt f g p (n + 1) = f (alt f g p n) := by simp [alt, hn]
      rw [e1] at e
      by_cases hj2 : j % 2 = 0
      · -- j even: f of it is the next one
        have e2 : alt f g p (j + 1) = f (alt f g p j) := by simp [alt, hj2]
        have e3 : f (alt f g p j) = alt f g p n := by rw [e, h.ff _ (hS n)]
        by_cases hjn : j = n
        · subst hjn; exact h.fne _ (hS j) (by rw [e3])
        · rw [← e2] at e3
          have := inj (j + 1) n (by omega) (by omega) e3
          omega
      · obtain ⟨i, rfl⟩ : ∃ i, j = i + 1 := ⟨j - 1, by omega⟩
        have e2 : alt f g p (i + 1) = f (alt f g p i) := by simp only [alt]; rw [if_pos (by omega)]
        rw [e2] at e
        have := congrArg f e
        rw [h.ff _ (hS i), h.ff _ (hS n)] at this
        have := inj i n (by omega) (by omega) this
        omega
    · have e1 : alt f g p (n + 1) = g (alt f g p n) := by simp [alt, hn]
      rw [e1] at e ⊢
      by_cases hj0 : j = 0
      · subst hj0; exact ⟨e.symm, by omega⟩
      · exfalso
        by_cases hj2 : j % 2 = 1
        · have e2 : alt f g p (j + 1) = g (alt f g p j) := by simp only [alt]; rw [if_neg (by omega)]
          have e3 : g (alt f g p j) = alt f g p n := by rw [e, h.gg _ (hS n)]
          by_cases hjn : j = n
          · subst hjn; exact h.gne _ (hS j) (by rw [e3])
          · rw [← e2] at e3
            have := inj (j + 1) n (by omega) (by omega) e3
            omega
        · obtain ⟨i, rfl⟩ : ∃ i, j = i + 1 := ⟨j - 1, by omega⟩
          have e2 : alt f g p (i + 1) = g (alt f g p i) := by simp only [alt]; rw [if_neg (by omega)]
          rw [e2] at e
          have := congrArg g e
          rw [h.gg _ (hS i), h.gg _ (hS n)] at this
          have := inj i n (by omega) (by omega) this
          omega
  · left
    intro j hj e
    exact hx ⟨j, hj, e⟩
/-- The way comes back to its first point, at an even place, and all ahead are different. -/
theorem alt_back {f g : Nat → Nat} {S : Nat → Prop} (h : Turn f g S) {p v : Nat} (hp : S p) (hv : ∀ x, S x → x < v) :
    ∃ n, 2 ≤ n ∧ n % 2 = 0 ∧ n ≤ v ∧ alt f g p n = p ∧ ∀ i j, i < j → j < n → alt f g p i ≠ alt f g p j := by
  have len : ∀ n, (∀ i j, i < j → j < n → alt f g p i ≠ alt f g p j) → n ≤ v := by
    intro n hd
    have := nodup_len v ((List.range n).map (alt f g p)) ?_ ?_
    · simpa using this
    · refine List.pairwise_map.2 ?_
      rw [List.pairwise_iff_getElem]
      intro i j hi hj hij
      simp only [List.getElem_range]
      exact hd i j hij (by simpa using hj)
    · intro x hx
      obtain ⟨k, _, rfl⟩ := List.mem_map.1 hx
      exact hv _ (alt_S h hp k)
  -- going on until it comes back
  have go : ∀ m n, n + m = v → (∀ i j, i < j → j < n + 1 → alt f g p i ≠ alt f g p j) → ∃ n, 2 ≤ n ∧ n % 2 = 0 ∧ n ≤ v ∧ alt f g p n = p ∧ ∀ i j, i < j → j < n → alt f g p i ≠ alt f g p j := by
    intro m
    induction m with
    | zero => intro n hn hd; have := len (n + 1) hd; omega
    | succ m ih =>
      intro n hn hd
      rcases alt_next h hp (n := n) (fun i j hij hj => hd i j hij (by omega)) with h1 | ⟨h1, h2⟩
      · refine ih (n + 1) (by omega) ?_
        intro i j hij hj
        by_cases e : j = n + 1
        · subst e; exact h1 i (by omega)
        · exact hd i j hij (by omega)
      · exact ⟨n + 1, by omega, by omega, by have := len (n + 1) hd; omega, h1, hd⟩
  have hv0 := len 1 (by intro i j h1 h2; omega)
  exact go v 0 (by omega) (by intro i j h1 h2; omega)

end Go.Ab
end

section
/- A system with so many blocks has every pair: by counting. -/
set_option linter.all false
set_option maxRecDepth 20000
namespace Go.Proofs.Ytdfeoccjllljiaa
open Go.Ab

theorem sub_len : ∀ (l m : List Nat), l.Nodup → (∀ x ∈ l, x ∈ m) → l.length ≤ m.length
  | [], m, _, _ => by simp
  | x :: l, m, hn, h => by
    have hn' := List.nodup_cons.1 hn
    have hx := h x List.mem_cons_self
    have h1 := sub_len l (m.erase x) hn'.2 fun y hy => by
      have hne : y ≠ x := fun e => hn'.1 (e ▸ hy)
      exact (List.mem_erase_of_ne hne).2 (h y (List.mem_cons_of_mem _ hy))
    rw [List.length_erase_of_mem hx] at h1
    have := List.length_pos_of_mem hx
    rw [List.length_cons]; omega
theorem sub_all {l m : List Nat} (hn : l.Nodup) (h : ∀ x ∈ l, x ∈ m) (hlen : m.length ≤ l.length) {x : Nat} (hx : x ∈ m) : x ∈ l := by
  by_cases hxl : x ∈ l
  · exact hxl
  · have := sub_len (x :: l) m (List.nodup_cons.2 ⟨hxl, hn⟩) fun y hy => by
      rcases List.mem_cons.1 hy with rfl | hy
      · exact hx
      · exact h y hy
    rw [List.length_cons] at this; omega

/-- All pairs, as numbers. -/
def allP (v : Nat) : List Nat := (List.range v).flatMap fun i => (upTo (i + 1) v).map fun j => i * 15 + j
def blkP (b : Bk) : List Nat := [b.a.toNat * 15 + b.b.toNat, b.a.toNat * 15 + b.c.toNat, b.b.toNat * 15 + b.c.toNat]
theorem allP_length : ∀ v, v < 16 → (allP v).length * 2 = v * (v - 1) := by decide +kernel
theorem mem_allP {v i j : Nat} (h1 : i < j) (h2 : j < v) : i * 15 + j ∈ allP v := by
  simp only [allP, List.mem_flatMap, List.mem_range, List.mem_map, mem_upTo]
  exact ⟨i, by omega, j, by omega, rfl⟩
theorem flatP_length (bs : List Bk) : (bs.flatMap blkP).length = bs.length * 3 := by
  induction bs with
  | nil => rfl
  | cons b bs ih => rw [List.flatMap_cons, List.length_append, ih, List.length_cons]; simp only [blkP, List.length_cons, List.length_nil]; omega

theorem full_cover {v : Nat} {bs : List Bk} (hS : IsSys v bs) (hf : fullB v bs = true) {p q : Nat} (hpq : p < q) (hq : q < v) : third bs p q ≠ -1 := by
  obtain ⟨hp, hlen, hsort, hfit⟩ := hS
  have hg : ∀ x ∈ bs, good (v : Int) x = true := fun x hx => by
    obtain ⟨i, hi⟩ := List.mem_iff_getElem?.1 hx
    exact (hsort i x hi).1
  have hnd : (bs.flatMap blkP).Nodup := by
    unfold List.Nodup
    rw [List.pairwise_flatMap]
    constructor
    · intro b hb
      have := good_iff.1 (hg b hb)
      refine List.pairwise_cons.2 ⟨?_, List.pairwise_cons.2 ⟨?_, List.pairwise_singleton _ _⟩⟩
      · intro x hx
        simp only [List.mem_cons, List.not_mem_nil, or_false] at hx
        rcases hx with rfl | rfl <;> omega
      · intro x hx
        simp only [List.mem_cons, List.not_mem_nil, or_false] at hx
        subst hx; omega
    · rw [List.pairwise_iff_getElem]
      intro i j hi hj hij
      have gx := good_iff.1 (hg _ (List.getElem_mem hi))
      have gy := good_iff.1 (hg _ (List.getElem_mem hj))
      have hc := (common_le_one (w := v) (hg _ (List.getElem_mem hj))).1 (hfit j i bs[j] bs[i] hij (List.getElem?_eq_getElem hj) (List.getElem?_eq_getElem hi))
      simp only [Bk.has_iff] at hc
      generalize bs[i] = y at *
      generalize bs[j] = x at *
      intro m hm n hn e
      subst e
      simp only [blkP, List.mem_cons, List.not_mem_nil, or_false] at hm hn
      obtain ⟨c1, c2, c3⟩ := hc
      rcases hm with hm | hm | hm
      · refine c1 ⟨?_, ?_⟩ <;> rcases hn with hn | hn | hn <;> omega
      · refine c2 ⟨?_, ?_⟩ <;> rcases hn with hn | hn | hn <;> omega
      · refine c3 ⟨?_, ?_⟩ <;> rcases hn with hn | hn | hn <;> omega
  have hsub : ∀ x ∈ bs.flatMap blkP, x ∈ allP v := by
    intro x hx
    obtain ⟨b, hb, hx⟩ := List.mem_flatMap.1 hx
    have := good_iff.1 (hg b hb)
    simp only [blkP, List.mem_cons, List.not_mem_nil, or_false] at hx
    rcases hx with rfl | rfl | rfl
    · exact mem_allP (by omega) (by omega)
    · exact mem_allP (by omega) (by omega)
    · exact mem_allP (by omega) (by omega)
  have hv := allP_length v (by omega)
  have hcnt : 6 * (bs.length : Int) = (v : Int) * ((v : Int) - 1) := by simpa [fullB] using hf
  have hcnt2 : 6 * bs.length = v * (v - 1) := by
    have e : ((v * (v - 1) : Nat) : Int) = (v : Int) * ((v : Int) - 1) := by rw [Int.natCast_mul, Int.natCast_sub (by omega)]; rfl
    omega
  have hin := sub_all hnd hsub (by rw [flatP_length]; omega) (mem_allP hpq hq)
  obtain ⟨b, hb, hx⟩ := List.mem_flatMap.1 hin
  have gb := good_iff.1 (hg b hb)
  rw [Ne, third_neg hg (by omega)]
  intro hno
  refine hno b hb ?_
  simp only [Bk.has_iff]
  simp only [blkP, List.mem_cons, List.not_mem_nil, or_false] at hx
  rcases hx with hx | hx | hx <;> constructor <;> omega

end Go.Proofs.Ytdfeoccjllljiaa
end

section
/- Third points in a full system. Plain Lean. -/
set_option linter.all false
set_option maxRecDepth 20000
namespace Go.Proofs.Ytdfeoccjllljiaa
open Go.Ab

theorem fits_same {v : Int} {bs : List Bk} (hg : ∀ x ∈ bs, good v x = true) (hF : Fits bs) {x y : Bk} (hx : x ∈ bs) (hy : y ∈ bs) {p q : Int} (hpq : p ≠ q) (h1 : x.has p = true) (h2 : x.has q = true) (h3 : y.has p = true) (h4 : y.has q = true) : x = y := by
  obtain ⟨i, hi⟩ := List.mem_iff_getElem?.1 hx
  obtain ⟨j, hj⟩ := List.mem_iff_getElem?.1 hy
  have key : ∀ {i j : Nat} {x y : Bk}, j < i → bs[i]? = some x → bs[j]? = some y → x.has p = true → x.has q = true → y.has p = true → y.has q = true → False := by
    intro i j x y hij hi hj h1 h2 h3 h4
    have hc := (common_le_one (w := v) (hg x (List.mem_of_getElem? hi))).1 (hF i j x y hij hi hj)
    obtain ⟨c1, c2, c3⟩ := hc
    rw [Bk.has_iff] at h3 h4
    rcases h3 with h3 | h3 | h3 <;> rcases h4 with h4 | h4 | h4 <;> subst h3 <;> first
      | exact hpq h4
      | (subst h4; first | exact c1 ⟨h1, h2⟩ | exact c1 ⟨h2, h1⟩ | exact c2 ⟨h1, h2⟩ | exact c2 ⟨h2, h1⟩ | exact c3 ⟨h1, h2⟩ | exact c3 ⟨h2, h1⟩)
  rcases Nat.lt_trichotomy i j with h | h | h
  · exact (key h hj hi h3 h4 h1 h2).elim
  · subst h; rw [hi] at hj; exact Option.some.inj hj
  · exact (key h hi hj h1 h2 h3 h4).elim

theorem third_back {v : Int} {bs : List Bk} (hg : ∀ x ∈ bs, good v x = true) (hF : Fits bs) {p q : Int} (hpq : p ≠ q) (h : third bs p q ≠ -1) : third bs p (third bs p q) = q := by
  obtain ⟨c, hc, h1, h2, h3, h4, h5, h6, h7, h8⟩ := third_some hg hpq h
  have hne : p ≠ third bs p q := fun e => h7 e.symm
  have hn2 : third bs p (third bs p q) ≠ -1 := by
    rw [Ne, third_neg hg hne]
    intro hno; exact hno c hc ⟨h1, h6⟩
  obtain ⟨d, hd, g1, g2, g3, _⟩ := third_some hg hne hn2
  have e := fits_same hg hF hc hd hne h1 h6 g1 g2
  subst e
  rw [g3]; omega

/-- The third point as a number. -/
def thr (bs : List Bk) (a x : Nat) : Nat := (third bs a x).toNat
theorem thr_spec {v : Nat} {bs : List Bk} (hS : IsSys v bs) (hf : fullB v bs = true) {p q : Nat} (hpq : p ≠ q) (hp : p < v) (hq : q < v) :
    third bs p q = (thr bs p q : Int) ∧ thr bs p q < v ∧ thr bs p q ≠ p ∧ thr bs p q ≠ q ∧ thr bs p (thr bs p q) = q := by
  have hg : ∀ x ∈ bs, good (v : Int) x = true := hS.good
  have hne : third bs p q ≠ -1 := by
    rcases Nat.lt_or_gt_of_ne hpq with h | h
    · exact full_cover hS hf h hq
    · rw [third_comm]; exact full_cover hS hf h hp
  have hb := third_back hg hS.2.2.2 (show (p : Int) ≠ q by omega) hne
  obtain ⟨c, hc, h1, h2, h3, h4, h5, h6, h7, h8⟩ := third_some hg (show (p : Int) ≠ q by omega) hne
  have e : third bs p q = (thr bs p q : Int) := by unfold thr; omega
  refine ⟨e, by omega, by omega, by omega, ?_⟩
  rw [e] at hb
  unfold thr at hb ⊢
  rw [hb]; rfl

/-- The points that two others and their third point leave. -/
def cycS (v : Nat) (bs : List Bk) (a b x : Nat) : Prop := x < v ∧ x ≠ a ∧ x ≠ b ∧ x ≠ thr bs a b
theorem thr_comm (bs : List Bk) (a b : Nat) : thr bs a b = thr bs b a := by unfold thr; rw [third_comm]
theorem turn_of {v : Nat} {bs : List Bk} (hS : IsSys v bs) (hf : fullB v bs = true) {a b : Nat} (hab : a ≠ b) (ha : a < v) (hb : b < v) : Turn (thr bs a) (thr bs b) (cycS v bs a b) := by
  obtain ⟨_, c1, c2, c3, c4⟩ := thr_spec hS hf hab ha hb
  obtain ⟨_, _, _, _, c5⟩ := thr_spec hS hf (Ne.symm hab) hb ha
  have key : ∀ {a b : Nat}, a ≠ b → a < v → b < v → ∀ x, cycS v bs a b x → cycS v bs a b (thr bs a x) ∧ thr bs a (thr bs a x) = x ∧ thr bs a x ≠ x := by
    intro a b hab ha hb x ⟨h1, h2, h3, h4⟩
    obtain ⟨_, c1, c2, c3, c4⟩ := thr_spec hS hf hab ha hb
    obtain ⟨_, d1, d2, d3, d4⟩ := thr_spec hS hf (Ne.symm h2) ha h1
    refine ⟨⟨d1, d2, ?_, ?_⟩, d4, d3⟩
    · intro e; rw [e] at d4; exact h4 d4.symm
    · intro e; rw [e, c4] at d4; exact h3 d4.symm
  have sw : ∀ x, cycS v bs a b x ↔ cycS v bs b a x := by
    intro x; unfold cycS; rw [thr_comm bs a b]
    constructor <;> rintro ⟨h1, h2, h3, h4⟩ <;> exact ⟨h1, h3, h2, h4⟩
  exact ⟨fun x hx => (key hab ha hb x hx).1, fun x hx => (sw _).2 (key (Ne.symm hab) hb ha x ((sw x).1 hx)).1, fun x hx => (key hab ha hb x hx).2.1, fun x hx => (key (Ne.symm hab) hb ha x ((sw x).1 hx)).2.1,
    fun x hx => (key hab ha hb x hx).2.2, fun x hx => (key (Ne.symm hab) hb ha x ((sw x).1 hx)).2.2⟩

end Go.Proofs.Ytdfeoccjllljiaa
end

section
/- All ways round, one after the other. Plain Lean. -/
set_option linter.all false
namespace Go.Ab

def IsCyc (f g : Nat → Nat) (p n : Nat) : Prop := 2 ≤ n ∧ n % 2 = 0 ∧ alt f g p n = p ∧ ∀ i j, i < j → j < n → alt f g p i ≠ alt f g p j
theorem IsCyc.uniq {f g : Nat → Nat} {p n m : Nat} (h : IsCyc f g p n) (h' : IsCyc f g p m) : n = m := by
  rcases Nat.lt_trichotomy n m with e | e | e
  · exact absurd (show alt f g p 0 = alt f g p n by rw [h.2.2.1]; rfl) (h'.2.2.2 0 n (by have := h.1; omega) e)
  · exact e
  · exact absurd (show alt f g p 0 = alt f g p m by rw [h'.2.2.1]; rfl) (h.2.2.2 0 m (by have := h'.1; omega) e)
open Classical in
noncomputable def cycN (f g : Nat → Nat) (p : Nat) : Nat := if h : ∃ n, IsCyc f g p n then Classical.choose h else 0
theorem cycN_ok {f g : Nat → Nat} {S : Nat → Prop} (h : Turn f g S) {p v : Nat} (hp : S p) (hv : ∀ x, S x → x < v) : IsCyc f g p (cycN f g p) ∧ cycN f g p ≤ v := by
  obtain ⟨n, h1, h2, h3, h4, h5⟩ := alt_back h hp hv
  have hex : ∃ n, IsCyc f g p n := ⟨n, h1, h2, h4, h5⟩
  have e : IsCyc f g p (cycN f g p) := by unfold cycN; rw [dif_pos hex]; exact Classical.choose_spec hex
  exact ⟨e, by rw [e.uniq ⟨h1, h2, h4, h5⟩]; exact h3⟩
noncomputable def cycL (f g : Nat → Nat) (p : Nat) : List Nat := (List.range (cycN f g p)).map (alt f g p)
theorem mem_cycL {f g : Nat → Nat} {p x : Nat} : x ∈ cycL f g p ↔ ∃ k, k < cycN f g p ∧ alt f g p k = x := by simp [cycL]
/-- A way round is closed. -/
theorem cycL_closed {f g : Nat → Nat} {S : Nat → Prop} (h : Turn f g S) {p v : Nat} (hp : S p) (hv : ∀ x, S x → x < v) {x : Nat} (hx : x ∈ cycL f g p) : f x ∈ cycL f g p ∧ g x ∈ cycL f g p := by
  obtain ⟨⟨n2, ne, nb, _⟩, _⟩ := cycN_ok h hp hv
  rw [mem_cycL] at hx ⊢
  rw [mem_cycL]
  obtain ⟨k, hk, rfl⟩ := hx
  have hS := alt_S h hp
  generalize cycN f g p = n at *
  by_cases hk2 : k % 2 = 0
  · refine ⟨⟨k + 1, by omega, by simp [alt, hk2]⟩, ?_⟩
    by_cases h0 : k = 0
    · subst h0
      obtain ⟨m, rfl⟩ : ∃ m, n = m + 1 := ⟨n - 1, by omega⟩
      have e : alt f g p (m + 1) = g (alt f g p m) := by simp only [alt]; rw [if_neg (by omega)]
      rw [e] at nb
      refine ⟨m, by omega, ?_⟩
      have := h.gg _ (hS m)
      rw [nb] at this
      exact this.symm
    · obtain ⟨m, rfl⟩ : ∃ m, k = m + 1 := ⟨k - 1, by omega⟩
      have e : alt f g p (m + 1) = g (alt f g p m) := by simp only [alt]; rw [if_neg (by omega)]
      exact ⟨m, by omega, by rw [e, h.gg _ (hS m)]⟩
  · obtain ⟨m, rfl⟩ : ∃ m, k = m + 1 := ⟨k - 1, by omega⟩
    have e : alt f g p (m + 1) = f (alt f g p m) := by simp only [alt]; rw [if_pos (by omega)]
    refine ⟨⟨m, by omega, by rw [e, h.ff _ (hS m)]⟩, ?_⟩
    have e2 : alt f g p (m + 1 + 1) = g (alt f g p (m + 1)) := by
      rw [show alt f g p (m + 1 + 1) = if (m + 1) % 2 = 0 then f (alt f g p (m + 1)) else g (alt f g p (m + 1)) from rfl, if_neg (by omega)]
    by_cases hn : m + 1 + 1 < n
    · exact ⟨m + 1 + 1, hn, e2⟩
    · have : m + 1 + 1 = n := by omega
      rw [this, nb] at e2
      exact ⟨0, by omega, e2⟩

/-- What was met already is closed: a point that was not met leads to none that was. -/
def Shut (f g : Nat → Nat) (S : Nat → Prop) (met : List Nat) : Prop := ∀ x, S x → x ∉ met → f x ∉ met ∧ g x ∉ met
theorem Shut.alt {f g : Nat → Nat} {S : Nat → Prop} {met : List Nat} (hm : Shut f g S met) (h : Turn f g S) {p : Nat} (hp : S p) (hpm : p ∉ met) : ∀ k, Go.Ab.alt f g p k ∉ met
  | 0 => hpm
  | k + 1 => by
    have ih := hm _ (alt_S h hp k) (hm.alt h hp hpm k)
    simp only [Go.Ab.alt]
    split
    · exact ih.1
    · exact ih.2
theorem Shut.next {f g : Nat → Nat} {S : Nat → Prop} {met : List Nat} (hm : Shut f g S met) (h : Turn f g S) {p v : Nat} (hp : S p) (hv : ∀ x, S x → x < v) : Shut f g S (met ++ cycL f g p) := by
  intro x hx hn
  simp only [List.mem_append, not_or] at hn ⊢
  have h1 := hm x hx hn.1
  refine ⟨⟨h1.1, fun hc => hn.2 ?_⟩, h1.2, fun hc => hn.2 ?_⟩
  · have := (cycL_closed h hp hv hc).1
    rwa [h.ff _ hx] at this
  · have := (cycL_closed h hp hv hc).2
    rwa [h.gg _ hx] at this

/-- All ways round, from points that were not met. -/
noncomputable def cycAll (f g : Nat → Nat) : List Nat → List Nat → List (List Nat)
  | [], _ => []
  | p :: ps, met => if p ∈ met then cycAll f g ps met else cycL f g p :: cycAll f g ps (met ++ cycL f g p)

end Go.Ab
end

section
/- The pairs that are left: the tested program's side. -/
set_option linter.all false
set_option maxRecDepth 20000
namespace Go.Proofs.Ytdfeoccjllljiaa
open Go.Ab

end Go.Proofs.Ytdfeoccjllljiaa
end

section
/- CyclesOf: one way round, the tested program's side. -/
set_option linter.all false
set_option maxRecDepth 20000
set_option maxHeartbeats 4000000
namespace Go.Proofs.Ytdfeoccjllljiaa
open Go.Ab

/-- The first k points of a way round. -/
def altL (f g : Nat → Nat) (p k : Nat) : List Int := (List.range k).map fun j => ((alt f g p j : Nat) : Int)
theorem altL_length (f g : Nat → Nat) (p k : Nat) : (altL f g p k).length = k := by simp [altL]
theorem altL_two (f g : Nat → Nat) (p k : Nat) : altL f g p (k + 2) = altL f g p k ++ [((alt f g p k : Nat) : Int), ((alt f g p (k + 1) : Nat) : Int)] := by
  unfold altL; rw [List.range_succ, List.range_succ]; simp
theorem altL_one (f g : Nat → Nat) (p k : Nat) : altL f g p (k + 1) = altL f g p k ++ [((alt f g p k : Nat) : Int)] := by
  unfold altL; rw [List.range_succ]; simp

end Go.Proofs.Ytdfeoccjllljiaa
end

section
/- The part of a system on some points: the specification's side. -/
set_option linter.all false
set_option maxRecDepth 20000
set_option maxHeartbeats 4000000
namespace Go.Proofs.Ytdfeoccjllljiaa
open Go.Ab

end Go.Proofs.Ytdfeoccjllljiaa
end

section
/- BlocksOn: the specification's side, and places on the other side. -/
set_option linter.all false
set_option maxRecDepth 20000
set_option maxHeartbeats 4000000
namespace Go.Proofs.Ytdfeoccjllljiaa
open Go.Ab

theorem put2 {H H0 H' : Heap} {id : Nat} {cs0 cs : List Value} (hp0 : H <+: H0) (hid : H.length ≤ id) (hb0 : H0[id]? = some ⟨cs0, true, true⟩) (h2 : cs0.length = 2) (hp : H0 <+: H') (hcl : cs.length = 2) (ho : cs.all Value.oneCell' = true) :
    storeAt H' id 0 cs = some (H'.set id ⟨cs, true, true⟩) ∧ cellsAt (H'.set id ⟨cs, true, true⟩) id 0 2 = some cs ∧ H <+: H'.set id ⟨cs, true, true⟩ ∧ Same (fun j => j = id) H' (H'.set id ⟨cs, true, true⟩) := by
  have hb' := Same.get (S := fun _ => False) (Same.of_prefix hp) hb0 (fun h => h)
  have hsame : Same (fun j => j = id) H' (H'.set id ⟨cs, true, true⟩) := ⟨by simp, fun j hj hS => List.getElem?_set_ne (fun e => hS e.symm)⟩
  refine ⟨?_, ?_, ((Same.of_prefix (hp0.trans hp)).trans hsame).prefix (by intro j hj he; omega), hsame⟩
  · rw [storeAt_of hb' rfl rfl (by simp [hcl, h2]) ho]
    match cs, hcl, cs0, h2 with
    | [x, y], _, [z, w], _ => simp [over]
  · have := Holds.cells (n := 2) (o := 0) (H := H'.set id ⟨cs, true, true⟩) ⟨true, List.getElem?_set_self (List.getElem?_eq_some_iff.1 hb').1⟩ (by omega)
    rw [this, List.drop_zero, List.take_of_length_le (by omega)]

theorem indexI_ok {H : Heap} {v : Value} {xs : List Int} {q : Int} (hv : IntsAt H v xs) (Post : Value → Heap → Prop) (h : Post (.int .i64 (plc xs q)) H) : ACalls Try.prog 182 [v, .int .i64 q] H Post := by
  obtain ⟨i, o, rfl, h1, h2⟩ := hv
  refine acalls_vc (rs := [.tmp 4]) Try.func182 rfl rfl Try.ntmps182 rfl rfl ?_
  simp (maxSteps := 1000000) [go_sem]
  refine AWp.loopVc (fun s : Nat => [(0, lv 1 i o xs.length), (1, .int .i64 q), (7, .int .i64 xs.length), (8, .int .i64 s)])
    (fun s H' => s ≤ xs.length ∧ H' = H ∧ ∀ y ∈ xs.take s, y ≠ q) (fun s => xs.length - s) 0 ?_ ?_ ?_
  · simp [upF, Fr.get, Up.refl]
  · exact ⟨by omega, rfl, by simp⟩
  · rintro K s H' ⟨hs, rfl, hall⟩ hK
    by_cases hlt : s < xs.length
    · have hx : xs[s]? = some xs[s] := List.getElem?_eq_getElem hlt
      have c1 := h1.cell (k := s) (v := .int .i64 xs[s]) (by simp [ints_get, hlt])
      have hw_s : IntKind.i64.wrap ((s : Int) + 1) = (s : Int) + 1 := i64w (by omega) (by omega)
      by_cases he : q = xs[s]
      · have e : (q == xs[s]) = true := by simpa using he
        simp (maxSteps := 1000000) [go_sem, hlt, c1, e]
        rwa [plc_at (k := s) (by rw [hx, he]) hall] at h
      · have e : (q == xs[s]) = false := by simpa using he
        simp (maxSteps := 1000000) [go_sem, hlt, c1, e, hw_s]
        refine hK (s + 1) _ _ (by omega) (by simp [upF, Fr.get, Up.refl]) ⟨by omega, rfl, ?_⟩
        intro y hy
        rw [List.take_succ_eq_append_getElem hlt, List.mem_append] at hy
        rcases hy with hy | hy
        · exact hall y hy
        · simp at hy; subst hy; exact fun e => he e.symm
    · have : s = xs.length := by omega
      subst this
      rw [List.take_length] at hall
      simp (maxSteps := 1000000) [go_sem]
      rwa [plc_none hall] at h

end Go.Proofs.Ytdfeoccjllljiaa
end

section
/- CyclesOf: membership, and lists of lists kept while other blocks change. -/
set_option linter.all false
set_option maxRecDepth 20000
set_option maxHeartbeats 4000000
namespace Go.Proofs.Ytdfeoccjllljiaa
open Go.Ab

theorem plc_mem {xs : List Int} {q : Int} : decide (0 ≤ plc xs q) = decide (q ∈ xs) := by
  by_cases h : q ∈ xs
  · rw [decide_eq_true h]
    by_cases h0 : 0 ≤ plc xs q
    · exact decide_eq_true h0
    · exfalso
      have hge := plc_ge xs q
      have hm1 : plc xs q = -1 := by omega
      clear h0 hge
      induction xs with
      | nil => simp at h
      | cons x xs ih =>
        simp only [plc] at hm1
        split at hm1
        · omega
        · rename_i hne
          split at hm1
          · rename_i h1
            rcases List.mem_cons.1 h with e | h
            · exact hne e.symm
            · exact ih h h1
          · have := plc_ge xs q; omega
  · rw [decide_eq_false h]
    refine decide_eq_false ?_
    have hno : ∀ x ∈ xs, x ≠ q := by
      intro x hx e
      subst e
      exact h hx
    rw [plc_none hno]; omega

theorem containsI_ok {H : Heap} {v : Value} {xs : List Int} {q : Int} (hv : IntsAt H v xs) (Post : Value → Heap → Prop) (h : Post (.bool (decide (q ∈ xs))) H) : ACalls Try.prog 158 [v, .int .i64 q] H Post := by
  refine acalls_vc (rs := [.tmp 4]) Try.func158 rfl rfl Try.ntmps158 rfl rfl ?_
  simp (maxSteps := 1000000) [go_sem]
  refine indexI_ok hv _ ?_
  simp (maxSteps := 1000000) [go_sem, plc_mem]
  exact h

theorem _root_.Go.Ab.Build.keepS {H0 H H' : Heap} {oid : Nat} {rows : List (Nat × List Int)} {S : Nat → Prop} (h : Build H0 H oid rows) (hs : Same S H H') (h0 : ∀ j, S j → H0.length ≤ j) (ho : ¬ S oid) (hr : ∀ r ∈ rows, ¬ S r.1) : Build H0 H' oid rows :=
  ⟨((Same.of_prefix h.pre).trans hs).prefix (by intro j hj hS; have := h0 j hS; omega), h.ol.keep hs ho, h.ge,
    ⟨fun r hm => (h.rows1.1 r hm).imp (fun h => h) fun hb => hs.get hb (hr r hm), h.rows1.2⟩,
    fun r hm => ⟨(h.ids r hm).1, Nat.lt_of_lt_of_le (h.ids r hm).2.1 hs.1, (h.ids r hm).2.2⟩⟩

theorem _root_.Go.Ab.Build.pushAt {H0 H2 : Heap} {oid rid : Nat} {rows : List (Nat × List Int)} {xs : List Int} (h : Build H0 H2 oid rows) (hr : OL 1 H2 rid (ints xs) xs.length) (hr0 : H0.length ≤ rid) (hro : rid ≠ oid) (hrr : ∀ r ∈ rows, r.1 ≠ rid) :
    cellsAt (H2 ++ [⟨[lv 1 rid 0 xs.length], true, true⟩]) H2.length 0 1 = some [lv 1 rid 0 xs.length] ∧
    ∃ H4, appendH (H2 ++ [⟨[lv 1 rid 0 xs.length], true, true⟩]) 1 (lv 1 oid 0 rows.length) 1 [lv 1 rid 0 xs.length] = some (lv 1 (H2.length + 1) 0 (rows.length + 1), H4) ∧ Build H0 H4 (H2.length + 1) (rows ++ [(rid, xs)]) ∧ Same (fun j => j = oid) H2 H4 := by
  have hol' : OL 1 H2 oid (rows.map rowVal) rows.length := h.ol
  have hp : H2 <+: H2 := List.prefix_refl _
  obtain ⟨hsrc, H4, hap, hol4, hsame4, hlen4⟩ := hol'.push (xs := [lv 1 rid 0 xs.length]) (by omega) rfl
  have hoid := h.ol.lt
  have hle := hp.length_le
  have hle0 := h.pre.length_le
  have hlt := hr.lt
  refine ⟨hsrc, H4, hap, ⟨⟨(show Same (fun j => j = oid) H0 H4 from (Same.of_prefix (h.pre.trans hp)).trans hsame4).prefix (by have := h.ge; omega), by simpa [rowVal] using hol4, by omega, ⟨?_, ?_⟩, ?_⟩, hsame4⟩⟩
  · intro r hm
    rcases List.mem_append.1 hm with hm | hm
    · refine (h.rows1.1 r hm).imp (fun h => h) fun hb => ?_
      exact hsame4.get (Same.get (S := fun _ => False) (Same.of_prefix hp) hb (fun h => h)) (h.ids r hm).2.2
    · simp at hm; subst hm
      rcases hr.2 with ⟨h0, _⟩ | h0
      · exact .inl (List.eq_nil_of_length_eq_zero h0)
      · right
        exact hsame4.get h0 (by simp only; omega)
  · intro a b r t ha hb hab hrn htn
    have key : ∀ (a : Nat) (r : Nat × List Int), (rows ++ [(rid, xs)])[a]? = some r → (a < rows.length ∧ rows[a]? = some r) ∨ (a = rows.length ∧ r = (rid, xs)) := by
      intro a r ha
      rcases Nat.lt_or_ge a rows.length with h | h
      · rw [List.getElem?_append_left h] at ha; exact .inl ⟨h, ha⟩
      · rw [List.getElem?_append_right h] at ha
        cases hk : a - rows.length with
        | zero => rw [hk] at ha; simp at ha; exact .inr ⟨by omega, ha.symm⟩
        | succ k => rw [hk] at ha; simp at ha
    rcases key a r ha with ⟨h1, h1'⟩ | ⟨h1, rfl⟩
    · rcases key b t hb with ⟨h2, h2'⟩ | ⟨h2, rfl⟩
      · exact h.rows1.2 a b r t h1' h2' hab hrn htn
      · exact hrr r (List.mem_of_getElem? h1')
    · rcases key b t hb with ⟨h2, h2'⟩ | ⟨h2, rfl⟩
      · exact fun e => hrr t (List.mem_of_getElem? h2') e.symm
      · omega
  · intro r hm
    rcases List.mem_append.1 hm with hm | hm
    · have := h.ids r hm
      omega
    · simp at hm; subst hm; simp only; omega


end Go.Proofs.Ytdfeoccjllljiaa
end

section
/- CyclesOf: all ways round, the tested program's side. -/
set_option linter.all false
set_option maxRecDepth 20000
set_option maxHeartbeats 8000000
namespace Go.Proofs.Ytdfeoccjllljiaa
open Go.Ab

def castL (xs : List Nat) : List Int := xs.map fun x : Nat => (x : Int)
theorem castL_mem {xs : List Nat} {x : Nat} : ((x : Int) ∈ castL xs) ↔ x ∈ xs := by
  simp only [castL, List.mem_map]
  constructor
  · rintro ⟨y, hy, e⟩; have : y = x := by omega
    exact this ▸ hy
  · intro h; exact ⟨x, h, rfl⟩
theorem castL_length (xs : List Nat) : (castL xs).length = xs.length := by simp [castL]
theorem castL_append (xs ys : List Nat) : castL (xs ++ ys) = castL xs ++ castL ys := by simp [castL]
theorem cycL_cast (f g : Nat → Nat) (p : Nat) : castL (cycL f g p) = altL f g p (cycN f g p) := by simp [castL, cycL, altL]
noncomputable def cycRows (f g : Nat → Nat) (ps met : List Nat) : List (List Int) := (cycAll f g ps met).map castL
theorem cycRows_in {f g : Nat → Nat} {p : Nat} {ps met : List Nat} (h : p ∈ met) : cycRows f g (p :: ps) met = cycRows f g ps met := by simp [cycRows, cycAll, h]
theorem cycRows_out {f g : Nat → Nat} {p : Nat} {ps met : List Nat} (h : p ∉ met) : cycRows f g (p :: ps) met = castL (cycL f g p) :: cycRows f g ps (met ++ cycL f g p) := by simp [cycRows, cycAll, h]
theorem upTo_cons {p v : Nat} (h : p < v) : upTo p v = p :: upTo (p + 1) v := by
  unfold upTo
  rw [show v - p = (v - (p + 1)) + 1 by omega, List.range'_succ]

end Go.Proofs.Ytdfeoccjllljiaa
end

section
/- CyclesOf: the tested program's side. -/
set_option linter.all false
set_option maxRecDepth 20000
set_option maxHeartbeats 4000000
namespace Go.Proofs.Ytdfeoccjllljiaa
open Go.Ab

noncomputable def rCyc (p : Int) (bs : List Bk) (a b : Int) : List (List Int) × Int :=
  if pairCode p bs a b = 0 then (if fullB p bs then (cycRows (thr bs a.toNat) (thr bs b.toNat) (upTo 0 p.toNat) [a.toNat, b.toNat, thr bs a.toNat b.toNat], 0) else ([], 5)) else ([], pairCode p bs a b)

end Go.Proofs.Ytdfeoccjllljiaa
end

section
/- Sorting blocks, the tested program's side: slices.Clone over blocks, sorted, system. -/
set_option linter.all false
set_option maxRecDepth 20000
set_option maxHeartbeats 4000000
namespace Go.Proofs.Ytdfeoccjllljiaa
open Go.Ab Go.Sort

theorem tri_src {H : Heap} {i o : Nat} {bs : List Bk} (h : At H i o (tri bs)) : srcCells H 3 (lv 3 i o bs.length) = some (tri bs) := h.src (by rw [tri_length]) (by omega) _

theorem cloneB_oe {H : Heap} {u : Value} {xs : List Bk} (hu : BlocksAt H u xs) (hl : xs.length ≤ 1048576) (Post : Value → Heap → Prop) (h : ∀ H' w, H <+: H' → OE 3 H.length H' w (tri xs) xs.length → Post w H') :
    ACalls Try.prog 89 [u] H Post := by
  obtain ⟨i, o, rfl, h1, h2⟩ := hu
  by_cases hx : xs = []
  · subst hx
    refine acalls_body Try.func89 rfl rfl (by rw [Try.ntmps89]; exact Nat.le_of_ble_eq_true rfl) ?_
    rw [Try.ntmps89]
    refine AWp.seq (vc_sound _ _ _ _ ?_)
    simp (maxSteps := 1000000) [go_sem]
    refine AWp.seq (AWp.seq (AWp.regionS ?_))
    refine StepOK.of_v ?_
    simp (maxSteps := 1000000) [go_sem]
    refine StepOK.of_op rfl (ok_eqlNil2 rfl Try.underlying28 rfl rfl (by show (4 : Nat) < 8; decide) (fun b => ?_))
    refine AWp.cond (b := b) (by cases b <;> rfl) (fun _ => ?_) (fun _ => ?_)
    · refine vc_sound _ _ _ _ ?_
      simp (maxSteps := 1000000) [go_sem]
      exact h H _ (List.prefix_refl _) (OE.nil _ _ _)
    · refine vc_sound _ _ _ _ ?_
      simp (maxSteps := 1000000) [go_sem]
      refine vc_sound _ _ _ _ ?_
      simp (maxSteps := 1000000) [go_sem, appendH]
      exact h _ _ (List.prefix_append _ _) (OE.empty (Nat.le_refl _) (by simp))
  · have hp0 : H <+: H ++ [⟨[], true, true⟩] := List.prefix_append _ _
    have hsrc := tri_src (h1.pre hp0)
    have hm0 : xs.length ≠ 0 := by simpa using hx
    simp only [srcCells] at hsrc
    have he0 : OE 3 H.length (H ++ [(⟨[], true, true⟩ : Blk)]) (.slice (some ⟨H.length, 0, none⟩) 0 0) [] 0 := OE.empty (Nat.le_refl _) (by simp)
    obtain ⟨v, H2, hap, he2, hk2, hl2⟩ := he0.append (m := xs.length) (news := tri xs) (by omega) (by simp) (by rw [tri_length])
    generalize hm : xs.length = m at *
    refine acalls_vc (rs := [.tmp 2]) Try.func89 rfl rfl Try.ntmps89 rfl rfl ?_
    have hnil : nilOK (some ⟨i, o, some 3⟩) m = true := by simpa [nilOK] using hm0
    simp (maxSteps := 1000000) [go_sem, hnil, hsrc, hap]
    refine andK_intro (by omega) ?_
    simp only [List.nil_append, Nat.zero_add] at he2
    exact h H2 v (KeepL.prefix hp0 (Nat.le_refl _) hk2 hl2) he2
theorem cloneB_ok {H : Heap} {u : Value} {xs : List Bk} (hu : BlocksAt H u xs) (hl : xs.length ≤ 1048576) (Post : Value → Heap → Prop) (h : ∀ H' w, H <+: H' → BlocksIn H.length H'.length H' w xs → Post w H') :
    ACalls Try.prog 89 [u] H Post := by
  refine ACalls.res (cloneB_oe hu hl _ fun H' v hp he => ?_)
  obtain ⟨w, hup, hw⟩ := he.blocks (by omega)
  exact ⟨w, hup, h H' w hp hw⟩

theorem blockCmp {id : Nat} {H : Heap} : Cmp Try.prog Bk.val before 170 [] [] (fun _ => True) id H := by
  intro H x y Post _ _ _ h
  show ACalls Try.prog 170 [x.val, y.val] H Post
  refine compare_ok _ ?_
  intro H' hp
  refine h H' _ hp ?_
  have := lexC_block x y
  cases hb : before x y with
  | true =>
    have : ¬ (0 ≤ lexC [x.a, x.b, x.c] [y.a, y.b, y.c]) := by rw [this, hb]; simp
    exact decide_eq_true (by omega)
  | false =>
    have := this.2 hb
    exact decide_eq_false (by omega)

theorem sortFunc0_ok {H : Heap} {id : Nat} {fv : Value} (Post : Value → Heap → Prop) (h : Post (.tuple #[]) H) : ACalls Try.prog 185 [lv 3 id 0 0, fv] H Post := by
  refine acalls_vc (rs := []) Try.func185 rfl rfl Try.ntmps185 rfl rfl ?_
  simp (maxSteps := 1000000) [go_sem, wu64_0B]
  refine bitsLenC_ok (x := 0) (by omega) _ ?_
  simp (maxSteps := 1000000) [go_sem]
  refine pdq0B_ok _ ?_
  simp (maxSteps := 1000000) [go_sem]
  exact h

theorem sorted_ok {H : Heap} {u : Value} {bs : List Bk} (hu : BlocksAt H u bs) (hl : bs.length ≤ 1048576) (Post : Value → Heap → Prop) (h : ∀ H' w, H <+: H' → BlocksIn H.length H'.length H' w (sortB bs) → Post w H') :
    ACalls Try.prog 166 [u] H Post := by
  refine ACalls.res ?_
  refine acalls_vc (rs := [.tmp 2]) Try.func166 rfl rfl Try.ntmps166 rfl rfl ?_
  simp (maxSteps := 1000000) [go_sem]
  refine cloneB_oe hu hl _ ?_
  intro H1 v hp1 he
  by_cases h0 : bs = []
  · subst h0
    have hs0 : sortB [] = [] := rfl
    have fin := fun (w : Value) (hw : Up H1 v w) (hb : BlocksIn H.length H1.length H1 w []) => (show ∃ v', Up H1 v v' ∧ Post v' H1 from ⟨w, hw, h H1 w hp1 (by rw [hs0]; exact hb)⟩)
    rcases he.2 with ⟨_, rfl⟩ | ⟨id, _, _, rfl, _⟩ | ⟨id, _, rfl, _⟩
    · have f := fin (lv 3 0 0 0) (Up.nil _ _ _ _) (BlocksIn.nil _ _ _)
      simp (maxSteps := 1000000) [go_sem]
      refine ACalls.up (args' := [lv 3 0 0 0, _]) ⟨Up.nil _ _ _ _, Up.refl _ _, trivial⟩ ?_
      refine sortFunc0_ok _ ?_
      simp (maxSteps := 1000000) [go_sem]
      exact f
    · have f := fin (lv 3 0 0 0) (Up.ex0 _ _ _ _ _ _) (BlocksIn.nil _ _ _)
      simp (maxSteps := 1000000) [go_sem]
      refine ACalls.up (args' := [lv 3 0 0 0, _]) ⟨Up.ex0 _ _ _ _ _ _, Up.refl _ _, trivial⟩ ?_
      refine sortFunc0_ok _ ?_
      simp (maxSteps := 1000000) [go_sem]
      exact f
    · have f := fin (lv 3 id 0 0) (Up.refl _ _) ⟨id, ⟨rfl, .inl rfl, by simp⟩, fun h => absurd rfl h⟩
      simp (maxSteps := 1000000) [go_sem]
      refine sortFunc0_ok _ ?_
      simp (maxSteps := 1000000) [go_sem]
      exact f
  · have hn0 : bs.length ≠ 0 := fun e => h0 (List.eq_nil_of_length_eq_zero e)
    rcases he.2 with ⟨e, _⟩ | ⟨id, e, _⟩ | ⟨id, hid, rfl, e⟩
    · exact absurd e hn0
    · exact absurd e hn0
    · have hb : H1[id]? = some ⟨tri bs, true, true⟩ := by
        rcases e with ⟨e, _⟩ | e
        · exact absurd e hn0
        · exact e
      simp (maxSteps := 1000000) [go_sem]
      refine sortFuncB_ok (fs := []) (cs := []) (Q := fun _ => True) (l := bs) swoB ⟨by rw [flat_len Bk.cells_len], .inr hb⟩ rfl hl (fun _ _ => trivial) blockCmp _ ?_
      intro H2 l2 hs2 hol hperm hsorted
      have e2 := sort_uniq hperm hsorted
      have hlen : (sortB bs).length = bs.length := sortB_length _ bs rfl
      have hp2 : H <+: H2 := ((Same.of_prefix hp1).trans hs2).prefix (by intro j hj e; omega)
      have hb2 : H2[id]? = some ⟨tri (sortB bs), true, true⟩ := by
        rcases hol.2 with ⟨e, _⟩ | e
        · exact absurd e hn0
        · rw [e2] at e; exact e
      have f := h H2 (lv 3 id 0 bs.length) hp2 ⟨id, ⟨by rw [hlen], .inr hb2, by rw [hlen]; omega⟩, fun _ => ⟨hid, (List.getElem?_eq_some_iff.1 hb2).1⟩⟩
      simp (maxSteps := 1000000) [go_sem]
      exact ⟨_, Up.refl _ _, f⟩

theorem implSystem_ok {H : Heap} {u : Value} {p : Int} {bs : List Bk} (hu : BlocksAt H u bs) (hl : bs.length ≤ 1048576) (Post : Value → Heap → Prop) (h : ∀ H' w, H <+: H' → BlocksIn H.length H'.length H' w (sortB bs) → Post (sysV p w) H') :
    ACalls Try.prog 123 [.int .i64 p, u] H Post := by
  refine acalls_vc (rs := [.cell 4 38]) Try.func123 rfl rfl Try.ntmps123 rfl rfl ?_
  simp (maxSteps := 1000000) [go_sem]
  have hp0 : H <+: H ++ [⟨[.int .i64 0, .slice none 0 0], true, true⟩] := List.prefix_append _ _
  have hb0 : (H ++ [(⟨[.int .i64 0, .slice none 0 0], true, true⟩ : Blk)])[H.length]? = some ⟨[.int .i64 0, .slice none 0 0], true, true⟩ := by simp
  have hlen : (H ++ [(⟨[.int .i64 0, .slice none 0 0], true, true⟩ : Blk)]).length = H.length + 1 := by simp
  generalize H ++ [(⟨[.int .i64 0, .slice none 0 0], true, true⟩ : Blk)] = H0 at hp0 hb0 hlen ⊢
  refine sorted_ok (hu.pre hp0) hl _ ?_
  intro H1 w hp1 hw
  have hw0 := hw
  obtain ⟨id, ⟨rfl, _⟩, _⟩ := hw
  obtain ⟨q1, q2, q3, q4⟩ := put2 (cs := [.int .i64 p, lv 3 id 0 (sortB bs).length]) hp0 (Nat.le_refl _) hb0 rfl hp1 rfl rfl
  simp (maxSteps := 1000000) [go_sem, q1, q2]
  refine h _ _ q3 ?_
  have := (hw0.keep q4 (fun j hj e => by have := hj.1; omega)).wider (c := H.length) (by omega)
  rw [List.length_set]
  exact this

end Go.Proofs.Ytdfeoccjllljiaa
end

section
/- SystemOf: the tested program's side. -/
set_option linter.all false
set_option maxRecDepth 20000
set_option maxHeartbeats 8000000
namespace Go.Proofs.Ytdfeoccjllljiaa
open Go.Ab Go.Sort

def ofB (b : Bk) : Bk := blk b.a b.b b.c
theorem good_15 {v : Int} {b : Bk} (h : good v b = true) (hv : v ≤ 15) : good 15 b = true := by rw [good_iff] at *; omega
open Classical in
noncomputable def rSysOf (v : Int) (bs : List Bk) : (Int × List Bk) × Int :=
  if (3 ≤ v ∧ v ≤ 15) ∧ bs.length ≤ 35 then (if ∀ b ∈ bs, good v (ofB b) = true then (if Fits (bs.map ofB) then ((v, sortB (bs.map ofB)), 0) else ((0, []), 5)) else ((0, []), 2)) else ((0, []), 2)

/-- A result that is no system is put into its cell. -/
theorem bad_sys {H H0 : Heap} {Post : Value → Heap → Prop} {r : (Int × List Bk) × Int} (hp0 : H <+: H0) {id : Nat} (hid : H.length ≤ id) (hb0 : H0[id]? = some ⟨[.int .i64 0, .slice none 0 0], true, true⟩)
    (h : ∀ H' w, H <+: H' → BlocksIn H.length H'.length H' w r.1.2 → Post (.tuple #[sysV r.1.1 w, .int .i64 r.2]) H') (H' : Heap) (c : Int) (hp : H0 <+: H') (hr : r = ((0, []), c)) :
    ∃ H2, storeAt H' id 0 [.int .i64 0, .slice none 0 0] = some H2 ∧ cellsAt H2 id 0 2 = some [.int .i64 0, .slice none 0 0] ∧ ∃ v', Up H2 (.tuple #[.agg #[.int .i64 0, .slice none 0 0], .int .i64 c]) v' ∧ Post v' H2 := by
  obtain ⟨q1, q2, q3, _⟩ := put2 (cs := [.int .i64 0, .slice none 0 0]) hp0 hid hb0 rfl hp rfl rfl
  refine ⟨_, q1, q2, _, Up.tuple (ys := #[sysV 0 (lv 3 0 0 0), .int .i64 c]) ⟨zeroSys, Up.refl _ _, trivial⟩, ?_⟩
  have := h _ (lv 3 0 0 0) q3 (by rw [hr]; exact BlocksIn.nil _ _ _)
  rwa [hr] at this

theorem implSystemOf_ok {H : Heap} {u : Value} {v : Int} {bs : List Bk} (hu : BlocksAt H u bs) (hl : bs.length ≤ 1048576) (Post : Value → Heap → Prop)
    (h : ∀ H' w, H <+: H' → BlocksIn H.length H'.length H' w (rSysOf v bs).1.2 → Post (.tuple #[sysV (rSysOf v bs).1.1 w, .int .i64 (rSysOf v bs).2]) H') :
    ACalls Try.prog 58 [.int .i64 v, u] H Post := by
  obtain ⟨i, o, rfl, h1, h2⟩ := hu
  refine ACalls.res ?_
  refine acalls_vc (rs := [.cell 4 38, .tmp 5]) Try.func58 rfl rfl Try.ntmps58 rfl rfl ?_
  simp (maxSteps := 1000000) [go_sem]
  have hp0 : H <+: H ++ [⟨[.int .i64 0, .slice none 0 0], true, true⟩] := List.prefix_append _ _
  have hb0 : (H ++ [(⟨[.int .i64 0, .slice none 0 0], true, true⟩ : Blk)])[H.length]? = some ⟨[.int .i64 0, .slice none 0 0], true, true⟩ := by simp
  have hlen0 : (H ++ [(⟨[.int .i64 0, .slice none 0 0], true, true⟩ : Blk)]).length = H.length + 1 := by simp
  generalize H ++ [(⟨[.int .i64 0, .slice none 0 0], true, true⟩ : Blk)] = H0 at hp0 hb0 hlen0 ⊢
  have bad := bad_sys hp0 (Nat.le_refl _) hb0 h
  refine within_ok _ ?_
  by_cases hv : 3 ≤ v ∧ v ≤ 15
  · have e1 : (decide (3 ≤ v) && decide (v ≤ 15)) = true := by simp [hv]
    rw [e1]
    by_cases hlb : bs.length ≤ 35
    · have hlb' : ¬ ((35 : Int) < bs.length) := by omega
      have hlb2 : ¬ (35 < bs.length) := by omega
      simp (maxSteps := 1000000) [go_sem, hlb', hlb2]
      refine AWp.addGhost ?_
      have hbl0 := Bl.ghost 3 H0
      generalize H0 ++ [(⟨[], false, false⟩ : Blk)] = HG at hbl0 ⊢
      refine AWp.loopVc (St := Nat × Nat) (fun s => [(0, .int .i64 v), (4, .pointer (some ⟨H.length, 0, none⟩)), (6, lv 3 s.2 0 s.1), (21, lv 3 i o bs.length), (22, .int .i64 bs.length), (23, .int .i64 s.1)])
        (fun s H' => s.1 ≤ bs.length ∧ Bl 3 H0 H' s.2 (tri ((bs.take s.1).map ofB)) s.1 ∧ ∀ b ∈ bs.take s.1, good v (ofB b) = true) (fun s => bs.length - s.1) (0, H0.length) ?_ ?_ ?_
      · simp [upF, Fr.get, Up.refl, Up.nil]
      · exact ⟨by simp, by simpa [tri] using hbl0, by simp⟩
      · rintro K ⟨s, id⟩ H' ⟨hs, hbl, hgd⟩ hK
        simp only at hs hbl hgd
        by_cases hlt : s < bs.length
        · have hbs : bs[s]? = some bs[s] := List.getElem?_eq_getElem hlt
          have c1 := (h1.pre (hp0.trans hbl.1)).bk hbs
          simp only [Bk.cells] at c1
          have hw_s : IntKind.i64.wrap ((s : Int) + 1) = (s : Int) + 1 := i64w (by omega) (by omega)
          obtain ⟨b, hb⟩ : ∃ b, bs[s] = b := ⟨_, rfl⟩
          rw [hb] at c1 hbs
          simp (maxSteps := 1000000) [go_sem, hlt, c1]
          have hpb : H' <+: H' ++ [⟨[.int .i64 b.a, .int .i64 b.b, .int .i64 b.c], true, true⟩] := List.prefix_append _ _
          have hbl1 := hbl.pre hpb
          generalize H' ++ [(⟨[.int .i64 b.a, .int .i64 b.b, .int .i64 b.c], true, true⟩ : Blk)] = H1 at *
          refine blockOf_ok _ ?_
          intro H2 hp2
          have hbl2 := hbl1.pre hp2
          have hcb : ofB b = blk b.a b.b b.c := rfl
          obtain ⟨c, hc⟩ : ∃ c, blk b.a b.b b.c = c := ⟨_, rfl⟩
          rw [hc] at hcb ⊢
          simp (maxSteps := 1000000) [go_sem, Bk.val]
          have hpc : H2 <+: H2 ++ [⟨[.int .i64 c.a, .int .i64 c.b, .int .i64 c.c], true, true⟩] := List.prefix_append _ _
          have hx0 := Holds.last H2 [.int .i64 c.a, .int .i64 c.b, .int .i64 c.c]
          have hbl3 := hbl2.pre hpc
          generalize H2 ++ [(⟨[.int .i64 c.a, .int .i64 c.b, .int .i64 c.c], true, true⟩ : Blk)] = H3 at *
          refine isBlock_ok (b := c) (by omega) (by omega) _ ?_
          intro H4 hp4
          obtain ⟨e0, e1, e2, e3⟩ := (hx0.pre hp4).bk
          have hbl4 := hbl3.pre hp4
          have hmem : b ∈ bs := hb ▸ List.getElem_mem hlt
          cases hg : good v c with
          | false =>
            obtain ⟨H9, q1, q2, fin⟩ := bad H4 2 hbl4.1 (by rw [rSysOf, if_pos ⟨hv, hlb⟩, if_neg (fun hh => by have := hh b hmem; rw [hcb, hg] at this; cases this)])
            simp (maxSteps := 1000000) [go_sem, q1, q2]
            exact fin
          | true =>
            have hsn : (bs.take (s + 1)).map ofB = (bs.take s).map ofB ++ [c] := by rw [List.take_succ_eq_append_getElem hlt, hb, List.map_append]; simp [hcb]
            obtain ⟨hsrc, H5, hap, hbl5⟩ := hbl4.push (xs := c.cells) (by omega) rfl
            simp only [Bk.cells] at hsrc hap hbl5
            simp (maxSteps := 1000000) [go_sem, hw_s, e0, hsrc, hap]
            refine andK_intro (by omega) (hK (s + 1, H4.length + 1) _ _ (by simp only; omega) (by simp [upF, Fr.get, Up.refl]) ⟨by simp only; omega, ?_, ?_⟩)
            · simp only [hsn, tri_append, tri_one, Bk.cells]
              exact hbl5
            · intro x hx
              rw [List.take_succ_eq_append_getElem hlt, hb, List.mem_append, List.mem_singleton] at hx
              rcases hx with hx | rfl
              · exact hgd x hx
              · rw [hcb]; exact hg
        · have : s = bs.length := by omega
          subst this
          rw [List.take_length] at hbl hgd
          have hlm : (bs.map ofB).length = bs.length := List.length_map _
          have hown : BlocksIn H0.length H'.length H' (lv 3 id 0 bs.length) (bs.map ofB) := by
            rw [← hlm]
            exact OwnBlocks.inn (OwnBlocks.of_ol (by rw [hlm]; exact hbl.2.1) (by omega)) hbl.2.2
          have hg15 : ∀ x ∈ bs.map ofB, good 15 x = true := by
            intro x hx
            obtain ⟨b, hb, rfl⟩ := List.mem_map.1 hx
            exact good_15 (hgd b hb) hv.2
          simp (maxSteps := 1000000) [go_sem]
          refine gridOf_ok hown.read hg15 _ ?_ ?_
          · intro H1 hp1 hF
            obtain ⟨H9, q1, q2, fin⟩ := bad H1 5 (hbl.1.trans hp1) (by rw [rSysOf, if_pos ⟨hv, hlb⟩, if_pos hgd, if_neg hF])
            simp (maxSteps := 1000000) [go_sem, q1, q2]
            exact fin
          · intro H1 gid gs hp1 _ _ _ hF
            have hr : rSysOf v bs = ((v, sortB (bs.map ofB)), 0) := by rw [rSysOf, if_pos ⟨hv, hlb⟩, if_pos hgd, if_pos hF]
            simp (maxSteps := 1000000) [go_sem]
            refine implSystem_ok (hown.read.pre hp1) (by omega) _ ?_
            intro H2 w hp2 hw
            obtain ⟨q1, q2, q3, q4⟩ := put2 (cs := [.int .i64 v, w]) hp0 (Nat.le_refl _) hb0 rfl (hbl.1.trans (hp1.trans hp2)) rfl (by simp [one_int, hw.one])
            have hll := hbl.1.length_le
            have hll1 := hp1.length_le
            have fin := h _ w q3 (by rw [hr, List.length_set]; exact (hw.keep q4 (fun j hj e => by have := hj.1; omega)).wider (by omega))
            rw [hr] at fin
            simp (maxSteps := 1000000) [go_sem, sysV, q1, q2]
            exact ⟨_, Up.refl _ _, fin⟩
    · have hlb' : ((35 : Int) < bs.length) := by omega
      have hlb2 : (35 < bs.length) := by omega
      obtain ⟨H9, q1, q2, fin⟩ := bad H0 2 (List.prefix_refl _) (by rw [rSysOf, if_neg (by omega)])
      simp (maxSteps := 1000000) [go_sem, hlb', hlb2, q1, q2]
      exact fin
  · have e1 : (decide (3 ≤ v) && decide (v ≤ 15)) = false := by
      rw [Bool.and_eq_false_iff, decide_eq_false_iff_not, decide_eq_false_iff_not]; omega
    rw [e1]
    obtain ⟨H9, q1, q2, fin⟩ := bad H0 2 (List.prefix_refl _) (by rw [rSysOf, if_neg (by omega)])
    simp (maxSteps := 1000000) [go_sem, undef, q1, q2]
    exact fin

end Go.Proofs.Ytdfeoccjllljiaa
end

section
/- SystemOf: the specification's side. -/
set_option linter.all false
set_option maxRecDepth 20000
set_option maxHeartbeats 8000000
namespace Go.Proofs.Ytdfeoccjllljiaa
open Go.Ab Go.Sort

theorem wq1 : IntKind.i64.wrap 1 = 1 := i64w (by omega) (by omega)
theorem wq2 : IntKind.i64.wrap 2 = 2 := i64w (by omega) (by omega)
theorem wq3 : IntKind.i64.wrap 3 = 3 := i64w (by omega) (by omega)
theorem mq1 : (1 : Int).tmod 3 = 1 := rfl
theorem mq2 : (2 : Int).tmod 3 = 2 := rfl
theorem mq3 : (3 : Int).tmod 3 = 0 := rfl

theorem specSystemOf_ok {H : Heap} {u : Value} {v : Int} {bs : List Bk} (hu : BlocksAt H u bs) (hl : bs.length ≤ 1048576) (Post : Value → Heap → Prop)
    (h : ∀ H' w, H <+: H' → BlocksIn H.length H'.length H' w (rSysOf v bs).1.2 → Post (.tuple #[sysV (rSysOf v bs).1.1 w, .int .i64 (rSysOf v bs).2]) H') :
    ACalls Try.prog 56 [.int .i64 v, u] H Post := by
  obtain ⟨i, o, rfl, h1, h2⟩ := hu
  refine ACalls.res ?_
  refine acalls_vc (rs := [.cell 4 38, .tmp 5]) Try.func56 rfl rfl Try.ntmps56 rfl rfl ?_
  simp (maxSteps := 1000000) [go_sem]
  have hp0 : H <+: H ++ [⟨[.int .i64 0, .slice none 0 0], true, true⟩] := List.prefix_append _ _
  have hb0 : (H ++ [(⟨[.int .i64 0, .slice none 0 0], true, true⟩ : Blk)])[H.length]? = some ⟨[.int .i64 0, .slice none 0 0], true, true⟩ := by simp
  have hlen0 : (H ++ [(⟨[.int .i64 0, .slice none 0 0], true, true⟩ : Blk)]).length = H.length + 1 := by simp
  generalize H ++ [(⟨[.int .i64 0, .slice none 0 0], true, true⟩ : Blk)] = H0 at hp0 hb0 hlen0 ⊢
  have bad := bad_sys hp0 (Nat.le_refl _) hb0 h
  refine l01In_ok _ ?_
  by_cases hv : 3 ≤ v ∧ v ≤ 15
  · have e1 : (decide (3 ≤ v) && decide (v ≤ 15)) = true := by simp [hv]
    rw [e1]
    by_cases hlb : bs.length ≤ 35
    · have hlb' : ¬ ((35 : Int) < bs.length) := by omega
      have hlb2 : ¬ (35 < bs.length) := by omega
      simp (maxSteps := 1000000) [go_sem, hlb', hlb2]
      have hbl0 := Bl.nil 3 H0
      generalize H0 ++ [(⟨[], true, true⟩ : Blk)] = HG at hbl0 ⊢
      refine AWp.loopVc (St := Nat × Nat) (fun s => [(0, .int .i64 v), (1, lv 3 i o bs.length), (4, .pointer (some ⟨H.length, 0, none⟩)), (6, lv 3 s.2 0 s.1), (7, .int .i64 s.1)])
        (fun s H' => s.1 ≤ bs.length ∧ Bl 3 H0 H' s.2 (tri ((bs.take s.1).map ofB)) s.1 ∧ ∀ b ∈ bs.take s.1, good v (ofB b) = true) (fun s => bs.length - s.1) (0, H0.length) ?_ ?_ ?_
      · simp [upF, Fr.get, Up.refl, Up.ex0]
      · exact ⟨by simp, by simpa [tri] using hbl0, by simp⟩
      · rintro K ⟨s, id⟩ H' ⟨hs, hbl, hgd⟩ hK
        simp only at hs hbl hgd
        by_cases hlt : s < bs.length
        · have hbs : bs[s]? = some bs[s] := List.getElem?_eq_getElem hlt
          have c1 := (h1.pre (hp0.trans hbl.1)).bk hbs
          simp only [Bk.cells] at c1
          have hw_s : IntKind.i64.wrap ((s : Int) + 1) = (s : Int) + 1 := i64w (by omega) (by omega)
          obtain ⟨b, hb⟩ : ∃ b, bs[s] = b := ⟨_, rfl⟩
          rw [hb] at c1 hbs
          have hmem : b ∈ bs := hb ▸ List.getElem_mem hlt
          simp (maxSteps := 1000000) [go_sem, hlt, c1]
          have hpb : H' <+: H' ++ [⟨[.int .i64 b.a, .int .i64 b.b, .int .i64 b.c], true, true⟩] := List.prefix_append _ _
          have hx0 := Holds.last H' [.int .i64 b.a, .int .i64 b.b, .int .i64 b.c]
          have hbl1 := hbl.pre hpb
          generalize H' ++ [(⟨[.int .i64 b.a, .int .i64 b.b, .int .i64 b.c], true, true⟩ : Blk)] = H1 at *
          obtain ⟨e0, e1, e2, e3⟩ := hx0.bk
          have wv : IntKind.i64.wrap (v - 1) = v - 1 := i64w (by omega) (by omega)
          refine AWp.loopVc (St := Nat) (fun k => [(0, .int .i64 v), (1, lv 3 i o bs.length), (4, .pointer (some ⟨H.length, 0, none⟩)), (6, lv 3 id 0 s), (7, .int .i64 s), (8, .pointer (some ⟨H'.length, 0, none⟩)), (9, .int .i64 k)])
            (fun k H2 => k ≤ 3 ∧ H2 = H1 ∧ ∀ j, j < k → (0 ≤ b.nth j ∧ b.nth j < v) ∧ b.nth j ≠ b.nth ((j + 1) % 3)) (fun k => 3 - k) 0 ?_ ?_ ?_
          · simp [upF, Fr.get, Up.refl]
          · exact ⟨by omega, rfl, fun j hj => by omega⟩
          · rintro K2 k H2 ⟨hk, rfl, hin⟩ hK2
            by_cases hk3 : k < 3
            · have badk : ¬ ((0 ≤ b.nth k ∧ b.nth k < v) ∧ b.nth k ≠ b.nth ((k + 1) % 3)) → rSysOf v bs = ((0, []), 2) := by
                intro hn
                rw [rSysOf, if_pos ⟨hv, hlb⟩, if_neg]
                intro hh
                have hg := blk_good.1 (hh b hmem)
                apply hn
                obtain rfl | rfl | rfl : k = 0 ∨ k = 1 ∨ k = 2 := by omega
                all_goals simp only [Bk.nth]; simp; omega
              obtain rfl | rfl | rfl : k = 0 ∨ k = 1 ∨ k = 2 := by omega
              · simp (maxSteps := 1000000) [go_sem]
                refine AWp.draw mixed [(0, false), (1, false), (2, false), (3, false), (4, false), (5, false), (6, false), (7, false), (8, false), (9, false), (10, false), (11, false), (12, false), (13, false), (14, false), (15, false), (16, false), (17, false)] (by kernel_rfl) ?_
                simp (maxSteps := 1000000) [go_sem, e1, wv]
                refine l01In_ok _ ?_
                by_cases hr : 0 ≤ b.a ∧ b.a ≤ v - 1
                · have er : (decide (0 ≤ b.a) && decide (b.a ≤ v - 1)) = true := by simp [hr]
                  rw [er]
                  by_cases heq : b.a = b.b
                  · have heqb : (b.a == b.b) = true := by simpa using heq
                    obtain ⟨H9, q1, q2, fin⟩ := bad H2 2 hbl1.1 (badk (by simp only [Bk.nth]; simp; omega))
                    simp (maxSteps := 1000000) [go_sem, e1, e2, heqb, q1, q2, wq1, wq2, wq3, mq1, mq2, mq3]
                    exact fin
                  · have heqb : (b.a == b.b) = false := by simpa using heq
                    simp (maxSteps := 1000000) [go_sem, e1, e2, heqb, wq1, wq2, wq3, mq1, mq2, mq3]
                    refine hK2 1 _ _ (by omega) (by simp [upF, Fr.get, Up.refl]) ⟨by omega, rfl, fun j hj => ?_⟩
                    by_cases hjk : j < 0
                    · exact hin j hjk
                    · obtain rfl : j = 0 := by omega
                      simp only [Bk.nth]; simp; omega
                · have er : (decide (0 ≤ b.a) && decide (b.a ≤ v - 1)) = false := by
                    rw [Bool.and_eq_false_iff, decide_eq_false_iff_not, decide_eq_false_iff_not]; omega
                  rw [er]
                  obtain ⟨H9, q1, q2, fin⟩ := bad H2 2 hbl1.1 (badk (by simp only [Bk.nth]; simp; omega))
                  simp (maxSteps := 1000000) [go_sem, undef, q1, q2]
                  exact fin
              · simp (maxSteps := 1000000) [go_sem]
                refine AWp.draw mixed [(0, false), (1, false), (2, false), (3, false), (4, false), (5, false), (6, false), (7, false), (8, false), (9, false), (10, false), (11, false), (12, false), (13, false), (14, false), (15, false), (16, false), (17, false)] (by kernel_rfl) ?_
                simp (maxSteps := 1000000) [go_sem, e2, wv]
                refine l01In_ok _ ?_
                by_cases hr : 0 ≤ b.b ∧ b.b ≤ v - 1
                · have er : (decide (0 ≤ b.b) && decide (b.b ≤ v - 1)) = true := by simp [hr]
                  rw [er]
                  by_cases heq : b.b = b.c
                  · have heqb : (b.b == b.c) = true := by simpa using heq
                    obtain ⟨H9, q1, q2, fin⟩ := bad H2 2 hbl1.1 (badk (by simp only [Bk.nth]; simp; omega))
                    simp (maxSteps := 1000000) [go_sem, e2, e3, heqb, q1, q2, wq1, wq2, wq3, mq1, mq2, mq3]
                    exact fin
                  · have heqb : (b.b == b.c) = false := by simpa using heq
                    simp (maxSteps := 1000000) [go_sem, e2, e3, heqb, wq1, wq2, wq3, mq1, mq2, mq3]
                    refine hK2 2 _ _ (by omega) (by simp [upF, Fr.get, Up.refl]) ⟨by omega, rfl, fun j hj => ?_⟩
                    by_cases hjk : j < 1
                    · exact hin j hjk
                    · obtain rfl : j = 1 := by omega
                      simp only [Bk.nth]; simp; omega
                · have er : (decide (0 ≤ b.b) && decide (b.b ≤ v - 1)) = false := by
                    rw [Bool.and_eq_false_iff, decide_eq_false_iff_not, decide_eq_false_iff_not]; omega
                  rw [er]
                  obtain ⟨H9, q1, q2, fin⟩ := bad H2 2 hbl1.1 (badk (by simp only [Bk.nth]; simp; omega))
                  simp (maxSteps := 1000000) [go_sem, undef, q1, q2]
                  exact fin
              · simp (maxSteps := 1000000) [go_sem]
                refine AWp.draw mixed [(0, false), (1, false), (2, false), (3, false), (4, false), (5, false), (6, false), (7, false), (8, false), (9, false), (10, false), (11, false), (12, false), (13, false), (14, false), (15, false), (16, false), (17, false)] (by kernel_rfl) ?_
                simp (maxSteps := 1000000) [go_sem, e3, wv]
                refine l01In_ok _ ?_
                by_cases hr : 0 ≤ b.c ∧ b.c ≤ v - 1
                · have er : (decide (0 ≤ b.c) && decide (b.c ≤ v - 1)) = true := by simp [hr]
                  rw [er]
                  by_cases heq : b.c = b.a
                  · have heqb : (b.c == b.a) = true := by simpa using heq
                    obtain ⟨H9, q1, q2, fin⟩ := bad H2 2 hbl1.1 (badk (by simp only [Bk.nth]; simp; omega))
                    simp (maxSteps := 1000000) [go_sem, e3, e1, heqb, q1, q2, wq1, wq2, wq3, mq1, mq2, mq3]
                    exact fin
                  · have heqb : (b.c == b.a) = false := by simpa using heq
                    simp (maxSteps := 1000000) [go_sem, e3, e1, heqb, wq1, wq2, wq3, mq1, mq2, mq3]
                    refine hK2 3 _ _ (by omega) (by simp [upF, Fr.get, Up.refl]) ⟨by omega, rfl, fun j hj => ?_⟩
                    by_cases hjk : j < 2
                    · exact hin j hjk
                    · obtain rfl : j = 2 := by omega
                      simp only [Bk.nth]; simp; omega
                · have er : (decide (0 ≤ b.c) && decide (b.c ≤ v - 1)) = false := by
                    rw [Bool.and_eq_false_iff, decide_eq_false_iff_not, decide_eq_false_iff_not]; omega
                  rw [er]
                  obtain ⟨H9, q1, q2, fin⟩ := bad H2 2 hbl1.1 (badk (by simp only [Bk.nth]; simp; omega))
                  simp (maxSteps := 1000000) [go_sem, undef, q1, q2]
                  exact fin
            · have : k = 3 := by omega
              subst this
              have hg : good v (ofB b) = true := by
                have h0 := hin 0 (by omega)
                have h1 := hin 1 (by omega)
                have h2 := hin 2 (by omega)
                simp only [Bk.nth] at h0 h1 h2
                simp at h0 h1 h2
                exact blk_good.2 (by omega)
              have hr := blk_good.1 hg
              simp (maxSteps := 1000000) [go_sem, e1, e2, e3]
              refine l01Block_ok (by omega) (by omega) (by omega) _ ?_
              intro H3 hp3
              have hcb : ofB b = blk b.a b.b b.c := rfl
              rw [← hcb]
              obtain ⟨c, hc⟩ : ∃ c, ofB b = c := ⟨_, rfl⟩
              rw [hc] at hg hcb ⊢
              have hbl4 := hbl1.pre hp3
              have hsn : (bs.take (s + 1)).map ofB = (bs.take s).map ofB ++ [c] := by rw [List.take_succ_eq_append_getElem hlt, hb, List.map_append]; simp [hc]
              obtain ⟨hsrc, H5, hap, hbl5⟩ := hbl4.push (xs := c.cells) (by omega) rfl
              simp only [Bk.cells] at hsrc hap hbl5
              simp (maxSteps := 1000000) [go_sem, Bk.val, hw_s, hsrc, hap]
              refine andK_intro (by omega) (hK (s + 1, H3.length + 1) _ _ (by simp only; omega) (by simp [upF, Fr.get, Up.refl]) ⟨by simp only; omega, ?_, ?_⟩)
              · simp only [hsn, tri_append, tri_one, Bk.cells]
                exact hbl5
              · intro x hx
                rw [List.take_succ_eq_append_getElem hlt, hb, List.mem_append, List.mem_singleton] at hx
                rcases hx with hx | rfl
                · exact hgd x hx
                · rw [hc]; exact hg
        · have : s = bs.length := by omega
          subst this
          rw [List.take_length] at hbl hgd
          have hlm : (bs.map ofB).length = bs.length := List.length_map _
          have hown : BlocksIn H0.length H'.length H' (lv 3 id 0 bs.length) (bs.map ofB) := by
            rw [← hlm]
            exact OwnBlocks.inn (OwnBlocks.of_ol (by rw [hlm]; exact hbl.2.1) (by omega)) hbl.2.2
          simp (maxSteps := 1000000) [go_sem]
          refine l01Fits_ok hown.read _ ?_
          intro H1 b hp1 hb
          cases b with
          | false =>
            have hF : ¬ Fits (bs.map ofB) := fun e => by have := hb.2 e; cases this
            obtain ⟨H9, q1, q2, fin⟩ := bad H1 5 (hbl.1.trans hp1) (by rw [rSysOf, if_pos ⟨hv, hlb⟩, if_pos hgd, if_neg hF])
            simp (maxSteps := 1000000) [go_sem, q1, q2]
            exact fin
          | true =>
            have hF := hb.1 rfl
            have hr : rSysOf v bs = ((v, sortB (bs.map ofB)), 0) := by rw [rSysOf, if_pos ⟨hv, hlb⟩, if_pos hgd, if_pos hF]
            simp (maxSteps := 1000000) [go_sem]
            refine l01Made_ok (hown.read.pre hp1) (by omega) _ ?_
            intro H2 w hp2 hw
            obtain ⟨q1, q2, q3, q4⟩ := put2 (cs := [.int .i64 v, w]) hp0 (Nat.le_refl _) hb0 rfl (hbl.1.trans (hp1.trans hp2)) rfl (by simp [one_int, hw.one])
            have hll := hbl.1.length_le
            have hll1 := hp1.length_le
            have fin := h _ w q3 (by rw [hr, List.length_set]; exact (hw.keep q4 (fun j hj e => by have := hj.1; omega)).wider (by omega))
            rw [hr] at fin
            simp (maxSteps := 1000000) [go_sem, sysV, q1, q2]
            exact ⟨_, Up.refl _ _, fin⟩
    · have hlb' : ((35 : Int) < bs.length) := by omega
      have hlb2 : (35 < bs.length) := by omega
      obtain ⟨H9, q1, q2, fin⟩ := bad H0 2 (List.prefix_refl _) (by rw [rSysOf, if_neg (by omega)])
      simp (maxSteps := 1000000) [go_sem, hlb', hlb2, q1, q2]
      exact fin
  · have e1 : (decide (3 ≤ v) && decide (v ≤ 15)) = false := by
      rw [Bool.and_eq_false_iff, decide_eq_false_iff_not, decide_eq_false_iff_not]; omega
    rw [e1]
    obtain ⟨H9, q1, q2, fin⟩ := bad H0 2 (List.prefix_refl _) (by rw [rSysOf, if_neg (by omega)])
    simp (maxSteps := 1000000) [go_sem, undef, q1, q2]
    exact fin

end Go.Proofs.Ytdfeoccjllljiaa
end

section
/- Arguments that are lists of blocks or lists of lists of numbers: their shapes, the guards on their size, their copies. -/
set_option linter.all false
set_option maxRecDepth 20000
set_option maxHeartbeats 4000000
namespace Go.Proofs.Ytdfeoccjllljiaa
open Go.Ab

def shBlocks : Shape := ⟨22, false, cBks⟩
theorem fits_shBlocks {D : Type} {enc : TypeId × Value → D} (W : World) : shBlocks.fits enc Try.prog W :=
  ⟨cSl_stable (cMany_stable (cInt_stable _) 3), open_bks W, by show (match Try.prog.underlying 22 with | _ => _); rw [Try.underlying22]; rfl⟩
theorem says_shBlocks {H : Heap} {v : Value} (h : shBlocks.says H v) : ∃ bs, BlocksAt0 H v bs ∧ ∀ b ∈ bs, In64 b.a ∧ In64 b.b ∧ In64 b.c := says_bks h
theorem toBlks_ok {H : Heap} {u : Value} {bs : List Bk} (hu : BlocksAt H u bs) (hb : bs.length ≤ 1048576) (Post : Value → Heap → Prop) (h : ∀ H' v, H <+: H' → BlocksIn H.length H'.length H' v bs → Post v H') :
    ACalls Try.prog 57 [u] H Post := toBlockS_ok hu Post hb fun H' v id hp hid ho => h H' v hp (OwnBlocks.inn ho hid)

theorem szIntss0_ok {H : Heap} {u : Value} {xss : List (List Int)} {k : Int} (hu : IntssAt0 H u xss) (hk0 : 0 ≤ k) (hk : k ≤ 1048576) (Post : Value → Heap → Prop)
    (h : Post (.int .i64 (if k < (xss.length + xss.flatten.length : Nat) then -1 else k - (xss.length + xss.flatten.length : Nat))) H) :
    ACalls Try.prog 35 [u, .int .i64 k] H Post := by
  obtain ⟨i, o, vs, rfl, hvl, h1, h2, h3⟩ := hu
  refine acalls_vc (rs := [.tmp 4]) Try.func35 rfl rfl Try.ntmps35 rfl rfl ?_
  have hw : IntKind.i64.wrap (k - xss.length) = k - xss.length := i64w (by omega) (by omega)
  by_cases hlt : k < xss.length
  · rw [if_pos (by omega)] at h
    have hlt' : decide (k - (xss.length : Int) < 0) = true := decide_eq_true (by omega)
    simp (maxSteps := 1000000) [go_sem, hw, hlt', hlt]
    exact h
  have hlt' : decide (k - (xss.length : Int) < 0) = false := decide_eq_false (by omega)
  simp (maxSteps := 1000000) [go_sem, hw, hlt', hlt]
  refine AWp.loopVc (St := Nat) (fun s => [(0, lv 1 i o xss.length), (1, .int .i64 (k - xss.length - (off xss s : Nat))), (5, .int .i64 s)])
    (fun s H' => s ≤ xss.length ∧ H' = H ∧ (off xss s : Int) ≤ k - xss.length) (fun s => xss.length - s) 0 ?_ ?_ ?_
  · simp [upF, Fr.get, Up.refl, off_zero]
  · exact ⟨by omega, rfl, by rw [off_zero]; omega⟩
  · rintro K s H' ⟨hs, rfl, ho⟩ hK
    by_cases hls : s < xss.length
    · have hx := List.getElem?_eq_getElem hls
      have hv := List.getElem?_eq_getElem (show s < vs.length by omega)
      have hz := h2 s _ _ hv hx
      obtain ⟨xs, hxs⟩ : ∃ xs, xss[s] = xs := ⟨_, rfl⟩
      rw [hxs] at hx hz
      have hos := off_succ hx
      have hol := off_le' hx
      have c1 := h1.cell hv
      obtain ⟨v, hvv⟩ : ∃ v, vs[s]'(by omega) = v := ⟨_, rfl⟩
      rw [hvv] at c1 hz
      have hzo := hz
      obtain ⟨j, q, rfl, _, _⟩ := hzo
      have hw_s : IntKind.i64.wrap ((s : Int) + 1) = (s : Int) + 1 := i64w (by omega) (by omega)
      simp (maxSteps := 1000000) [go_sem, hls, c1]
      refine szInt64S0_ok hz (by omega) (by omega) _ ?_
      by_cases hb : k - (xss.length : Int) - (off xss s : Nat) < xs.length
      · rw [if_pos hb]
        rw [if_pos (by omega)] at h
        simp (maxSteps := 1000000) [go_sem]
        exact h
      · rw [if_neg hb]
        have hb' : decide (k - (xss.length : Int) - (off xss s : Nat) - (xs.length : Int) < 0) = false := decide_eq_false (by omega)
        simp (maxSteps := 1000000) [go_sem, hb', hw_s, hb]
        refine hK (s + 1) _ _ (by omega) ?_ ⟨by omega, rfl, by omega⟩
        have e : k - (xss.length : Int) - (off xss (s + 1) : Nat) = k - (xss.length : Int) - (off xss s : Nat) - (xs.length : Int) := by omega
        simp [upF, Fr.get, Up.refl, e]
    · have : s = xss.length := by omega
      subst this
      rw [off_all] at ho ⊢
      rw [if_neg (by omega)] at h
      obtain ⟨T, hT⟩ : ∃ T, xss.flatten.length = T := ⟨_, rfl⟩
      rw [hT] at h ⊢
      simp (maxSteps := 1000000) [go_sem]
      have e : k - ((xss.length + T : Nat) : Int) = k - (xss.length : Int) - (T : Nat) := by omega
      rw [e] at h
      exact h

theorem intss_at0 {H : Heap} {v : Value} {xss : List (List Int)} (h : IntssAt0 H v xss) (hl : xss.length + xss.flatten.length ≤ 1048576) : IntssAt H v xss :=
  h.at (by omega) fun xs hx => by
    obtain ⟨s, hs⟩ := List.mem_iff_getElem?.1 hx
    have := off_le' hs; omega

theorem toIntss_ok {H : Heap} {u : Value} {xss : List (List Int)} (hu : IntssAt H u xss) (hl : xss.length + xss.flatten.length ≤ 1048576) (Post : Value → Heap → Prop) (h : ∀ H' v, H <+: H' → RowsIn H.length H'.length H' v xss → Post v H') :
    ACalls Try.prog 37 [u] H Post := by
  obtain ⟨i, o, vs, rfl, hvl, h1, h2, h3⟩ := hu
  refine ACalls.res ?_
  refine acalls_vc (rs := [.tmp 2]) Try.func37 rfl rfl Try.ntmps37 rfl rfl ?_
  have hm : ∀ n, (madeCells #[Value.slice none 0 0] n).toList = List.replicate n (.slice none 0 0) := by
    intro n
    rw [made_same (v := .slice none 0 0) (by simp) (by intro i hi; simp at hi; subst hi; rfl)]
  simp (maxSteps := 1000000) [go_sem, hm]
  refine andK_intro (by omega) ?_
  have hlast : (H ++ [(⟨List.replicate xss.length (.slice none 0 0), true, true⟩ : Blk)])[H.length]? = some ⟨List.replicate xss.length (.slice none 0 0), true, true⟩ := by simp
  have hpl : H <+: H ++ [⟨List.replicate xss.length (.slice none 0 0), true, true⟩] := List.prefix_append _ _
  have hlen0 : (H ++ [(⟨List.replicate xss.length (.slice none 0 0), true, true⟩ : Blk)]).length = H.length + 1 := by simp
  generalize H ++ [(⟨List.replicate xss.length (.slice none 0 0), true, true⟩ : Blk)] = H0 at hlast hpl hlen0 ⊢
  refine AWp.loopVc (St := Nat × List (Nat × List Int)) (fun s => [(0, lv 1 i o xss.length), (3, .slice (some ⟨H.length, 0, none⟩) xss.length xss.length), (4, .int .i64 s.1)])
    (fun s H' => s.1 ≤ xss.length ∧ H <+: H' ∧ s.2.map (·.2) = xss.take s.1 ∧ H'[H.length]? = some ⟨s.2.map rowVal ++ List.replicate (xss.length - s.1) (.slice none 0 0), true, true⟩ ∧ Rows1 H' s.2 ∧ ∀ r ∈ s.2, r.2 ≠ [] → H.length < r.1 ∧ r.1 < H'.length)
    (fun s => xss.length - s.1) (0, []) ?_ ?_ ?_
  · simp [upF, Fr.get, Up.refl]
  · exact ⟨by simp, hpl, by simp, by simpa using hlast, ⟨by simp, by simp⟩, by simp⟩
  · rintro K ⟨s, rows⟩ H' ⟨hs, hp, hrm, hc, hr1, hri⟩ hK
    simp only at hs hp hrm hc hr1 hri
    have hrl : rows.length = s := by
      have := congrArg List.length hrm
      simp only [List.length_map, List.length_take] at this; omega
    by_cases hls : s < xss.length
    · have hx := List.getElem?_eq_getElem hls
      have hv := List.getElem?_eq_getElem (show s < vs.length by omega)
      have hz := h2 s _ _ hv hx
      obtain ⟨xs, hxs⟩ : ∃ xs, xss[s] = xs := ⟨_, rfl⟩
      rw [hxs] at hx hz
      have hol := off_le' hx
      have c1 := (h1.pre hp).cell hv
      obtain ⟨v, hvv⟩ : ∃ v, vs[s]'(by omega) = v := ⟨_, rfl⟩
      rw [hvv] at c1 hz
      have hzo := hz
      obtain ⟨j, q, rfl, _, _⟩ := hzo
      have hw_s : IntKind.i64.wrap ((s : Int) + 1) = (s : Int) + 1 := i64w (by omega) (by omega)
      simp (maxSteps := 1000000) [go_sem, hls, c1]
      refine toInt64S_ok (hz.pre hp) _ (by omega) ?_
      rintro H2 w rid hp2 hrid ⟨rfl, hown, hlx⟩
      have hlt := (List.getElem?_eq_some_iff.1 hc).1
      have hc2 := Same.get (S := fun _ => False) (Same.of_prefix hp2) hc (fun h => h)
      have hcl : s < (rows.map rowVal ++ List.replicate (xss.length - s) (Value.slice none 0 0)).length := by simp; omega
      have hset : (rows.map rowVal ++ List.replicate (xss.length - s) (Value.slice none 0 0)).set s (lv 1 rid 0 xs.length) = (rows ++ [(rid, xs)]).map rowVal ++ List.replicate (xss.length - (s + 1)) (.slice none 0 0) := by
        obtain ⟨m, hm⟩ : ∃ m, xss.length - s = m + 1 := ⟨xss.length - s - 1, by omega⟩
        have hm2 : xss.length - (s + 1) = m := by omega
        rw [hm, hm2, List.set_append, if_neg (by simp; omega), List.length_map, hrl, Nat.sub_self, List.replicate_succ, List.set_cons_zero, List.map_append, List.append_assoc]
        rfl
      have s2 : storeAt H2 H.length s [lv 1 rid 0 xs.length] = some (H2.set H.length ⟨(rows ++ [(rid, xs)]).map rowVal ++ List.replicate (xss.length - (s + 1)) (.slice none 0 0), true, true⟩) := by
        rw [storeAt_of hc2 rfl rfl (by simp only [List.length_singleton]; omega) (by simp [Value.oneCell']), over_one hcl, hset]
      have hS : Same (fun j => j = H.length) H2 (H2.set H.length ⟨(rows ++ [(rid, xs)]).map rowVal ++ List.replicate (xss.length - (s + 1)) (.slice none 0 0), true, true⟩) := Same.set
      have fin := fun fr' hf => hK (s + 1, rows ++ [(rid, xs)]) fr' (H2.set H.length ⟨(rows ++ [(rid, xs)]).map rowVal ++ List.replicate (xss.length - (s + 1)) (.slice none 0 0), true, true⟩) (by simp only; omega) hf ⟨by simp only; omega, ((Same.of_prefix (hp.trans hp2)).trans hS).prefix (by omega), by
          simp only [List.map_append, List.map_cons, List.map_nil, hrm]
          rw [List.take_succ_eq_append_getElem hls, hxs], by rw [List.getElem?_set_self (List.getElem?_eq_some_iff.1 hc2).1], ?_, ?_⟩
      · generalize H2.set H.length ⟨(rows ++ [(rid, xs)]).map rowVal ++ List.replicate (xss.length - (s + 1)) (.slice none 0 0), true, true⟩ = H3 at s2 fin
        simp (maxSteps := 1000000) [go_sem, hls, s2, hw_s]
        exact fin _ (by simp [upF, Fr.get, Up.refl])
      · have hle2 := hp2.length_le
        constructor
        · intro r hm
          rcases List.mem_append.1 hm with hm | hm
          · by_cases hne : r.2 = []
            · exact .inl hne
            · refine (hr1.1 r hm).imp (fun h => h) fun hb => ?_
              have := hri r hm hne
              exact hS.get (Same.get (S := fun _ => False) (Same.of_prefix hp2) hb (fun h => h)) (by omega)
          · simp at hm; subst hm
            refine hown.imp (fun h => h) fun hb => ?_
            exact hS.get hb (by simp only; omega)
        · intro a b r t ha hb hab hrn htn
          have key : ∀ (a : Nat) (r : Nat × List Int), (rows ++ [(rid, xs)])[a]? = some r → (a < rows.length ∧ rows[a]? = some r) ∨ (a = rows.length ∧ r = (rid, xs)) := by
            intro a r ha
            rcases Nat.lt_or_ge a rows.length with h | h
            · rw [List.getElem?_append_left h] at ha; exact .inl ⟨h, ha⟩
            · rw [List.getElem?_append_right h] at ha
              cases hk : a - rows.length with
              | zero => rw [hk] at ha; simp at ha; exact .inr ⟨by omega, ha.symm⟩
              | succ k => rw [hk] at ha; simp at ha
          rcases key a r ha with ⟨g1, g1'⟩ | ⟨g1, rfl⟩
          · rcases key b t hb with ⟨g2, g2'⟩ | ⟨g2, rfl⟩
            · exact hr1.2 a b r t g1' g2' hab hrn htn
            · have := (hri r (List.mem_of_getElem? g1') hrn).2; simp only; omega
          · rcases key b t hb with ⟨g2, g2'⟩ | ⟨g2, rfl⟩
            · have := (hri t (List.mem_of_getElem? g2') htn).2; simp only; omega
            · omega
      · intro r hm hne
        have hle2 := hp2.length_le
        rw [List.length_set]
        rcases List.mem_append.1 hm with hm | hm
        · have := hri r hm hne; omega
        · simp at hm; subst hm
          have hb := hown.resolve_left hne
          exact ⟨by simp only; omega, (List.getElem?_eq_some_iff.1 hb).1⟩
    · have : s = xss.length := by omega
      subst this
      rw [List.take_length] at hrm
      have hlt := (List.getElem?_eq_some_iff.1 hc).1
      simp only [Nat.sub_self, List.replicate_zero, List.append_nil] at hc
      have hrows : RowsIn H.length H'.length H' (lv 1 H.length 0 xss.length) xss := by
        refine ⟨H.length, rows, by rw [hrl], (Holds.at ⟨true, hc⟩), hr1, fun r hm hne => ⟨by have := hri r hm hne; omega, by have := hri r hm hne; exact ⟨by omega, this.2⟩⟩, hrm, fun _ => ⟨Nat.le_refl _, hlt⟩, by omega, by omega⟩
      simp (maxSteps := 1000000) [go_sem]
      refine ⟨lv 1 H.length 0 xss.length, Up.ex (by omega) ?_, h H' _ hp hrows⟩
      right
      have := Holds.cells (H := H') (i := H.length) (o := 0) (n := xss.length) ⟨true, hc⟩ (by simp [hrl])
      rw [Nat.mul_one, this]; rfl

end Go.Proofs.Ytdfeoccjllljiaa
end

section
/- SystemOf: both sides in the form that the law asks. -/
set_option linter.all false
namespace Go.Proofs.Ytdfeoccjllljiaa
open Go.Ab

theorem specSystemOf' {H : Heap} {u : Value} {v : Int} {bs : List Bk} (hn : In64 v) (hu : BlocksAt H u bs) (hl : bs.length ≤ 1048576) (Post : Value → Heap → Prop)
    (h : ∀ H' w, H <+: H' → BlocksIn H.length H'.length H' w (rSysOf v bs).1.2 → Post (.tuple #[sysV (rSysOf v bs).1.1 w, .int .i64 (rSysOf v bs).2]) H') :
    ACalls Try.prog 56 [.int .i64 v, u] H Post := specSystemOf_ok hu hl Post h
theorem implSystemOf' {H : Heap} {u : Value} {v : Int} {bs : List Bk} (hn : In64 v) (hu : BlocksAt H u bs) (hl : bs.length ≤ 1048576) (Post : Value → Heap → Prop)
    (h : ∀ H' w, H <+: H' → BlocksIn H.length H'.length H' w (rSysOf v bs).1.2 → Post (.tuple #[sysV (rSysOf v bs).1.1 w, .int .i64 (rSysOf v bs).2]) H') :
    ACalls Try.prog 58 [.int .i64 v, u] H Post := implSystemOf_ok hu hl Post h

end Go.Proofs.Ytdfeoccjllljiaa
end

section
/- The law on SystemOf, in abstract terms: its code returns true, for every input. -/
set_option linter.all false
set_option maxRecDepth 20000
set_option maxHeartbeats 8000000
namespace Go.Proofs.Ytdfeoccjllljiaa
open Go.Ab

theorem lawFnExactSystemOf (H : Heap) (avs : List Value) (h : argsSay [shInt, shBlocks] H avs) : ACalls Try.prog 11 avs H fun v _ => v = .bool true := by
  obtain ⟨_, _, rfl, a0, _, _, rfl, a1, rfl⟩ := h
  obtain ⟨n0, rfl, hn0⟩ := says_shInt' a0
  obtain ⟨b1, hz1, hw1⟩ := says_shBlocks a1
  obtain ⟨i1, o1, rfl, hat1, hsz1⟩ := hz1
  have hz1 : BlocksAt0 H (lv 3 i1 o1 b1.length) b1 := ⟨i1, o1, rfl, hat1, hsz1⟩
  have qz1 : H <+: H := List.prefix_refl _
  refine acalls_vc (rs := [.tmp 4]) Try.func11 rfl rfl Try.ntmps11 rfl rfl ?_
  try simp (maxSteps := 1000000) [go_sem, sysV]
  refine szBlockS0_ok (hz1.pre qz1) (by omega) (by omega) _ ?_
  by_cases hbig1 : (1048576 : Int) < b1.length
  · simp (maxSteps := 1000000) [go_sem, hbig1, sysV]
  have hneg1 : decide ((1048576 : Int) - b1.length < 0) = false := by simp; omega
  have hl1 : b1.length ≤ 1048576 := by omega
  have hq1 := hz1.at (by omega)
  try simp (maxSteps := 1000000) [go_sem, hbig1, hneg1, sysV]
  refine toBlks_ok (hq1.pre qz1) hl1 _ ?_
  intro H1 wo1 hp1 hoo1
  replace qz1 := qz1.trans hp1
  have hlH1 := hp1.length_le
  try simp (maxSteps := 1000000) [go_sem, hbig1, hneg1, sysV]
  refine specSystemOf' hn0 hoo1.read hl1 _ ?_
  intro H2 wH2_0 hp2 hoH2_0
  replace hoo1 := hoo1.pre hp2
  replace qz1 := qz1.trans hp2
  have hlH2 := hp2.length_le
  have one_rH2_0 : wH2_0.oneCell' = true := hoH2_0.read.one
  try simp (maxSteps := 1000000) [go_sem, hbig1, hneg1, one_rH2_0, sysV]
  have bxrH2_0 := Holds.last H2 [.int .i64 (rSysOf n0 b1).1.1, wH2_0]
  have hp3 : H2 <+: H2 ++ [(⟨[.int .i64 (rSysOf n0 b1).1.1, wH2_0], true, true⟩ : Blk)] := List.prefix_append _ _
  have hbH3 : (H2 ++ [(⟨[.int .i64 (rSysOf n0 b1).1.1, wH2_0], true, true⟩ : Blk)]).length = H2.length + 1 := by simp
  generalize H2 ++ [(⟨[.int .i64 (rSysOf n0 b1).1.1, wH2_0], true, true⟩ : Blk)] = H3 at bxrH2_0 hp3 hbH3 ⊢
  replace hoo1 := hoo1.pre hp3
  replace hoH2_0 := hoH2_0.pre hp3
  replace qz1 := qz1.trans hp3
  have hlH3 := hp3.length_le
  obtain ⟨erH2_0a, erH2_0b, erH2_0c⟩ := bxrH2_0.sys
  try simp (maxSteps := 1000000) [go_sem, hbig1, hneg1, one_rH2_0, sysV, erH2_0a, erH2_0b, erH2_0c]
  refine toBlks_ok (hq1.pre qz1) hl1 _ ?_
  intro H4 wo4 hp4 hoo4
  replace bxrH2_0 := bxrH2_0.pre hp4
  replace hoo1 := hoo1.pre hp4
  replace hoH2_0 := hoH2_0.pre hp4
  replace qz1 := qz1.trans hp4
  have hlH4 := hp4.length_le
  obtain ⟨erH2_0a, erH2_0b, erH2_0c⟩ := bxrH2_0.sys
  try simp (maxSteps := 1000000) [go_sem, hbig1, hneg1, one_rH2_0, sysV, erH2_0a, erH2_0b, erH2_0c]
  refine implSystemOf' hn0 hoo4.read hl1 _ ?_
  intro H5 wH5_0 hp5 hoH5_0
  replace bxrH2_0 := bxrH2_0.pre hp5
  replace hoo1 := hoo1.pre hp5
  replace hoH2_0 := hoH2_0.pre hp5
  replace hoo4 := hoo4.pre hp5
  replace qz1 := qz1.trans hp5
  have hlH5 := hp5.length_le
  obtain ⟨erH2_0a, erH2_0b, erH2_0c⟩ := bxrH2_0.sys
  have one_rH5_0 : wH5_0.oneCell' = true := hoH5_0.read.one
  try simp (maxSteps := 1000000) [go_sem, hbig1, hneg1, one_rH2_0, one_rH5_0, sysV, erH2_0a, erH2_0b, erH2_0c]
  have bxrH5_0 := Holds.last H5 [.int .i64 (rSysOf n0 b1).1.1, wH5_0]
  have hp6 : H5 <+: H5 ++ [(⟨[.int .i64 (rSysOf n0 b1).1.1, wH5_0], true, true⟩ : Blk)] := List.prefix_append _ _
  have hbH6 : (H5 ++ [(⟨[.int .i64 (rSysOf n0 b1).1.1, wH5_0], true, true⟩ : Blk)]).length = H5.length + 1 := by simp
  generalize H5 ++ [(⟨[.int .i64 (rSysOf n0 b1).1.1, wH5_0], true, true⟩ : Blk)] = H6 at bxrH5_0 hp6 hbH6 ⊢
  replace bxrH2_0 := bxrH2_0.pre hp6
  replace hoo1 := hoo1.pre hp6
  replace hoH2_0 := hoH2_0.pre hp6
  replace hoo4 := hoo4.pre hp6
  replace hoH5_0 := hoH5_0.pre hp6
  replace qz1 := qz1.trans hp6
  have hlH6 := hp6.length_le
  obtain ⟨erH2_0a, erH2_0b, erH2_0c⟩ := bxrH2_0.sys
  obtain ⟨erH5_0a, erH5_0b, erH5_0c⟩ := bxrH5_0.sys
  try simp (maxSteps := 1000000) [go_sem, hbig1, hneg1, one_rH2_0, one_rH5_0, sysV, erH2_0a, erH2_0b, erH2_0c, erH5_0a, erH5_0b, erH5_0c]
  refine eqSystem_ok hoH5_0.read hoH2_0.read _ ?_
  intro H7 hp7
  replace bxrH2_0 := bxrH2_0.pre hp7
  replace bxrH5_0 := bxrH5_0.pre hp7
  replace hoo1 := hoo1.pre hp7
  replace hoH2_0 := hoH2_0.pre hp7
  replace hoo4 := hoo4.pre hp7
  replace hoH5_0 := hoH5_0.pre hp7
  replace qz1 := qz1.trans hp7
  have hlH7 := hp7.length_le
  obtain ⟨erH2_0a, erH2_0b, erH2_0c⟩ := bxrH2_0.sys
  obtain ⟨erH5_0a, erH5_0b, erH5_0c⟩ := bxrH5_0.sys
  try simp (maxSteps := 1000000) [go_sem, hbig1, hneg1, one_rH2_0, one_rH5_0, sysV, erH2_0a, erH2_0b, erH2_0c, erH5_0a, erH5_0b, erH5_0c]
  refine toBlks_ok (hq1.pre qz1) hl1 _ ?_
  intro H8 wo8 hp8 hoo8
  replace bxrH2_0 := bxrH2_0.pre hp8
  replace bxrH5_0 := bxrH5_0.pre hp8
  replace hoo1 := hoo1.pre hp8
  replace hoH2_0 := hoH2_0.pre hp8
  replace hoo4 := hoo4.pre hp8
  replace hoH5_0 := hoH5_0.pre hp8
  replace qz1 := qz1.trans hp8
  have hlH8 := hp8.length_le
  obtain ⟨erH2_0a, erH2_0b, erH2_0c⟩ := bxrH2_0.sys
  obtain ⟨erH5_0a, erH5_0b, erH5_0c⟩ := bxrH5_0.sys
  try simp (maxSteps := 1000000) [go_sem, hbig1, hneg1, one_rH2_0, one_rH5_0, sysV, erH2_0a, erH2_0b, erH2_0c, erH5_0a, erH5_0b, erH5_0c]
  refine eqBlockS_ok hoo4.read hoo8.read _ ?_
  intro H9 hp9
  replace bxrH2_0 := bxrH2_0.pre hp9
  replace bxrH5_0 := bxrH5_0.pre hp9
  replace hoo1 := hoo1.pre hp9
  replace hoH2_0 := hoH2_0.pre hp9
  replace hoo4 := hoo4.pre hp9
  replace hoH5_0 := hoH5_0.pre hp9
  replace hoo8 := hoo8.pre hp9
  replace qz1 := qz1.trans hp9
  have hlH9 := hp9.length_le
  obtain ⟨erH2_0a, erH2_0b, erH2_0c⟩ := bxrH2_0.sys
  obtain ⟨erH5_0a, erH5_0b, erH5_0c⟩ := bxrH5_0.sys
  try simp (maxSteps := 1000000) [go_sem, hbig1, hneg1, one_rH2_0, one_rH5_0, sysV, erH2_0a, erH2_0b, erH2_0c, erH5_0a, erH5_0b, erH5_0c]
  refine markBlocks_ok hoo4 (by omega) (by omega) _ ?_
  intro H10 hs10 mk10
  replace bxrH2_0 := bxrH2_0.keepS hs10 (by rintro ⟨h1, h2⟩; omega)
  replace bxrH5_0 := bxrH5_0.keepS hs10 (by rintro ⟨h1, h2⟩; omega)
  replace hoo1 := hoo1.keep hs10 (by rintro j ⟨h1, h2⟩ ⟨h3, h4⟩; omega)
  replace hoH2_0 := hoH2_0.keep hs10 (by rintro j ⟨h1, h2⟩ ⟨h3, h4⟩; omega)
  replace hoH5_0 := hoH5_0.keep hs10 (by rintro j ⟨h1, h2⟩ ⟨h3, h4⟩; omega)
  replace hoo8 := hoo8.keep hs10 (by rintro j ⟨h1, h2⟩ ⟨h3, h4⟩; omega)
  replace qz1 := ((Same.of_prefix qz1).trans hs10).prefix (by rintro j hj ⟨h1, h2⟩; omega)
  have hlH10 := hs10.1
  obtain ⟨erH2_0a, erH2_0b, erH2_0c⟩ := bxrH2_0.sys
  obtain ⟨erH5_0a, erH5_0b, erH5_0c⟩ := bxrH5_0.sys
  have hng10 : decide ((1 : Int) + ((b1).length * 3 : Nat) < 0) = false := by simp only [decide_eq_false_iff_not]; omega
  try simp only [Int.natCast_mul, Int.cast_ofNat_Int] at hng10
  try simp (maxSteps := 1000000) [go_sem, hbig1, hneg1, hng10, one_rH2_0, one_rH5_0, sysV, erH2_0a, erH2_0b, erH2_0c, erH5_0a, erH5_0b, erH5_0c]
  refine eqSystem_ok hoH5_0.read hoH2_0.read _ ?_
  intro H11 hp11
  replace bxrH2_0 := bxrH2_0.pre hp11
  replace bxrH5_0 := bxrH5_0.pre hp11
  replace hoo1 := hoo1.pre hp11
  replace hoH2_0 := hoH2_0.pre hp11
  replace mk10 := mk10.pre hp11
  replace hoH5_0 := hoH5_0.pre hp11
  replace hoo8 := hoo8.pre hp11
  replace qz1 := qz1.trans hp11
  have hlH11 := hp11.length_le
  obtain ⟨erH2_0a, erH2_0b, erH2_0c⟩ := bxrH2_0.sys
  obtain ⟨erH5_0a, erH5_0b, erH5_0c⟩ := bxrH5_0.sys
  try simp (maxSteps := 1000000) [go_sem, hbig1, hneg1, hng10, one_rH2_0, one_rH5_0, sysV, erH2_0a, erH2_0b, erH2_0c, erH5_0a, erH5_0b, erH5_0c]
  refine markSys_ok hoH5_0 (by omega) (by omega) _ ?_
  intro H12 hs12 mk12
  replace bxrH2_0 := bxrH2_0.keepS hs12 (by rintro ⟨h1, h2⟩; omega)
  replace bxrH5_0 := bxrH5_0.keepS hs12 (by rintro ⟨h1, h2⟩; omega)
  replace hoo1 := hoo1.keep hs12 (by rintro j ⟨h1, h2⟩ ⟨h3, h4⟩; omega)
  replace hoH2_0 := hoH2_0.keep hs12 (by rintro j ⟨h1, h2⟩ ⟨h3, h4⟩; omega)
  replace mk10 := mk10.keep hs12 (by rintro j ⟨h1, h2⟩ ⟨h3, h4⟩; omega)
  replace hoo8 := hoo8.keep hs12 (by rintro j ⟨h1, h2⟩ ⟨h3, h4⟩; omega)
  replace qz1 := ((Same.of_prefix qz1).trans hs12).prefix (by rintro j hj ⟨h1, h2⟩; omega)
  have hlH12 := hs12.1
  obtain ⟨erH2_0a, erH2_0b, erH2_0c⟩ := bxrH2_0.sys
  obtain ⟨erH5_0a, erH5_0b, erH5_0c⟩ := bxrH5_0.sys
  have hng12 : decide ((1 : Int) + (((rSysOf n0 b1).1.2).length * 3 : Nat) < 0) = false := by simp only [decide_eq_false_iff_not]; omega
  try simp only [Int.natCast_mul, Int.cast_ofNat_Int] at hng12
  try simp (maxSteps := 1000000) [go_sem, hbig1, hneg1, hng10, hng12, one_rH2_0, one_rH5_0, sysV, erH2_0a, erH2_0b, erH2_0c, erH5_0a, erH5_0b, erH5_0c]
  refine heldSys_ok mk12 (by omega) (by omega) _ ?_
  intro H13 hp13
  replace bxrH2_0 := bxrH2_0.pre hp13
  replace bxrH5_0 := bxrH5_0.pre hp13
  replace hoo1 := hoo1.pre hp13
  replace hoH2_0 := hoH2_0.pre hp13
  replace mk10 := mk10.pre hp13
  replace mk12 := mk12.pre hp13
  replace hoo8 := hoo8.pre hp13
  replace qz1 := qz1.trans hp13
  have hlH13 := hp13.length_le
  obtain ⟨erH2_0a, erH2_0b, erH2_0c⟩ := bxrH2_0.sys
  obtain ⟨erH5_0a, erH5_0b, erH5_0c⟩ := bxrH5_0.sys
  try simp (maxSteps := 1000000) [go_sem, hbig1, hneg1, hng10, hng12, one_rH2_0, one_rH5_0, sysV, erH2_0a, erH2_0b, erH2_0c, erH5_0a, erH5_0b, erH5_0c]
  refine toBlks_ok (hq1.pre qz1) hl1 _ ?_
  intro H14 wo14 hp14 hoo14
  replace bxrH2_0 := bxrH2_0.pre hp14
  replace bxrH5_0 := bxrH5_0.pre hp14
  replace hoo1 := hoo1.pre hp14
  replace hoH2_0 := hoH2_0.pre hp14
  replace mk10 := mk10.pre hp14
  replace mk12 := mk12.pre hp14
  replace hoo8 := hoo8.pre hp14
  replace qz1 := qz1.trans hp14
  have hlH14 := hp14.length_le
  obtain ⟨erH2_0a, erH2_0b, erH2_0c⟩ := bxrH2_0.sys
  obtain ⟨erH5_0a, erH5_0b, erH5_0c⟩ := bxrH5_0.sys
  try simp (maxSteps := 1000000) [go_sem, hbig1, hneg1, hng10, hng12, one_rH2_0, one_rH5_0, sysV, erH2_0a, erH2_0b, erH2_0c, erH5_0a, erH5_0b, erH5_0c]
  refine implSystemOf' hn0 hoo14.read hl1 _ ?_
  intro H15 wH15_0 hp15 hoH15_0
  replace bxrH2_0 := bxrH2_0.pre hp15
  replace bxrH5_0 := bxrH5_0.pre hp15
  replace hoo1 := hoo1.pre hp15
  replace hoH2_0 := hoH2_0.pre hp15
  replace mk10 := mk10.pre hp15
  replace mk12 := mk12.pre hp15
  replace hoo8 := hoo8.pre hp15
  replace hoo14 := hoo14.pre hp15
  replace qz1 := qz1.trans hp15
  have hlH15 := hp15.length_le
  obtain ⟨erH2_0a, erH2_0b, erH2_0c⟩ := bxrH2_0.sys
  obtain ⟨erH5_0a, erH5_0b, erH5_0c⟩ := bxrH5_0.sys
  have one_rH15_0 : wH15_0.oneCell' = true := hoH15_0.read.one
  try simp (maxSteps := 1000000) [go_sem, hbig1, hneg1, hng10, hng12, one_rH15_0, one_rH2_0, one_rH5_0, sysV, erH2_0a, erH2_0b, erH2_0c, erH5_0a, erH5_0b, erH5_0c]
  have bxrH15_0 := Holds.last H15 [.int .i64 (rSysOf n0 b1).1.1, wH15_0]
  have hp16 : H15 <+: H15 ++ [(⟨[.int .i64 (rSysOf n0 b1).1.1, wH15_0], true, true⟩ : Blk)] := List.prefix_append _ _
  have hbH16 : (H15 ++ [(⟨[.int .i64 (rSysOf n0 b1).1.1, wH15_0], true, true⟩ : Blk)]).length = H15.length + 1 := by simp
  generalize H15 ++ [(⟨[.int .i64 (rSysOf n0 b1).1.1, wH15_0], true, true⟩ : Blk)] = H16 at bxrH15_0 hp16 hbH16 ⊢
  replace bxrH2_0 := bxrH2_0.pre hp16
  replace bxrH5_0 := bxrH5_0.pre hp16
  replace hoo1 := hoo1.pre hp16
  replace hoH2_0 := hoH2_0.pre hp16
  replace mk10 := mk10.pre hp16
  replace mk12 := mk12.pre hp16
  replace hoo8 := hoo8.pre hp16
  replace hoo14 := hoo14.pre hp16
  replace hoH15_0 := hoH15_0.pre hp16
  replace qz1 := qz1.trans hp16
  have hlH16 := hp16.length_le
  obtain ⟨erH2_0a, erH2_0b, erH2_0c⟩ := bxrH2_0.sys
  obtain ⟨erH5_0a, erH5_0b, erH5_0c⟩ := bxrH5_0.sys
  obtain ⟨erH15_0a, erH15_0b, erH15_0c⟩ := bxrH15_0.sys
  try simp (maxSteps := 1000000) [go_sem, hbig1, hneg1, hng10, hng12, one_rH15_0, one_rH2_0, one_rH5_0, sysV, erH2_0a, erH2_0b, erH2_0c, erH5_0a, erH5_0b, erH5_0c, erH15_0a, erH15_0b, erH15_0c]
  refine eqSystem_ok hoH15_0.read hoH2_0.read _ ?_
  intro H17 hp17
  replace bxrH2_0 := bxrH2_0.pre hp17
  replace bxrH5_0 := bxrH5_0.pre hp17
  replace bxrH15_0 := bxrH15_0.pre hp17
  replace hoo1 := hoo1.pre hp17
  replace hoH2_0 := hoH2_0.pre hp17
  replace mk10 := mk10.pre hp17
  replace mk12 := mk12.pre hp17
  replace hoo8 := hoo8.pre hp17
  replace hoo14 := hoo14.pre hp17
  replace hoH15_0 := hoH15_0.pre hp17
  replace qz1 := qz1.trans hp17
  have hlH17 := hp17.length_le
  obtain ⟨erH2_0a, erH2_0b, erH2_0c⟩ := bxrH2_0.sys
  obtain ⟨erH5_0a, erH5_0b, erH5_0c⟩ := bxrH5_0.sys
  obtain ⟨erH15_0a, erH15_0b, erH15_0c⟩ := bxrH15_0.sys
  try simp (maxSteps := 1000000) [go_sem, hbig1, hneg1, hng10, hng12, one_rH15_0, one_rH2_0, one_rH5_0, sysV, erH2_0a, erH2_0b, erH2_0c, erH5_0a, erH5_0b, erH5_0c, erH15_0a, erH15_0b, erH15_0c]
  refine heldSys_ok mk12 (by omega) (by omega) _ ?_
  intro H18 hp18
  replace bxrH2_0 := bxrH2_0.pre hp18
  replace bxrH5_0 := bxrH5_0.pre hp18
  replace bxrH15_0 := bxrH15_0.pre hp18
  replace hoo1 := hoo1.pre hp18
  replace hoH2_0 := hoH2_0.pre hp18
  replace mk10 := mk10.pre hp18
  replace mk12 := mk12.pre hp18
  replace hoo8 := hoo8.pre hp18
  replace hoo14 := hoo14.pre hp18
  replace hoH15_0 := hoH15_0.pre hp18
  replace qz1 := qz1.trans hp18
  have hlH18 := hp18.length_le
  obtain ⟨erH2_0a, erH2_0b, erH2_0c⟩ := bxrH2_0.sys
  obtain ⟨erH5_0a, erH5_0b, erH5_0c⟩ := bxrH5_0.sys
  obtain ⟨erH15_0a, erH15_0b, erH15_0c⟩ := bxrH15_0.sys
  try simp (maxSteps := 1000000) [go_sem, hbig1, hneg1, hng10, hng12, one_rH15_0, one_rH2_0, one_rH5_0, sysV, erH2_0a, erH2_0b, erH2_0c, erH5_0a, erH5_0b, erH5_0c, erH15_0a, erH15_0b, erH15_0c]

end Go.Proofs.Ytdfeoccjllljiaa
end
