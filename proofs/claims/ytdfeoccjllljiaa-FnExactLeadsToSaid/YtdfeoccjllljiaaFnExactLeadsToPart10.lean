/- Part 10 of what the proof of the law FnExactLeadsTo rests on: contracts of functions of the program, for every argument that each names; no statement of the seat is proved here. -/
import Derived.Test.YtdfeoccjllljiaaFnExactLeadsToPart9

section
/- Two involutions without fixed points: going round by them in turn. Plain Lean, no program in sight. -/
set_option linter.all false
namespace Go.Ab

theorem nodup_len : ∀ (v : Nat) (l : List Nat), l.Nodup → (∀ x ∈ l, x < v) → l.length ≤ v
  | 0, l, _, h => by
    cases l with
    | nil => simp
    | cons x l => exact absurd (h x List.mem_cons_self) (by omega)
  | v + 1, l, hn, h => by
    by_cases hv : v ∈ l
    · have h1 := nodup_len v (l.erase v) (hn.erase v) fun x hx => by
        have := (List.Nodup.mem_erase_iff hn).1 hx
        have := h x this.2
        omega
      rw [List.length_erase_of_mem hv] at h1
      omega
    · have := nodup_len v l hn fun x hx => by
        have h2 := h x hx
        have : x ≠ v := fun e => hv (e ▸ hx)
        omega
      omega

/-- By f and by g in turn. -/
def alt (f g : Nat → Nat) (p : Nat) : Nat → Nat
  | 0 => p
  | k + 1 => if k % 2 = 0 then f (alt f g p k) else g (alt f g p k)

structure Turn (f g : Nat → Nat) (S : Nat → Prop) : Prop where
  fS : ∀ x, S x → S (f x)
  gS : ∀ x, S x → S (g x)
  ff : ∀ x, S x → f (f x) = x
  gg : ∀ x, S x → g (g x) = x
  fne : ∀ x, S x → f x ≠ x
  gne : ∀ x, S x → g x ≠ x

theorem alt_S {f g : Nat → Nat} {S : Nat → Prop} (h : Turn f g S) {p : Nat} (hp : S p) : ∀ k, S (alt f g p k)
  | 0 => hp
  | k + 1 => by
    simp only [alt]
    split
    · exact h.fS _ (alt_S h hp k)
    · exact h.gS _ (alt_S h hp k)
/-- As long as all are different, what comes next is new, or it is the first one, at an even place. -/
theorem alt_next {f g : Nat → Nat} {S : Nat → Prop} (h : Turn f g S) {p n : Nat} (hp : S p) (hd : ∀ i j, i < j → j ≤ n → alt f g p i ≠ alt f g p j) :
    (∀ j, j ≤ n → alt f g p j ≠ alt f g p (n + 1)) ∨ (alt f g p (n + 1) = p ∧ n % 2 = 1) := by
  by_cases hx : ∃ j, j ≤ n ∧ alt f g p j = alt f g p (n + 1)
  · obtain ⟨j, hj, e⟩ := hx
    right
    have inj : ∀ i k, i ≤ n → k ≤ n → alt f g p i = alt f g p k → i = k := by
      intro i k hi hk e
      rcases Nat.lt_trichotomy i k with h1 | h1 | h1
      · exact absurd e (hd i k h1 hk)
      · exact h1
      · exact absurd e.symm (hd k i h1 hi)
    have hS := alt_S h hp
    by_cases hn : n % 2 = 0
    · -- by f
      exfalso
      have e1 : alt f g p (n + 1) = f (alt f g p n) := by simp [alt, hn]
      rw [e1] at e
      by_cases hj2 : j % 2 = 0
      · -- j even: f of it is the next one
        have e2 : alt f g p (j + 1) = f (alt f g p j) := by simp [alt, hj2]
        have e3 : f (alt f g p j) = alt f g p n := by rw [e, h.ff _ (hS n)]
        by_cases hjn : j = n
        · subst hjn; exact h.fne _ (hS j) (by rw [e3])
        · rw [← e2] at e3
          have := inj (j + 1) n (by omega) (by omega) e3
          omega
      · obtain ⟨i, rfl⟩ : ∃ i, j = i + 1 := ⟨j - 1, by omega⟩
        have e2 : alt f g p (i + 1) = f (alt f g p i) := by simp only [alt]; rw [if_pos (by omega)]
        rw [e2] at e
        have := congrArg f e
        rw [h.ff _ (hS i), h.ff _ (hS n)] at this
        have := inj i n (by omega) (by omega) this
        omega
    · have e1 : alt f g p (n + 1) = g (alt f g p n) := by simp [alt, hn]
      rw [e1] at e ⊢
      by_cases hj0 : j = 0
      · subst hj0; exact ⟨e.symm, by omega⟩
      · exfalso
        by_cases hj2 : j % 2 = 1
        · have e2 : alt f g p (j + 1) = g (alt f g p j) := by simp only [alt]; rw [if_neg (by omega)]
          have e3 : g (alt f g p j) = alt f g p n := by rw [e, h.gg _ (hS n)]
          by_cases hjn : j = n
          · subst hjn; exact h.gne _ (hS j) (by rw [e3])
          · rw [← e2] at e3
            have := inj (j + 1) n (by omega) (by omega) e3
            omega
        · obtain ⟨i, rfl⟩ : ∃ i, j = i + 1 := ⟨j - 1, by omega⟩
          have e2 : alt f g p (i + 1) = g (alt f g p i) := by simp only [alt]; rw [if_neg (by omega)]
          rw [e2] at e
          have := congrArg g e
          rw [h.gg _ (hS i), h.gg _ (hS n)] at this
          have := inj i n (by omega) (by omega) this
          omega
  · left
    intro j hj e
    exact hx ⟨j, hj, e⟩
/-- The way comes back to its first point, at an even place, and all ahead are different. -/
theorem alt_back {f g : Nat → Nat} {S : Nat → Prop} (h : Turn f g S) {p v : Nat} (hp : S p) (hv : ∀ x, S x → x < v) :
    ∃ n, 2 ≤ n ∧ n % 2 = 0 ∧ n ≤ v ∧ alt f g p n = p ∧ ∀ i j, i < j → j < n → alt f g p i ≠ alt f g p j := by
  have len : ∀ n, (∀ i j, i < j → j < n → alt f g p i ≠ alt f g p j) → n ≤ v := by
    intro n hd
    have := nodup_len v ((List.range n).map (alt f g p)) ?_ ?_
    · simpa using this
    · refine List.pairwise_map.2 ?_
      rw [List.pairwise_iff_getElem]
      intro i j hi hj hij
      simp only [List.getElem_range]
      exact hd i j hij (by simpa using hj)
    · intro x hx
      obtain ⟨k, _, rfl⟩ := List.mem_map.1 hx
      exact hv _ (alt_S h hp k)
  -- going on until it comes back
  have go : ∀ m n, n + m = v → (∀ i j, i < j → j < n + 1 → alt f g p i ≠ alt f g p j) → ∃ n, 2 ≤ n ∧ n % 2 = 0 ∧ n ≤ v ∧ alt f g p n = p ∧ ∀ i j, i < j → j < n → alt f g p i ≠ alt f g p j := by
    intro m
    induction m with
    | zero => intro n hn hd; have := len (n + 1) hd; omega
    | succ m ih =>
      intro n hn hd
      rcases alt_next h hp (n := n) (fun i j hij hj => hd i j hij (by omega)) with h1 | ⟨h1, h2⟩
      · refine ih (n + 1) (by omega) ?_
        intro i j hij hj
        by_cases e : j = n + 1
        · subst e; exact h1 i (by omega)
        · exact hd i j hij (by omega)
      · exact ⟨n + 1, by omega, by omega, by have := len (n + 1) hd; omega, h1, hd⟩
  have hv0 := len 1 (by intro i j h1 h2; omega)
  exact go v 0 (by omega) (by intro i j h1 h2; omega)

end Go.Ab
end

section
/- A system with so many blocks has every pair: by counting. -/
set_option linter.all false
set_option maxRecDepth 20000
namespace Go.Proofs.Ytdfeoccjllljiaa
open Go.Ab

theorem sub_len : ∀ (l m : List Nat), l.Nodup → (∀ x ∈ l, x ∈ m) → l.length ≤ m.length
  | [], m, _, _ => by simp
  | x :: l, m, hn, h => by
    have hn' := List.nodup_cons.1 hn
    have hx := h x List.mem_cons_self
    have h1 := sub_len l (m.erase x) hn'.2 fun y hy => by
      have hne : y ≠ x := fun e => hn'.1 (e ▸ hy)
      exact (List.mem_erase_of_ne hne).2 (h y (List.mem_cons_of_mem _ hy))
    rw [List.length_erase_of_mem hx] at h1
    have := List.length_pos_of_mem hx
    rw [List.length_cons]; omega
theorem sub_all {l m : List Nat} (hn : l.Nodup) (h : ∀ x ∈ l, x ∈ m) (hlen : m.length ≤ l.length) {x : Nat} (hx : x ∈ m) : x ∈ l := by
  by_cases hxl : x ∈ l
  · exact hxl
  · have := sub_len (x :: l) m (List.nodup_cons.2 ⟨hxl, hn⟩) fun y hy => by
      rcases List.mem_cons.1 hy with rfl | hy
      · exact hx
      · exact h y hy
    rw [List.length_cons] at this; omega

/-- All pairs, as numbers. -/
def allP (v : Nat) : List Nat := (List.range v).flatMap fun i => (upTo (i + 1) v).map fun j => i * 15 + j
def blkP (b : Bk) : List Nat := [b.a.toNat * 15 + b.b.toNat, b.a.toNat * 15 + b.c.toNat, b.b.toNat * 15 + b.c.toNat]
theorem allP_length : ∀ v, v < 16 → (allP v).length * 2 = v * (v - 1) := by decide +kernel
theorem mem_allP {v i j : Nat} (h1 : i < j) (h2 : j < v) : i * 15 + j ∈ allP v := by
  simp only [allP, List.mem_flatMap, List.mem_range, List.mem_map, mem_upTo]
  exact ⟨i, by omega, j, by omega, rfl⟩
theorem flatP_length (bs : List Bk) : (bs.flatMap blkP).length = bs.length * 3 := by
  induction bs with
  | nil => rfl
  | cons b bs ih => rw [List.flatMap_cons, List.length_append, ih, List.length_cons]; simp only [blkP, List.length_cons, List.length_nil]; omega

theorem full_cover {v : Nat} {bs : List Bk} (hS : IsSys v bs) (hf : fullB v bs = true) {p q : Nat} (hpq : p < q) (hq : q < v) : third bs p q ≠ -1 := by
  obtain ⟨hp, hlen, hsort, hfit⟩ := hS
  have hg : ∀ x ∈ bs, good (v : Int) x = true := fun x hx => by
    obtain ⟨i, hi⟩ := List.mem_iff_getElem?.1 hx
    exact (hsort i x hi).1
  have hnd : (bs.flatMap blkP).Nodup := by
    unfold List.Nodup
    rw [List.pairwise_flatMap]
    constructor
    · intro b hb
      have := good_iff.1 (hg b hb)
      refine List.pairwise_cons.2 ⟨?_, List.pairwise_cons.2 ⟨?_, List.pairwise_singleton _ _⟩⟩
      · intro x hx
        simp only [List.mem_cons, List.not_mem_nil, or_false] at hx
        rcases hx with rfl | rfl <;> omega
      · intro x hx
        simp only [List.mem_cons, List.not_mem_nil, or_false] at hx
        subst hx; omega
    · rw [List.pairwise_iff_getElem]
      intro i j hi hj hij
      have gx := good_iff.1 (hg _ (List.getElem_mem hi))
      have gy := good_iff.1 (hg _ (List.getElem_mem hj))
      have hc := (common_le_one (w := v) (hg _ (List.getElem_mem hj))).1 (hfit j i bs[j] bs[i] hij (List.getElem?_eq_getElem hj) (List.getElem?_eq_getElem hi))
      simp only [Bk.has_iff] at hc
      generalize bs[i] = y at *
      generalize bs[j] = x at *
      intro m hm n hn e
      subst e
      simp only [blkP, List.mem_cons, List.not_mem_nil, or_false] at hm hn
      obtain ⟨c1, c2, c3⟩ := hc
      rcases hm with hm | hm | hm
      · refine c1 ⟨?_, ?_⟩ <;> rcases hn with hn | hn | hn <;> omega
      · refine c2 ⟨?_, ?_⟩ <;> rcases hn with hn | hn | hn <;> omega
      · refine c3 ⟨?_, ?_⟩ <;> rcases hn with hn | hn | hn <;> omega
  have hsub : ∀ x ∈ bs.flatMap blkP, x ∈ allP v := by
    intro x hx
    obtain ⟨b, hb, hx⟩ := List.mem_flatMap.1 hx
    have := good_iff.1 (hg b hb)
    simp only [blkP, List.mem_cons, List.not_mem_nil, or_false] at hx
    rcases hx with rfl | rfl | rfl
    · exact mem_allP (by omega) (by omega)
    · exact mem_allP (by omega) (by omega)
    · exact mem_allP (by omega) (by omega)
  have hv := allP_length v (by omega)
  have hcnt : 6 * (bs.length : Int) = (v : Int) * ((v : Int) - 1) := by simpa [fullB] using hf
  have hcnt2 : 6 * bs.length = v * (v - 1) := by
    have e : ((v * (v - 1) : Nat) : Int) = (v : Int) * ((v : Int) - 1) := by rw [Int.natCast_mul, Int.natCast_sub (by omega)]; rfl
    omega
  have hin := sub_all hnd hsub (by rw [flatP_length]; omega) (mem_allP hpq hq)
  obtain ⟨b, hb, hx⟩ := List.mem_flatMap.1 hin
  have gb := good_iff.1 (hg b hb)
  rw [Ne, third_neg hg (by omega)]
  intro hno
  refine hno b hb ?_
  simp only [Bk.has_iff]
  simp only [blkP, List.mem_cons, List.not_mem_nil, or_false] at hx
  rcases hx with hx | hx | hx <;> constructor <;> omega

end Go.Proofs.Ytdfeoccjllljiaa
end

section
/- Third points in a full system. Plain Lean. -/
set_option linter.all false
set_option maxRecDepth 20000
namespace Go.Proofs.Ytdfeoccjllljiaa
open Go.Ab

theorem fits_same {v : Int} {bs : List Bk} (hg : ∀ x ∈ bs, good v x = true) (hF : Fits bs) {x y : Bk} (hx : x ∈ bs) (hy : y ∈ bs) {p q : Int} (hpq : p ≠ q) (h1 : x.has p = true) (h2 : x.has q = true) (h3 : y.has p = true) (h4 : y.has q = true) : x = y := by
  obtain ⟨i, hi⟩ := List.mem_iff_getElem?.1 hx
  obtain ⟨j, hj⟩ := List.mem_iff_getElem?.1 hy
  have key : ∀ {i j : Nat} {x y : Bk}, j < i → bs[i]? = some x → bs[j]? = some y → x.has p = true → x.has q = true → y.has p = true → y.has q = true → False := by
    intro i j x y hij hi hj h1 h2 h3 h4
    have hc := (common_le_one (w := v) (hg x (List.mem_of_getElem? hi))).1 (hF i j x y hij hi hj)
    obtain ⟨c1, c2, c3⟩ := hc
    rw [Bk.has_iff] at h3 h4
    rcases h3 with h3 | h3 | h3 <;> rcases h4 with h4 | h4 | h4 <;> subst h3 <;> first
      | exact hpq h4
      | (subst h4; first | exact c1 ⟨h1, h2⟩ | exact c1 ⟨h2, h1⟩ | exact c2 ⟨h1, h2⟩ | exact c2 ⟨h2, h1⟩ | exact c3 ⟨h1, h2⟩ | exact c3 ⟨h2, h1⟩)
  rcases Nat.lt_trichotomy i j with h | h | h
  · exact (key h hj hi h3 h4 h1 h2).elim
  · subst h; rw [hi] at hj; exact Option.some.inj hj
  · exact (key h hi hj h1 h2 h3 h4).elim

theorem third_back {v : Int} {bs : List Bk} (hg : ∀ x ∈ bs, good v x = true) (hF : Fits bs) {p q : Int} (hpq : p ≠ q) (h : third bs p q ≠ -1) : third bs p (third bs p q) = q := by
  obtain ⟨c, hc, h1, h2, h3, h4, h5, h6, h7, h8⟩ := third_some hg hpq h
  have hne : p ≠ third bs p q := fun e => h7 e.symm
  have hn2 : third bs p (third bs p q) ≠ -1 := by
    rw [Ne, third_neg hg hne]
    intro hno; exact hno c hc ⟨h1, h6⟩
  obtain ⟨d, hd, g1, g2, g3, _⟩ := third_some hg hne hn2
  have e := fits_same hg hF hc hd hne h1 h6 g1 g2
  subst e
  rw [g3]; omega

/-- The third point as a number. -/
def thr (bs : List Bk) (a x : Nat) : Nat := (third bs a x).toNat
theorem thr_spec {v : Nat} {bs : List Bk} (hS : IsSys v bs) (hf : fullB v bs = true) {p q : Nat} (hpq : p ≠ q) (hp : p < v) (hq : q < v) :
    third bs p q = (thr bs p q : Int) ∧ thr bs p q < v ∧ thr bs p q ≠ p ∧ thr bs p q ≠ q ∧ thr bs p (thr bs p q) = q := by
  have hg : ∀ x ∈ bs, good (v : Int) x = true := hS.good
  have hne : third bs p q ≠ -1 := by
    rcases Nat.lt_or_gt_of_ne hpq with h | h
    · exact full_cover hS hf h hq
    · rw [third_comm]; exact full_cover hS hf h hp
  have hb := third_back hg hS.2.2.2 (show (p : Int) ≠ q by omega) hne
  obtain ⟨c, hc, h1, h2, h3, h4, h5, h6, h7, h8⟩ := third_some hg (show (p : Int) ≠ q by omega) hne
  have e : third bs p q = (thr bs p q : Int) := by unfold thr; omega
  refine ⟨e, by omega, by omega, by omega, ?_⟩
  rw [e] at hb
  unfold thr at hb ⊢
  rw [hb]; rfl

/-- The points that two others and their third point leave. -/
def cycS (v : Nat) (bs : List Bk) (a b x : Nat) : Prop := x < v ∧ x ≠ a ∧ x ≠ b ∧ x ≠ thr bs a b
theorem thr_comm (bs : List Bk) (a b : Nat) : thr bs a b = thr bs b a := by unfold thr; rw [third_comm]
theorem turn_of {v : Nat} {bs : List Bk} (hS : IsSys v bs) (hf : fullB v bs = true) {a b : Nat} (hab : a ≠ b) (ha : a < v) (hb : b < v) : Turn (thr bs a) (thr bs b) (cycS v bs a b) := by
  obtain ⟨_, c1, c2, c3, c4⟩ := thr_spec hS hf hab ha hb
  obtain ⟨_, _, _, _, c5⟩ := thr_spec hS hf (Ne.symm hab) hb ha
  have key : ∀ {a b : Nat}, a ≠ b → a < v → b < v → ∀ x, cycS v bs a b x → cycS v bs a b (thr bs a x) ∧ thr bs a (thr bs a x) = x ∧ thr bs a x ≠ x := by
    intro a b hab ha hb x ⟨h1, h2, h3, h4⟩
    obtain ⟨_, c1, c2, c3, c4⟩ := thr_spec hS hf hab ha hb
    obtain ⟨_, d1, d2, d3, d4⟩ := thr_spec hS hf (Ne.symm h2) ha h1
    refine ⟨⟨d1, d2, ?_, ?_⟩, d4, d3⟩
    · intro e; rw [e] at d4; exact h4 d4.symm
    · intro e; rw [e, c4] at d4; exact h3 d4.symm
  have sw : ∀ x, cycS v bs a b x ↔ cycS v bs b a x := by
    intro x; unfold cycS; rw [thr_comm bs a b]
    constructor <;> rintro ⟨h1, h2, h3, h4⟩ <;> exact ⟨h1, h3, h2, h4⟩
  exact ⟨fun x hx => (key hab ha hb x hx).1, fun x hx => (sw _).2 (key (Ne.symm hab) hb ha x ((sw x).1 hx)).1, fun x hx => (key hab ha hb x hx).2.1, fun x hx => (key (Ne.symm hab) hb ha x ((sw x).1 hx)).2.1,
    fun x hx => (key hab ha hb x hx).2.2, fun x hx => (key (Ne.symm hab) hb ha x ((sw x).1 hx)).2.2⟩

end Go.Proofs.Ytdfeoccjllljiaa
end

section
/- All ways round, one after the other. Plain Lean. -/
set_option linter.all false
namespace Go.Ab

def IsCyc (f g : Nat → Nat) (p n : Nat) : Prop := 2 ≤ n ∧ n % 2 = 0 ∧ alt f g p n = p ∧ ∀ i j, i < j → j < n → alt f g p i ≠ alt f g p j
theorem IsCyc.uniq {f g : Nat → Nat} {p n m : Nat} (h : IsCyc f g p n) (h' : IsCyc f g p m) : n = m := by
  rcases Nat.lt_trichotomy n m with e | e | e
  · exact absurd (show alt f g p 0 = alt f g p n by rw [h.2.2.1]; rfl) (h'.2.2.2 0 n (by have := h.1; omega) e)
  · exact e
  · exact absurd (show alt f g p 0 = alt f g p m by rw [h'.2.2.1]; rfl) (h.2.2.2 0 m (by have := h'.1; omega) e)
open Classical in
noncomputable def cycN (f g : Nat → Nat) (p : Nat) : Nat := if h : ∃ n, IsCyc f g p n then Classical.choose h else 0
theorem cycN_ok {f g : Nat → Nat} {S : Nat → Prop} (h : Turn f g S) {p v : Nat} (hp : S p) (hv : ∀ x, S x → x < v) : IsCyc f g p (cycN f g p) ∧ cycN f g p ≤ v := by
  obtain ⟨n, h1, h2, h3, h4, h5⟩ := alt_back h hp hv
  have hex : ∃ n, IsCyc f g p n := ⟨n, h1, h2, h4, h5⟩
  have e : IsCyc f g p (cycN f g p) := by unfold cycN; rw [dif_pos hex]; exact Classical.choose_spec hex
  exact ⟨e, by rw [e.uniq ⟨h1, h2, h4, h5⟩]; exact h3⟩
noncomputable def cycL (f g : Nat → Nat) (p : Nat) : List Nat := (List.range (cycN f g p)).map (alt f g p)
theorem mem_cycL {f g : Nat → Nat} {p x : Nat} : x ∈ cycL f g p ↔ ∃ k, k < cycN f g p ∧ alt f g p k = x := by simp [cycL]
/-- A way round is closed. -/
theorem cycL_closed {f g : Nat → Nat} {S : Nat → Prop} (h : Turn f g S) {p v : Nat} (hp : S p) (hv : ∀ x, S x → x < v) {x : Nat} (hx : x ∈ cycL f g p) : f x ∈ cycL f g p ∧ g x ∈ cycL f g p := by
  obtain ⟨⟨n2, ne, nb, _⟩, _⟩ := cycN_ok h hp hv
  rw [mem_cycL] at hx ⊢
  rw [mem_cycL]
  obtain ⟨k, hk, rfl⟩ := hx
  have hS := alt_S h hp
  generalize cycN f g p = n at *
  by_cases hk2 : k % 2 = 0
  · refine ⟨⟨k + 1, by omega, by simp [alt, hk2]⟩, ?_⟩
    by_cases h0 : k = 0
    · subst h0
      obtain ⟨m, rfl⟩ : ∃ m, n = m + 1 := ⟨n - 1, by omega⟩
      have e : alt f g p (m + 1) = g (alt f g p m) := by simp only [alt]; rw [if_neg (by omega)]
      rw [e] at nb
      refine ⟨m, by omega, ?_⟩
      have := h.gg _ (hS m)
      rw [nb] at this
      exact this.symm
    · obtain ⟨m, rfl⟩ : ∃ m, k = m + 1 := ⟨k - 1, by omega⟩
      have e : alt f g p (m + 1) = g (alt f g p m) := by simp only [alt]; rw [if_neg (by omega)]
      exact ⟨m, by omega, by rw [e, h.gg _ (hS m)]⟩
  · obtain ⟨m, rfl⟩ : ∃ m, k = m + 1 := ⟨k - 1, by omega⟩
    have e : alt f g p (m + 1) = f (alt f g p m) := by simp only [alt]; rw [if_pos (by omega)]
    refine ⟨⟨m, by omega, by rw [e, h.ff _ (hS m)]⟩, ?_⟩
    have e2 : alt f g p (m + 1 + 1) = g (alt f g p (m + 1)) := by
      rw [show alt f g p (m + 1 + 1) = if (m + 1) % 2 = 0 then f (alt f g p (m + 1)) else g (alt f g p (m + 1)) from rfl, if_neg (by omega)]
    by_cases hn : m + 1 + 1 < n
    · exact ⟨m + 1 + 1, hn, e2⟩
    · have : m + 1 + 1 = n := by omega
      rw [this, nb] at e2
      exact ⟨0, by omega, e2⟩

/-- What was met already is closed: a point that was not met leads to none that was. -/
def Shut (f g : Nat → Nat) (S : Nat → Prop) (met : List Nat) : Prop := ∀ x, S x → x ∉ met → f x ∉ met ∧ g x ∉ met
theorem Shut.alt {f g : Nat → Nat} {S : Nat → Prop} {met : List Nat} (hm : Shut f g S met) (h : Turn f g S) {p : Nat} (hp : S p) (hpm : p ∉ met) : ∀ k, Go.Ab.alt f g p k ∉ met
  | 0 => hpm
  | k + 1 => by
    have ih := hm _ (alt_S h hp k) (hm.alt h hp hpm k)
    simp only [Go.Ab.alt]
    split
    · exact ih.1
    · exact ih.2
theorem Shut.next {f g : Nat → Nat} {S : Nat → Prop} {met : List Nat} (hm : Shut f g S met) (h : Turn f g S) {p v : Nat} (hp : S p) (hv : ∀ x, S x → x < v) : Shut f g S (met ++ cycL f g p) := by
  intro x hx hn
  simp only [List.mem_append, not_or] at hn ⊢
  have h1 := hm x hx hn.1
  refine ⟨⟨h1.1, fun hc => hn.2 ?_⟩, h1.2, fun hc => hn.2 ?_⟩
  · have := (cycL_closed h hp hv hc).1
    rwa [h.ff _ hx] at this
  · have := (cycL_closed h hp hv hc).2
    rwa [h.gg _ hx] at this

/-- All ways round, from points that were not met. -/
noncomputable def cycAll (f g : Nat → Nat) : List Nat → List Nat → List (List Nat)
  | [], _ => []
  | p :: ps, met => if p ∈ met then cycAll f g ps met else cycL f g p :: cycAll f g ps (met ++ cycL f g p)

end Go.Ab
end

section
/- The pairs that are left: the tested program's side. -/
set_option linter.all false
set_option maxRecDepth 20000
namespace Go.Proofs.Ytdfeoccjllljiaa
open Go.Ab

end Go.Proofs.Ytdfeoccjllljiaa
end

section
/- CyclesOf: one way round, the tested program's side. -/
set_option linter.all false
set_option maxRecDepth 20000
set_option maxHeartbeats 4000000
namespace Go.Proofs.Ytdfeoccjllljiaa
open Go.Ab

/-- The first k points of a way round. -/
def altL (f g : Nat → Nat) (p k : Nat) : List Int := (List.range k).map fun j => ((alt f g p j : Nat) : Int)
theorem altL_length (f g : Nat → Nat) (p k : Nat) : (altL f g p k).length = k := by simp [altL]
theorem altL_two (f g : Nat → Nat) (p k : Nat) : altL f g p (k + 2) = altL f g p k ++ [((alt f g p k : Nat) : Int), ((alt f g p (k + 1) : Nat) : Int)] := by
  unfold altL; rw [List.range_succ, List.range_succ]; simp
theorem altL_one (f g : Nat → Nat) (p k : Nat) : altL f g p (k + 1) = altL f g p k ++ [((alt f g p k : Nat) : Int)] := by
  unfold altL; rw [List.range_succ]; simp

end Go.Proofs.Ytdfeoccjllljiaa
end

section
/- The part of a system on some points: the specification's side. -/
set_option linter.all false
set_option maxRecDepth 20000
set_option maxHeartbeats 4000000
namespace Go.Proofs.Ytdfeoccjllljiaa
open Go.Ab

end Go.Proofs.Ytdfeoccjllljiaa
end

section
/- BlocksOn: the specification's side, and places on the other side. -/
set_option linter.all false
set_option maxRecDepth 20000
set_option maxHeartbeats 4000000
namespace Go.Proofs.Ytdfeoccjllljiaa
open Go.Ab

theorem put2 {H H0 H' : Heap} {id : Nat} {cs0 cs : List Value} (hp0 : H <+: H0) (hid : H.length ≤ id) (hb0 : H0[id]? = some ⟨cs0, true, true⟩) (h2 : cs0.length = 2) (hp : H0 <+: H') (hcl : cs.length = 2) (ho : cs.all Value.oneCell' = true) :
    storeAt H' id 0 cs = some (H'.set id ⟨cs, true, true⟩) ∧ cellsAt (H'.set id ⟨cs, true, true⟩) id 0 2 = some cs ∧ H <+: H'.set id ⟨cs, true, true⟩ ∧ Same (fun j => j = id) H' (H'.set id ⟨cs, true, true⟩) := by
  have hb' := Same.get (S := fun _ => False) (Same.of_prefix hp) hb0 (fun h => h)
  have hsame : Same (fun j => j = id) H' (H'.set id ⟨cs, true, true⟩) := ⟨by simp, fun j hj hS => List.getElem?_set_ne (fun e => hS e.symm)⟩
  refine ⟨?_, ?_, ((Same.of_prefix (hp0.trans hp)).trans hsame).prefix (by intro j hj he; omega), hsame⟩
  · rw [storeAt_of hb' rfl rfl (by simp [hcl, h2]) ho]
    match cs, hcl, cs0, h2 with
    | [x, y], _, [z, w], _ => simp [over]
  · have := Holds.cells (n := 2) (o := 0) (H := H'.set id ⟨cs, true, true⟩) ⟨true, List.getElem?_set_self (List.getElem?_eq_some_iff.1 hb').1⟩ (by omega)
    rw [this, List.drop_zero, List.take_of_length_le (by omega)]

theorem indexI_ok {H : Heap} {v : Value} {xs : List Int} {q : Int} (hv : IntsAt H v xs) (Post : Value → Heap → Prop) (h : Post (.int .i64 (plc xs q)) H) : ACalls Try.prog 182 [v, .int .i64 q] H Post := by
  obtain ⟨i, o, rfl, h1, h2⟩ := hv
  refine acalls_vc (rs := [.tmp 4]) Try.func182 rfl rfl Try.ntmps182 rfl rfl ?_
  simp (maxSteps := 1000000) [go_sem]
  refine AWp.loopVc (fun s : Nat => [(0, lv 1 i o xs.length), (1, .int .i64 q), (7, .int .i64 xs.length), (8, .int .i64 s)])
    (fun s H' => s ≤ xs.length ∧ H' = H ∧ ∀ y ∈ xs.take s, y ≠ q) (fun s => xs.length - s) 0 ?_ ?_ ?_
  · simp [upF, Fr.get, Up.refl]
  · exact ⟨by omega, rfl, by simp⟩
  · rintro K s H' ⟨hs, rfl, hall⟩ hK
    by_cases hlt : s < xs.length
    · have hx : xs[s]? = some xs[s] := List.getElem?_eq_getElem hlt
      have c1 := h1.cell (k := s) (v := .int .i64 xs[s]) (by simp [ints_get, hlt])
      have hw_s : IntKind.i64.wrap ((s : Int) + 1) = (s : Int) + 1 := i64w (by omega) (by omega)
      by_cases he : q = xs[s]
      · have e : (q == xs[s]) = true := by simpa using he
        simp (maxSteps := 1000000) [go_sem, hlt, c1, e]
        rwa [plc_at (k := s) (by rw [hx, he]) hall] at h
      · have e : (q == xs[s]) = false := by simpa using he
        simp (maxSteps := 1000000) [go_sem, hlt, c1, e, hw_s]
        refine hK (s + 1) _ _ (by omega) (by simp [upF, Fr.get, Up.refl]) ⟨by omega, rfl, ?_⟩
        intro y hy
        rw [List.take_succ_eq_append_getElem hlt, List.mem_append] at hy
        rcases hy with hy | hy
        · exact hall y hy
        · simp at hy; subst hy; exact fun e => he e.symm
    · have : s = xs.length := by omega
      subst this
      rw [List.take_length] at hall
      simp (maxSteps := 1000000) [go_sem]
      rwa [plc_none hall] at h

end Go.Proofs.Ytdfeoccjllljiaa
end

section
/- CyclesOf: membership, and lists of lists kept while other blocks change. -/
set_option linter.all false
set_option maxRecDepth 20000
set_option maxHeartbeats 4000000
namespace Go.Proofs.Ytdfeoccjllljiaa
open Go.Ab

theorem plc_mem {xs : List Int} {q : Int} : decide (0 ≤ plc xs q) = decide (q ∈ xs) := by
  by_cases h : q ∈ xs
  · rw [decide_eq_true h]
    by_cases h0 : 0 ≤ plc xs q
    · exact decide_eq_true h0
    · exfalso
      have hge := plc_ge xs q
      have hm1 : plc xs q = -1 := by omega
      clear h0 hge
      induction xs with
      | nil => simp at h
      | cons x xs ih =>
        simp only [plc] at hm1
        split at hm1
        · omega
        · rename_i hne
          split at hm1
          · rename_i h1
            rcases List.mem_cons.1 h with e | h
            · exact hne e.symm
            · exact ih h h1
          · have := plc_ge xs q; omega
  · rw [decide_eq_false h]
    refine decide_eq_false ?_
    have hno : ∀ x ∈ xs, x ≠ q := by
      intro x hx e
      subst e
      exact h hx
    rw [plc_none hno]; omega

theorem containsI_ok {H : Heap} {v : Value} {xs : List Int} {q : Int} (hv : IntsAt H v xs) (Post : Value → Heap → Prop) (h : Post (.bool (decide (q ∈ xs))) H) : ACalls Try.prog 158 [v, .int .i64 q] H Post := by
  refine acalls_vc (rs := [.tmp 4]) Try.func158 rfl rfl Try.ntmps158 rfl rfl ?_
  simp (maxSteps := 1000000) [go_sem]
  refine indexI_ok hv _ ?_
  simp (maxSteps := 1000000) [go_sem, plc_mem]
  exact h

theorem _root_.Go.Ab.Build.keepS {H0 H H' : Heap} {oid : Nat} {rows : List (Nat × List Int)} {S : Nat → Prop} (h : Build H0 H oid rows) (hs : Same S H H') (h0 : ∀ j, S j → H0.length ≤ j) (ho : ¬ S oid) (hr : ∀ r ∈ rows, ¬ S r.1) : Build H0 H' oid rows :=
  ⟨((Same.of_prefix h.pre).trans hs).prefix (by intro j hj hS; have := h0 j hS; omega), h.ol.keep hs ho, h.ge,
    ⟨fun r hm => (h.rows1.1 r hm).imp (fun h => h) fun hb => hs.get hb (hr r hm), h.rows1.2⟩,
    fun r hm => ⟨(h.ids r hm).1, Nat.lt_of_lt_of_le (h.ids r hm).2.1 hs.1, (h.ids r hm).2.2⟩⟩

theorem _root_.Go.Ab.Build.pushAt {H0 H2 : Heap} {oid rid : Nat} {rows : List (Nat × List Int)} {xs : List Int} (h : Build H0 H2 oid rows) (hr : OL 1 H2 rid (ints xs) xs.length) (hr0 : H0.length ≤ rid) (hro : rid ≠ oid) (hrr : ∀ r ∈ rows, r.1 ≠ rid) :
    cellsAt (H2 ++ [⟨[lv 1 rid 0 xs.length], true, true⟩]) H2.length 0 1 = some [lv 1 rid 0 xs.length] ∧
    ∃ H4, appendH (H2 ++ [⟨[lv 1 rid 0 xs.length], true, true⟩]) 1 (lv 1 oid 0 rows.length) 1 [lv 1 rid 0 xs.length] = some (lv 1 (H2.length + 1) 0 (rows.length + 1), H4) ∧ Build H0 H4 (H2.length + 1) (rows ++ [(rid, xs)]) ∧ Same (fun j => j = oid) H2 H4 := by
  have hol' : OL 1 H2 oid (rows.map rowVal) rows.length := h.ol
  have hp : H2 <+: H2 := List.prefix_refl _
  obtain ⟨hsrc, H4, hap, hol4, hsame4, hlen4⟩ := hol'.push (xs := [lv 1 rid 0 xs.length]) (by omega) rfl
  have hoid := h.ol.lt
  have hle := hp.length_le
  have hle0 := h.pre.length_le
  have hlt := hr.lt
  refine ⟨hsrc, H4, hap, ⟨⟨(show Same (fun j => j = oid) H0 H4 from (Same.of_prefix (h.pre.trans hp)).trans hsame4).prefix (by have := h.ge; omega), by simpa [rowVal] using hol4, by omega, ⟨?_, ?_⟩, ?_⟩, hsame4⟩⟩
  · intro r hm
    rcases List.mem_append.1 hm with hm | hm
    · refine (h.rows1.1 r hm).imp (fun h => h) fun hb => ?_
      exact hsame4.get (Same.get (S := fun _ => False) (Same.of_prefix hp) hb (fun h => h)) (h.ids r hm).2.2
    · simp at hm; subst hm
      rcases hr.2 with ⟨h0, _⟩ | h0
      · exact .inl (List.eq_nil_of_length_eq_zero h0)
      · right
        exact hsame4.get h0 (by simp only; omega)
  · intro a b r t ha hb hab hrn htn
    have key : ∀ (a : Nat) (r : Nat × List Int), (rows ++ [(rid, xs)])[a]? = some r → (a < rows.length ∧ rows[a]? = some r) ∨ (a = rows.length ∧ r = (rid, xs)) := by
      intro a r ha
      rcases Nat.lt_or_ge a rows.length with h | h
      · rw [List.getElem?_append_left h] at ha; exact .inl ⟨h, ha⟩
      · rw [List.getElem?_append_right h] at ha
        cases hk : a - rows.length with
        | zero => rw [hk] at ha; simp at ha; exact .inr ⟨by omega, ha.symm⟩
        | succ k => rw [hk] at ha; simp at ha
    rcases key a r ha with ⟨h1, h1'⟩ | ⟨h1, rfl⟩
    · rcases key b t hb with ⟨h2, h2'⟩ | ⟨h2, rfl⟩
      · exact h.rows1.2 a b r t h1' h2' hab hrn htn
      · exact hrr r (List.mem_of_getElem? h1')
    · rcases key b t hb with ⟨h2, h2'⟩ | ⟨h2, rfl⟩
      · exact fun e => hrr t (List.mem_of_getElem? h2') e.symm
      · omega
  · intro r hm
    rcases List.mem_append.1 hm with hm | hm
    · have := h.ids r hm
      omega
    · simp at hm; subst hm; simp only; omega


end Go.Proofs.Ytdfeoccjllljiaa
end

section
/- CyclesOf: all ways round, the tested program's side. -/
set_option linter.all false
set_option maxRecDepth 20000
set_option maxHeartbeats 8000000
namespace Go.Proofs.Ytdfeoccjllljiaa
open Go.Ab

def castL (xs : List Nat) : List Int := xs.map fun x : Nat => (x : Int)
theorem castL_mem {xs : List Nat} {x : Nat} : ((x : Int) ∈ castL xs) ↔ x ∈ xs := by
  simp only [castL, List.mem_map]
  constructor
  · rintro ⟨y, hy, e⟩; have : y = x := by omega
    exact this ▸ hy
  · intro h; exact ⟨x, h, rfl⟩
theorem castL_length (xs : List Nat) : (castL xs).length = xs.length := by simp [castL]
theorem castL_append (xs ys : List Nat) : castL (xs ++ ys) = castL xs ++ castL ys := by simp [castL]
theorem cycL_cast (f g : Nat → Nat) (p : Nat) : castL (cycL f g p) = altL f g p (cycN f g p) := by simp [castL, cycL, altL]
noncomputable def cycRows (f g : Nat → Nat) (ps met : List Nat) : List (List Int) := (cycAll f g ps met).map castL
theorem cycRows_in {f g : Nat → Nat} {p : Nat} {ps met : List Nat} (h : p ∈ met) : cycRows f g (p :: ps) met = cycRows f g ps met := by simp [cycRows, cycAll, h]
theorem cycRows_out {f g : Nat → Nat} {p : Nat} {ps met : List Nat} (h : p ∉ met) : cycRows f g (p :: ps) met = castL (cycL f g p) :: cycRows f g ps (met ++ cycL f g p) := by simp [cycRows, cycAll, h]
theorem upTo_cons {p v : Nat} (h : p < v) : upTo p v = p :: upTo (p + 1) v := by
  unfold upTo
  rw [show v - p = (v - (p + 1)) + 1 by omega, List.range'_succ]

end Go.Proofs.Ytdfeoccjllljiaa
end

section
/- CyclesOf: the tested program's side. -/
set_option linter.all false
set_option maxRecDepth 20000
set_option maxHeartbeats 4000000
namespace Go.Proofs.Ytdfeoccjllljiaa
open Go.Ab

noncomputable def rCyc (p : Int) (bs : List Bk) (a b : Int) : List (List Int) × Int :=
  if pairCode p bs a b = 0 then (if fullB p bs then (cycRows (thr bs a.toNat) (thr bs b.toNat) (upTo 0 p.toNat) [a.toNat, b.toNat, thr bs a.toNat b.toNat], 0) else ([], 5)) else ([], pairCode p bs a b)

end Go.Proofs.Ytdfeoccjllljiaa
end

section
/- Sorting blocks, the tested program's side: slices.Clone over blocks, sorted, system. -/
set_option linter.all false
set_option maxRecDepth 20000
set_option maxHeartbeats 4000000
namespace Go.Proofs.Ytdfeoccjllljiaa
open Go.Ab Go.Sort

theorem tri_src {H : Heap} {i o : Nat} {bs : List Bk} (h : At H i o (tri bs)) : srcCells H 3 (lv 3 i o bs.length) = some (tri bs) := h.src (by rw [tri_length]) (by omega) _

theorem cloneB_oe {H : Heap} {u : Value} {xs : List Bk} (hu : BlocksAt H u xs) (hl : xs.length ≤ 1048576) (Post : Value → Heap → Prop) (h : ∀ H' w, H <+: H' → OE 3 H.length H' w (tri xs) xs.length → Post w H') :
    ACalls Try.prog 89 [u] H Post := by
  obtain ⟨i, o, rfl, h1, h2⟩ := hu
  by_cases hx : xs = []
  · subst hx
    refine acalls_body Try.func89 rfl rfl (by rw [Try.ntmps89]; exact Nat.le_of_ble_eq_true rfl) ?_
    rw [Try.ntmps89]
    refine AWp.seq (vc_sound _ _ _ _ ?_)
    simp (maxSteps := 1000000) [go_sem]
    refine AWp.seq (AWp.seq (AWp.regionS ?_))
    refine StepOK.of_v ?_
    simp (maxSteps := 1000000) [go_sem]
    refine StepOK.of_op rfl (ok_eqlNil2 rfl Try.underlying28 rfl rfl (by show (4 : Nat) < 8; decide) (fun b => ?_))
    refine AWp.cond (b := b) (by cases b <;> rfl) (fun _ => ?_) (fun _ => ?_)
    · refine vc_sound _ _ _ _ ?_
      simp (maxSteps := 1000000) [go_sem]
      exact h H _ (List.prefix_refl _) (OE.nil _ _ _)
    · refine vc_sound _ _ _ _ ?_
      simp (maxSteps := 1000000) [go_sem]
      refine vc_sound _ _ _ _ ?_
      simp (maxSteps := 1000000) [go_sem, appendH]
      exact h _ _ (List.prefix_append _ _) (OE.empty (Nat.le_refl _) (by simp))
  · have hp0 : H <+: H ++ [⟨[], true, true⟩] := List.prefix_append _ _
    have hsrc := tri_src (h1.pre hp0)
    have hm0 : xs.length ≠ 0 := by simpa using hx
    simp only [srcCells] at hsrc
    have he0 : OE 3 H.length (H ++ [(⟨[], true, true⟩ : Blk)]) (.slice (some ⟨H.length, 0, none⟩) 0 0) [] 0 := OE.empty (Nat.le_refl _) (by simp)
    obtain ⟨v, H2, hap, he2, hk2, hl2⟩ := he0.append (m := xs.length) (news := tri xs) (by omega) (by simp) (by rw [tri_length])
    generalize hm : xs.length = m at *
    refine acalls_vc (rs := [.tmp 2]) Try.func89 rfl rfl Try.ntmps89 rfl rfl ?_
    have hnil : nilOK (some ⟨i, o, some 3⟩) m = true := by simpa [nilOK] using hm0
    simp (maxSteps := 1000000) [go_sem, hnil, hsrc, hap]
    refine andK_intro (by omega) ?_
    simp only [List.nil_append, Nat.zero_add] at he2
    exact h H2 v (KeepL.prefix hp0 (Nat.le_refl _) hk2 hl2) he2
theorem cloneB_ok {H : Heap} {u : Value} {xs : List Bk} (hu : BlocksAt H u xs) (hl : xs.length ≤ 1048576) (Post : Value → Heap → Prop) (h : ∀ H' w, H <+: H' → BlocksIn H.length H'.length H' w xs → Post w H') :
    ACalls Try.prog 89 [u] H Post := by
  refine ACalls.res (cloneB_oe hu hl _ fun H' v hp he => ?_)
  obtain ⟨w, hup, hw⟩ := he.blocks (by omega)
  exact ⟨w, hup, h H' w hp hw⟩

theorem blockCmp {id : Nat} {H : Heap} : Cmp Try.prog Bk.val before 170 [] [] (fun _ => True) id H := by
  intro H x y Post _ _ _ h
  show ACalls Try.prog 170 [x.val, y.val] H Post
  refine compare_ok _ ?_
  intro H' hp
  refine h H' _ hp ?_
  have := lexC_block x y
  cases hb : before x y with
  | true =>
    have : ¬ (0 ≤ lexC [x.a, x.b, x.c] [y.a, y.b, y.c]) := by rw [this, hb]; simp
    exact decide_eq_true (by omega)
  | false =>
    have := this.2 hb
    exact decide_eq_false (by omega)

theorem sortFunc0_ok {H : Heap} {id : Nat} {fv : Value} (Post : Value → Heap → Prop) (h : Post (.tuple #[]) H) : ACalls Try.prog 185 [lv 3 id 0 0, fv] H Post := by
  refine acalls_vc (rs := []) Try.func185 rfl rfl Try.ntmps185 rfl rfl ?_
  simp (maxSteps := 1000000) [go_sem, wu64_0B]
  refine bitsLenC_ok (x := 0) (by omega) _ ?_
  simp (maxSteps := 1000000) [go_sem]
  refine pdq0B_ok _ ?_
  simp (maxSteps := 1000000) [go_sem]
  exact h

theorem sorted_ok {H : Heap} {u : Value} {bs : List Bk} (hu : BlocksAt H u bs) (hl : bs.length ≤ 1048576) (Post : Value → Heap → Prop) (h : ∀ H' w, H <+: H' → BlocksIn H.length H'.length H' w (sortB bs) → Post w H') :
    ACalls Try.prog 166 [u] H Post := by
  refine ACalls.res ?_
  refine acalls_vc (rs := [.tmp 2]) Try.func166 rfl rfl Try.ntmps166 rfl rfl ?_
  simp (maxSteps := 1000000) [go_sem]
  refine cloneB_oe hu hl _ ?_
  intro H1 v hp1 he
  by_cases h0 : bs = []
  · subst h0
    have hs0 : sortB [] = [] := rfl
    have fin := fun (w : Value) (hw : Up H1 v w) (hb : BlocksIn H.length H1.length H1 w []) => (show ∃ v', Up H1 v v' ∧ Post v' H1 from ⟨w, hw, h H1 w hp1 (by rw [hs0]; exact hb)⟩)
    rcases he.2 with ⟨_, rfl⟩ | ⟨id, _, _, rfl, _⟩ | ⟨id, _, rfl, _⟩
    · have f := fin (lv 3 0 0 0) (Up.nil _ _ _ _) (BlocksIn.nil _ _ _)
      simp (maxSteps := 1000000) [go_sem]
      refine ACalls.up (args' := [lv 3 0 0 0, _]) ⟨Up.nil _ _ _ _, Up.refl _ _, trivial⟩ ?_
      refine sortFunc0_ok _ ?_
      simp (maxSteps := 1000000) [go_sem]
      exact f
    · have f := fin (lv 3 0 0 0) (Up.ex0 _ _ _ _ _ _) (BlocksIn.nil _ _ _)
      simp (maxSteps := 1000000) [go_sem]
      refine ACalls.up (args' := [lv 3 0 0 0, _]) ⟨Up.ex0 _ _ _ _ _ _, Up.refl _ _, trivial⟩ ?_
      refine sortFunc0_ok _ ?_
      simp (maxSteps := 1000000) [go_sem]
      exact f
    · have f := fin (lv 3 id 0 0) (Up.refl _ _) ⟨id, ⟨rfl, .inl rfl, by simp⟩, fun h => absurd rfl h⟩
      simp (maxSteps := 1000000) [go_sem]
      refine sortFunc0_ok _ ?_
      simp (maxSteps := 1000000) [go_sem]
      exact f
  · have hn0 : bs.length ≠ 0 := fun e => h0 (List.eq_nil_of_length_eq_zero e)
    rcases he.2 with ⟨e, _⟩ | ⟨id, e, _⟩ | ⟨id, hid, rfl, e⟩
    · exact absurd e hn0
    · exact absurd e hn0
    · have hb : H1[id]? = some ⟨tri bs, true, true⟩ := by
        rcases e with ⟨e, _⟩ | e
        · exact absurd e hn0
        · exact e
      simp (maxSteps := 1000000) [go_sem]
      refine sortFuncB_ok (fs := []) (cs := []) (Q := fun _ => True) (l := bs) swoB ⟨by rw [flat_len Bk.cells_len], .inr hb⟩ rfl hl (fun _ _ => trivial) blockCmp _ ?_
      intro H2 l2 hs2 hol hperm hsorted
      have e2 := sort_uniq hperm hsorted
      have hlen : (sortB bs).length = bs.length := sortB_length _ bs rfl
      have hp2 : H <+: H2 := ((Same.of_prefix hp1).trans hs2).prefix (by intro j hj e; omega)
      have hb2 : H2[id]? = some ⟨tri (sortB bs), true, true⟩ := by
        rcases hol.2 with ⟨e, _⟩ | e
        · exact absurd e hn0
        · rw [e2] at e; exact e
      have f := h H2 (lv 3 id 0 bs.length) hp2 ⟨id, ⟨by rw [hlen], .inr hb2, by rw [hlen]; omega⟩, fun _ => ⟨hid, (List.getElem?_eq_some_iff.1 hb2).1⟩⟩
      simp (maxSteps := 1000000) [go_sem]
      exact ⟨_, Up.refl _ _, f⟩

theorem implSystem_ok {H : Heap} {u : Value} {p : Int} {bs : List Bk} (hu : BlocksAt H u bs) (hl : bs.length ≤ 1048576) (Post : Value → Heap → Prop) (h : ∀ H' w, H <+: H' → BlocksIn H.length H'.length H' w (sortB bs) → Post (sysV p w) H') :
    ACalls Try.prog 123 [.int .i64 p, u] H Post := by
  refine acalls_vc (rs := [.cell 4 38]) Try.func123 rfl rfl Try.ntmps123 rfl rfl ?_
  simp (maxSteps := 1000000) [go_sem]
  have hp0 : H <+: H ++ [⟨[.int .i64 0, .slice none 0 0], true, true⟩] := List.prefix_append _ _
  have hb0 : (H ++ [(⟨[.int .i64 0, .slice none 0 0], true, true⟩ : Blk)])[H.length]? = some ⟨[.int .i64 0, .slice none 0 0], true, true⟩ := by simp
  have hlen : (H ++ [(⟨[.int .i64 0, .slice none 0 0], true, true⟩ : Blk)]).length = H.length + 1 := by simp
  generalize H ++ [(⟨[.int .i64 0, .slice none 0 0], true, true⟩ : Blk)] = H0 at hp0 hb0 hlen ⊢
  refine sorted_ok (hu.pre hp0) hl _ ?_
  intro H1 w hp1 hw
  have hw0 := hw
  obtain ⟨id, ⟨rfl, _⟩, _⟩ := hw
  obtain ⟨q1, q2, q3, q4⟩ := put2 (cs := [.int .i64 p, lv 3 id 0 (sortB bs).length]) hp0 (Nat.le_refl _) hb0 rfl hp1 rfl rfl
  simp (maxSteps := 1000000) [go_sem, q1, q2]
  refine h _ _ q3 ?_
  have := (hw0.keep q4 (fun j hj e => by have := hj.1; omega)).wider (c := H.length) (by omega)
  rw [List.length_set]
  exact this

end Go.Proofs.Ytdfeoccjllljiaa
end

section
/- SystemOf: the tested program's side. -/
set_option linter.all false
set_option maxRecDepth 20000
set_option maxHeartbeats 8000000
namespace Go.Proofs.Ytdfeoccjllljiaa
open Go.Ab Go.Sort

def ofB (b : Bk) : Bk := blk b.a b.b b.c
theorem good_15 {v : Int} {b : Bk} (h : good v b = true) (hv : v ≤ 15) : good 15 b = true := by rw [good_iff] at *; omega
open Classical in
noncomputable def rSysOf (v : Int) (bs : List Bk) : (Int × List Bk) × Int :=
  if (3 ≤ v ∧ v ≤ 15) ∧ bs.length ≤ 35 then (if ∀ b ∈ bs, good v (ofB b) = true then (if Fits (bs.map ofB) then ((v, sortB (bs.map ofB)), 0) else ((0, []), 5)) else ((0, []), 2)) else ((0, []), 2)

/-- A result that is no system is put into its cell. -/
theorem bad_sys {H H0 : Heap} {Post : Value → Heap → Prop} {r : (Int × List Bk) × Int} (hp0 : H <+: H0) {id : Nat} (hid : H.length ≤ id) (hb0 : H0[id]? = some ⟨[.int .i64 0, .slice none 0 0], true, true⟩)
    (h : ∀ H' w, H <+: H' → BlocksIn H.length H'.length H' w r.1.2 → Post (.tuple #[sysV r.1.1 w, .int .i64 r.2]) H') (H' : Heap) (c : Int) (hp : H0 <+: H') (hr : r = ((0, []), c)) :
    ∃ H2, storeAt H' id 0 [.int .i64 0, .slice none 0 0] = some H2 ∧ cellsAt H2 id 0 2 = some [.int .i64 0, .slice none 0 0] ∧ ∃ v', Up H2 (.tuple #[.agg #[.int .i64 0, .slice none 0 0], .int .i64 c]) v' ∧ Post v' H2 := by
  obtain ⟨q1, q2, q3, _⟩ := put2 (cs := [.int .i64 0, .slice none 0 0]) hp0 hid hb0 rfl hp rfl rfl
  refine ⟨_, q1, q2, _, Up.tuple (ys := #[sysV 0 (lv 3 0 0 0), .int .i64 c]) ⟨zeroSys, Up.refl _ _, trivial⟩, ?_⟩
  have := h _ (lv 3 0 0 0) q3 (by rw [hr]; exact BlocksIn.nil _ _ _)
  rwa [hr] at this

theorem implSystemOf_ok {H : Heap} {u : Value} {v : Int} {bs : List Bk} (hu : BlocksAt H u bs) (hl : bs.length ≤ 1048576) (Post : Value → Heap → Prop)
    (h : ∀ H' w, H <+: H' → BlocksIn H.length H'.length H' w (rSysOf v bs).1.2 → Post (.tuple #[sysV (rSysOf v bs).1.1 w, .int .i64 (rSysOf v bs).2]) H') :
    ACalls Try.prog 58 [.int .i64 v, u] H Post := by
  obtain ⟨i, o, rfl, h1, h2⟩ := hu
  refine ACalls.res ?_
  refine acalls_vc (rs := [.cell 4 38, .tmp 5]) Try.func58 rfl rfl Try.ntmps58 rfl rfl ?_
  simp (maxSteps := 1000000) [go_sem]
  have hp0 : H <+: H ++ [⟨[.int .i64 0, .slice none 0 0], true, true⟩] := List.prefix_append _ _
  have hb0 : (H ++ [(⟨[.int .i64 0, .slice none 0 0], true, true⟩ : Blk)])[H.length]? = some ⟨[.int .i64 0, .slice none 0 0], true, true⟩ := by simp
  have hlen0 : (H ++ [(⟨[.int .i64 0, .slice none 0 0], true, true⟩ : Blk)]).length = H.length + 1 := by simp
  generalize H ++ [(⟨[.int .i64 0, .slice none 0 0], true, true⟩ : Blk)] = H0 at hp0 hb0 hlen0 ⊢
  have bad := bad_sys hp0 (Nat.le_refl _) hb0 h
  refine within_ok _ ?_
  by_cases hv : 3 ≤ v ∧ v ≤ 15
  · have e1 : (decide (3 ≤ v) && decide (v ≤ 15)) = true := by simp [hv]
    rw [e1]
    by_cases hlb : bs.length ≤ 35
    · have hlb' : ¬ ((35 : Int) < bs.length) := by omega
      have hlb2 : ¬ (35 < bs.length) := by omega
      simp (maxSteps := 1000000) [go_sem, hlb', hlb2]
      refine AWp.addGhost ?_
      have hbl0 := Bl.ghost 3 H0
      generalize H0 ++ [(⟨[], false, false⟩ : Blk)] = HG at hbl0 ⊢
      refine AWp.loopVc (St := Nat × Nat) (fun s => [(0, .int .i64 v), (4, .pointer (some ⟨H.length, 0, none⟩)), (6, lv 3 s.2 0 s.1), (21, lv 3 i o bs.length), (22, .int .i64 bs.length), (23, .int .i64 s.1)])
        (fun s H' => s.1 ≤ bs.length ∧ Bl 3 H0 H' s.2 (tri ((bs.take s.1).map ofB)) s.1 ∧ ∀ b ∈ bs.take s.1, good v (ofB b) = true) (fun s => bs.length - s.1) (0, H0.length) ?_ ?_ ?_
      · simp [upF, Fr.get, Up.refl, Up.nil]
      · exact ⟨by simp, by simpa [tri] using hbl0, by simp⟩
      · rintro K ⟨s, id⟩ H' ⟨hs, hbl, hgd⟩ hK
        simp only at hs hbl hgd
        by_cases hlt : s < bs.length
        · have hbs : bs[s]? = some bs[s] := List.getElem?_eq_getElem hlt
          have c1 := (h1.pre (hp0.trans hbl.1)).bk hbs
          simp only [Bk.cells] at c1
          have hw_s : IntKind.i64.wrap ((s : Int) + 1) = (s : Int) + 1 := i64w (by omega) (by omega)
          obtain ⟨b, hb⟩ : ∃ b, bs[s] = b := ⟨_, rfl⟩
          rw [hb] at c1 hbs
          simp (maxSteps := 1000000) [go_sem, hlt, c1]
          have hpb : H' <+: H' ++ [⟨[.int .i64 b.a, .int .i64 b.b, .int .i64 b.c], true, true⟩] := List.prefix_append _ _
          have hbl1 := hbl.pre hpb
          generalize H' ++ [(⟨[.int .i64 b.a, .int .i64 b.b, .int .i64 b.c], true, true⟩ : Blk)] = H1 at *
          refine blockOf_ok _ ?_
          intro H2 hp2
          have hbl2 := hbl1.pre hp2
          have hcb : ofB b = blk b.a b.b b.c := rfl
          obtain ⟨c, hc⟩ : ∃ c, blk b.a b.b b.c = c := ⟨_, rfl⟩
          rw [hc] at hcb ⊢
          simp (maxSteps := 1000000) [go_sem, Bk.val]
          have hpc : H2 <+: H2 ++ [⟨[.int .i64 c.a, .int .i64 c.b, .int .i64 c.c], true, true⟩] := List.prefix_append _ _
          have hx0 := Holds.last H2 [.int .i64 c.a, .int .i64 c.b, .int .i64 c.c]
          have hbl3 := hbl2.pre hpc
          generalize H2 ++ [(⟨[.int .i64 c.a, .int .i64 c.b, .int .i64 c.c], true, true⟩ : Blk)] = H3 at *
          refine isBlock_ok (b := c) (by omega) (by omega) _ ?_
          intro H4 hp4
          obtain ⟨e0, e1, e2, e3⟩ := (hx0.pre hp4).bk
          have hbl4 := hbl3.pre hp4
          have hmem : b ∈ bs := hb ▸ List.getElem_mem hlt
          cases hg : good v c with
          | false =>
            obtain ⟨H9, q1, q2, fin⟩ := bad H4 2 hbl4.1 (by rw [rSysOf, if_pos ⟨hv, hlb⟩, if_neg (fun hh => by have := hh b hmem; rw [hcb, hg] at this; cases this)])
            simp (maxSteps := 1000000) [go_sem, q1, q2]
            exact fin
          | true =>
            have hsn : (bs.take (s + 1)).map ofB = (bs.take s).map ofB ++ [c] := by rw [List.take_succ_eq_append_getElem hlt, hb, List.map_append]; simp [hcb]
            obtain ⟨hsrc, H5, hap, hbl5⟩ := hbl4.push (xs := c.cells) (by omega) rfl
            simp only [Bk.cells] at hsrc hap hbl5
            simp (maxSteps := 1000000) [go_sem, hw_s, e0, hsrc, hap]
            refine andK_intro (by omega) (hK (s + 1, H4.length + 1) _ _ (by simp only; omega) (by simp [upF, Fr.get, Up.refl]) ⟨by simp only; omega, ?_, ?_⟩)
            · simp only [hsn, tri_append, tri_one, Bk.cells]
              exact hbl5
            · intro x hx
              rw [List.take_succ_eq_append_getElem hlt, hb, List.mem_append, List.mem_singleton] at hx
              rcases hx with hx | rfl
              · exact hgd x hx
              · rw [hcb]; exact hg
        · have : s = bs.length := by omega
          subst this
          rw [List.take_length] at hbl hgd
          have hlm : (bs.map ofB).length = bs.length := List.length_map _
          have hown : BlocksIn H0.length H'.length H' (lv 3 id 0 bs.length) (bs.map ofB) := by
            rw [← hlm]
            exact OwnBlocks.inn (OwnBlocks.of_ol (by rw [hlm]; exact hbl.2.1) (by omega)) hbl.2.2
          have hg15 : ∀ x ∈ bs.map ofB, good 15 x = true := by
            intro x hx
            obtain ⟨b, hb, rfl⟩ := List.mem_map.1 hx
            exact good_15 (hgd b hb) hv.2
          simp (maxSteps := 1000000) [go_sem]
          refine gridOf_ok hown.read hg15 _ ?_ ?_
          · intro H1 hp1 hF
            obtain ⟨H9, q1, q2, fin⟩ := bad H1 5 (hbl.1.trans hp1) (by rw [rSysOf, if_pos ⟨hv, hlb⟩, if_pos hgd, if_neg hF])
            simp (maxSteps := 1000000) [go_sem, q1, q2]
            exact fin
          · intro H1 gid gs hp1 _ _ _ hF
            have hr : rSysOf v bs = ((v, sortB (bs.map ofB)), 0) := by rw [rSysOf, if_pos ⟨hv, hlb⟩, if_pos hgd, if_pos hF]
            simp (maxSteps := 1000000) [go_sem]
            refine implSystem_ok (hown.read.pre hp1) (by omega) _ ?_
            intro H2 w hp2 hw
            obtain ⟨q1, q2, q3, q4⟩ := put2 (cs := [.int .i64 v, w]) hp0 (Nat.le_refl _) hb0 rfl (hbl.1.trans (hp1.trans hp2)) rfl (by simp [one_int, hw.one])
            have hll := hbl.1.length_le
            have hll1 := hp1.length_le
            have fin := h _ w q3 (by rw [hr, List.length_set]; exact (hw.keep q4 (fun j hj e => by have := hj.1; omega)).wider (by omega))
            rw [hr] at fin
            simp (maxSteps := 1000000) [go_sem, sysV, q1, q2]
            exact ⟨_, Up.refl _ _, fin⟩
    · have hlb' : ((35 : Int) < bs.length) := by omega
      have hlb2 : (35 < bs.length) := by omega
      obtain ⟨H9, q1, q2, fin⟩ := bad H0 2 (List.prefix_refl _) (by rw [rSysOf, if_neg (by omega)])
      simp (maxSteps := 1000000) [go_sem, hlb', hlb2, q1, q2]
      exact fin
  · have e1 : (decide (3 ≤ v) && decide (v ≤ 15)) = false := by
      rw [Bool.and_eq_false_iff, decide_eq_false_iff_not, decide_eq_false_iff_not]; omega
    rw [e1]
    obtain ⟨H9, q1, q2, fin⟩ := bad H0 2 (List.prefix_refl _) (by rw [rSysOf, if_neg (by omega)])
    simp (maxSteps := 1000000) [go_sem, undef, q1, q2]
    exact fin

end Go.Proofs.Ytdfeoccjllljiaa
end

section
/- SystemOf: the specification's side. -/
set_option linter.all false
set_option maxRecDepth 20000
set_option maxHeartbeats 8000000
namespace Go.Proofs.Ytdfeoccjllljiaa
open Go.Ab Go.Sort

theorem wq1 : IntKind.i64.wrap 1 = 1 := i64w (by omega) (by omega)
theorem wq2 : IntKind.i64.wrap 2 = 2 := i64w (by omega) (by omega)
theorem wq3 : IntKind.i64.wrap 3 = 3 := i64w (by omega) (by omega)
theorem mq1 : (1 : Int).tmod 3 = 1 := rfl
theorem mq2 : (2 : Int).tmod 3 = 2 := rfl
theorem mq3 : (3 : Int).tmod 3 = 0 := rfl

theorem specSystemOf_ok {H : Heap} {u : Value} {v : Int} {bs : List Bk} (hu : BlocksAt H u bs) (hl : bs.length ≤ 1048576) (Post : Value → Heap → Prop)
    (h : ∀ H' w, H <+: H' → BlocksIn H.length H'.length H' w (rSysOf v bs).1.2 → Post (.tuple #[sysV (rSysOf v bs).1.1 w, .int .i64 (rSysOf v bs).2]) H') :
    ACalls Try.prog 56 [.int .i64 v, u] H Post := by
  obtain ⟨i, o, rfl, h1, h2⟩ := hu
  refine ACalls.res ?_
  refine acalls_vc (rs := [.cell 4 38, .tmp 5]) Try.func56 rfl rfl Try.ntmps56 rfl rfl ?_
  simp (maxSteps := 1000000) [go_sem]
  have hp0 : H <+: H ++ [⟨[.int .i64 0, .slice none 0 0], true, true⟩] := List.prefix_append _ _
  have hb0 : (H ++ [(⟨[.int .i64 0, .slice none 0 0], true, true⟩ : Blk)])[H.length]? = some ⟨[.int .i64 0, .slice none 0 0], true, true⟩ := by simp
  have hlen0 : (H ++ [(⟨[.int .i64 0, .slice none 0 0], true, true⟩ : Blk)]).length = H.length + 1 := by simp
  generalize H ++ [(⟨[.int .i64 0, .slice none 0 0], true, true⟩ : Blk)] = H0 at hp0 hb0 hlen0 ⊢
  have bad := bad_sys hp0 (Nat.le_refl _) hb0 h
  refine l01In_ok _ ?_
  by_cases hv : 3 ≤ v ∧ v ≤ 15
  · have e1 : (decide (3 ≤ v) && decide (v ≤ 15)) = true := by simp [hv]
    rw [e1]
    by_cases hlb : bs.length ≤ 35
    · have hlb' : ¬ ((35 : Int) < bs.length) := by omega
      have hlb2 : ¬ (35 < bs.length) := by omega
      simp (maxSteps := 1000000) [go_sem, hlb', hlb2]
      have hbl0 := Bl.nil 3 H0
      generalize H0 ++ [(⟨[], true, true⟩ : Blk)] = HG at hbl0 ⊢
      refine AWp.loopVc (St := Nat × Nat) (fun s => [(0, .int .i64 v), (1, lv 3 i o bs.length), (4, .pointer (some ⟨H.length, 0, none⟩)), (6, lv 3 s.2 0 s.1), (7, .int .i64 s.1)])
        (fun s H' => s.1 ≤ bs.length ∧ Bl 3 H0 H' s.2 (tri ((bs.take s.1).map ofB)) s.1 ∧ ∀ b ∈ bs.take s.1, good v (ofB b) = true) (fun s => bs.length - s.1) (0, H0.length) ?_ ?_ ?_
      · simp [upF, Fr.get, Up.refl, Up.ex0]
      · exact ⟨by simp, by simpa [tri] using hbl0, by simp⟩
      · rintro K ⟨s, id⟩ H' ⟨hs, hbl, hgd⟩ hK
        simp only at hs hbl hgd
        by_cases hlt : s < bs.length
        · have hbs : bs[s]? = some bs[s] := List.getElem?_eq_getElem hlt
          have c1 := (h1.pre (hp0.trans hbl.1)).bk hbs
          simp only [Bk.cells] at c1
          have hw_s : IntKind.i64.wrap ((s : Int) + 1) = (s : Int) + 1 := i64w (by omega) (by omega)
          obtain ⟨b, hb⟩ : ∃ b, bs[s] = b := ⟨_, rfl⟩
          rw [hb] at c1 hbs
          have hmem : b ∈ bs := hb ▸ List.getElem_mem hlt
          simp (maxSteps := 1000000) [go_sem, hlt, c1]
          have hpb : H' <+: H' ++ [⟨[.int .i64 b.a, .int .i64 b.b, .int .i64 b.c], true, true⟩] := List.prefix_append _ _
          have hx0 := Holds.last H' [.int .i64 b.a, .int .i64 b.b, .int .i64 b.c]
          have hbl1 := hbl.pre hpb
          generalize H' ++ [(⟨[.int .i64 b.a, .int .i64 b.b, .int .i64 b.c], true, true⟩ : Blk)] = H1 at *
          obtain ⟨e0, e1, e2, e3⟩ := hx0.bk
          have wv : IntKind.i64.wrap (v - 1) = v - 1 := i64w (by omega) (by omega)
          refine AWp.loopVc (St := Nat) (fun k => [(0, .int .i64 v), (1, lv 3 i o bs.length), (4, .pointer (some ⟨H.length, 0, none⟩)), (6, lv 3 id 0 s), (7, .int .i64 s), (8, .pointer (some ⟨H'.length, 0, none⟩)), (9, .int .i64 k)])
            (fun k H2 => k ≤ 3 ∧ H2 = H1 ∧ ∀ j, j < k → (0 ≤ b.nth j ∧ b.nth j < v) ∧ b.nth j ≠ b.nth ((j + 1) % 3)) (fun k => 3 - k) 0 ?_ ?_ ?_
          · simp [upF, Fr.get, Up.refl]
          · exact ⟨by omega, rfl, fun j hj => by omega⟩
          · rintro K2 k H2 ⟨hk, rfl, hin⟩ hK2
            by_cases hk3 : k < 3
            · have badk : ¬ ((0 ≤ b.nth k ∧ b.nth k < v) ∧ b.nth k ≠ b.nth ((k + 1) % 3)) → rSysOf v bs = ((0, []), 2) := by
                intro hn
                rw [rSysOf, if_pos ⟨hv, hlb⟩, if_neg]
                intro hh
                have hg := blk_good.1 (hh b hmem)
                apply hn
                obtain rfl | rfl | rfl : k = 0 ∨ k = 1 ∨ k = 2 := by omega
                all_goals simp only [Bk.nth]; simp; omega
              obtain rfl | rfl | rfl : k = 0 ∨ k = 1 ∨ k = 2 := by omega
              · simp (maxSteps := 1000000) [go_sem]
                refine AWp.draw mixed [(0, false), (1, false), (2, false), (3, false), (4, false), (5, false), (6, false), (7, false), (8, false), (9, false), (10, false), (11, false), (12, false), (13, false), (14, false), (15, false), (16, false), (17, false)] (by kernel_rfl) ?_
                simp (maxSteps := 1000000) [go_sem, e1, wv]
                refine l01In_ok _ ?_
                by_cases hr : 0 ≤ b.a ∧ b.a ≤ v - 1
                · have er : (decide (0 ≤ b.a) && decide (b.a ≤ v - 1)) = true := by simp [hr]
                  rw [er]
                  by_cases heq : b.a = b.b
                  · have heqb : (b.a == b.b) = true := by simpa using heq
                    obtain ⟨H9, q1, q2, fin⟩ := bad H2 2 hbl1.1 (badk (by simp only [Bk.nth]; simp; omega))
                    simp (maxSteps := 1000000) [go_sem, e1, e2, heqb, q1, q2, wq1, wq2, wq3, mq1, mq2, mq3]
                    exact fin
                  · have heqb : (b.a == b.b) = false := by simpa using heq
                    simp (maxSteps := 1000000) [go_sem, e1, e2, heqb, wq1, wq2, wq3, mq1, mq2, mq3]
                    refine hK2 1 _ _ (by omega) (by simp [upF, Fr.get, Up.refl]) ⟨by omega, rfl, fun j hj => ?_⟩
                    by_cases hjk : j < 0
                    · exact hin j hjk
                    · obtain rfl : j = 0 := by omega
                      simp only [Bk.nth]; simp; omega
                · have er : (decide (0 ≤ b.a) && decide (b.a ≤ v - 1)) = false := by
                    rw [Bool.and_eq_false_iff, decide_eq_false_iff_not, decide_eq_false_iff_not]; omega
                  rw [er]
                  obtain ⟨H9, q1, q2, fin⟩ := bad H2 2 hbl1.1 (badk (by simp only [Bk.nth]; simp; omega))
                  simp (maxSteps := 1000000) [go_sem, undef, q1, q2]
                  exact fin
              · simp (maxSteps := 1000000) [go_sem]
                refine AWp.draw mixed [(0, false), (1, false), (2, false), (3, false), (4, false), (5, false), (6, false), (7, false), (8, false), (9, false), (10, false), (11, false), (12, false), (13, false), (14, false), (15, false), (16, false), (17, false)] (by kernel_rfl) ?_
                simp (maxSteps := 1000000) [go_sem, e2, wv]
                refine l01In_ok _ ?_
                by_cases hr : 0 ≤ b.b ∧ b.b ≤ v - 1
                · have er : (decide (0 ≤ b.b) && decide (b.b ≤ v - 1)) = true := by simp [hr]
                  rw [er]
                  by_cases heq : b.b = b.c
                  · have heqb : (b.b == b.c) = true := by simpa using heq
                    obtain ⟨H9, q1, q2, fin⟩ := bad H2 2 hbl1.1 (badk (by simp only [Bk.nth]; simp; omega))
                    simp (maxSteps := 1000000) [go_sem, e2, e3, heqb, q1, q2, wq1, wq2, wq3, mq1, mq2, mq3]
                    exact fin
                  · have heqb : (b.b == b.c) = false := by simpa using heq
                    simp (maxSteps := 1000000) [go_sem, e2, e3, heqb, wq1, wq2, wq3, mq1, mq2, mq3]
                    refine hK2 2 _ _ (by omega) (by simp [upF, Fr.get, Up.refl]) ⟨by omega, rfl, fun j hj => ?_⟩
                    by_cases hjk : j < 1
                    · exact hin j hjk
                    · obtain rfl : j = 1 := by omega
                      simp only [Bk.nth]; simp; omega
                · have er : (decide (0 ≤ b.b) && decide (b.b ≤ v - 1)) = false := by
                    rw [Bool.and_eq_false_iff, decide_eq_false_iff_not, decide_eq_false_iff_not]; omega
                  rw [er]
                  obtain ⟨H9, q1, q2, fin⟩ := bad H2 2 hbl1.1 (badk (by simp only [Bk.nth]; simp; omega))
                  simp (maxSteps := 1000000) [go_sem, undef, q1, q2]
                  exact fin
              · simp (maxSteps := 1000000) [go_sem]
                refine AWp.draw mixed [(0, false), (1, false), (2, false), (3, false), (4, false), (5, false), (6, false), (7, false), (8, false), (9, false), (10, false), (11, false), (12, false), (13, false), (14, false), (15, false), (16, false), (17, false)] (by kernel_rfl) ?_
                simp (maxSteps := 1000000) [go_sem, e3, wv]
                refine l01In_ok _ ?_
                by_cases hr : 0 ≤ b.c ∧ b.c ≤ v - 1
                · have er : (decide (0 ≤ b.c) && decide (b.c ≤ v - 1)) = true := by simp [hr]
                  rw [er]
                  by_cases heq : b.c = b.a
                  · have heqb : (b.c == b.a) = true := by simpa using heq
                    obtain ⟨H9, q1, q2, fin⟩ := bad H2 2 hbl1.1 (badk (by simp only [Bk.nth]; simp; omega))
                    simp (maxSteps := 1000000) [go_sem, e3, e1, heqb, q1, q2, wq1, wq2, wq3, mq1, mq2, mq3]
                    exact fin
                  · have heqb : (b.c == b.a) = false := by simpa using heq
                    simp (maxSteps := 1000000) [go_sem, e3, e1, heqb, wq1, wq2, wq3, mq1, mq2, mq3]
                    refine hK2 3 _ _ (by omega) (by simp [upF, Fr.get, Up.refl]) ⟨by omega, rfl, fun j hj => ?_⟩
                    by_cases hjk : j < 2
                    · exact hin j hjk
                    · obtain rfl : j = 2 := by omega
                      simp only [Bk.nth]; simp; omega
                · have er : (decide (0 ≤ b.c) && decide (b.c ≤ v - 1)) = false := by
                    rw [Bool.and_eq_false_iff, decide_eq_false_iff_not, decide_eq_false_iff_not]; omega
                  rw [er]
                  obtain ⟨H9, q1, q2, fin⟩ := bad H2 2 hbl1.1 (badk (by simp only [Bk.nth]; simp; omega))
                  simp (maxSteps := 1000000) [go_sem, undef, q1, q2]
                  exact fin
            · have : k = 3 := by omega
              subst this
              have hg : good v (ofB b) = true := by
                have h0 := hin 0 (by omega)
                have h1 := hin 1 (by omega)
                have h2 := hin 2 (by omega)
                simp only [Bk.nth] at h0 h1 h2
                simp at h0 h1 h2
                exact blk_good.2 (by omega)
              have hr := blk_good.1 hg
              simp (maxSteps := 1000000) [go_sem, e1, e2, e3]
              refine l01Block_ok (by omega) (by omega) (by omega) _ ?_
              intro H3 hp3
              have hcb : ofB b = blk b.a b.b b.c := rfl
              rw [← hcb]
              obtain ⟨c, hc⟩ : ∃ c, ofB b = c := ⟨_, rfl⟩
              rw [hc] at hg hcb ⊢
              have hbl4 := hbl1.pre hp3
              have hsn : (bs.take (s + 1)).map ofB = (bs.take s).map ofB ++ [c] := by rw [List.take_succ_eq_append_getElem hlt, hb, List.map_append]; simp [hc]
              obtain ⟨hsrc, H5, hap, hbl5⟩ := hbl4.push (xs := c.cells) (by omega) rfl
              simp only [Bk.cells] at hsrc hap hbl5
              simp (maxSteps := 1000000) [go_sem, Bk.val, hw_s, hsrc, hap]
              refine andK_intro (by omega) (hK (s + 1, H3.length + 1) _ _ (by simp only; omega) (by simp [upF, Fr.get, Up.refl]) ⟨by simp only; omega, ?_, ?_⟩)
              · simp only [hsn, tri_append, tri_one, Bk.cells]
                exact hbl5
              · intro x hx
                rw [List.take_succ_eq_append_getElem hlt, hb, List.mem_append, List.mem_singleton] at hx
                rcases hx with hx | rfl
                · exact hgd x hx
                · rw [hc]; exact hg
        · have : s = bs.length := by omega
          subst this
          rw [List.take_length] at hbl hgd
          have hlm : (bs.map ofB).length = bs.length := List.length_map _
          have hown : BlocksIn H0.length H'.length H' (lv 3 id 0 bs.length) (bs.map ofB) := by
            rw [← hlm]
            exact OwnBlocks.inn (OwnBlocks.of_ol (by rw [hlm]; exact hbl.2.1) (by omega)) hbl.2.2
          simp (maxSteps := 1000000) [go_sem]
          refine l01Fits_ok hown.read _ ?_
          intro H1 b hp1 hb
          cases b with
          | false =>
            have hF : ¬ Fits (bs.map ofB) := fun e => by have := hb.2 e; cases this
            obtain ⟨H9, q1, q2, fin⟩ := bad H1 5 (hbl.1.trans hp1) (by rw [rSysOf, if_pos ⟨hv, hlb⟩, if_pos hgd, if_neg hF])
            simp (maxSteps := 1000000) [go_sem, q1, q2]
            exact fin
          | true =>
            have hF := hb.1 rfl
            have hr : rSysOf v bs = ((v, sortB (bs.map ofB)), 0) := by rw [rSysOf, if_pos ⟨hv, hlb⟩, if_pos hgd, if_pos hF]
            simp (maxSteps := 1000000) [go_sem]
            refine l01Made_ok (hown.read.pre hp1) (by omega) _ ?_
            intro H2 w hp2 hw
            obtain ⟨q1, q2, q3, q4⟩ := put2 (cs := [.int .i64 v, w]) hp0 (Nat.le_refl _) hb0 rfl (hbl.1.trans (hp1.trans hp2)) rfl (by simp [one_int, hw.one])
            have hll := hbl.1.length_le
            have hll1 := hp1.length_le
            have fin := h _ w q3 (by rw [hr, List.length_set]; exact (hw.keep q4 (fun j hj e => by have := hj.1; omega)).wider (by omega))
            rw [hr] at fin
            simp (maxSteps := 1000000) [go_sem, sysV, q1, q2]
            exact ⟨_, Up.refl _ _, fin⟩
    · have hlb' : ((35 : Int) < bs.length) := by omega
      have hlb2 : (35 < bs.length) := by omega
      obtain ⟨H9, q1, q2, fin⟩ := bad H0 2 (List.prefix_refl _) (by rw [rSysOf, if_neg (by omega)])
      simp (maxSteps := 1000000) [go_sem, hlb', hlb2, q1, q2]
      exact fin
  · have e1 : (decide (3 ≤ v) && decide (v ≤ 15)) = false := by
      rw [Bool.and_eq_false_iff, decide_eq_false_iff_not, decide_eq_false_iff_not]; omega
    rw [e1]
    obtain ⟨H9, q1, q2, fin⟩ := bad H0 2 (List.prefix_refl _) (by rw [rSysOf, if_neg (by omega)])
    simp (maxSteps := 1000000) [go_sem, undef, q1, q2]
    exact fin

end Go.Proofs.Ytdfeoccjllljiaa
end

section
/- Renumbering: the tested program's side. -/
set_option linter.all false
set_option maxRecDepth 20000
set_option maxHeartbeats 8000000
namespace Go.Proofs.Ytdfeoccjllljiaa
open Go.Ab Go.Sort

def nthI (xs : List Int) (p : Int) : Int := xs.getD p.toNat 0
def renB (xs : List Int) (b : Bk) : Bk := blk (nthI xs b.a) (nthI xs b.b) (nthI xs b.c)
open Classical in
noncomputable def rRen (p : Int) (bs : List Bk) (xs : List Int) : (Int × List Bk) × Int :=
  if sysB p bs then (if OrdL p xs then ((p, sortB (bs.map (renB xs))), 0) else ((0, []), 2)) else ((0, []), 1)
theorem nthI_in {xs : List Int} {n : Nat} (h : n < xs.length) : xs[n]? = some (nthI xs n) := by
  rw [nthI, Int.toNat_natCast, List.getD_eq_getElem?_getD, List.getElem?_eq_getElem h]; rfl
theorem OrdL.bound {p : Int} {xs : List Int} (h : OrdL p xs) (hp : p ≤ 15) {n : Nat} (hn : n < xs.length) : 0 ≤ nthI xs n ∧ nthI xs n < 15 := by
  have := h.2.2 _ (List.mem_of_getElem? (nthI_in hn)); omega

theorem renumbered_ok {H : Heap} {u w : Value} {p : Int} {bs : List Bk} {xs : List Int} (hu : BlocksAt H u bs) (hw : IntsAt H w xs) (hS : IsSys p bs) (hO : OrdL p xs) (Post : Value → Heap → Prop)
    (h : ∀ H' z, H <+: H' → BlocksIn H.length H'.length H' z (sortB (bs.map (renB xs))) → Post (sysV p z) H') :
    ACalls Try.prog 129 [sysV p u, w] H Post := by
  obtain ⟨i, o, rfl, h1, h2⟩ := hu
  obtain ⟨j, q, rfl, h3, h4⟩ := hw
  have hpx := hS.1
  have hlb := hS.2.1
  have hxl : (xs.length : Int) = p := hO.1
  refine acalls_vc (rs := [.cell 4 38]) Try.func129 rfl rfl Try.ntmps129 rfl rfl ?_
  simp (maxSteps := 1000000) [go_sem, sysV]
  have hp0 : H <+: H ++ [⟨[.int .i64 p, lv 3 i o bs.length], true, true⟩, ⟨[.int .i64 0, .slice none 0 0], true, true⟩] := List.prefix_append _ _
  have hx0 : Holds (H ++ [⟨[.int .i64 p, lv 3 i o bs.length], true, true⟩, ⟨[.int .i64 0, .slice none 0 0], true, true⟩]) H.length [.int .i64 p, lv 3 i o bs.length] := ⟨true, by simp⟩
  have hb0 : (H ++ [(⟨[.int .i64 p, lv 3 i o bs.length], true, true⟩ : Blk), ⟨[.int .i64 0, .slice none 0 0], true, true⟩])[H.length + 1]? = some ⟨[.int .i64 0, .slice none 0 0], true, true⟩ := by simp
  have hlen0 : (H ++ [(⟨[.int .i64 p, lv 3 i o bs.length], true, true⟩ : Blk), ⟨[.int .i64 0, .slice none 0 0], true, true⟩]).length = H.length + 2 := by simp
  generalize H ++ [(⟨[.int .i64 p, lv 3 i o bs.length], true, true⟩ : Blk), ⟨[.int .i64 0, .slice none 0 0], true, true⟩] = H0 at hp0 hx0 hb0 hlen0 ⊢
  refine AWp.addGhost ?_
  have hbl0 := Bl.ghost 3 H0
  generalize H0 ++ [(⟨[], false, false⟩ : Blk)] = HG at hbl0 ⊢
  refine AWp.loopVc (St := Nat × Nat) (fun s => [(1, lv 1 j q xs.length), (2, .pointer (some ⟨H.length, 0, none⟩)), (4, .pointer (some ⟨H.length + 1, 0, none⟩)), (5, lv 3 s.2 0 s.1), (9, lv 3 i o bs.length), (10, .int .i64 bs.length), (11, .int .i64 s.1)])
    (fun s H' => s.1 ≤ bs.length ∧ Bl 3 H0 H' s.2 (tri ((bs.take s.1).map (renB xs))) s.1) (fun s => bs.length - s.1) (0, H0.length) ?_ ?_ ?_
  · simp [upF, Fr.get, Up.refl, Up.nil]
  · exact ⟨by simp, by simpa [tri] using hbl0⟩
  · rintro K ⟨s, id⟩ H' ⟨hs, hbl⟩ hK
    simp only at hs hbl
    by_cases hlt : s < bs.length
    · have hbs : bs[s]? = some bs[s] := List.getElem?_eq_getElem hlt
      have c1 := (h1.pre (hp0.trans hbl.1)).bk hbs
      simp only [Bk.cells] at c1
      have hw_s : IntKind.i64.wrap ((s : Int) + 1) = (s : Int) + 1 := i64w (by omega) (by omega)
      have hgd : good p bs[s] = true := hS.good bs[s] (List.getElem_mem hlt)
      obtain ⟨b, hb⟩ : ∃ b, bs[s] = b := ⟨_, rfl⟩
      rw [hb] at c1 hbs hgd
      have hg' := good_iff.1 hgd
      obtain ⟨x, y, z, rfl, hxy, hyz, hz15⟩ := good_nat hgd hpx.2
      simp only at hg' c1
      have lx : x < xs.length := by omega
      have ly : y < xs.length := by omega
      have lz : z < xs.length := by omega
      simp (maxSteps := 1000000) [go_sem, hlt, c1]
      have hpb : H' <+: H' ++ [⟨[.int .i64 x, .int .i64 y, .int .i64 z], true, true⟩] := List.prefix_append _ _
      have hxb := Holds.last H' [.int .i64 x, .int .i64 y, .int .i64 z]
      have hbl1 := hbl.pre hpb
      generalize H' ++ [(⟨[.int .i64 x, .int .i64 y, .int .i64 z], true, true⟩ : Blk)] = H1 at *
      obtain ⟨e0, e1, e2, e3⟩ := hxb.bk
      have hx3 := h3.pre (hp0.trans hbl1.1)
      have f1 := hx3.cell (k := x) (v := .int .i64 (nthI xs x)) (by simp [ints, nthI_in lx])
      have f2 := hx3.cell (k := y) (v := .int .i64 (nthI xs y)) (by simp [ints, nthI_in ly])
      have f3 := hx3.cell (k := z) (v := .int .i64 (nthI xs z)) (by simp [ints, nthI_in lz])
      refine AWp.draw mixed [(0, false), (1, false), (2, false), (3, false), (4, false), (5, false), (6, false), (7, false), (8, false), (9, false), (10, false), (11, false), (12, false), (13, false), (14, false), (15, false), (16, false), (17, false), (18, false), (19, false)] (by kernel_rfl) ?_
      simp (maxSteps := 1000000) [go_sem, e1, e2, e3, f1, f2, f3, lx, ly, lz]
      refine blockOf_ok _ ?_
      intro H2 hp2
      have hcb : renB xs ⟨x, y, z⟩ = blk (nthI xs x) (nthI xs y) (nthI xs z) := rfl
      rw [← hcb]
      obtain ⟨c, hc⟩ : ∃ c, renB xs ⟨x, y, z⟩ = c := ⟨_, rfl⟩
      rw [hc]
      have hsn : (bs.take (s + 1)).map (renB xs) = (bs.take s).map (renB xs) ++ [c] := by rw [List.take_succ_eq_append_getElem hlt, hb, List.map_append]; simp [hc]
      obtain ⟨hsrc, H5, hap, hbl5⟩ := (hbl1.pre hp2).push (xs := c.cells) (by omega) rfl
      simp only [Bk.cells] at hsrc hap hbl5
      simp (maxSteps := 1000000) [go_sem, Bk.val, hw_s, hsrc, hap]
      refine andK_intro (by omega) (hK (s + 1, H2.length + 1) _ _ (by simp only; omega) (by simp [upF, Fr.get, Up.refl]) ⟨by simp only; omega, ?_⟩)
      simp only [hsn, tri_append, tri_one, Bk.cells]
      exact hbl5
    · have : s = bs.length := by omega
      subst this
      rw [List.take_length] at hbl
      have hlm : (bs.map (renB xs)).length = bs.length := List.length_map _
      have hown : BlocksIn H0.length H'.length H' (lv 3 id 0 bs.length) (bs.map (renB xs)) := by
        rw [← hlm]
        exact OwnBlocks.inn (OwnBlocks.of_ol (by rw [hlm]; exact hbl.2.1) (by omega)) hbl.2.2
      obtain ⟨d0, d1, d2⟩ := (hx0.pre hbl.1).sys
      simp (maxSteps := 1000000) [go_sem, d0, d1, d2]
      refine implSystem_ok hown.read (by omega) _ ?_
      intro H2 z hp2 hz
      obtain ⟨q1, q2, q3, q4⟩ := put2 (cs := [.int .i64 p, z]) hp0 (show H.length ≤ H.length + 1 by omega) hb0 rfl (hbl.1.trans hp2) rfl (by simp [one_int, hz.one])
      have hll := hbl.1.length_le
      have fin := h _ z q3 (by rw [List.length_set]; exact (hz.keep q4 (fun j hj e => by have := hj.1; omega)).wider (by omega))
      simp (maxSteps := 1000000) [go_sem, sysV, q1, q2]
      exact fin

theorem implRenumber_ok {H : Heap} {u w : Value} {p : Int} {bs : List Bk} {xs : List Int} (hu : BlocksAt H u bs) (hl : bs.length ≤ 1048576) (hw : IntsAt H w xs) (hl' : xs.length ≤ 1048576) (h64 : ∀ x ∈ xs, In64 x) (Post : Value → Heap → Prop)
    (h : ∀ H' z, H <+: H' → BlocksIn H.length H'.length H' z (rRen p bs xs).1.2 → Post (.tuple #[sysV (rRen p bs xs).1.1 z, .int .i64 (rRen p bs xs).2]) H') :
    ACalls Try.prog 67 [sysV p u, w] H Post := by
  have ou := hu.one
  refine ACalls.res ?_
  refine acalls_vc (rs := [.cell 4 38, .tmp 5]) Try.func67 rfl rfl Try.ntmps67 rfl rfl ?_
  simp (maxSteps := 1000000) [go_sem, sysV, ou]
  have hp0 : H <+: H ++ [⟨[.int .i64 p, u], true, true⟩, ⟨[.int .i64 0, .slice none 0 0], true, true⟩] := List.prefix_append _ _
  have hx0 : Holds (H ++ [⟨[.int .i64 p, u], true, true⟩, ⟨[.int .i64 0, .slice none 0 0], true, true⟩]) H.length [.int .i64 p, u] := ⟨true, by simp⟩
  have hb0 : (H ++ [(⟨[.int .i64 p, u], true, true⟩ : Blk), ⟨[.int .i64 0, .slice none 0 0], true, true⟩])[H.length + 1]? = some ⟨[.int .i64 0, .slice none 0 0], true, true⟩ := by simp
  have hlen0 : (H ++ [(⟨[.int .i64 p, u], true, true⟩ : Blk), ⟨[.int .i64 0, .slice none 0 0], true, true⟩]).length = H.length + 2 := by simp
  generalize H ++ [(⟨[.int .i64 p, u], true, true⟩ : Blk), ⟨[.int .i64 0, .slice none 0 0], true, true⟩] = H0 at hp0 hx0 hb0 hlen0 ⊢
  have bad := bad_sys hp0 (show H.length ≤ H.length + 1 by omega) hb0 h
  refine implIsSys (hu.pre hp0) _ ?_
  intro H1 hp1
  obtain ⟨d0, d1, d2⟩ := (hx0.pre hp1).sys
  cases hs : sysB p bs with
  | false =>
    obtain ⟨H9, q1, q2, fin⟩ := bad H1 1 hp1 (by rw [rRen, hs]; simp)
    simp (maxSteps := 1000000) [go_sem, q1, q2]
    exact fin
  | true =>
    have hS := sysB_iff.1 hs
    have hpx := hS.1
    simp (maxSteps := 1000000) [go_sem, d0, d1, d2]
    refine isOrder_ok (hw.pre (hp0.trans hp1)) hl' (by omega) _ ?_
    intro H2 b hp2 hb
    obtain ⟨d0, d1, d2⟩ := (hx0.pre (hp1.trans hp2)).sys
    cases b with
    | false =>
      have hO : ¬ OrdL p xs := fun e => by have := hb.2 e; cases this
      obtain ⟨H9, q1, q2, fin⟩ := bad H2 2 (hp1.trans hp2) (by rw [rRen, hs, if_pos rfl, if_neg hO])
      simp (maxSteps := 1000000) [go_sem, q1, q2]
      exact fin
    | true =>
      have hO := hb.1 rfl
      have hr : rRen p bs xs = ((p, sortB (bs.map (renB xs))), 0) := by rw [rRen, hs, if_pos rfl, if_pos hO]
      simp (maxSteps := 1000000) [go_sem, d0, d1, d2]
      refine renumbered_ok (hu.pre (hp0.trans (hp1.trans hp2))) (hw.pre (hp0.trans (hp1.trans hp2))) hS hO _ ?_
      intro H3 z hp3 hz
      obtain ⟨q1, q2, q3, q4⟩ := put2 (cs := [.int .i64 p, z]) hp0 (show H.length ≤ H.length + 1 by omega) hb0 rfl (hp1.trans (hp2.trans hp3)) rfl (by simp [one_int, hz.one])
      have hll := hp1.length_le
      have hll2 := hp2.length_le
      have fin := h _ z q3 (by rw [hr, List.length_set]; exact (hz.keep q4 (fun j hj e => by have := hj.1; omega)).wider (by omega))
      rw [hr] at fin
      simp (maxSteps := 1000000) [go_sem, sysV, q1, q2]
      exact ⟨_, Up.refl _ _, fin⟩

end Go.Proofs.Ytdfeoccjllljiaa
end

section
/- Renumbering: the specification's side. -/
set_option linter.all false
set_option maxRecDepth 20000
set_option maxHeartbeats 8000000
namespace Go.Proofs.Ytdfeoccjllljiaa
open Go.Ab Go.Sort

/-- Which numbers below n a list has. -/
def metL (n : Nat) (xs : List Int) : List Value := (List.range n).map fun k : Nat => .bool (decide ((k : Int) ∈ xs))
theorem metL_length (n : Nat) (xs : List Int) : (metL n xs).length = n := by simp [metL]
theorem metL_get {n : Nat} {xs : List Int} {k : Nat} (h : k < n) : (metL n xs)[k]? = some (.bool (decide ((k : Int) ∈ xs))) := by simp [metL, h]
theorem metL_nil (n : Nat) : metL n [] = List.replicate n (.bool false) := by
  apply List.ext_getElem?
  intro k
  by_cases hk : k < n
  · rw [metL_get hk, List.getElem?_replicate, if_pos hk]; simp
  · rw [List.getElem?_eq_none (by rw [metL_length]; omega), List.getElem?_eq_none (by rw [List.length_replicate]; omega)]
theorem metL_snoc {n : Nat} {xs : List Int} {x : Nat} : metL n (xs ++ [(x : Int)]) = (metL n xs).set x (.bool true) := by
  apply List.ext_getElem?
  intro k
  rw [List.getElem?_set]
  by_cases hk : k < n
  · rw [metL_get hk]
    by_cases e : x = k
    · subst e
      rw [if_pos rfl, if_pos (by rw [metL_length]; exact hk)]; simp
    · rw [if_neg e, metL_get hk]
      have : ¬ ((k : Int) = (x : Int)) := by omega
      simp [this]
  · have h1 : (metL n (xs ++ [(x : Int)]))[k]? = none := List.getElem?_eq_none (by rw [metL_length]; omega)
    have h2 : (metL n xs)[k]? = none := List.getElem?_eq_none (by rw [metL_length]; omega)
    rw [h1, h2, metL_length]
    split
    · rw [if_neg (by omega)]
    · rfl
theorem metL_one (n : Nat) (xs : List Int) : (metL n xs).all Value.oneCell' = true := by
  simp [metL, Value.oneCell']

theorem l01Order_ok {H : Heap} {u : Value} {xs : List Int} {n : Nat} (hu : IntsAt H u xs) (hn : n ≤ 15) (Post : Value → Heap → Prop) (h : ∀ H' b, H <+: H' → (b = true ↔ OrdL n xs) → Post (.bool b) H') :
    ACalls Try.prog 125 [u, .int .i64 n] H Post := by
  obtain ⟨i, o, rfl, h1, h2⟩ := hu
  refine acalls_vc (rs := [.tmp 4]) Try.func125 rfl rfl Try.ntmps125 rfl rfl ?_
  have hm : ∀ n, (madeCells #[Value.bool false] n).toList = List.replicate n (.bool false) := by
    intro n
    rw [made_same (v := .bool false) (by simp) (by intro i hi; simp at hi; subst hi; rfl)]
  simp (maxSteps := 1000000) [go_sem, hm]
  try refine andK_intro (by omega) ?_
  have hlast : (H ++ [(⟨List.replicate n (.bool false), true, true⟩ : Blk)])[H.length]? = some ⟨List.replicate n (.bool false), true, true⟩ := by simp
  have hpl : H <+: H ++ [⟨List.replicate n (.bool false), true, true⟩] := List.prefix_append _ _
  generalize H ++ [(⟨List.replicate n (.bool false), true, true⟩ : Blk)] = H0 at hlast hpl ⊢
  refine AWp.loopVc (St := Nat) (fun s => [(0, lv 1 i o xs.length), (1, .int .i64 n), (5, .slice (some ⟨H.length, 0, none⟩) n n), (6, .int .i64 s)])
    (fun s H' => s ≤ xs.length ∧ H <+: H' ∧ H'[H.length]? = some ⟨metL n (xs.take s), true, true⟩ ∧ (∀ x ∈ xs.take s, 0 ≤ x ∧ x < n) ∧ (xs.take s).Nodup) (fun s => xs.length - s) 0 ?_ ?_ ?_
  · simp [upF, Fr.get, Up.refl]
  · exact ⟨by omega, hpl, by simpa [metL_nil] using hlast, by simp, by simp⟩
  · rintro K s H' ⟨hs, hp, hc, hin, hnd⟩ hK
    by_cases hlt : s < xs.length
    · have hxs : (ints xs)[s]? = some (.int .i64 xs[s]) := by simp [ints, List.getElem?_eq_getElem hlt]
      have c1 := (h1.pre hp).cell hxs
      obtain ⟨x, hx⟩ : ∃ x, xs[s] = x := ⟨_, rfl⟩
      rw [hx] at c1 hxs
      have hmem : x ∈ xs := hx ▸ List.getElem_mem hlt
      have hsn : xs.take (s + 1) = xs.take s ++ [x] := by rw [List.take_succ_eq_append_getElem hlt, hx]
      have wn : IntKind.i64.wrap ((n : Int) - 1) = (n : Int) - 1 := i64w (by omega) (by omega)
      have hw_s : IntKind.i64.wrap ((s : Int) + 1) = (s : Int) + 1 := i64w (by omega) (by omega)
      simp (maxSteps := 1000000) [go_sem, hlt, c1, wn]
      refine l01In_ok _ ?_
      by_cases hr : 0 ≤ x ∧ x ≤ (n : Int) - 1
      · have er : (decide (0 ≤ x) && decide (x ≤ (n : Int) - 1)) = true := by simp [hr]
        rw [er]
        obtain ⟨k, rfl⟩ : ∃ k : Nat, x = k := ⟨x.toNat, by omega⟩
        have hkn : k < n := by omega
        have c2 : cellsAt H' H.length k 1 = some [.bool (decide ((k : Int) ∈ xs.take s))] := Holds.cell ⟨true, hc⟩ (metL_get hkn)
        by_cases hd : (k : Int) ∈ xs.take s
        · rw [decide_eq_true hd] at c2
          simp (maxSteps := 1000000) [go_sem, hlt, c1, c2, hkn]
          refine h H' false hp ⟨fun e => (by cases e), fun e => ?_⟩
          have hnd2 := e.2.1
          rw [← List.take_append_drop (s + 1) xs, hsn] at hnd2
          have := (List.nodup_append.1 (List.nodup_append.1 hnd2).1).2.2 k hd k (by simp)
          exact absurd rfl this
        · rw [decide_eq_false hd] at c2
          have s2 : storeAt H' H.length k [.bool true] = some (H'.set H.length ⟨metL n (xs.take (s + 1)), true, true⟩) := by
            rw [storeAt_of hc rfl rfl (by simp only [metL_length, List.length_singleton]; omega) (by simp [Value.oneCell']), over_one (by simp only [metL_length]; omega), ← metL_snoc, hsn]
          have fin := fun fr' hf => hK (s + 1) fr' (H'.set H.length ⟨metL n (xs.take (s + 1)), true, true⟩) (by omega) hf ⟨by omega, (show Same (fun j => j = H.length) H _ from (Same.of_prefix hp).trans Same.set).prefix (by omega), by rw [List.getElem?_set_self (List.getElem?_eq_some_iff.1 hc).1], by
            intro y hy
            rw [hsn, List.mem_append, List.mem_singleton] at hy
            rcases hy with hy | rfl
            · exact hin y hy
            · omega, by
            rw [hsn, List.nodup_append]
            exact ⟨hnd, by simp, fun a ha b hb => by simp at hb; subst hb; rintro rfl; exact hd ha⟩⟩
          generalize H'.set H.length ⟨metL n (xs.take (s + 1)), true, true⟩ = H3 at s2 fin
          simp (maxSteps := 1000000) [go_sem, hlt, c1, c2, hkn, s2, hw_s]
          exact fin _ (by simp [upF, Fr.get, Up.refl])
      · have er : (decide (0 ≤ x) && decide (x ≤ (n : Int) - 1)) = false := by
          rw [Bool.and_eq_false_iff, decide_eq_false_iff_not, decide_eq_false_iff_not]; omega
        rw [er]
        simp (maxSteps := 1000000) [go_sem, undef]
        refine h H' false hp ⟨fun e => (by cases e), fun e => ?_⟩
        have := e.2.2 x hmem
        omega
    · have : s = xs.length := by omega
      subst this
      rw [List.take_length] at hin hnd
      have fin := h H' ((xs.length : Int) == n) hp ⟨fun e => ⟨by simpa using e, hnd, hin⟩, fun e => by simpa using e.1⟩
      simp (maxSteps := 1000000) [go_sem]
      exact fin

theorem l01Renamed_ok {H : Heap} {u w : Value} {p : Int} {bs : List Bk} {xs : List Int} (hu : BlocksAt H u bs) (hw : IntsAt H w xs) (hS : IsSys p bs) (hO : OrdL p xs) (Post : Value → Heap → Prop)
    (h : ∀ H' z, H <+: H' → BlocksIn H.length H'.length H' z (sortB (bs.map (renB xs))) → Post (sysV p z) H') :
    ACalls Try.prog 126 [sysV p u, w] H Post := by
  obtain ⟨i, o, rfl, h1, h2⟩ := hu
  obtain ⟨j, q, rfl, h3, h4⟩ := hw
  have hpx := hS.1
  have hlb := hS.2.1
  have hxl : (xs.length : Int) = p := hO.1
  refine acalls_vc (rs := [.cell 4 38]) Try.func126 rfl rfl Try.ntmps126 rfl rfl ?_
  simp (maxSteps := 1000000) [go_sem, sysV]
  have hp0 : H <+: H ++ [⟨[.int .i64 p, lv 3 i o bs.length], true, true⟩, ⟨[.int .i64 0, .slice none 0 0], true, true⟩] := List.prefix_append _ _
  have hx0 : Holds (H ++ [⟨[.int .i64 p, lv 3 i o bs.length], true, true⟩, ⟨[.int .i64 0, .slice none 0 0], true, true⟩]) H.length [.int .i64 p, lv 3 i o bs.length] := ⟨true, by simp⟩
  have hb0 : (H ++ [(⟨[.int .i64 p, lv 3 i o bs.length], true, true⟩ : Blk), ⟨[.int .i64 0, .slice none 0 0], true, true⟩])[H.length + 1]? = some ⟨[.int .i64 0, .slice none 0 0], true, true⟩ := by simp
  have hlen0 : (H ++ [(⟨[.int .i64 p, lv 3 i o bs.length], true, true⟩ : Blk), ⟨[.int .i64 0, .slice none 0 0], true, true⟩]).length = H.length + 2 := by simp
  rw [show H ++ [(⟨[.int .i64 p, lv 3 i o bs.length], true, true⟩ : Blk), ⟨[.int .i64 0, .slice none 0 0], true, true⟩, ⟨[], true, true⟩] = (H ++ [(⟨[.int .i64 p, lv 3 i o bs.length], true, true⟩ : Blk), ⟨[.int .i64 0, .slice none 0 0], true, true⟩]) ++ [⟨[], true, true⟩] by simp]
  generalize H ++ [(⟨[.int .i64 p, lv 3 i o bs.length], true, true⟩ : Blk), ⟨[.int .i64 0, .slice none 0 0], true, true⟩] = H0 at hp0 hx0 hb0 hlen0 ⊢
  have hbl0 := Bl.nil 3 H0
  generalize H0 ++ [(⟨[], true, true⟩ : Blk)] = HG at hbl0 ⊢
  refine AWp.loopVc (St := Nat × Nat) (fun s => [(1, lv 1 j q xs.length), (2, .pointer (some ⟨H.length, 0, none⟩)), (4, .pointer (some ⟨H.length + 1, 0, none⟩)), (5, lv 3 s.2 0 s.1), (6, .int .i64 s.1)])
    (fun s H' => s.1 ≤ bs.length ∧ Bl 3 H0 H' s.2 (tri ((bs.take s.1).map (renB xs))) s.1) (fun s => bs.length - s.1) (0, H0.length) ?_ ?_ ?_
  · simp [upF, Fr.get, Up.refl, Up.ex0]
  · exact ⟨by simp, by simpa [tri] using hbl0⟩
  · rintro K ⟨s, id⟩ H' ⟨hs, hbl⟩ hK
    simp only at hs hbl
    obtain ⟨d0, d1, d2⟩ := (hx0.pre hbl.1).sys
    by_cases hlt : s < bs.length
    · have hbs : bs[s]? = some bs[s] := List.getElem?_eq_getElem hlt
      have c1 := (h1.pre (hp0.trans hbl.1)).bk hbs
      simp only [Bk.cells] at c1
      have hw_s : IntKind.i64.wrap ((s : Int) + 1) = (s : Int) + 1 := i64w (by omega) (by omega)
      have hgd : good p bs[s] = true := hS.good bs[s] (List.getElem_mem hlt)
      obtain ⟨b, hb⟩ : ∃ b, bs[s] = b := ⟨_, rfl⟩
      rw [hb] at c1 hbs hgd
      have hg' := good_iff.1 hgd
      obtain ⟨x, y, z, rfl, hxy, hyz, hz15⟩ := good_nat hgd hpx.2
      simp only at hg' c1
      have lx : x < xs.length := by omega
      have ly : y < xs.length := by omega
      have lz : z < xs.length := by omega
      have bx := hO.bound hpx.2 lx
      have by' := hO.bound hpx.2 ly
      have bz := hO.bound hpx.2 lz
      simp (maxSteps := 1000000) [go_sem, hlt, c1, d0, d1, d2]
      have hpb : H' <+: H' ++ [⟨[.int .i64 x, .int .i64 y, .int .i64 z], true, true⟩] := List.prefix_append _ _
      have hxb := Holds.last H' [.int .i64 x, .int .i64 y, .int .i64 z]
      have hbl1 := hbl.pre hpb
      generalize H' ++ [(⟨[.int .i64 x, .int .i64 y, .int .i64 z], true, true⟩ : Blk)] = H1 at *
      obtain ⟨e0, e1, e2, e3⟩ := hxb.bk
      have hx3 := h3.pre (hp0.trans hbl1.1)
      have f1 := hx3.cell (k := x) (v := .int .i64 (nthI xs x)) (by simp [ints, nthI_in lx])
      have f2 := hx3.cell (k := y) (v := .int .i64 (nthI xs y)) (by simp [ints, nthI_in ly])
      have f3 := hx3.cell (k := z) (v := .int .i64 (nthI xs z)) (by simp [ints, nthI_in lz])
      refine AWp.draw mixed [(0, false), (1, false), (2, false), (3, false), (4, false), (5, false), (6, false), (7, false), (8, false), (9, false), (10, false), (11, false), (12, false), (13, false), (14, false), (15, false), (16, false), (17, false), (18, false), (19, false)] (by kernel_rfl) ?_
      simp (maxSteps := 1000000) [go_sem, e1, e2, e3, f1, f2, f3, lx, ly, lz]
      refine l01Block_ok (by omega) (by omega) (by omega) _ ?_
      intro H2 hp2
      have hcb : renB xs ⟨x, y, z⟩ = blk (nthI xs x) (nthI xs y) (nthI xs z) := rfl
      rw [← hcb]
      obtain ⟨c, hc⟩ : ∃ c, renB xs ⟨x, y, z⟩ = c := ⟨_, rfl⟩
      rw [hc]
      have hsn : (bs.take (s + 1)).map (renB xs) = (bs.take s).map (renB xs) ++ [c] := by rw [List.take_succ_eq_append_getElem hlt, hb, List.map_append]; simp [hc]
      obtain ⟨hsrc, H5, hap, hbl5⟩ := (hbl1.pre hp2).push (xs := c.cells) (by omega) rfl
      simp only [Bk.cells] at hsrc hap hbl5
      simp (maxSteps := 1000000) [go_sem, Bk.val, hw_s, hsrc, hap]
      refine andK_intro (by omega) (hK (s + 1, H2.length + 1) _ _ (by simp only; omega) (by simp [upF, Fr.get, Up.refl]) ⟨by simp only; omega, ?_⟩)
      simp only [hsn, tri_append, tri_one, Bk.cells]
      exact hbl5
    · have : s = bs.length := by omega
      subst this
      rw [List.take_length] at hbl
      have hlm : (bs.map (renB xs)).length = bs.length := List.length_map _
      have hown : BlocksIn H0.length H'.length H' (lv 3 id 0 bs.length) (bs.map (renB xs)) := by
        rw [← hlm]
        exact OwnBlocks.inn (OwnBlocks.of_ol (by rw [hlm]; exact hbl.2.1) (by omega)) hbl.2.2
      simp (maxSteps := 1000000) [go_sem, d0, d1, d2]
      refine l01Made_ok hown.read (by omega) _ ?_
      intro H2 z hp2 hz
      obtain ⟨q1, q2, q3, q4⟩ := put2 (cs := [.int .i64 p, z]) hp0 (show H.length ≤ H.length + 1 by omega) hb0 rfl (hbl.1.trans hp2) rfl (by simp [one_int, hz.one])
      have hll := hbl.1.length_le
      have fin := h _ z q3 (by rw [List.length_set]; exact (hz.keep q4 (fun j hj e => by have := hj.1; omega)).wider (by omega))
      simp (maxSteps := 1000000) [go_sem, sysV, q1, q2]
      exact fin

theorem specRenumber_ok {H : Heap} {u w : Value} {p : Int} {bs : List Bk} {xs : List Int} (hu : BlocksAt H u bs) (hl : bs.length ≤ 1048576) (hw : IntsAt H w xs) (hl' : xs.length ≤ 1048576) (h64 : ∀ x ∈ xs, In64 x) (Post : Value → Heap → Prop)
    (h : ∀ H' z, H <+: H' → BlocksIn H.length H'.length H' z (rRen p bs xs).1.2 → Post (.tuple #[sysV (rRen p bs xs).1.1 z, .int .i64 (rRen p bs xs).2]) H') :
    ACalls Try.prog 66 [sysV p u, w] H Post := by
  have ou := hu.one
  refine ACalls.res ?_
  refine acalls_vc (rs := [.cell 4 38, .tmp 5]) Try.func66 rfl rfl Try.ntmps66 rfl rfl ?_
  simp (maxSteps := 1000000) [go_sem, sysV, ou]
  have hp0 : H <+: H ++ [⟨[.int .i64 p, u], true, true⟩, ⟨[.int .i64 0, .slice none 0 0], true, true⟩] := List.prefix_append _ _
  have hx0 : Holds (H ++ [⟨[.int .i64 p, u], true, true⟩, ⟨[.int .i64 0, .slice none 0 0], true, true⟩]) H.length [.int .i64 p, u] := ⟨true, by simp⟩
  have hb0 : (H ++ [(⟨[.int .i64 p, u], true, true⟩ : Blk), ⟨[.int .i64 0, .slice none 0 0], true, true⟩])[H.length + 1]? = some ⟨[.int .i64 0, .slice none 0 0], true, true⟩ := by simp
  have hlen0 : (H ++ [(⟨[.int .i64 p, u], true, true⟩ : Blk), ⟨[.int .i64 0, .slice none 0 0], true, true⟩]).length = H.length + 2 := by simp
  generalize H ++ [(⟨[.int .i64 p, u], true, true⟩ : Blk), ⟨[.int .i64 0, .slice none 0 0], true, true⟩] = H0 at hp0 hx0 hb0 hlen0 ⊢
  have bad := bad_sys hp0 (show H.length ≤ H.length + 1 by omega) hb0 h
  refine l01Is' (hu.pre hp0) hl _ ?_
  intro H1 hp1
  obtain ⟨d0, d1, d2⟩ := (hx0.pre hp1).sys
  cases hs : sysB p bs with
  | false =>
    obtain ⟨H9, q1, q2, fin⟩ := bad H1 1 hp1 (by rw [rRen, hs]; simp)
    simp (maxSteps := 1000000) [go_sem, q1, q2]
    exact fin
  | true =>
    have hS := sysB_iff.1 hs
    have hpx := hS.1
    obtain ⟨n, rfl⟩ : ∃ n : Nat, p = n := ⟨p.toNat, by omega⟩
    simp (maxSteps := 1000000) [go_sem, d0, d1, d2]
    refine l01Order_ok (hw.pre (hp0.trans hp1)) (by omega) _ ?_
    intro H2 b hp2 hb
    obtain ⟨d0, d1, d2⟩ := (hx0.pre (hp1.trans hp2)).sys
    cases b with
    | false =>
      have hO : ¬ OrdL n xs := fun e => by have := hb.2 e; cases this
      obtain ⟨H9, q1, q2, fin⟩ := bad H2 2 (hp1.trans hp2) (by rw [rRen, hs, if_pos rfl, if_neg hO])
      simp (maxSteps := 1000000) [go_sem, q1, q2]
      exact fin
    | true =>
      have hO := hb.1 rfl
      have hr : rRen n bs xs = (((n : Int), sortB (bs.map (renB xs))), 0) := by rw [rRen, hs, if_pos rfl, if_pos hO]
      simp (maxSteps := 1000000) [go_sem, d0, d1, d2]
      refine l01Renamed_ok (hu.pre (hp0.trans (hp1.trans hp2))) (hw.pre (hp0.trans (hp1.trans hp2))) hS hO _ ?_
      intro H3 z hp3 hz
      obtain ⟨q1, q2, q3, q4⟩ := put2 (cs := [.int .i64 n, z]) hp0 (show H.length ≤ H.length + 1 by omega) hb0 rfl (hp1.trans (hp2.trans hp3)) rfl (by simp [one_int, hz.one])
      have hll := hp1.length_le
      have hll2 := hp2.length_le
      have fin := h _ z q3 (by rw [hr, List.length_set]; exact (hz.keep q4 (fun j hj e => by have := hj.1; omega)).wider (by omega))
      rw [hr] at fin
      simp (maxSteps := 1000000) [go_sem, sysV, q1, q2]
      exact ⟨_, Up.refl _ _, fin⟩

end Go.Proofs.Ytdfeoccjllljiaa
end

section
/- LeadsTo: both sides. -/
set_option linter.all false
set_option maxRecDepth 20000
set_option maxHeartbeats 8000000
namespace Go.Proofs.Ytdfeoccjllljiaa
open Go.Ab Go.Sort

instance : DecidableEq Bk := fun x y => decidable_of_iff _ (Bk.eq3 x y).symm
open Classical in
noncomputable def rLead (p : Int) (bs : List Bk) (q : Int) (cs : List Bk) (xs : List Int) : Bool × Int :=
  if sysB p bs && sysB q cs then (if OrdL p xs then (decide (p = q) && decide (sortB (bs.map (renB xs)) = cs), 0) else (false, 2)) else (false, 1)

theorem equalB_ok {H : Heap} {u w : Value} {bs cs : List Bk} (hu : BlocksAt H u bs) (hw : BlocksAt H w cs) (Post : Value → Heap → Prop) (h : Post (.bool (decide (bs = cs))) H) :
    ACalls Try.prog 128 [u, w] H Post := by
  obtain ⟨i, o, rfl, h1, h2⟩ := hu
  obtain ⟨j, q, rfl, h3, h4⟩ := hw
  refine acalls_vc (rs := [.tmp 4]) Try.func128 rfl rfl Try.ntmps128 rfl rfl ?_
  by_cases hl : bs.length = cs.length
  · have hlb : ((bs.length : Int) != (cs.length : Int)) = false := by rw [bne_eq_false_iff_eq]; omega
    simp (maxSteps := 1000000) [go_sem, hlb]
    refine AWp.loopVc (St := Nat) (fun s => [(0, lv 3 i o bs.length), (1, lv 3 j q cs.length), (12, .int .i64 bs.length), (13, .int .i64 s)])
      (fun s H' => s ≤ bs.length ∧ H' = H ∧ bs.take s = cs.take s) (fun s => bs.length - s) 0 ?_ ?_ ?_
    · simp [upF, Fr.get, Up.refl, hl]
    · exact ⟨by omega, rfl, by simp⟩
    · rintro K s H' ⟨hs, rfl, ht⟩ hK
      by_cases hlt : s < bs.length
      · have hlt2 : s < cs.length := by omega
        have c1 := h1.bk (List.getElem?_eq_getElem hlt)
        have c2 := h3.bk (List.getElem?_eq_getElem hlt2)
        simp only [Bk.cells] at c1 c2
        have hw_s : IntKind.i64.wrap ((s : Int) + 1) = (s : Int) + 1 := i64w (by omega) (by omega)
        simp (maxSteps := 1000000) [go_sem, hlt]
        refine AWp.draw mixed [(0, false), (1, false), (2, false), (3, false), (4, false), (5, false), (6, false), (7, false), (8, false)] (by kernel_rfl) ?_
        by_cases he : bs[s] = cs[s]
        · have he' := (Bk.eq3 _ _).1 he
          rw [he] at c1
          simp (maxSteps := 1000000) [go_sem, hlt, hlt2, c1, c2, hw_s]
          refine hK (s + 1) _ _ (by omega) (by simp [upF, Fr.get, Up.refl]) ⟨by omega, rfl, ?_⟩
          rw [List.take_succ_eq_append_getElem hlt, List.take_succ_eq_append_getElem hlt2, ht, he]
        · have he' : ¬ (bs[s].a = cs[s].a ∧ bs[s].b = cs[s].b ∧ bs[s].c = cs[s].c) := fun hh => he ((Bk.eq3 _ _).2 hh)
          have fin : decide (bs = cs) = false := by
            rw [decide_eq_false_iff_not]
            intro e
            exact he (by subst e; rfl)
          rw [fin] at h
          simp (maxSteps := 1000000) [go_sem, hlt, hlt2, c1, c2]
          refine condK_intro (fun _ => h) (fun hh => absurd ?_ he')
          simpa using hh
      · have : s = bs.length := by omega
        subst this
        have e : bs = cs := by rw [List.take_length] at ht; rw [ht]; exact List.take_of_length_le (by omega)
        rw [decide_eq_true e] at h
        simp (maxSteps := 1000000) [go_sem]
        exact h
  · have hlb : ((bs.length : Int) != (cs.length : Int)) = true := by rw [bne_iff_ne]; omega
    have e : decide (bs = cs) = false := by rw [decide_eq_false_iff_not]; rintro rfl; exact hl rfl
    rw [e] at h
    simp (maxSteps := 1000000) [go_sem, hlb]
    exact h

theorem implLeads_ok {H : Heap} {u y w : Value} {p q : Int} {bs cs : List Bk} {xs : List Int} (hu : BlocksAt H u bs) (hl : bs.length ≤ 1048576) (hy : BlocksAt H y cs) (hlc : cs.length ≤ 1048576) (hw : IntsAt H w xs) (hl' : xs.length ≤ 1048576) (h64 : ∀ x ∈ xs, In64 x) (Post : Value → Heap → Prop)
    (h : ∀ H', H <+: H' → Post (.tuple #[.bool (rLead p bs q cs xs).1, .int .i64 (rLead p bs q cs xs).2]) H') :
    ACalls Try.prog 65 [sysV p u, sysV q y, w] H Post := by
  have ou := hu.one
  have oy := hy.one
  refine acalls_vc (rs := [.tmp 6, .tmp 7]) Try.func65 rfl rfl Try.ntmps65 rfl rfl ?_
  simp (maxSteps := 1000000) [go_sem, sysV, ou, oy]
  have hp0 : H <+: H ++ [⟨[.int .i64 p, u], true, true⟩, ⟨[.int .i64 q, y], true, true⟩] := List.prefix_append _ _
  have hx0 : Holds (H ++ [⟨[.int .i64 p, u], true, true⟩, ⟨[.int .i64 q, y], true, true⟩]) H.length [.int .i64 p, u] := ⟨true, by simp⟩
  have hx1 : Holds (H ++ [⟨[.int .i64 p, u], true, true⟩, ⟨[.int .i64 q, y], true, true⟩]) (H.length + 1) [.int .i64 q, y] := ⟨true, by simp⟩
  generalize H ++ [(⟨[.int .i64 p, u], true, true⟩ : Blk), ⟨[.int .i64 q, y], true, true⟩] = H0 at hp0 hx0 hx1 ⊢
  refine implIsSys (hu.pre hp0) _ ?_
  intro H1 hp1
  obtain ⟨d0, d1, d2⟩ := (hx0.pre hp1).sys
  obtain ⟨e0, e1, e2⟩ := (hx1.pre hp1).sys
  cases hs : sysB p bs with
  | false =>
    have fin := h H1 (hp0.trans hp1)
    simp only [rLead, hs, Bool.false_and, Bool.false_eq_true, if_false] at fin
    simp (maxSteps := 1000000) [go_sem, undef]
    exact fin
  | true =>
    simp (maxSteps := 1000000) [go_sem, e0, e1, e2]
    refine implIsSys (hy.pre (hp0.trans hp1)) _ ?_
    intro H2 hp2
    have hp02 := hp1.trans hp2
    obtain ⟨d0, d1, d2⟩ := (hx0.pre hp02).sys
    obtain ⟨e0, e1, e2⟩ := (hx1.pre hp02).sys
    cases hs2 : sysB q cs with
    | false =>
      have fin := h H2 (hp0.trans hp02)
      simp only [rLead, hs, hs2, Bool.and_false, Bool.false_eq_true, if_false] at fin
      simp (maxSteps := 1000000) [go_sem]
      exact fin
    | true =>
      have hS := sysB_iff.1 hs
      have hpx := hS.1
      simp (maxSteps := 1000000) [go_sem, d0, d1, d2]
      refine isOrder_ok (hw.pre (hp0.trans hp02)) hl' (by omega) _ ?_
      intro H3 b hp3 hb
      have hp03 := hp02.trans hp3
      obtain ⟨d0, d1, d2⟩ := (hx0.pre hp03).sys
      obtain ⟨e0, e1, e2⟩ := (hx1.pre hp03).sys
      cases b with
      | false =>
        have hO : ¬ OrdL p xs := fun e => by have := hb.2 e; cases this
        have fin := h H3 (hp0.trans hp03)
        simp only [rLead, hs, hs2, Bool.and_self, if_true, if_neg hO] at fin
        simp (maxSteps := 1000000) [go_sem]
        exact fin
      | true =>
        have hO := hb.1 rfl
        have fin := fun H' hp => h H' hp
        simp only [rLead, hs, hs2, Bool.and_self, if_true, if_pos hO] at fin
        simp (maxSteps := 1000000) [go_sem]
        refine AWp.draw mixed [(0, false), (1, false), (2, false), (3, false), (4, false), (5, false), (6, false), (7, false), (10, false), (11, false), (8, true), (9, false), (12, false), (13, false), (14, false), (15, false)] (by kernel_rfl) ?_
        by_cases hpq : p = q
        · have hpqb : (p == q) = true := by simpa using hpq
          simp (maxSteps := 1000000) [go_sem, d0, d1, d2, e0, e1, e2, hpqb]
          refine renumbered_ok (hu.pre (hp0.trans hp03)) (hw.pre (hp0.trans hp03)) hS hO _ ?_
          intro H4 z hp4 hz
          have hp04 := hp03.trans hp4
          obtain ⟨zi, zo, rfl, hz1, hz2⟩ := hz.read
          simp (maxSteps := 1000000) [go_sem, sysV, hp4, partV]
          refine equalB_ok ⟨zi, zo, rfl, hz1, hz2⟩ (hy.pre (hp0.trans hp04)) _ ?_
          have fin := fin H4 (hp0.trans hp04)
          rw [decide_eq_true hpq, Bool.true_and] at fin
          simp (maxSteps := 1000000) [go_sem]
          exact fin
        · have hpqb : (p == q) = false := by simpa using hpq
          have fin := fin H3 (hp0.trans hp03)
          rw [decide_eq_false hpq, Bool.false_and] at fin
          simp (maxSteps := 1000000) [go_sem, undef, d0, d1, d2, e0, e1, e2, hpqb]
          exact fin

theorem specLeads_ok {H : Heap} {u y w : Value} {p q : Int} {bs cs : List Bk} {xs : List Int} (hu : BlocksAt H u bs) (hl : bs.length ≤ 1048576) (hy : BlocksAt H y cs) (hlc : cs.length ≤ 1048576) (hw : IntsAt H w xs) (hl' : xs.length ≤ 1048576) (h64 : ∀ x ∈ xs, In64 x) (Post : Value → Heap → Prop)
    (h : ∀ H', H <+: H' → Post (.tuple #[.bool (rLead p bs q cs xs).1, .int .i64 (rLead p bs q cs xs).2]) H') :
    ACalls Try.prog 63 [sysV p u, sysV q y, w] H Post := by
  have ou := hu.one
  have oy := hy.one
  refine acalls_vc (rs := [.tmp 6, .tmp 7]) Try.func63 rfl rfl Try.ntmps63 rfl rfl ?_
  simp (maxSteps := 1000000) [go_sem, sysV, ou, oy]
  have hp0 : H <+: H ++ [⟨[.int .i64 p, u], true, true⟩, ⟨[.int .i64 q, y], true, true⟩] := List.prefix_append _ _
  have hx0 : Holds (H ++ [⟨[.int .i64 p, u], true, true⟩, ⟨[.int .i64 q, y], true, true⟩]) H.length [.int .i64 p, u] := ⟨true, by simp⟩
  have hx1 : Holds (H ++ [⟨[.int .i64 p, u], true, true⟩, ⟨[.int .i64 q, y], true, true⟩]) (H.length + 1) [.int .i64 q, y] := ⟨true, by simp⟩
  generalize H ++ [(⟨[.int .i64 p, u], true, true⟩ : Blk), ⟨[.int .i64 q, y], true, true⟩] = H0 at hp0 hx0 hx1 ⊢
  refine l01Is' (hu.pre hp0) hl _ ?_
  intro H1 hp1
  obtain ⟨d0, d1, d2⟩ := (hx0.pre hp1).sys
  obtain ⟨e0, e1, e2⟩ := (hx1.pre hp1).sys
  cases hs : sysB p bs with
  | false =>
    have fin := h H1 (hp0.trans hp1)
    simp only [rLead, hs, Bool.false_and, Bool.false_eq_true, if_false] at fin
    simp (maxSteps := 1000000) [go_sem, undef]
    exact fin
  | true =>
    simp (maxSteps := 1000000) [go_sem, e0, e1, e2]
    refine l01Is' (hy.pre (hp0.trans hp1)) hlc _ ?_
    intro H2 hp2
    have hp02 := hp1.trans hp2
    obtain ⟨d0, d1, d2⟩ := (hx0.pre hp02).sys
    obtain ⟨e0, e1, e2⟩ := (hx1.pre hp02).sys
    cases hs2 : sysB q cs with
    | false =>
      have fin := h H2 (hp0.trans hp02)
      simp only [rLead, hs, hs2, Bool.and_false, Bool.false_eq_true, if_false] at fin
      simp (maxSteps := 1000000) [go_sem]
      exact fin
    | true =>
      have hS := sysB_iff.1 hs
      have hpx := hS.1
      obtain ⟨n, rfl⟩ : ∃ n : Nat, p = n := ⟨p.toNat, by omega⟩
      simp (maxSteps := 1000000) [go_sem, d0, d1, d2]
      refine l01Order_ok (hw.pre (hp0.trans hp02)) (by omega) _ ?_
      intro H3 b hp3 hb
      have hp03 := hp02.trans hp3
      obtain ⟨d0, d1, d2⟩ := (hx0.pre hp03).sys
      obtain ⟨e0, e1, e2⟩ := (hx1.pre hp03).sys
      cases b with
      | false =>
        have hO : ¬ OrdL n xs := fun e => by have := hb.2 e; cases this
        have fin := h H3 (hp0.trans hp03)
        simp only [rLead, hs, hs2, Bool.and_self, if_true, if_neg hO] at fin
        simp (maxSteps := 1000000) [go_sem]
        exact fin
      | true =>
        have hO := hb.1 rfl
        have fin := fun H' hp => h H' hp
        simp only [rLead, hs, hs2, Bool.and_self, if_true, if_pos hO] at fin
        simp (maxSteps := 1000000) [go_sem, d0, d1, d2]
        refine l01Renamed_ok (hu.pre (hp0.trans hp03)) (hw.pre (hp0.trans hp03)) hS hO _ ?_
        intro H4 z hp4 hz
        have oz := hz.one
        simp (maxSteps := 1000000) [go_sem, sysV, oz]
        have hpz : H4 <+: H4 ++ [⟨[.int .i64 n, z], true, true⟩] := List.prefix_append _ _
        have hxz := Holds.last H4 [.int .i64 n, z]
        have hp05 := hp03.trans (hp4.trans hpz)
        have hz5 := hz.read.pre hpz
        generalize H4 ++ [(⟨[.int .i64 n, z], true, true⟩ : Blk)] = H5 at hpz hxz hp05 hz5 ⊢
        have fin := fin H5 (hp0.trans hp05)
        have hy5 := hy.pre (hp0.trans hp05)
        obtain ⟨e0, e1, e2⟩ := (hx1.pre hp05).sys
        obtain ⟨f0, f1, f2⟩ := hxz.sys
        obtain ⟨ds, hds⟩ : ∃ ds, sortB (bs.map (renB xs)) = ds := ⟨_, rfl⟩
        rw [hds] at hz5 fin
        by_cases hpq : (n : Int) = q
        · have hpqb : ((n : Int) != q) = false := by rw [bne_eq_false_iff_eq]; exact hpq
          obtain ⟨i, o, rfl, h1, h2⟩ := hz5
          obtain ⟨j, k, rfl, h3, h4⟩ := hy5
          by_cases hle : ds.length = cs.length
          · have hleb : ((ds.length : Int) != (cs.length : Int)) = false := by rw [bne_eq_false_iff_eq]; omega
            simp (maxSteps := 1000000) [go_sem, e0, e1, e2, f0, f1, f2, hpqb, hleb]
            refine AWp.loopVc (St := Nat) (fun s => [(4, .pointer (some ⟨H.length + 1, 0, none⟩)), (8, .pointer (some ⟨H4.length, 0, none⟩)), (9, .int .i64 s)])
              (fun s H' => s ≤ ds.length ∧ H' = H5 ∧ ds.take s = cs.take s) (fun s => ds.length - s) 0 ?_ ?_ ?_
            · simp [upF, Fr.get, Up.refl]
            · exact ⟨by omega, rfl, by simp⟩
            · rintro K s H' ⟨hs', rfl, ht⟩ hK
              by_cases hlt : s < ds.length
              · have hlt2 : s < cs.length := by omega
                have c1 := h1.bk (List.getElem?_eq_getElem hlt)
                have c2 := h3.bk (List.getElem?_eq_getElem hlt2)
                simp only [Bk.cells] at c1 c2
                have hw_s : IntKind.i64.wrap ((s : Int) + 1) = (s : Int) + 1 := i64w (by omega) (by omega)
                simp (maxSteps := 1000000) [go_sem, hlt, f2]
                refine AWp.draw mixed [(0, false), (1, false), (2, false), (3, false), (4, false), (5, false), (6, false), (7, false), (8, false), (9, false), (10, false)] (by kernel_rfl) ?_
                by_cases he : ds[s] = cs[s]
                · rw [he] at c1
                  simp (maxSteps := 1000000) [go_sem, hlt, hlt2, c1, c2, e2, f2, hw_s]
                  refine hK (s + 1) _ _ (by omega) (by simp [upF, Fr.get, Up.refl]) ⟨by omega, rfl, ?_⟩
                  rw [List.take_succ_eq_append_getElem hlt, List.take_succ_eq_append_getElem hlt2, ht, he]
                · have he' : ¬ (ds[s].a = cs[s].a ∧ ds[s].b = cs[s].b ∧ ds[s].c = cs[s].c) := fun hh => he ((Bk.eq3 _ _).2 hh)
                  have fe : decide (ds = cs) = false := by
                    rw [decide_eq_false_iff_not]
                    intro e
                    exact he (by subst e; rfl)
                  rw [fe, Bool.and_false] at fin
                  simp (maxSteps := 1000000) [go_sem, hlt, hlt2, c1, c2, e2, f2]
                  refine condK_intro (fun _ => fin) (fun hh => absurd ?_ he')
                  simpa using hh
              · have : s = ds.length := by omega
                subst this
                have e : ds = cs := by rw [List.take_length] at ht; rw [ht]; exact List.take_of_length_le (by omega)
                rw [decide_eq_true e, decide_eq_true hpq, Bool.and_self] at fin
                simp (maxSteps := 1000000) [go_sem, f2]
                exact fin
          · have hleb : ((ds.length : Int) != (cs.length : Int)) = true := by rw [bne_iff_ne]; omega
            have fe : decide (ds = cs) = false := by rw [decide_eq_false_iff_not]; rintro rfl; exact hle rfl
            rw [fe, Bool.and_false] at fin
            simp (maxSteps := 1000000) [go_sem, e0, e1, e2, f0, f1, f2, hpqb, hleb]
            exact fin
        · have hpqb : ((n : Int) != q) = true := by rw [bne_iff_ne]; exact hpq
          rw [decide_eq_false hpq, Bool.false_and] at fin
          simp (maxSteps := 1000000) [go_sem, undef, e0, e1, e2, f0, f1, f2, hpqb]
          exact fin

end Go.Proofs.Ytdfeoccjllljiaa
end
