/- Part 7 of what the proof of the law FnTradeParts rests on: contracts of functions of the program, for every argument that each names; no statement of the seat is proved here. -/
import Derived.Test.YtkimaohcmcfcnaaGreatFnTradePartsPart6

set_option linter.all false
set_option maxRecDepth 20000
set_option maxHeartbeats 8000000
section
namespace Go.Proofs.YtkimaohcmcfcnaaGreat
open Go.Ab

def prs (b : Bk) : List (Int × Int) := [(b.a, b.b), (b.a, b.c), (b.b, b.c)]
def pairsB (bs : List Bk) : List (Int × Int) := bs.flatMap prs
theorem pairsB_length (bs : List Bk) : (pairsB bs).length = bs.length * 3 := by
  induction bs with
  | nil => rfl
  | cons b bs ih => simp only [pairsB, List.flatMap_cons, List.length_append, List.length_cons] at ih ⊢; rw [ih]; simp [prs]; omega
theorem mem_pairsB {bs : List Bk} {p : Int × Int} : p ∈ pairsB bs ↔ ∃ b ∈ bs, p ∈ prs b := by simp [pairsB]
theorem prs_has {b : Bk} {p : Int × Int} (h : p ∈ prs b) : b.has p.1 = true /\ b.has p.2 = true := by
  simp only [prs, List.mem_cons, List.not_mem_nil, or_false] at h
  rcases h with rfl | rfl | rfl <;> simp [Bk.has]
theorem prs_lt {v : Int} {b : Bk} (hg : good v b = true) {p : Int × Int} (h : p ∈ prs b) : 0 <= p.1 /\ p.1 < p.2 /\ p.2 < v := by
  rw [good_iff] at hg
  simp only [prs, List.mem_cons, List.not_mem_nil, or_false] at h
  rcases h with rfl | rfl | rfl <;> (simp only; omega)
theorem pairs_lt {v : Int} {bs : List Bk} (hg : ∀ x ∈ bs, good v x = true) {p : Int × Int} (h : p ∈ pairsB bs) : 0 <= p.1 /\ p.1 < p.2 /\ p.2 < v := by
  obtain ⟨b, hb, hp⟩ := mem_pairsB.1 h
  exact prs_lt (hg b hb) hp
theorem pairs_nodup {v : Int} {bs : List Bk} (hS : IsSys v bs) : (pairsB bs).Nodup := by
  unfold pairsB List.Nodup
  rw [List.pairwise_flatMap]
  constructor
  · intro b hb
    have hg := hS.good b hb
    rw [good_iff] at hg
    simp only [prs, List.pairwise_cons, List.mem_cons, List.not_mem_nil, or_false, forall_eq_or_imp, forall_eq, Prod.mk.injEq, ne_eq, false_implies, implies_true, and_true, List.Pairwise.nil]
    omega
  · rw [List.pairwise_iff_getElem]
    intro i j hi hj hij p hp q hq e
    subst e
    have hx : bs[i]? = some bs[i] := List.getElem?_eq_getElem hi
    have hy : bs[j]? = some bs[j] := List.getElem?_eq_getElem hj
    have hgx := hS.good _ (List.mem_of_getElem? hx)
    have hgy := hS.good _ (List.mem_of_getElem? hy)
    obtain ⟨c1, c2, c3⟩ := (common_le_one (w := v) hgy).1 (hS.2.2.2 j i _ _ hij hy hx)
    have h := prs_has hq
    simp only [prs, List.mem_cons, List.not_mem_nil, or_false] at hp
    rcases hp with rfl | rfl | rfl
    · exact c1 h
    · exact c2 h
    · exact c3 h

noncomputable def samePairs (x y : List Bk) : Bool := @decide (∀ p, p ∈ pairsB x ↔ p ∈ pairsB y) (Classical.propDecidable _)
theorem samePairs_iff {x y : List Bk} : samePairs x y = true ↔ ∀ p, p ∈ pairsB x ↔ p ∈ pairsB y := by simp [samePairs]
theorem samePairs_eq {x y : List Bk} {b : Bool} (h : b = true ↔ ∀ p, p ∈ pairsB x ↔ p ∈ pairsB y) : b = samePairs x y := by
  rw [<- samePairs_iff] at h
  cases b <;> cases hs : samePairs x y <;> simp_all

def ltP (p q : Int × Int) : Bool := decide (p.1 < q.1) || (decide (p.1 = q.1) && decide (p.2 < q.2))
theorem ltP_iff {p q : Int × Int} : ltP p q = true ↔ p.1 < q.1 \/ (p.1 = q.1 /\ p.2 < q.2) := by simp [ltP]
theorem ltP_false {p q : Int × Int} : ltP p q = false ↔ ¬ (p.1 < q.1 \/ (p.1 = q.1 /\ p.2 < q.2)) := by rw [<- ltP_iff]; simp
theorem sorted_pairs {vx vy : Int} {x y : List Bk} (hx : IsSys vx x) (hy : IsSys vy y) {l m : List (Int × Int)} (hl : l.Perm (pairsB x)) (hm : m.Perm (pairsB y))
    (sl : l.Pairwise fun p q => ltP q p = false) (sm : m.Pairwise fun p q => ltP q p = false) : decide (l = m) = samePairs x y := by
  refine samePairs_eq ?_
  rw [decide_eq_true_iff]
  constructor
  · rintro rfl p
    rw [<- hl.mem_iff, <- hm.mem_iff]
  · intro h
    have hp : l.Perm m := by
      refine (List.perm_ext_iff_of_nodup (hl.nodup_iff.2 (pairs_nodup hx)) (hm.nodup_iff.2 (pairs_nodup hy))).2 ?_
      intro p
      rw [hl.mem_iff, hm.mem_iff]; exact h p
    refine hp.eq_of_pairwise ?_ sl sm
    intro a b _ _ h1 h2
    rw [ltP_false] at h1 h2
    exact Prod.ext (by omega) (by omega)

def codeP (p : Int × Int) : Nat := (p.1 * 16 + p.2).toNat
def codesB (bs : List Bk) : List Nat := (pairsB bs).map codeP
theorem code_inj {p q : Int × Int} (hp : 0 <= p.1 /\ p.1 < p.2 /\ p.2 < 15) (hq : 0 <= q.1 /\ q.1 < q.2 /\ q.2 < 15) (h : codeP p = codeP q) : p = q := by
  unfold codeP at h
  exact Prod.ext (by omega) (by omega)
theorem codes_lt {bs : List Bk} (hg : ∀ x ∈ bs, good 15 x = true) {c : Nat} (h : c ∈ codesB bs) : c < 256 := by
  obtain ⟨p, hp, rfl⟩ := List.mem_map.1 h
  have := pairs_lt hg hp
  unfold codeP; omega
theorem same_codes {x y : List Bk} (hx : ∀ b ∈ x, good 15 b = true) (hy : ∀ b ∈ y, good 15 b = true) {b : Bool} (h : b = true ↔ ∀ c, c < 256 -> (c ∈ codesB x ↔ c ∈ codesB y)) : b = samePairs x y := by
  refine samePairs_eq ?_
  rw [h]
  constructor
  · intro h p
    have key : ∀ {x y : List Bk}, (∀ b ∈ x, good 15 b = true) -> (∀ b ∈ y, good 15 b = true) -> (∀ c, c < 256 -> (c ∈ codesB x -> c ∈ codesB y)) -> p ∈ pairsB x -> p ∈ pairsB y := by
      intro x y hx hy h hp
      have hc : codeP p ∈ codesB x := List.mem_map.2 ⟨p, hp, rfl⟩
      obtain ⟨q, hq, e⟩ := List.mem_map.1 (h _ (codes_lt hx hc) hc)
      rw [code_inj (pairs_lt hx hp) (pairs_lt hy hq) e.symm]; exact hq
    exact ⟨key hx hy fun c hc => (h c hc).1, key hy hx fun c hc => (h c hc).2⟩
  · intro h c _
    unfold codesB
    simp only [List.mem_map]
    constructor <;> rintro ⟨p, hp, rfl⟩
    · exact ⟨p, (h p).1 hp, rfl⟩
    · exact ⟨p, (h p).2 hp, rfl⟩

def bothB (xs ys : List Bk) : List Bk := xs.filter (memB ys)
def lessB (xs ys : List Bk) : List Bk := xs.filter fun b => !memB ys b

noncomputable def tradeB (v : Int) (o i : List Bk) : Bool := sysB v o && (sysB v i && (decide (bothB o i = []) && samePairs o i))
end Go.Proofs.YtkimaohcmcfcnaaGreat
end

section
namespace Go.Proofs.YtkimaohcmcfcnaaGreat
open Go.Ab Go.Sort

theorem insP_ok {H : Heap} {id a b n : Nat} {d : Array (Int × Int)} {lt : (Int × Int) -> (Int × Int) -> Bool} {g : FuncId} {fs cs : List Value} {Q : (Int × Int) -> Prop} (hA : Arr cellsP H id d) (hn : d.size = n) (hl : n <= 1048576) (hab : a <= b) (hb : b <= n) (hQ : QA Q d)
    (hC : Cmp Tryz.prog valP lt g fs cs Q id H) (Post : Value -> Heap -> Prop) (h : ∀ H', Same (fun k => k = id) H H' -> Arr cellsP H' id (insertionSort lt d a b) -> Post (.tuple #[]) H') :
    ACalls Tryz.prog 86 [lv 2 id 0 n, .int .i64 a, .int .i64 b, .func (.func g) fs.toArray cs.toArray] H Post := by
  refine acalls_vc (rs := []) Tryz.func86 rfl rfl Tryz.ntmps86 rfl rfl ?_
  have w0 : IntKind.i64.wrap ((a : Int) + 1) = (a : Int) + 1 := i64w (by omega) (by omega)
  simp (maxSteps := 1000000) [go_sem, w0]
  refine AWp.loopVc (St := Nat × Array (Int × Int)) (fun s => [(0, lv 2 id 0 n), (1, .int .i64 a), (2, .int .i64 b), (3, .func (.func g) fs.toArray cs.toArray), (8, .int .i64 s.1)])
    (fun s H' => a + 1 <= s.1 /\ s.1 <= n + 1 /\ s.2.size = n /\ QA Q s.2 /\ Same (fun k => k = id) H H' /\ Arr cellsP H' id s.2 /\ insOuter lt a b s.1 s.2 = insertionSort lt d a b) (fun s => n + 1 - s.1) (a + 1, d) ?_ ?_ ?_
  · simp [upF, Fr.get, Up.refl]
  · exact ⟨Nat.le_refl _, by simp only; omega, hn, hQ, Same.refl _ _, hA, rfl⟩
  · rintro K ⟨i, d1⟩ H' ⟨hai, hin, hsz, hQ1, hS, hA1, hO⟩ hK
    simp only at hai hin hsz hQ1 hS hA1 hO
    rw [insOuter] at hO
    by_cases hlt : i < b
    · rw [if_pos hlt] at hO
      have hw_i : IntKind.i64.wrap ((i : Int) + 1) = (i : Int) + 1 := i64w (by omega) (by omega)
      simp (maxSteps := 1000000) [go_sem, hlt]
      refine AWp.loopVc (St := Nat × Array (Int × Int)) (fun s => [(0, lv 2 id 0 n), (1, .int .i64 a), (2, .int .i64 b), (3, .func (.func g) fs.toArray cs.toArray), (8, .int .i64 i), (9, .int .i64 s.1)])
        (fun s H2 => a <= s.1 /\ s.1 <= i /\ s.2.size = n /\ QA Q s.2 /\ Same (fun k => k = id) H H2 /\ Arr cellsP H2 id s.2 /\ insInner lt a s.1 s.2 = insInner lt a i d1) (fun s => s.1) (i, d1) ?_ ?_ ?_
      · simp [upF, Fr.get, Up.refl]
      · exact ⟨by simp only; omega, Nat.le_refl _, hsz, hQ1, hS, hA1, rfl⟩
      · rintro K2 ⟨j, d2⟩ H2 ⟨haj, hji, hsz2, hQ2, hS2, hA2, hI⟩ hK2
        simp only at haj hji hsz2 hQ2 hS2 hA2 hI
        by_cases hja : a < j
        · obtain ⟨r, rfl⟩ : ∃ r, j = r + 1 := ⟨j - 1, by omega⟩
          have hr1 : r + 1 < d2.size := by omega
          have hr0 : r < d2.size := by omega
          have c1 := hA2.load cellsP_len hr1
          have c0 := hA2.load cellsP_len hr0
          have q1 := hQ2 _ hr1
          have q0 := hQ2 _ hr0
          rw [insInner] at hI
          obtain ⟨x, hx⟩ : ∃ x, x = d2[r + 1]! := ⟨_, rfl⟩
          obtain ⟨y, hy⟩ : ∃ y, y = d2[r]! := ⟨_, rfl⟩
          rw [<- hx] at c1 q1 hI
          rw [<- hy] at c0 q0 hI
          have e1 : decide (r + 1 > a) = true := decide_eq_true hja
          rw [e1, Bool.true_and] at hI
          simp only [cellsP, Nat.mul_one, Row.val] at c1 c0
          have n1 : r + 1 < n := by omega
          have n0 : r < n := by omega
          have m1 : (r : Int) + 1 < n := by omega
          have m0 : (r : Int) < n := by omega
          have z1 : (0 : Int) <= (r : Int) + 1 := by omega
          have hwr : IntKind.i64.wrap (r : Int) = (r : Int) := i64w (by omega) (by omega)
          have ja : (a : Int) < (r : Int) + 1 := by omega
          refine AWp.draw mixed [(0, false), (1, false), (2, false), (3, false), (4, false), (5, false), (6, false), (7, false), (8, false), (9, false), (10, false), (11, false), (12, false), (13, false), (14, false), (15, false), (16, false)] (by kernel_rfl) ?_
          simp (maxSteps := 1000000) [go_sem, hja, ja, c1, c0, n1, n0, m1, m0, z1, hwr]
          refine hC H2 x y _ hS2 q1 q0 ?_
          intro H3 c hp3 hc
          have hS3 := hS2.via (Same.of_prefix (S := fun _ => False) hp3) (fun _ _ h => h.elim)
          have hA3 := hA2.pre hp3
          cases hxy : lt x y with
          | false =>
            rw [hxy] at hc hI
            have hc0 : ¬ c < 0 := by simpa using hc
            simp (maxSteps := 1000000) [go_sem, hc, hc0, hw_i]
            exact hK (i + 1, d2) _ _ (by simp only; omega) (by simp [upF, Fr.get, Up.refl]) ⟨by simp only; omega, by simp only; omega, hsz2, hQ2, hS3, hA3, by simp only; rw [<- hO, <- hI]; simp⟩
          | true =>
            rw [hxy] at hc hI
            have hc0 : c < 0 := by simpa using hc
            have c1 := hA3.load cellsP_len hr1
            have c0 := hA3.load cellsP_len hr0
            obtain ⟨H4, H5, s1, s0, hA5, hS5, hl5⟩ := hA3.swap cellsP_len cellsP_one hr1 hr0
            rw [<- hx] at c1 s0
            rw [<- hy] at c0 s1
            simp only [cellsP, Nat.mul_one, Row.val] at c1 c0 s1 s0
            simp (maxSteps := 1000000) [go_sem, hc, hc0]
            refine AWp.draw mixed [(0, false), (1, false), (2, false), (3, false), (4, false), (5, false), (6, false), (7, false), (8, false), (9, false), (10, false), (11, false), (12, false), (13, false), (14, false), (15, false), (16, false), (17, false)] (by kernel_rfl) ?_
            simp (maxSteps := 1000000) [go_sem, c1, c0, n1, n0, m1, m0, z1, hwr, s1, s0]
            exact hK2 (r, swp d2 (r + 1) r) _ _ (by simp only; omega) (by simp [upF, Fr.get, Up.refl]) ⟨by simp only; omega, by simp only; omega, by rw [size_swp]; exact hsz2, hQ2.swp hr1 hr0, hS3.trans hS5, hA5, by simp only; rw [<- hI]; simp⟩
        · have hja' : j = a := by omega
          subst hja'
          have e : insInner lt j j d2 = d2 := by
            cases j with
            | zero => rfl
            | succ r => rw [insInner]; simp
          refine AWp.draw mixed [(0, false), (1, false), (2, false), (3, false), (4, false), (5, false), (6, false), (7, false), (8, false), (9, false), (10, false), (11, false), (12, false), (13, false), (14, false), (15, false), (16, false)] (by kernel_rfl) ?_
          simp (maxSteps := 1000000) [go_sem, undef, hw_i]
          exact hK (i + 1, d2) _ _ (by simp only; omega) (by simp [upF, Fr.get, Up.refl]) ⟨by simp only; omega, by simp only; omega, hsz2, hQ2, hS2, hA2, by simp only; rw [<- hO, <- hI, e]⟩
    · rw [if_neg hlt] at hO
      simp (maxSteps := 1000000) [go_sem, hlt]
      exact h H' hS (hO ▸ hA1)

end Go.Proofs.YtkimaohcmcfcnaaGreat
end

section
namespace Go.Proofs.YtkimaohcmcfcnaaGreat
open Go.Ab Go.Sort

theorem siftP_ok {H : Heap} {id lo hi first n : Nat} {d : Array (Int × Int)} {lt : (Int × Int) -> (Int × Int) -> Bool} {g : FuncId} {fs cs : List Value} {Q : (Int × Int) -> Prop} (hA : Arr cellsP H id d) (hn : d.size = n) (hl : n <= 1048576) (hlo : lo <= n) (hhi : first + hi <= n) (hQ : QA Q d)
    (hC : Cmp Tryz.prog valP lt g fs cs Q id H) (Post : Value -> Heap -> Prop) (h : ∀ H', Same (fun k => k = id) H H' -> Arr cellsP H' id (siftDown lt hi first lo d) -> Post (.tuple #[]) H') :
    ACalls Tryz.prog 96 [lv 2 id 0 n, .int .i64 lo, .int .i64 hi, .int .i64 first, .func (.func g) fs.toArray cs.toArray] H Post := by
  refine acalls_vc (rs := []) Tryz.func96 rfl rfl Tryz.ntmps96 rfl rfl ?_
  simp (maxSteps := 1000000) [go_sem]
  refine AWp.loopVc (St := Nat × Array (Int × Int)) (fun s => [(0, lv 2 id 0 n), (2, .int .i64 hi), (3, .int .i64 first), (4, .func (.func g) fs.toArray cs.toArray), (10, .int .i64 s.1)])
    (fun s H' => s.1 <= n /\ s.2.size = n /\ QA Q s.2 /\ Same (fun k => k = id) H H' /\ Arr cellsP H' id s.2 /\ siftDown lt hi first s.1 s.2 = siftDown lt hi first lo d) (fun s => n - s.1) (lo, d) ?_ ?_ ?_
  · simp [upF, Fr.get, Up.refl]
  · exact ⟨hlo, hn, hQ, Same.refl _ _, hA, rfl⟩
  · rintro K ⟨root, d1⟩ H1 ⟨hr, hsz, hQ1, hS1, hA1, hO⟩ hK
    simp only at hr hsz hQ1 hS1 hA1 hO
    obtain ⟨ch, hch⟩ : ∃ ch, ch = 2 * root + 1 := ⟨_, rfl⟩
    obtain ⟨c2, hc2⟩ : ∃ c2, c2 = ch + 1 := ⟨_, rfl⟩
    obtain ⟨fr, hfr⟩ : ∃ fr, fr = first + root := ⟨_, rfl⟩
    obtain ⟨fc, hfc⟩ : ∃ fc, fc = first + ch := ⟨_, rfl⟩
    obtain ⟨fc2, hfc2⟩ : ∃ fc2, fc2 = first + c2 := ⟨_, rfl⟩
    have w1 : IntKind.i64.wrap (2 * (root : Int)) = 2 * (root : Int) := i64w (by omega) (by omega)
    have w2 : IntKind.i64.wrap (2 * (root : Int) + 1) = (ch : Int) := by rw [hch]; rw [i64w (by omega) (by omega)]; omega
    have w3 : IntKind.i64.wrap ((ch : Int) + 1) = (c2 : Int) := by rw [hc2]; rw [i64w (by omega) (by omega)]; omega
    by_cases hh : hi <= ch
    · rw [sift_end hch hh] at hO
      have hh' : (hi : Int) <= ch := by omega
      simp (maxSteps := 1000000) [go_sem, w1, w2, hh, hh']
      exact h H1 hS1 (hO ▸ hA1)
    · rw [sift_step hch hc2 hfr hfc hfc2 hh] at hO
      have hh' : ¬ ((hi : Int) <= ch) := by omega
      have hh2 : ch < hi := by omega
      have w4 : IntKind.i64.wrap ((first : Int) + root) = (fr : Int) := by rw [hfr]; rw [i64w (by omega) (by omega)]; omega
      have w5 : IntKind.i64.wrap ((first : Int) + ch) = (fc : Int) := by rw [hfc]; rw [i64w (by omega) (by omega)]; omega
      have w6 : IntKind.i64.wrap ((first : Int) + c2) = (fc2 : Int) := by rw [hfc2]; rw [i64w (by omega) (by omega)]; omega
      have w7 : IntKind.i64.wrap ((fc : Int) + 1) = (fc2 : Int) := by rw [hfc2, hfc, hc2]; rw [i64w (by omega) (by omega)]; omega
      have hfr1 : fr < d1.size := by omega
      have hfc1 : fc < d1.size := by omega
      have n1 : fr < n := by omega
      have n2 : fc < n := by omega
      obtain ⟨x, hx⟩ : ∃ x, x = d1[fr]! := ⟨_, rfl⟩
      obtain ⟨y, hy⟩ : ∃ y, y = d1[fc]! := ⟨_, rfl⟩
      obtain ⟨z, hz⟩ : ∃ z, z = d1[fc2]! := ⟨_, rfl⟩
      rw [<- hx, <- hy, <- hz] at hO
      have qx := hQ1 _ hfr1
      have qy := hQ1 _ hfc1
      rw [<- hx] at qx
      rw [<- hy] at qy
      have cy := hA1.load cellsP_len hfc1
      rw [<- hy] at cy
      simp only [cellsP, Nat.mul_one, Row.val] at cy
      by_cases h2 : c2 < hi
      · have h2' : (c2 : Int) < hi := by omega
        have hfc21 : fc2 < d1.size := by omega
        have n3 : fc2 < n := by omega
        have qz := hQ1 _ hfc21
        rw [<- hz] at qz
        have cz := hA1.load cellsP_len hfc21
        rw [<- hz] at cz
        simp only [cellsP, Nat.mul_one, Row.val] at cz
        have e2 : decide (c2 < hi) = true := decide_eq_true h2
        rw [e2, Bool.true_and] at hO
        simp (maxSteps := 1000000) [go_sem, w1, w2, w3, hh, hh', hh2]
        refine AWp.draw mixed [(0, false), (1, false), (2, false), (3, false), (4, false), (5, false), (6, false), (7, false), (8, false), (9, false), (10, false), (11, false), (12, false), (13, false), (14, false), (15, false), (16, false), (17, false), (18, false), (19, false), (20, false), (21, false)] (by kernel_rfl) ?_
        simp (maxSteps := 1000000) [go_sem, w3, w5, w7, h2, h2', cy, cz, n2, n3]
        refine hC H1 y z _ hS1 qy qz ?_
        intro H3 c hp3 hc
        have hS3 := hS1.via (Same.of_prefix (S := fun _ => False) hp3) (fun _ _ h => h.elim)
        have hA3 := hA1.pre hp3
        have cx := hA3.load cellsP_len hfr1
        rw [<- hx] at cx
        simp only [cellsP, Nat.mul_one, Row.val] at cx
        cases hyz : lt y z with
        | true =>
          rw [hyz] at hc hO
          have hc0 : c < 0 := by simpa using hc
          have cz := hA3.load cellsP_len hfc21
          rw [<- hz] at cz
          simp only [cellsP, Nat.mul_one, Row.val] at cz
          simp (maxSteps := 1000000) [go_sem, hc, hc0, w3]
          refine AWp.draw mixed [(0, false), (1, false), (2, false), (3, false), (4, false), (5, false), (6, false), (7, false), (8, false), (9, false), (10, false), (11, false), (12, false), (13, false), (14, false), (15, false)] (by kernel_rfl) ?_
          simp (maxSteps := 1000000) [go_sem, w4, w6, cx, cz, n1, n3]
          refine hC H3 x z _ hS3 qx qz ?_
          intro H4 e hp4 he
          have hS4 := hS3.via (Same.of_prefix (S := fun _ => False) hp4) (fun _ _ h => h.elim)
          have hA4 := hA3.pre hp4
          cases hxz : lt x z with
          | false =>
            rw [hxz] at he hO
            have he0 : ¬ e < 0 := by simpa using he
            simp (maxSteps := 1000000) [go_sem, he, he0]
            exact h H4 hS4 (by simpa [<- hO] using hA4)
          | true =>
            rw [hxz] at he hO
            have he0 : e < 0 := by simpa using he
            have ca := hA4.load cellsP_len hfr1
            have cb := hA4.load cellsP_len hfc21
            obtain ⟨H5, H6, s1, s0, hA6, hS6, hl6⟩ := hA4.swap cellsP_len cellsP_one hfr1 hfc21
            rw [<- hx] at ca s0
            rw [<- hz] at cb s1
            simp only [cellsP, Nat.mul_one, Row.val] at ca cb s0 s1
            simp (maxSteps := 1000000) [go_sem, he, he0]
            refine AWp.draw mixed [(0, false), (1, false), (2, false), (3, false), (4, false), (5, false), (6, false), (7, false), (8, false), (9, false), (10, false), (11, false), (12, false), (13, false), (14, false), (15, false), (16, false), (17, false), (18, false), (19, false), (20, false), (21, false), (22, false), (23, false)] (by kernel_rfl) ?_
            simp (maxSteps := 1000000) [go_sem, w4, w6, ca, cb, n1, n3, s1, s0]
            exact hK (c2, swp d1 fr fc2) _ _ (by simp only; omega) (by simp [upF, Fr.get, Up.refl]) ⟨by simp only; omega, by rw [size_swp]; exact hsz, hQ1.swp hfr1 hfc21, hS4.trans hS6, hA6, by simp only; rw [<- hO]; simp⟩
        | false =>
          rw [hyz] at hc hO
          have hc0 : ¬ c < 0 := by simpa using hc
          have cy := hA3.load cellsP_len hfc1
          rw [<- hy] at cy
          simp only [cellsP, Nat.mul_one, Row.val] at cy
          simp (maxSteps := 1000000) [go_sem, hc, hc0]
          refine AWp.draw mixed [(0, false), (1, false), (2, false), (3, false), (4, false), (5, false), (6, false), (7, false), (8, false), (9, false), (10, false), (11, false), (12, false), (13, false), (14, false), (15, false)] (by kernel_rfl) ?_
          simp (maxSteps := 1000000) [go_sem, w4, w5, cx, cy, n1, n2]
          refine hC H3 x y _ hS3 qx qy ?_
          intro H4 e hp4 he
          have hS4 := hS3.via (Same.of_prefix (S := fun _ => False) hp4) (fun _ _ h => h.elim)
          have hA4 := hA3.pre hp4
          cases hxz : lt x y with
          | false =>
            rw [hxz] at he hO
            have he0 : ¬ e < 0 := by simpa using he
            simp (maxSteps := 1000000) [go_sem, he, he0]
            exact h H4 hS4 (by simpa [<- hO] using hA4)
          | true =>
            rw [hxz] at he hO
            have he0 : e < 0 := by simpa using he
            have ca := hA4.load cellsP_len hfr1
            have cb := hA4.load cellsP_len hfc1
            obtain ⟨H5, H6, s1, s0, hA6, hS6, hl6⟩ := hA4.swap cellsP_len cellsP_one hfr1 hfc1
            rw [<- hx] at ca s0
            rw [<- hy] at cb s1
            simp only [cellsP, Nat.mul_one, Row.val] at ca cb s0 s1
            simp (maxSteps := 1000000) [go_sem, he, he0]
            refine AWp.draw mixed [(0, false), (1, false), (2, false), (3, false), (4, false), (5, false), (6, false), (7, false), (8, false), (9, false), (10, false), (11, false), (12, false), (13, false), (14, false), (15, false), (16, false), (17, false), (18, false), (19, false), (20, false), (21, false), (22, false), (23, false)] (by kernel_rfl) ?_
            simp (maxSteps := 1000000) [go_sem, w4, w5, ca, cb, n1, n2, s1, s0]
            exact hK (ch, swp d1 fr fc) _ _ (by simp only; omega) (by simp [upF, Fr.get, Up.refl]) ⟨by simp only; omega, by rw [size_swp]; exact hsz, hQ1.swp hfr1 hfc1, hS4.trans hS6, hA6, by simp only; rw [<- hO]; simp⟩
      · have h2' : ¬ ((c2 : Int) < hi) := by omega
        have e2 : decide (c2 < hi) = false := decide_eq_false h2
        rw [e2, Bool.false_and] at hO
        have hA3 := hA1
        have hS3 := hS1
        have cx := hA3.load cellsP_len hfr1
        rw [<- hx] at cx
        simp only [cellsP, Nat.mul_one, Row.val] at cx
        simp (maxSteps := 1000000) [go_sem, w1, w2, w3, hh, hh', hh2]
        refine AWp.draw mixed [(0, false), (1, false), (2, false), (3, false), (4, false), (5, false), (6, false), (7, false), (8, false), (9, false), (10, false), (11, false), (12, false), (13, false), (14, false), (15, false), (16, false), (17, false), (18, false), (19, false), (20, false), (21, false)] (by kernel_rfl) ?_
        simp (maxSteps := 1000000) [go_sem, undef, w3, h2, h2']
        obtain ⟨H3, eH3⟩ : ∃ H3, H3 = H1 := ⟨_, rfl⟩
        rw [<- eH3] at hA3 hS3 cx cy ⊢
        refine AWp.draw mixed [(0, false), (1, false), (2, false), (3, false), (4, false), (5, false), (6, false), (7, false), (8, false), (9, false), (10, false), (11, false), (12, false), (13, false), (14, false), (15, false)] (by kernel_rfl) ?_
        simp (maxSteps := 1000000) [go_sem, w4, w5, cx, cy, n1, n2]
        refine hC H3 x y _ hS3 qx qy ?_
        intro H4 e hp4 he
        have hS4 := hS3.via (Same.of_prefix (S := fun _ => False) hp4) (fun _ _ h => h.elim)
        have hA4 := hA3.pre hp4
        cases hxz : lt x y with
        | false =>
          rw [hxz] at he hO
          have he0 : ¬ e < 0 := by simpa using he
          simp (maxSteps := 1000000) [go_sem, he, he0]
          exact h H4 hS4 (by simpa [<- hO] using hA4)
        | true =>
          rw [hxz] at he hO
          have he0 : e < 0 := by simpa using he
          have ca := hA4.load cellsP_len hfr1
          have cb := hA4.load cellsP_len hfc1
          obtain ⟨H5, H6, s1, s0, hA6, hS6, hl6⟩ := hA4.swap cellsP_len cellsP_one hfr1 hfc1
          rw [<- hx] at ca s0
          rw [<- hy] at cb s1
          simp only [cellsP, Nat.mul_one, Row.val] at ca cb s0 s1
          simp (maxSteps := 1000000) [go_sem, he, he0]
          refine AWp.draw mixed [(0, false), (1, false), (2, false), (3, false), (4, false), (5, false), (6, false), (7, false), (8, false), (9, false), (10, false), (11, false), (12, false), (13, false), (14, false), (15, false), (16, false), (17, false), (18, false), (19, false), (20, false), (21, false), (22, false), (23, false)] (by kernel_rfl) ?_
          simp (maxSteps := 1000000) [go_sem, w4, w5, ca, cb, n1, n2, s1, s0]
          exact hK (ch, swp d1 fr fc) _ _ (by simp only; omega) (by simp [upF, Fr.get, Up.refl]) ⟨by simp only; omega, by rw [size_swp]; exact hsz, hQ1.swp hfr1 hfc1, hS4.trans hS6, hA6, by simp only; rw [<- hO]; simp⟩

theorem heapP_ok {H : Heap} {id a b n : Nat} {d : Array (Int × Int)} {lt : (Int × Int) -> (Int × Int) -> Bool} {g : FuncId} {fs cs : List Value} {Q : (Int × Int) -> Prop} (hA : Arr cellsP H id d) (hn : d.size = n) (hl : n <= 1048576) (hab : a < b) (hb : b <= n) (hQ : QA Q d)
    (hC : Cmp Tryz.prog valP lt g fs cs Q id H) (Post : Value -> Heap -> Prop) (h : ∀ H', Same (fun k => k = id) H H' -> Arr cellsP H' id (heapSort lt d a b) -> Post (.tuple #[]) H') :
    ACalls Tryz.prog 87 [lv 2 id 0 n, .int .i64 a, .int .i64 b, .func (.func g) fs.toArray cs.toArray] H Post := by
  refine acalls_vc (rs := []) Tryz.func87 rfl rfl Tryz.ntmps87 rfl rfl ?_
  obtain ⟨hi, hhi⟩ : ∃ hi, hi = b - a := ⟨_, rfl⟩
  obtain ⟨h1, hh1⟩ : ∃ h1, h1 = hi - 1 := ⟨_, rfl⟩
  obtain ⟨k0, hk0⟩ : ∃ k0, k0 = h1 / 2 := ⟨_, rfl⟩
  have w0 : IntKind.i64.wrap ((b : Int) - a) = (hi : Int) := by rw [hhi, i64w (by omega) (by omega)]; omega
  have w1 : IntKind.i64.wrap ((hi : Int) - 1) = (h1 : Int) := by rw [hh1, i64w (by omega) (by omega)]; omega
  have w2 : IntKind.i64.wrap ((h1 : Int) / 2) = (k0 : Int) := by rw [hk0, i64w (by omega) (by omega)]; omega
  have e0 : heapSort lt d a b = heapPop lt a hi (heapBuild lt hi a (k0 + 1) d) := by rw [hk0, hh1, hhi]; rfl
  rw [e0] at h
  simp (maxSteps := 1000000) [go_sem, w0, w1, w2]
  refine AWp.loopVc (St := Nat × Array (Int × Int)) (fun s => [(0, lv 2 id 0 n), (3, .func (.func g) fs.toArray cs.toArray), (8, .int .i64 a), (9, .int .i64 0), (10, .int .i64 hi), (11, .int .i64 ((s.1 : Int) - 1))])
    (fun s H' => s.1 <= k0 + 1 /\ s.2.size = n /\ QA Q s.2 /\ Same (fun k => k = id) H H' /\ Arr cellsP H' id s.2 /\ heapBuild lt hi a s.1 s.2 = heapBuild lt hi a (k0 + 1) d) (fun s => s.1) (k0 + 1, d) ?_ ?_ ?_
  · have e : ((k0 + 1 : Nat) : Int) - 1 = k0 := by omega
    simp [upF, Fr.get, Up.refl, e]
  · exact ⟨Nat.le_refl _, hn, hQ, Same.refl _ _, hA, rfl⟩
  · rintro K ⟨k, d1⟩ H1 ⟨hk, hsz, hQ1, hS1, hA1, hO⟩ hK
    simp only at hk hsz hQ1 hS1 hA1 hO
    cases k with
    | succ r =>
      have hwr : IntKind.i64.wrap ((r : Int) - 1) = (r : Int) - 1 := i64w (by omega) (by omega)
      simp (maxSteps := 1000000) [go_sem]
      refine siftP_ok hA1 hsz hl (by omega) (by omega) hQ1 (hC.keep hS1) _ ?_
      intro H2 hS2 hA2
      have hsz2 : (siftDown lt hi a r d1).size = n := by rw [sift_size]; exact hsz
      simp (maxSteps := 1000000) [go_sem, hwr]
      exact hK (r, siftDown lt hi a r d1) _ _ (by simp only; omega) (by simp [upF, Fr.get, Up.refl]) ⟨by simp only; omega, hsz2, sift_QA (by omega) hQ1, hS1.trans hS2, hA2, hO⟩
    | zero =>
      simp (maxSteps := 1000000) [go_sem, w1]
      have hO' : d1 = heapBuild lt hi a (k0 + 1) d := hO
      rw [<- hO'] at h
      refine AWp.loopVc (St := Nat × Array (Int × Int)) (fun s => [(0, lv 2 id 0 n), (3, .func (.func g) fs.toArray cs.toArray), (8, .int .i64 a), (9, .int .i64 0), (12, .int .i64 ((s.1 : Int) - 1))])
        (fun s H' => s.1 <= hi /\ s.2.size = n /\ QA Q s.2 /\ Same (fun k => k = id) H H' /\ Arr cellsP H' id s.2 /\ heapPop lt a s.1 s.2 = heapPop lt a hi d1) (fun s => s.1) (hi, d1) ?_ ?_ ?_
      · have e : (hi : Int) - 1 = h1 := by omega
        simp [upF, Fr.get, Up.refl, e]
      · exact ⟨Nat.le_refl _, hsz, hQ1, hS1, hA1, rfl⟩
      · rintro K2 ⟨k, d2⟩ H2 ⟨hk2, hsz2, hQ2, hS2, hA2, hP⟩ hK2
        simp only at hk2 hsz2 hQ2 hS2 hA2 hP
        cases k with
        | succ r =>
          have hwr : IntKind.i64.wrap ((r : Int) - 1) = (r : Int) - 1 := i64w (by omega) (by omega)
          obtain ⟨ar, har⟩ : ∃ ar, ar = a + r := ⟨_, rfl⟩
          have w4 : IntKind.i64.wrap ((a : Int) + r) = (ar : Int) := by rw [har]; rw [i64w (by omega) (by omega)]; omega
          have hi1 : a < d2.size := by omega
          have hi2 : ar < d2.size := by omega
          have n1 : a < n := by omega
          have n2 : ar < n := by omega
          have ca := hA2.load cellsP_len hi1
          have cb := hA2.load cellsP_len hi2
          obtain ⟨H5, H6, s1, s0, hA6, hS6, hl6⟩ := hA2.swap cellsP_len cellsP_one hi1 hi2
          obtain ⟨x, hx⟩ : ∃ x, x = d2[a]! := ⟨_, rfl⟩
          obtain ⟨y, hy⟩ : ∃ y, y = d2[ar]! := ⟨_, rfl⟩
          rw [<- hx] at ca s0
          rw [<- hy] at cb s1
          simp only [cellsP, Nat.mul_one, Row.val] at ca cb s0 s1
          rw [heapPop, <- har] at hP
          have hsz3 : (swp d2 a ar).size = n := by rw [size_swp]; exact hsz2
          have hQ3 := hQ2.swp hi1 hi2
          simp (maxSteps := 1000000) [go_sem]
          refine AWp.draw mixed [(0, false), (1, false), (2, false), (3, false), (4, false), (5, false), (6, false), (7, false), (8, false), (9, false), (10, false), (11, false), (12, false), (13, false), (14, false), (15, false), (16, false), (17, false), (18, false), (19, false)] (by kernel_rfl) ?_
          simp (maxSteps := 1000000) [go_sem, w4, ca, cb, n1, n2, s1, s0]
          refine siftP_ok (lo := 0) hA6 hsz3 hl (by omega) (by omega) hQ3 (hC.keep (hS2.trans hS6)) _ ?_
          intro H7 hS7 hA7
          have hsz4 : (siftDown lt r a 0 (swp d2 a ar)).size = n := by rw [sift_size]; exact hsz3
          simp (maxSteps := 1000000) [go_sem, hwr]
          exact hK2 (r, siftDown lt r a 0 (swp d2 a ar)) _ _ (by simp only; omega) (by simp [upF, Fr.get, Up.refl]) ⟨by simp only; omega, hsz4, sift_QA (by omega) hQ3, (hS2.trans hS6).trans hS7, hA7, hP⟩
        | zero =>
          simp (maxSteps := 1000000) [go_sem]
          refine h H2 hS2 ?_
          rw [<- hP]; exact hA2

end Go.Proofs.YtkimaohcmcfcnaaGreat
end

section
namespace Go.Proofs.YtkimaohcmcfcnaaGreat
open Go.Ab Go.Sort

theorem reverseP_ok {H : Heap} {id a b n : Nat} {d : Array (Int × Int)} {g : FuncId} {fs cs : List Value} (hA : Arr cellsP H id d) (hn : d.size = n) (hl : n <= 1048576) (hab : a < b) (hb : b <= n)
    (Post : Value -> Heap -> Prop) (h : ∀ H', Same (fun k => k = id) H H' -> Arr cellsP H' id (reverseRange d a b) -> Post (.tuple #[]) H') :
    ACalls Tryz.prog 90 [lv 2 id 0 n, .int .i64 a, .int .i64 b, .func (.func g) fs.toArray cs.toArray] H Post := by
  refine acalls_vc (rs := []) Tryz.func90 rfl rfl Tryz.ntmps90 rfl rfl ?_
  obtain ⟨b1, hb1⟩ : ∃ b1, b1 = b - 1 := ⟨_, rfl⟩
  have w0 : IntKind.i64.wrap ((b : Int) - 1) = (b1 : Int) := by rw [hb1, i64w (by omega) (by omega)]; omega
  have e0 : reverseRange d a b = reverseLoop a b1 d := by rw [hb1]; rfl
  rw [e0] at h
  simp (maxSteps := 1000000) [go_sem, w0]
  refine AWp.loopVc (St := Nat × Nat × Array (Int × Int)) (fun s => [(0, lv 2 id 0 n), (8, .int .i64 s.1), (9, .int .i64 s.2.1)])
    (fun s H' => s.2.1 < n /\ s.1 <= n /\ s.2.2.size = n /\ Same (fun k => k = id) H H' /\ Arr cellsP H' id s.2.2 /\ reverseLoop s.1 s.2.1 s.2.2 = reverseLoop a b1 d) (fun s => s.2.1 - s.1) (a, b1, d) ?_ ?_ ?_
  · simp [upF, Fr.get, Up.refl]
  · exact ⟨by simp only; omega, by simp only; omega, hn, Same.refl _ _, hA, rfl⟩
  · rintro K ⟨i, j, d1⟩ H1 ⟨hj, hi, hsz, hS1, hA1, hO⟩ hK
    simp only at hj hi hsz hS1 hA1 hO
    by_cases hij : i < j
    · obtain ⟨r, rfl⟩ : ∃ r, j = r + 1 := ⟨j - 1, by omega⟩
      rw [reverse_go hij] at hO
      have hi1 : i < d1.size := by omega
      have hi2 : r + 1 < d1.size := by omega
      have n1 : i < n := by omega
      have n2 : r + 1 < n := by omega
      have m2 : (r : Int) + 1 < n := by omega
      have z2 : (0 : Int) <= (r : Int) + 1 := by omega
      have hij' : (i : Int) < (r : Int) + 1 := by omega
      have hwr : IntKind.i64.wrap (r : Int) = (r : Int) := i64w (by omega) (by omega)
      have hw_i : IntKind.i64.wrap ((i : Int) + 1) = (i : Int) + 1 := i64w (by omega) (by omega)
      have ca := hA1.load cellsP_len hi1
      have cb := hA1.load cellsP_len hi2
      obtain ⟨H5, H6, s1, s0, hA6, hS6, hl6⟩ := hA1.swap cellsP_len cellsP_one hi1 hi2
      obtain ⟨x, hx⟩ : ∃ x, x = d1[i]! := ⟨_, rfl⟩
      obtain ⟨y, hy⟩ : ∃ y, y = d1[r + 1]! := ⟨_, rfl⟩
      rw [<- hx] at ca s0
      rw [<- hy] at cb s1
      simp only [cellsP, Nat.mul_one, Row.val] at ca cb s0 s1
      simp (maxSteps := 1000000) [go_sem, hij, hij']
      refine AWp.draw mixed [(0, false), (1, false), (2, false), (3, false), (4, false), (5, false), (6, false), (7, false), (8, false), (9, false), (10, false), (11, false), (12, false), (13, false), (14, false), (15, false)] (by kernel_rfl) ?_
      simp (maxSteps := 1000000) [go_sem, ca, cb, n1, n2, m2, z2, s1, s0, hw_i, hwr]
      exact hK (i + 1, r, swp d1 i (r + 1)) _ _ (by simp only; omega) (by simp [upF, Fr.get, Up.refl]) ⟨by simp only; omega, by simp only; omega, by rw [size_swp]; exact hsz, hS1.trans hS6, hA6, hO⟩
    · rw [reverse_stop hij] at hO
      have hij' : ¬ ((i : Int) < j) := by omega
      simp (maxSteps := 1000000) [go_sem, hij, hij']
      exact h H1 hS1 (hO ▸ hA1)

theorem order2P_ok {HB H : Heap} {id sw a b n : Nat} {z : Int} {d : Array (Int × Int)} {lt : (Int × Int) -> (Int × Int) -> Bool} {g : FuncId} {fs cs : List Value} {Q : (Int × Int) -> Prop} (hA : Arr cellsP H id d) (hn : d.size = n) (hl : n <= 1048576) (ha : a < n) (hb : b < n) (hQ : QA Q d)
    (hC : Cmp Tryz.prog valP lt g fs cs Q id HB) (hB : Same (fun k => k = id) HB H) (hz : H[sw]? = some ⟨[.int .i64 z], true, true⟩) (hsw : HB.length <= sw) (hid : id ≠ sw) (Post : Value -> Heap -> Prop)
    (h : ∀ H' (x y : Nat) (z' : Int), Same (fun k => k = sw) H H' -> H'[sw]? = some ⟨[.int .i64 z'], true, true⟩ -> (x = a /\ y = b \/ x = b /\ y = a) -> Post (.tuple #[.int .i64 x, .int .i64 y]) H') :
    ACalls Tryz.prog 101 [lv 2 id 0 n, .int .i64 a, .int .i64 b, .pointer (some ⟨sw, 0, none⟩), .func (.func g) fs.toArray cs.toArray] H Post := by
  refine acalls_vc (rs := [.tmp 10, .tmp 11]) Tryz.func101 rfl rfl Tryz.ntmps101 rfl rfl ?_
  have hi1 : a < d.size := by omega
  have hi2 : b < d.size := by omega
  have ca := hA.load cellsP_len hi1
  have cb := hA.load cellsP_len hi2
  have qa := hQ _ hi1
  have qb := hQ _ hi2
  obtain ⟨x, hx⟩ : ∃ x, x = d[a]! := ⟨_, rfl⟩
  obtain ⟨y, hy⟩ : ∃ y, y = d[b]! := ⟨_, rfl⟩
  rw [<- hx] at ca qa
  rw [<- hy] at cb qb
  simp only [cellsP, Nat.mul_one, Row.val] at ca cb
  simp (maxSteps := 1000000) [go_sem]
  refine AWp.draw mixed [(0, false), (1, false), (2, false), (3, false), (4, false), (5, false), (6, false), (7, false), (8, false), (9, false), (10, false)] (by kernel_rfl) ?_
  simp (maxSteps := 1000000) [go_sem, ca, cb, ha, hb]
  refine hC H y x _ hB qb qa ?_
  intro H3 c hp3 hc
  have hz3 : H3[sw]? = some ⟨[.int .i64 z], true, true⟩ := pget hp3 hz
  cases hyx : lt y x with
  | true =>
    rw [hyx] at hc
    have hc0 : c < 0 := by simpa using hc
    have lz : cellsAt H3 sw 0 1 = some [.int .i64 z] := by rw [cellsAt_of hz3 rfl (by simp)]; rfl
    obtain ⟨z1, hz1⟩ : ∃ z1, IntKind.i64.wrap (z + 1) = z1 := ⟨_, rfl⟩
    have sz : storeAt H3 sw 0 [.int .i64 z1] = some (H3.set sw ⟨[.int .i64 z1], true, true⟩) := by
      rw [storeAt_of hz3 rfl rfl (by simp) (by simp [Value.oneCell'])]; rfl
    have hlt := (List.getElem?_eq_some_iff.1 hz3).1
    have fin := h (H3.set sw ⟨[.int .i64 z1], true, true⟩) b a _ ((Same.of_prefix hp3).trans same_set) (List.getElem?_set_self hlt) (.inr ⟨rfl, rfl⟩)
    generalize H3.set sw ⟨[.int .i64 z1], true, true⟩ = H4 at sz fin
    simp (maxSteps := 1000000) [go_sem, hc, hc0, lz, hz1, sz]
    exact fin
  | false =>
    rw [hyx] at hc
    have hc0 : ¬ c < 0 := by simpa using hc
    have fin := h H3 a b z (Same.of_prefix hp3) hz3 (.inl ⟨rfl, rfl⟩)
    simp (maxSteps := 1000000) [go_sem, hc, hc0]
    exact fin

theorem medianP_ok {HB H : Heap} {id sw a b c n : Nat} {z : Int} {d : Array (Int × Int)} {lt : (Int × Int) -> (Int × Int) -> Bool} {g : FuncId} {fs cs : List Value} {Q : (Int × Int) -> Prop} (hA : Arr cellsP H id d) (hn : d.size = n) (hl : n <= 1048576) (ha : a < n) (hb : b < n) (hc : c < n) (hQ : QA Q d)
    (hC : Cmp Tryz.prog valP lt g fs cs Q id HB) (hB : Same (fun k => k = id) HB H) (hz : H[sw]? = some ⟨[.int .i64 z], true, true⟩) (hsw : HB.length <= sw) (hid : id ≠ sw) (Post : Value -> Heap -> Prop)
    (h : ∀ H' (x : Nat) (z' : Int), Same (fun k => k = sw) H H' -> H'[sw]? = some ⟨[.int .i64 z'], true, true⟩ -> (x = a \/ x = b \/ x = c) -> Post (.int .i64 x) H') :
    ACalls Tryz.prog 100 [lv 2 id 0 n, .int .i64 a, .int .i64 b, .int .i64 c, .pointer (some ⟨sw, 0, none⟩), .func (.func g) fs.toArray cs.toArray] H Post := by
  have stepB : ∀ {H1 : Heap}, Same (fun k => k = sw) H H1 -> Same (fun k => k = id) HB H1 := fun h1 => hB.via h1 (by intro j hj e; omega)
  have stepA : ∀ {H1 : Heap}, Same (fun k => k = sw) H H1 -> Arr cellsP H1 id d := fun h1 => h1.get hA hid
  refine acalls_vc (rs := [.tmp 12]) Tryz.func100 rfl rfl Tryz.ntmps100 rfl rfl ?_
  simp (maxSteps := 1000000) [go_sem]
  refine order2P_ok hA hn hl ha hb hQ hC hB hz hsw hid _ ?_
  intro H1 a1 b1 z1 hs1 hz1 h1
  simp (maxSteps := 1000000) [go_sem]
  refine order2P_ok (stepA hs1) hn hl (by omega) hc hQ hC (stepB hs1) hz1 hsw hid _ ?_
  intro H2 b2 c2 z2 hs2 hz2 h2
  have hs2 := hs1.trans hs2
  simp (maxSteps := 1000000) [go_sem]
  refine order2P_ok (stepA hs2) hn hl (by omega) (by omega) hQ hC (stepB hs2) hz2 hsw hid _ ?_
  intro H3 a3 b3 z3 hs3 hz3 h3
  simp (maxSteps := 1000000) [go_sem]
  exact h H3 b3 z3 (hs2.trans hs3) hz3 (by omega)

theorem medianAdjP_ok {HB H : Heap} {id sw a n : Nat} {z : Int} {d : Array (Int × Int)} {lt : (Int × Int) -> (Int × Int) -> Bool} {g : FuncId} {fs cs : List Value} {Q : (Int × Int) -> Prop} (hA : Arr cellsP H id d) (hn : d.size = n) (hl : n <= 1048576) (ha0 : 0 < a) (ha : a + 1 < n) (hQ : QA Q d)
    (hC : Cmp Tryz.prog valP lt g fs cs Q id HB) (hB : Same (fun k => k = id) HB H) (hz : H[sw]? = some ⟨[.int .i64 z], true, true⟩) (hsw : HB.length <= sw) (hid : id ≠ sw) (Post : Value -> Heap -> Prop)
    (h : ∀ H' (x : Nat) (z' : Int), Same (fun k => k = sw) H H' -> H'[sw]? = some ⟨[.int .i64 z'], true, true⟩ -> (a <= x + 1 /\ x <= a + 1) -> Post (.int .i64 x) H') :
    ACalls Tryz.prog 99 [lv 2 id 0 n, .int .i64 a, .pointer (some ⟨sw, 0, none⟩), .func (.func g) fs.toArray cs.toArray] H Post := by
  obtain ⟨p, hp⟩ : ∃ p, p = a - 1 := ⟨_, rfl⟩
  obtain ⟨q, hq⟩ : ∃ q, q = a + 1 := ⟨_, rfl⟩
  have w0 : IntKind.i64.wrap ((a : Int) - 1) = (p : Int) := by rw [hp, i64w (by omega) (by omega)]; omega
  have w1 : IntKind.i64.wrap ((a : Int) + 1) = (q : Int) := by rw [hq, i64w (by omega) (by omega)]; omega
  refine acalls_vc (rs := [.tmp 8]) Tryz.func99 rfl rfl Tryz.ntmps99 rfl rfl ?_
  simp (maxSteps := 1000000) [go_sem, w0, w1]
  refine medianP_ok hA hn hl (by omega) (by omega) (by omega) hQ hC hB hz hsw hid _ ?_
  intro H1 x z1 hs1 hz1 h1
  simp (maxSteps := 1000000) [go_sem]
  exact h H1 x z1 hs1 hz1 (by omega)

theorem pivotP_ok {H : Heap} {id a b n : Nat} {d : Array (Int × Int)} {lt : (Int × Int) -> (Int × Int) -> Bool} {g : FuncId} {fs cs : List Value} {Q : (Int × Int) -> Prop} (hA : Arr cellsP H id d) (hn : d.size = n) (hl : n <= 1048576) (hab : a < b) (hb : b <= n) (hQ : QA Q d)
    (hC : Cmp Tryz.prog valP lt g fs cs Q id H) (Post : Value -> Heap -> Prop)
    (h : ∀ H' (x : Nat) (t : Int), H <+: H' -> (a <= x /\ x < b) -> Post (.tuple #[.int .i64 x, .int .i64 t]) H') :
    ACalls Tryz.prog 89 [lv 2 id 0 n, .int .i64 a, .int .i64 b, .func (.func g) fs.toArray cs.toArray] H Post := by
  obtain ⟨l, hll⟩ : ∃ l, l = b - a := ⟨_, rfl⟩
  obtain ⟨q, hq⟩ : ∃ q, q = l / 4 := ⟨_, rfl⟩
  obtain ⟨i, hi⟩ : ∃ i, i = a + q := ⟨_, rfl⟩
  obtain ⟨j, hj⟩ : ∃ j, j = a + q * 2 := ⟨_, rfl⟩
  obtain ⟨k, hk⟩ : ∃ k, k = a + q * 3 := ⟨_, rfl⟩
  have w0 : IntKind.i64.wrap ((b : Int) - a) = (l : Int) := by rw [hll, i64w (by omega) (by omega)]; omega
  have w1 : IntKind.i64.wrap ((l : Int) / 4) = (q : Int) := by rw [hq, i64w (by omega) (by omega)]; omega
  have w1' : IntKind.i64.wrap (q : Int) = (q : Int) := i64w (by omega) (by omega)
  have w2 : IntKind.i64.wrap ((q : Int) * 2) = (q : Int) * 2 := i64w (by omega) (by omega)
  have w3 : IntKind.i64.wrap ((q : Int) * 3) = (q : Int) * 3 := i64w (by omega) (by omega)
  have w4 : IntKind.i64.wrap ((a : Int) + q) = (i : Int) := by rw [hi, i64w (by omega) (by omega)]; omega
  have w5 : IntKind.i64.wrap ((a : Int) + (q : Int) * 2) = (j : Int) := by rw [hj, i64w (by omega) (by omega)]; omega
  have w6 : IntKind.i64.wrap ((a : Int) + (q : Int) * 3) = (k : Int) := by rw [hk, i64w (by omega) (by omega)]; omega
  have hidl := hA.lt
  have hp0 : H <+: H ++ [⟨[.int .i64 0], true, true⟩] := List.prefix_append _ _
  have hz0 : (H ++ [(⟨[.int .i64 0], true, true⟩ : Blk)])[H.length]? = some ⟨[.int .i64 0], true, true⟩ := by simp
  have fin0 : ∀ (H' : Heap) (x : Nat) (t : Int), Same (fun k => k = H.length) (H ++ [⟨[.int .i64 0], true, true⟩]) H' -> (a <= x /\ x < b) -> Post (.tuple #[.int .i64 x, .int .i64 t]) H' := by
    intro H' x t hs hx
    refine h H' x t ?_ hx
    exact ((Same.of_prefix (S := fun k => k = H.length) hp0).trans hs).prefix (by intro j hj e; omega)
  have lz : ∀ {H' : Heap} {z : Int}, H'[H.length]? = some ⟨[.int .i64 z], true, true⟩ -> cellsAt H' H.length 0 1 = some [.int .i64 z] := by
    intro H' z hz; rw [cellsAt_of hz rfl (by simp)]; rfl
  refine acalls_vc (rs := [.tmp 8, .tmp 9]) Tryz.func89 rfl rfl Tryz.ntmps89 rfl rfl ?_
  by_cases h8 : 8 <= l
  · have h8' : (8 : Int) <= l := by omega
    by_cases h50 : 50 <= l
    · have h50' : (50 : Int) <= l := by omega
      simp (maxSteps := 1000000) [go_sem, w0, w1, w1', w2, w3, w4, w5, w6, h8, h8', h50, h50']
      have hA0 := hA.pre hp0
      have hB0 : Same (fun k => k = id) H (H ++ [⟨[.int .i64 0], true, true⟩]) := Same.of_prefix hp0
      generalize H ++ [(⟨[.int .i64 0], true, true⟩ : Blk)] = H0 at hp0 hz0 fin0 hA0 hB0 ⊢
      have stepB : ∀ {H1 : Heap}, Same (fun k => k = H.length) H0 H1 -> Same (fun k => k = id) H H1 := fun h1 => hB0.via h1 (by intro j hj e; omega)
      have stepA : ∀ {H1 : Heap}, Same (fun k => k = H.length) H0 H1 -> Arr cellsP H1 id d := fun h1 => h1.get hA0 (by omega)
      refine medianAdjP_ok hA0 hn hl (by omega) (by omega) hQ hC hB0 hz0 (Nat.le_refl _) (by omega) _ ?_
      intro H1 i1 z1 hs1 hz1 h1
      simp (maxSteps := 1000000) [go_sem]
      refine medianAdjP_ok (stepA hs1) hn hl (by omega) (by omega) hQ hC (stepB hs1) hz1 (Nat.le_refl _) (by omega) _ ?_
      intro H2 j1 z2 hs2 hz2 h2
      have hs2 := hs1.trans hs2
      simp (maxSteps := 1000000) [go_sem]
      refine medianAdjP_ok (stepA hs2) hn hl (by omega) (by omega) hQ hC (stepB hs2) hz2 (Nat.le_refl _) (by omega) _ ?_
      intro H3 k1 z3 hs3 hz3 h3
      have hs3 := hs2.trans hs3
      simp (maxSteps := 1000000) [go_sem]
      refine medianP_ok (stepA hs3) hn hl (by omega) (by omega) (by omega) hQ hC (stepB hs3) hz3 (Nat.le_refl _) (by omega) _ ?_
      intro H4 x z4 hs4 hz4 h4
      have hs4 := hs3.trans hs4
      have c4 := lz hz4
      have hx : a <= x /\ x < b := by omega
      by_cases e0 : z4 = 0
      · have fin := fin0 H4 x 1 hs4 hx
        subst e0
        simp (maxSteps := 1000000) [go_sem, c4]
        exact fin
      · have e0' : (z4 == 0) = false := by simpa using e0
        by_cases e1 : z4 = 12
        · have fin := fin0 H4 x 2 hs4 hx
          subst e1
          simp (maxSteps := 1000000) [go_sem, c4]
          exact fin
        · have fin := fin0 H4 x 0 hs4 hx
          have e1' : (z4 == 12) = false := by simpa using e1
          simp (maxSteps := 1000000) [go_sem, c4, e0, e0', e1, e1']
          exact fin
    · have h50' : ¬ ((50 : Int) <= l) := by omega
      simp (maxSteps := 1000000) [go_sem, w0, w1, w1', w2, w3, w4, w5, w6, h8, h8', h50, h50']
      have hA0 := hA.pre hp0
      have hB0 : Same (fun k => k = id) H (H ++ [⟨[.int .i64 0], true, true⟩]) := Same.of_prefix hp0
      generalize H ++ [(⟨[.int .i64 0], true, true⟩ : Blk)] = H0 at hp0 hz0 fin0 hA0 hB0 ⊢
      refine medianP_ok hA0 hn hl (by omega) (by omega) (by omega) hQ hC hB0 hz0 (Nat.le_refl _) (by omega) _ ?_
      intro H4 x z4 hs4 hz4 h4
      have c4 := lz hz4
      have hx : a <= x /\ x < b := by omega
      by_cases e0 : z4 = 0
      · have fin := fin0 H4 x 1 hs4 hx
        subst e0
        simp (maxSteps := 1000000) [go_sem, c4]
        exact fin
      · have e0' : (z4 == 0) = false := by simpa using e0
        by_cases e1 : z4 = 12
        · have fin := fin0 H4 x 2 hs4 hx
          subst e1
          simp (maxSteps := 1000000) [go_sem, c4]
          exact fin
        · have fin := fin0 H4 x 0 hs4 hx
          have e1' : (z4 == 12) = false := by simpa using e1
          simp (maxSteps := 1000000) [go_sem, c4, e0, e0', e1, e1']
          exact fin
  · have h8' : ¬ ((8 : Int) <= l) := by omega
    have fin := fin0 _ j 1 (Same.refl _ _) (by omega)
    simp (maxSteps := 1000000) [go_sem, w0, w1, w1', w2, w3, w4, w5, w6, h8, h8']
    exact fin

end Go.Proofs.YtkimaohcmcfcnaaGreat
end

section
namespace Go.Proofs.YtkimaohcmcfcnaaGreat
open Go.Ab Go.Sort

theorem partEqP_ok {H : Heap} {id a b pivot n : Nat} {d : Array (Int × Int)} {lt : (Int × Int) -> (Int × Int) -> Bool} {g : FuncId} {fs cs : List Value} {Q : (Int × Int) -> Prop} (hA : Arr cellsP H id d) (hn : d.size = n) (hl : n <= 1048576) (hap : a <= pivot) (hpb : pivot < b) (hb : b <= n) (hQ : QA Q d)
    (hC : Cmp Tryz.prog valP lt g fs cs Q id H) (Post : Value -> Heap -> Prop) (h : ∀ H', Same (fun k => k = id) H H' -> Arr cellsP H' id (partitionEqual lt d a b pivot).2 -> Post (.int .i64 ((partitionEqual lt d a b pivot).1 : Nat)) H') :
    ACalls Tryz.prog 92 [lv 2 id 0 n, .int .i64 a, .int .i64 b, .int .i64 pivot, .func (.func g) fs.toArray cs.toArray] H Post := by
  refine acalls_vc (rs := [.tmp 10]) Tryz.func92 rfl rfl Tryz.ntmps92 rfl rfl ?_
  obtain ⟨b1, hb1⟩ : ∃ b1, b1 = b - 1 := ⟨_, rfl⟩
  obtain ⟨a1, ha1⟩ : ∃ a1, a1 = a + 1 := ⟨_, rfl⟩
  have w0 : IntKind.i64.wrap ((b : Int) - 1) = (b1 : Int) := by rw [hb1, i64w (by omega) (by omega)]; omega
  have w1 : IntKind.i64.wrap ((a : Int) + 1) = (a1 : Int) := by rw [ha1, i64w (by omega) (by omega)]; omega
  have hi1 : a < d.size := by omega
  have hi2 : pivot < d.size := by omega
  have n1 : a < n := by omega
  have n2 : pivot < n := by omega
  have ca := hA.load cellsP_len hi1
  have cb := hA.load cellsP_len hi2
  obtain ⟨H5, H6, s1, s0, hA6, hS6, hl6⟩ := hA.swap cellsP_len cellsP_one hi1 hi2
  obtain ⟨x, hx⟩ : ∃ x, x = d[a]! := ⟨_, rfl⟩
  obtain ⟨y, hy⟩ : ∃ y, y = d[pivot]! := ⟨_, rfl⟩
  rw [<- hx] at ca s0
  rw [<- hy] at cb s1
  simp only [cellsP, Nat.mul_one, Row.val] at ca cb s0 s1
  have e0 : partitionEqual lt d a b pivot = partEqLoop lt a a1 b1 (swp d a pivot) := by rw [hb1, ha1]; rfl
  rw [e0] at h
  have hQ6 := hQ.swp hi1 hi2
  have hsz6 : (swp d a pivot).size = n := by rw [size_swp]; exact hn
  generalize swp d a pivot = d0 at *
  simp (maxSteps := 1000000) [go_sem]
  refine AWp.draw mixed [(0, false), (1, false), (2, false), (3, false), (4, false), (5, false), (6, false), (7, false), (8, false), (9, false), (10, false), (11, false), (12, false), (13, false), (14, false), (15, false)] (by kernel_rfl) ?_
  simp (maxSteps := 1000000) [go_sem, ca, cb, n1, n2, s1, s0, w0, w1]
  refine AWp.loopVc (St := Nat × Nat × Array (Int × Int)) (fun s => [(0, lv 2 id 0 n), (1, .int .i64 a), (4, .func (.func g) fs.toArray cs.toArray), (11, .int .i64 s.1), (12, .int .i64 s.2.1)])
    (fun s H' => a < s.1 /\ s.1 <= s.2.1 + 1 /\ s.2.1 < n /\ s.2.2.size = n /\ QA Q s.2.2 /\ Same (fun k => k = id) H H' /\ Arr cellsP H' id s.2.2 /\ partEqLoop lt a s.1 s.2.1 s.2.2 = partEqLoop lt a a1 b1 d0) (fun s => s.2.1 + 1 - s.1) (a1, b1, d0) ?_ ?_ ?_
  · simp [upF, Fr.get, Up.refl]
  · exact ⟨by simp only; omega, by simp only; omega, by simp only; omega, hsz6, hQ6, hS6, hA6, rfl⟩
  · rintro K0 ⟨i, j, d1⟩ H1 ⟨hai, hij, hjn, hsz, hQ1, hS1, hA1, hO⟩ hK0
    simp only at hai hij hjn hsz hQ1 hS1 hA1 hO
    obtain ⟨pv, hpv⟩ : ∃ pv, pv = d1[a]! := ⟨_, rfl⟩
    rw [partEqLoop_eq, <- hpv] at hO
    simp (maxSteps := 1000000) [go_sem]
    refine AWp.loopCut (St := Nat) (St' := Unit) 2 (fun s => [(0, lv 2 id 0 n), (1, .int .i64 a), (4, .func (.func g) fs.toArray cs.toArray), (11, .int .i64 s), (12, .int .i64 j)])
      (fun s H2 => a < s /\ s <= j + 1 /\ Same (fun k => k = id) H H2 /\ Arr cellsP H2 id d1 /\ scanUp (fun x => !lt pv x) d1 j s = scanUp (fun x => !lt pv x) d1 j i) (fun s => j + 1 - s) i
      (fun _ => [(0, lv 2 id 0 n), (1, .int .i64 a), (4, .func (.func g) fs.toArray cs.toArray), (11, .int .i64 ((scanUp (fun x => !lt pv x) d1 j i : Nat) : Int)), (12, .int .i64 j)])
      (fun _ H2 => Same (fun k => k = id) H H2 /\ Arr cellsP H2 id d1) ?_ ?_ ?_ ?_
    · simp [upF, Fr.get, Up.refl]
    · exact ⟨by omega, by omega, hS1, hA1, rfl⟩
    · rintro K KE s H2 ⟨has, hsj, hS2, hA2, hP⟩ hK hKE
      by_cases hsj2 : s <= j
      · have hi1 : s < (d1).size := by omega
        have hi0 : a < (d1).size := by omega
        have n1 : s < n := by omega
        have n0 : a < n := by omega
        have hsj3 : (s : Int) <= ((j : Nat) : Int) := by omega
        have hw_s : IntKind.i64.wrap ((s : Int) + 1) = (s : Int) + 1 := i64w (by omega) (by omega)
        have c1 := hA2.load cellsP_len hi1
        have c0 := hA2.load cellsP_len hi0
        have q1 := hQ1 _ hi1
        have q0 := hQ1 _ hi0
        obtain ⟨x, hx⟩ : ∃ x, x = (d1)[s]! := ⟨_, rfl⟩
        rw [<- hx] at c1 q1
        rw [<- hpv] at c0 q0
        simp only [cellsP, Nat.mul_one, Row.val] at c1 c0
        refine AWp.draw mixed [(0, false), (1, false), (2, false), (3, false), (4, false), (5, false), (6, false), (7, false), (8, false), (9, false), (10, false), (11, false), (12, false), (13, false), (14, false), (15, false), (16, false)] (by kernel_rfl) ?_
        simp (maxSteps := 1000000) [go_sem, hsj2, hsj3, c1, c0, n1, n0]
        refine hC H2 pv x _ hS2 q0 q1 ?_
        intro H3 c hp3 hc
        have hS3 := hS2.via (Same.of_prefix (S := fun _ => False) hp3) (fun _ _ h => h.elim)
        have hA3 := hA2.pre hp3
        cases hl' : lt pv x with
        | false =>
          rw [hl'] at hc
          have hc0 := hc
          simp only [decide_eq_true_eq, decide_eq_false_iff_not] at hc0
          simp (maxSteps := 1000000) [go_sem, hc, hc0, hw_s]
          exact hK (s + 1) _ _ (by omega) (by simp [upF, Fr.get, Up.refl]) ⟨by omega, by omega, hS3, hA3, by rw [<- hP]; exact (scanUp_go hsj2 (by show (!lt pv d1[s]!) = true; rw [<- hx]; simp [hl'])).symm⟩
        | true =>
          rw [hl'] at hc
          have hc0 := hc
          simp only [decide_eq_true_eq, decide_eq_false_iff_not] at hc0
          rw [scanUp_stop (.inr (by show (!lt pv d1[s]!) = false; rw [<- hx]; simp [hl']))] at hP
          simp (maxSteps := 1000000) [go_sem, hc, hc0]
          exact hKE () _ _ (by simp [upF, Fr.get, Up.refl, hP]) ⟨hS3, hA3⟩
      · rw [scanUp_stop (.inl (by omega))] at hP
        have hsj3 : ¬ ((s : Int) <= ((j : Nat) : Int)) := by omega
        refine AWp.draw mixed [(0, false), (1, false), (2, false), (3, false), (4, false), (5, false), (6, false), (7, false), (8, false), (9, false), (10, false), (11, false), (12, false), (13, false), (14, false), (15, false), (16, false)] (by kernel_rfl) ?_
        simp (maxSteps := 1000000) [go_sem, undef, hsj2, hsj3]
        exact hKE () _ _ (by simp [upF, Fr.get, Up.refl, hP]) ⟨hS2, hA2⟩
    rintro _ H3 ⟨hS3, hA3⟩
    have hge1 := scanUp_ge (fun x => !lt pv x) d1 j i
    have hle1 := (scanUp_spec (fun x => !lt pv x) d1 j _ i rfl).2.1 (by omega)
    have hle1s := (scanUp_spec (fun x => !lt pv x) d1 j _ i rfl).2.2.2
    obtain ⟨i2, hi2'⟩ : ∃ I, scanUp (fun x => !lt pv x) d1 j i = I := ⟨_, rfl⟩
    rw [hi2'] at hge1 hle1 hle1s ⊢
    simp (maxSteps := 1000000) [go_sem]
    refine AWp.loopCut (St := Nat) (St' := Unit) 4 (fun s => [(0, lv 2 id 0 n), (1, .int .i64 a), (4, .func (.func g) fs.toArray cs.toArray), (11, .int .i64 i2), (12, .int .i64 s)])
      (fun s H2 => s < n /\ i2 <= s + 1 /\ Same (fun k => k = id) H H2 /\ Arr cellsP H2 id d1 /\ scanDown (fun x => lt pv x) d1 i2 s = scanDown (fun x => lt pv x) d1 i2 j) (fun s => s) j
      (fun _ => [(0, lv 2 id 0 n), (1, .int .i64 a), (4, .func (.func g) fs.toArray cs.toArray), (11, .int .i64 i2), (12, .int .i64 ((scanDown (fun x => lt pv x) d1 i2 j : Nat) : Int))])
      (fun _ H2 => Same (fun k => k = id) H H2 /\ Arr cellsP H2 id d1) ?_ ?_ ?_ ?_
    · simp [upF, Fr.get, Up.refl]
    · exact ⟨by omega, by omega, hS3, hA3, rfl⟩
    · rintro K KE s H2 ⟨hsn, his, hS2, hA2, hP⟩ hK hKE
      by_cases his2 : i2 <= s
      · obtain ⟨r, rfl⟩ : ∃ r, s = r + 1 := ⟨s - 1, by omega⟩
        have hi1 : r + 1 < (d1).size := by omega
        have hi0 : a < (d1).size := by omega
        have n1 : r + 1 < n := by omega
        have n0 : a < n := by omega
        have m1 : (r : Int) + 1 < n := by omega
        have z1 : (0 : Int) <= (r : Int) + 1 := by omega
        have his3 : ((i2 : Nat) : Int) <= (r : Int) + 1 := by omega
        have hwr : IntKind.i64.wrap (r : Int) = (r : Int) := i64w (by omega) (by omega)
        have c1 := hA2.load cellsP_len hi1
        have c0 := hA2.load cellsP_len hi0
        have q1 := hQ1 _ hi1
        have q0 := hQ1 _ hi0
        obtain ⟨x, hx⟩ : ∃ x, x = (d1)[r + 1]! := ⟨_, rfl⟩
        rw [<- hx] at c1 q1
        rw [<- hpv] at c0 q0
        simp only [cellsP, Nat.mul_one, Row.val] at c1 c0
        refine AWp.draw mixed [(0, false), (1, false), (2, false), (3, false), (4, false), (5, false), (6, false), (7, false), (8, false), (9, false), (10, false), (11, false), (12, false), (13, false), (14, false), (15, false)] (by kernel_rfl) ?_
        simp (maxSteps := 1000000) [go_sem, his2, his3, c1, c0, n1, n0, m1, z1]
        refine hC H2 pv x _ hS2 q0 q1 ?_
        intro H3 c hp3 hc
        have hS3 := hS2.via (Same.of_prefix (S := fun _ => False) hp3) (fun _ _ h => h.elim)
        have hA3 := hA2.pre hp3
        cases hl' : lt pv x with
        | true =>
          rw [hl'] at hc
          have hc0 := hc
          simp only [decide_eq_true_eq, decide_eq_false_iff_not] at hc0
          simp (maxSteps := 1000000) [go_sem, hc, hc0, hwr]
          exact hK r _ _ (by omega) (by simp [upF, Fr.get, Up.refl]) ⟨by omega, by omega, hS3, hA3, by rw [<- hP]; exact (scanDown_go his2 (by show (lt pv d1[r + 1]!) = true; rw [<- hx]; simp [hl'])).symm⟩
        | false =>
          rw [hl'] at hc
          have hc0 := hc
          simp only [decide_eq_true_eq, decide_eq_false_iff_not] at hc0
          rw [scanDown_stop (.inr (by show (lt pv d1[r + 1]!) = false; rw [<- hx]; simp [hl']))] at hP
          have hP' : ((r : Nat) : Int) + 1 = ((scanDown (fun x => lt pv x) d1 i2 j : Nat) : Int) := by rw [<- hP]; simp
          simp (maxSteps := 1000000) [go_sem, hc, hc0]
          exact hKE () _ _ (by simp [upF, Fr.get, Up.refl, hP']) ⟨hS3, hA3⟩
      · rw [scanDown_stop (.inl (by omega))] at hP
        have his3 : ¬ (((i2 : Nat) : Int) <= (s : Int)) := by omega
        refine AWp.draw mixed [(0, false), (1, false), (2, false), (3, false), (4, false), (5, false), (6, false), (7, false), (8, false), (9, false), (10, false), (11, false), (12, false), (13, false), (14, false), (15, false)] (by kernel_rfl) ?_
        simp (maxSteps := 1000000) [go_sem, undef, his2, his3]
        exact hKE () _ _ (by simp [upF, Fr.get, Up.refl, hP]) ⟨hS2, hA2⟩
    rintro _ H4 ⟨hS4, hA4⟩
    have hge2 := scanDown_le (fun x => lt pv x) d1 i2 j
    have hle2 := (scanDown_spec (fun x => lt pv x) d1 i2 j).2.1 (by omega)
    have hle2s := (scanDown_spec (fun x => lt pv x) d1 i2 j).2.2.2
    obtain ⟨j2, hj2'⟩ : ∃ J, scanDown (fun x => lt pv x) d1 i2 j = J := ⟨_, rfl⟩
    rw [hj2'] at hge2 hle2 hle2s ⊢
    simp (maxSteps := 1000000) [go_sem]
    rw [hi2', hj2'] at hO
    by_cases hgt : j2 < i2
    · have hgt' : (j2 : Int) < i2 := by omega
      rw [if_pos hgt] at hO
      simp (maxSteps := 1000000) [go_sem, hgt, hgt']
      rw [<- hO] at h
      exact h H4 hS4 hA4
    · have hgt' : ¬ ((j2 : Int) < i2) := by omega
      rw [if_neg hgt] at hO
      have hne : i2 ≠ j2 := by
        intro e
        have f1 := hle1s (by omega)
        have f2 := hle2s (by omega) (by omega)
        rw [<- e] at f2
        simp only [Bool.not_eq_false'] at f1
        rw [f1] at f2; cases f2
      obtain ⟨r, rfl⟩ : ∃ r, j2 = r + 1 := ⟨j2 - 1, by omega⟩
      have hi1 : i2 < d1.size := by omega
      have hi2 : r + 1 < d1.size := by omega
      have n1 : i2 < n := by omega
      have n2 : r + 1 < n := by omega
      have m2 : (r : Int) + 1 < n := by omega
      have z2 : (0 : Int) <= (r : Int) + 1 := by omega
      have hgt3 : ¬ ((r : Int) + 1 < i2) := by omega
      have hwr : IntKind.i64.wrap (r : Int) = (r : Int) := i64w (by omega) (by omega)
      have hwi : IntKind.i64.wrap ((i2 : Int) + 1) = (i2 : Int) + 1 := i64w (by omega) (by omega)
      have ca := hA4.load cellsP_len hi1
      have cb := hA4.load cellsP_len hi2
      obtain ⟨H5, H6, s1, s0, hA6, hS6, hl6⟩ := hA4.swap cellsP_len cellsP_one hi1 hi2
      obtain ⟨x, hx⟩ : ∃ x, x = d1[i2]! := ⟨_, rfl⟩
      obtain ⟨y, hy⟩ : ∃ y, y = d1[r + 1]! := ⟨_, rfl⟩
      rw [<- hx] at ca s0
      rw [<- hy] at cb s1
      simp only [cellsP, Nat.mul_one, Row.val] at ca cb s0 s1
      simp (maxSteps := 1000000) [go_sem, hgt, hgt', hgt3]
      refine AWp.draw mixed [(0, false), (1, false), (2, false), (3, false), (4, false), (5, false), (6, false), (7, false), (8, false), (9, false), (10, false), (11, false), (12, false), (13, false), (14, false), (15, false)] (by kernel_rfl) ?_
      simp (maxSteps := 1000000) [go_sem, ca, cb, n1, n2, m2, z2, s1, s0, hwr, hwi]
      exact hK0 (i2 + 1, r, swp d1 i2 (r + 1)) _ _ (by simp only; omega) (by simp [upF, Fr.get, Up.refl]) ⟨by simp only; omega, by simp only; omega, by simp only; omega, by rw [size_swp]; exact hsz, hQ1.swp hi1 hi2, hS4.trans hS6, hA6, hO⟩

end Go.Proofs.YtkimaohcmcfcnaaGreat
end

section
namespace Go.Proofs.YtkimaohcmcfcnaaGreat
open Go.Ab Go.Sort

theorem partP_ok {H : Heap} {id a b pivot n : Nat} {d : Array (Int × Int)} {lt : (Int × Int) -> (Int × Int) -> Bool} {g : FuncId} {fs cs : List Value} {Q : (Int × Int) -> Prop} (hA : Arr cellsP H id d) (hn : d.size = n) (hl : n <= 1048576) (hap : a <= pivot) (hpb : pivot < b) (hb : b <= n) (hQ : QA Q d)
    (hC : Cmp Tryz.prog valP lt g fs cs Q id H) (Post : Value -> Heap -> Prop) (h : ∀ H', Same (fun k => k = id) H H' -> Arr cellsP H' id (partition lt d a b pivot).2.2 -> Post (.tuple #[.int .i64 ((partition lt d a b pivot).1 : Nat), .bool (partition lt d a b pivot).2.1]) H') :
    ACalls Tryz.prog 93 [lv 2 id 0 n, .int .i64 a, .int .i64 b, .int .i64 pivot, .func (.func g) fs.toArray cs.toArray] H Post := by
  refine acalls_vc (rs := [.tmp 10, .tmp 11]) Tryz.func93 rfl rfl Tryz.ntmps93 rfl rfl ?_
  obtain ⟨b1, hb1⟩ : ∃ b1, b1 = b - 1 := ⟨_, rfl⟩
  obtain ⟨a1, ha1⟩ : ∃ a1, a1 = a + 1 := ⟨_, rfl⟩
  have w0 : IntKind.i64.wrap ((b : Int) - 1) = (b1 : Int) := by rw [hb1, i64w (by omega) (by omega)]; omega
  have w1 : IntKind.i64.wrap ((a : Int) + 1) = (a1 : Int) := by rw [ha1, i64w (by omega) (by omega)]; omega
  have u1 : a < (d).size := by omega
  have u2 : pivot < (d).size := by omega
  have u3 : a < n := by omega
  have u4 : pivot < n := by omega
  have uca := (hA).load cellsP_len u1
  have ucb := (hA).load cellsP_len u2
  obtain ⟨H5, H6, us1, us0, hA6, hS6, ul⟩ := (hA).swap cellsP_len cellsP_one u1 u2
  obtain ⟨ux, uhx⟩ : ∃ x, x = (d)[a]! := ⟨_, rfl⟩
  obtain ⟨uy, uhy⟩ : ∃ y, y = (d)[pivot]! := ⟨_, rfl⟩
  rw [<- uhx] at uca us0
  rw [<- uhy] at ucb us1
  simp only [cellsP, Nat.mul_one, Row.val] at uca ucb us0 us1
  have e0 : partition lt d a b pivot = (let i := scanUp (fun x => lt x (swp d a pivot)[a]!) (swp d a pivot) b1 a1
      let j := scanDown (fun x => !lt x (swp d a pivot)[a]!) (swp d a pivot) i b1
      if i > j then (j, true, swp (swp d a pivot) j a) else
        (let r := partLoop lt a (i + 1) (j - 1) (swp (swp d a pivot) i j)
        (r.1, false, swp r.2 r.1 a))) := by rw [hb1, ha1]; rfl
  have hQ6 := hQ.swp u1 u2
  have hsz6 : (swp d a pivot).size = n := by rw [size_swp]; exact hn
  generalize swp d a pivot = d0 at *
  obtain ⟨pv, hpv⟩ : ∃ pv, pv = d0[a]! := ⟨_, rfl⟩
  simp only [<- hpv] at e0
  simp (maxSteps := 1000000) [go_sem]
  refine AWp.draw mixed [(0, false), (1, false), (2, false), (3, false), (4, false), (5, false), (6, false), (7, false), (8, false), (9, false), (10, false), (11, false), (12, false), (13, false), (14, false), (15, false)] (by kernel_rfl) ?_
  simp (maxSteps := 1000000) [go_sem, uca, ucb, u3, u4, us1, us0, w0, w1]
  refine AWp.loopCut (St := Nat) (St' := Unit) 0 (fun s => [(0, lv 2 id 0 n), (1, .int .i64 a), (4, .func (.func g) fs.toArray cs.toArray), (12, .int .i64 s), (13, .int .i64 b1)])
    (fun s H2 => a < s /\ s <= b1 + 1 /\ Same (fun k => k = id) H H2 /\ Arr cellsP H2 id d0 /\ scanUp (fun x => lt x pv) d0 b1 s = scanUp (fun x => lt x pv) d0 b1 a1) (fun s => b1 + 1 - s) a1
    (fun _ => [(0, lv 2 id 0 n), (1, .int .i64 a), (4, .func (.func g) fs.toArray cs.toArray), (12, .int .i64 ((scanUp (fun x => lt x pv) d0 b1 a1 : Nat) : Int)), (13, .int .i64 b1)])
    (fun _ H2 => Same (fun k => k = id) H H2 /\ Arr cellsP H2 id d0) ?_ ?_ ?_ ?_
  · simp [upF, Fr.get, Up.refl]
  · exact ⟨by omega, by omega, hS6, hA6, rfl⟩
  · rintro K KE s H2 ⟨has, hsj, hS2, hA2, hP⟩ hK hKE
    by_cases hsj2 : s <= b1
    · have hi1 : s < (d0).size := by omega
      have hi0 : a < (d0).size := by omega
      have n1 : s < n := by omega
      have n0 : a < n := by omega
      have hsj3 : (s : Int) <= ((b1 : Nat) : Int) := by omega
      have hw_s : IntKind.i64.wrap ((s : Int) + 1) = (s : Int) + 1 := i64w (by omega) (by omega)
      have c1 := hA2.load cellsP_len hi1
      have c0 := hA2.load cellsP_len hi0
      have q1 := hQ6 _ hi1
      have q0 := hQ6 _ hi0
      obtain ⟨x, hx⟩ : ∃ x, x = (d0)[s]! := ⟨_, rfl⟩
      rw [<- hx] at c1 q1
      rw [<- hpv] at c0 q0
      simp only [cellsP, Nat.mul_one, Row.val] at c1 c0
      refine AWp.draw mixed [(0, false), (1, false), (2, false), (3, false), (4, false), (5, false), (6, false), (7, false), (8, false), (9, false), (10, false), (11, false), (12, false), (13, false), (14, false), (15, false)] (by kernel_rfl) ?_
      simp (maxSteps := 1000000) [go_sem, hsj2, hsj3, c1, c0, n1, n0]
      refine hC H2 x pv _ hS2 q1 q0 ?_
      intro H3 c hp3 hc
      have hS3 := hS2.via (Same.of_prefix (S := fun _ => False) hp3) (fun _ _ h => h.elim)
      have hA3 := hA2.pre hp3
      cases hl' : lt x pv with
      | true =>
        rw [hl'] at hc
        have hc0 := hc
        simp only [decide_eq_true_eq, decide_eq_false_iff_not] at hc0
        simp (maxSteps := 1000000) [go_sem, hc, hc0, hw_s]
        exact hK (s + 1) _ _ (by omega) (by simp [upF, Fr.get, Up.refl]) ⟨by omega, by omega, hS3, hA3, by rw [<- hP]; exact (scanUp_go hsj2 (by show lt d0[s]! pv = true; rw [<- hx]; simp [hl'])).symm⟩
      | false =>
        rw [hl'] at hc
        have hc0 := hc
        simp only [decide_eq_true_eq, decide_eq_false_iff_not] at hc0
        rw [scanUp_stop (.inr (by show lt d0[s]! pv = false; rw [<- hx]; simp [hl']))] at hP
        simp (maxSteps := 1000000) [go_sem, hc, hc0]
        exact hKE () _ _ (by simp [upF, Fr.get, Up.refl, hP]) ⟨hS3, hA3⟩
    · rw [scanUp_stop (.inl (by omega))] at hP
      have hsj3 : ¬ ((s : Int) <= ((b1 : Nat) : Int)) := by omega
      refine AWp.draw mixed [(0, false), (1, false), (2, false), (3, false), (4, false), (5, false), (6, false), (7, false), (8, false), (9, false), (10, false), (11, false), (12, false), (13, false), (14, false), (15, false)] (by kernel_rfl) ?_
      simp (maxSteps := 1000000) [go_sem, undef, hsj2, hsj3]
      exact hKE () _ _ (by simp [upF, Fr.get, Up.refl, hP]) ⟨hS2, hA2⟩
  rintro _ H7 ⟨hS7, hA7⟩
  have hge1 := scanUp_ge (fun x => lt x pv) d0 b1 a1
  have hle1 := (scanUp_spec (fun x => lt x pv) d0 b1 _ a1 rfl).2.1 (by omega)
  have hle1s := (scanUp_spec (fun x => lt x pv) d0 b1 _ a1 rfl).2.2.2
  obtain ⟨i2, hi2'⟩ : ∃ I, scanUp (fun x => lt x pv) d0 b1 a1 = I := ⟨_, rfl⟩
  rw [hi2'] at hge1 hle1 hle1s ⊢
  simp (maxSteps := 1000000) [go_sem]
  refine AWp.loopCut (St := Nat) (St' := Unit) 2 (fun s => [(0, lv 2 id 0 n), (1, .int .i64 a), (4, .func (.func g) fs.toArray cs.toArray), (12, .int .i64 i2), (13, .int .i64 s)])
    (fun s H2 => s < n /\ i2 <= s + 1 /\ Same (fun k => k = id) H H2 /\ Arr cellsP H2 id d0 /\ scanDown (fun x => !lt x pv) d0 i2 s = scanDown (fun x => !lt x pv) d0 i2 b1) (fun s => s) b1
    (fun _ => [(0, lv 2 id 0 n), (1, .int .i64 a), (4, .func (.func g) fs.toArray cs.toArray), (12, .int .i64 i2), (13, .int .i64 ((scanDown (fun x => !lt x pv) d0 i2 b1 : Nat) : Int))])
    (fun _ H2 => Same (fun k => k = id) H H2 /\ Arr cellsP H2 id d0) ?_ ?_ ?_ ?_
  · simp [upF, Fr.get, Up.refl]
  · exact ⟨by omega, by omega, hS7, hA7, rfl⟩
  · rintro K KE s H2 ⟨hsn, his, hS2, hA2, hP⟩ hK hKE
    by_cases his2 : i2 <= s
    · obtain ⟨r, rfl⟩ : ∃ r, s = r + 1 := ⟨s - 1, by omega⟩
      have hi1 : r + 1 < (d0).size := by omega
      have hi0 : a < (d0).size := by omega
      have n1 : r + 1 < n := by omega
      have n0 : a < n := by omega
      have m1 : (r : Int) + 1 < n := by omega
      have z1 : (0 : Int) <= (r : Int) + 1 := by omega
      have his3 : ((i2 : Nat) : Int) <= (r : Int) + 1 := by omega
      have hwr : IntKind.i64.wrap (r : Int) = (r : Int) := i64w (by omega) (by omega)
      have c1 := hA2.load cellsP_len hi1
      have c0 := hA2.load cellsP_len hi0
      have q1 := hQ6 _ hi1
      have q0 := hQ6 _ hi0
      obtain ⟨x, hx⟩ : ∃ x, x = (d0)[r + 1]! := ⟨_, rfl⟩
      rw [<- hx] at c1 q1
      rw [<- hpv] at c0 q0
      simp only [cellsP, Nat.mul_one, Row.val] at c1 c0
      refine AWp.draw mixed [(0, false), (1, false), (2, false), (3, false), (4, false), (5, false), (6, false), (7, false), (8, false), (9, false), (10, false), (11, false), (12, false), (13, false), (14, false), (15, false), (16, false)] (by kernel_rfl) ?_
      simp (maxSteps := 1000000) [go_sem, his2, his3, c1, c0, n1, n0, m1, z1]
      refine hC H2 x pv _ hS2 q1 q0 ?_
      intro H3 c hp3 hc
      have hS3 := hS2.via (Same.of_prefix (S := fun _ => False) hp3) (fun _ _ h => h.elim)
      have hA3 := hA2.pre hp3
      cases hl' : lt x pv with
      | false =>
        rw [hl'] at hc
        have hc0 := hc
        simp only [decide_eq_true_eq, decide_eq_false_iff_not] at hc0
        simp (maxSteps := 1000000) [go_sem, hc, hc0, hwr]
        exact hK r _ _ (by omega) (by simp [upF, Fr.get, Up.refl]) ⟨by omega, by omega, hS3, hA3, by rw [<- hP]; exact (scanDown_go his2 (by show (!lt d0[r + 1]! pv) = true; rw [<- hx]; simp [hl'])).symm⟩
      | true =>
        rw [hl'] at hc
        have hc0 := hc
        simp only [decide_eq_true_eq, decide_eq_false_iff_not] at hc0
        rw [scanDown_stop (.inr (by show (!lt d0[r + 1]! pv) = false; rw [<- hx]; simp [hl']))] at hP
        have hP' : ((r : Nat) : Int) + 1 = ((scanDown (fun x => !lt x pv) d0 i2 b1 : Nat) : Int) := by rw [<- hP]; simp
        simp (maxSteps := 1000000) [go_sem, hc, hc0]
        exact hKE () _ _ (by simp [upF, Fr.get, Up.refl, hP']) ⟨hS3, hA3⟩
    · rw [scanDown_stop (.inl (by omega))] at hP
      have his3 : ¬ (((i2 : Nat) : Int) <= (s : Int)) := by omega
      refine AWp.draw mixed [(0, false), (1, false), (2, false), (3, false), (4, false), (5, false), (6, false), (7, false), (8, false), (9, false), (10, false), (11, false), (12, false), (13, false), (14, false), (15, false), (16, false)] (by kernel_rfl) ?_
      simp (maxSteps := 1000000) [go_sem, undef, his2, his3]
      exact hKE () _ _ (by simp [upF, Fr.get, Up.refl, hP]) ⟨hS2, hA2⟩
  rintro _ H8 ⟨hS8, hA8⟩
  have hge2 := scanDown_le (fun x => !lt x pv) d0 i2 b1
  have hle2 := (scanDown_spec (fun x => !lt x pv) d0 i2 b1).2.1 (by omega)
  have hle2s := (scanDown_spec (fun x => !lt x pv) d0 i2 b1).2.2.2
  obtain ⟨j2, hj2'⟩ : ∃ J, scanDown (fun x => !lt x pv) d0 i2 b1 = J := ⟨_, rfl⟩
  rw [hj2'] at hge2 hle2 hle2s ⊢
  simp (maxSteps := 1000000) [go_sem]
  simp only [hi2', hj2'] at e0
  by_cases hgt : j2 < i2
  · have hgt' : (j2 : Int) < i2 := by omega
    rw [if_pos hgt] at e0
    rw [e0] at h
    have v1 : j2 < (d0).size := by omega
    have v2 : a < (d0).size := by omega
    have v3 : j2 < n := by omega
    have v4 : a < n := by omega
    have vca := (hA8).load cellsP_len v1
    have vcb := (hA8).load cellsP_len v2
    obtain ⟨H9, HA, vs1, vs0, hAA, hSA, vl⟩ := (hA8).swap cellsP_len cellsP_one v1 v2
    obtain ⟨vx, vhx⟩ : ∃ x, x = (d0)[j2]! := ⟨_, rfl⟩
    obtain ⟨vy, vhy⟩ : ∃ y, y = (d0)[a]! := ⟨_, rfl⟩
    rw [<- vhx] at vca vs0
    rw [<- vhy] at vcb vs1
    simp only [cellsP, Nat.mul_one, Row.val] at vca vcb vs0 vs1
    simp (maxSteps := 1000000) [go_sem, hgt, hgt']
    refine AWp.draw mixed [(0, false), (1, false), (2, false), (3, false), (4, false), (5, false), (6, false), (7, false), (8, false), (9, false), (10, false), (11, false), (12, false), (13, false), (14, false), (15, false)] (by kernel_rfl) ?_
    simp (maxSteps := 1000000) [go_sem, vca, vcb, v3, v4, vs1, vs0]
    exact h HA (hS8.trans hSA) hAA
  · have hgt' : ¬ ((j2 : Int) < i2) := by omega
    rw [if_neg hgt] at e0
    have hne : i2 ≠ j2 := by
      intro e
      have f1 := hle1s (by omega)
      have f2 := hle2s (by omega) (by omega)
      rw [<- e] at f2
      rw [f1] at f2; cases f2
    have v1 : i2 < (d0).size := by omega
    have v2 : j2 < (d0).size := by omega
    have v3 : i2 < n := by omega
    have v4 : j2 < n := by omega
    have vca := (hA8).load cellsP_len v1
    have vcb := (hA8).load cellsP_len v2
    obtain ⟨H9, HA, vs1, vs0, hAA, hSA, vl⟩ := (hA8).swap cellsP_len cellsP_one v1 v2
    obtain ⟨vx, vhx⟩ : ∃ x, x = (d0)[i2]! := ⟨_, rfl⟩
    obtain ⟨vy, vhy⟩ : ∃ y, y = (d0)[j2]! := ⟨_, rfl⟩
    rw [<- vhx] at vca vs0
    rw [<- vhy] at vcb vs1
    simp only [cellsP, Nat.mul_one, Row.val] at vca vcb vs0 vs1
    have hQA := hQ6.swp v1 v2
    have hszA : (swp d0 i2 j2).size = n := by rw [size_swp]; exact hsz6
    have hSA := hS8.trans hSA
    obtain ⟨i3, hi3⟩ : ∃ i3, i3 = i2 + 1 := ⟨_, rfl⟩
    obtain ⟨j3, hj3⟩ : ∃ j3, j3 = j2 - 1 := ⟨_, rfl⟩
    have w4 : IntKind.i64.wrap ((j2 : Int) - 1) = (j3 : Int) := by rw [hj3, i64w (by omega) (by omega)]; omega
    have w5 : IntKind.i64.wrap ((i2 : Int) + 1) = (i3 : Int) := by rw [hi3, i64w (by omega) (by omega)]; omega
    rw [<- hi3, <- hj3] at e0
    have hj3n : j3 < n := by omega
    have hi3j : i3 <= j3 + 1 := by omega
    have hai3 : a < i3 := by omega
    generalize swp d0 i2 j2 = dA at *
    simp (maxSteps := 1000000) [go_sem, hgt, hgt']
    refine AWp.draw mixed [(0, false), (1, false), (2, false), (3, false), (4, false), (5, false), (6, false), (7, false), (8, false), (9, false), (10, false), (11, false), (12, false), (13, false), (14, false), (15, false)] (by kernel_rfl) ?_
    simp (maxSteps := 1000000) [go_sem, vca, vcb, v3, v4, vs1, vs0, w4, w5]
    clear hle1s hle2s hi2' hj2' vs1 vs0 vca vcb us1 us0 uca ucb
    refine AWp.loopVc (St := Nat × Nat × Array (Int × Int)) (fun s => [(0, lv 2 id 0 n), (1, .int .i64 a), (4, .func (.func g) fs.toArray cs.toArray), (12, .int .i64 s.1), (13, .int .i64 s.2.1)])
      (fun s H' => a < s.1 /\ s.1 <= s.2.1 + 1 /\ s.2.1 < n /\ s.2.2.size = n /\ QA Q s.2.2 /\ Same (fun k => k = id) H H' /\ Arr cellsP H' id s.2.2 /\ partLoop lt a s.1 s.2.1 s.2.2 = partLoop lt a i3 j3 dA) (fun s => s.2.1 + 1 - s.1) (i3, j3, dA) ?_ ?_ ?_
    · simp [upF, Fr.get, Up.refl]
    · exact ⟨hai3, hi3j, hj3n, hszA, hQA, hSA, hAA, rfl⟩
    · rintro K0 ⟨i, j, d1⟩ H1 ⟨hai, hij, hjn, hsz, hQ1, hS1, hA1, hO⟩ hK0
      simp only at hai hij hjn hsz hQ1 hS1 hA1 hO
      obtain ⟨pw, hpw⟩ : ∃ pw, pw = d1[a]! := ⟨_, rfl⟩
      rw [partLoop_eq, <- hpw] at hO
      simp (maxSteps := 1000000) [go_sem]
      refine AWp.loopCut (St := Nat) (St' := Unit) 6 (fun s => [(0, lv 2 id 0 n), (1, .int .i64 a), (4, .func (.func g) fs.toArray cs.toArray), (12, .int .i64 s), (13, .int .i64 j)])
        (fun s H2 => a < s /\ s <= j + 1 /\ Same (fun k => k = id) H H2 /\ Arr cellsP H2 id d1 /\ scanUp (fun x => lt x pw) d1 j s = scanUp (fun x => lt x pw) d1 j i) (fun s => j + 1 - s) i
        (fun _ => [(0, lv 2 id 0 n), (1, .int .i64 a), (4, .func (.func g) fs.toArray cs.toArray), (12, .int .i64 ((scanUp (fun x => lt x pw) d1 j i : Nat) : Int)), (13, .int .i64 j)])
        (fun _ H2 => Same (fun k => k = id) H H2 /\ Arr cellsP H2 id d1) ?_ ?_ ?_ ?_
      · simp [upF, Fr.get, Up.refl]
      · exact ⟨by omega, by omega, hS1, hA1, rfl⟩
      · rintro K KE s H2 ⟨has, hsj, hS2, hA2, hP⟩ hK hKE
        by_cases hsj2 : s <= j
        · have hi1 : s < (d1).size := by omega
          have hi0 : a < (d1).size := by omega
          have n1 : s < n := by omega
          have n0 : a < n := by omega
          have hsj3 : (s : Int) <= ((j : Nat) : Int) := by omega
          have hw_s : IntKind.i64.wrap ((s : Int) + 1) = (s : Int) + 1 := i64w (by omega) (by omega)
          have c1 := hA2.load cellsP_len hi1
          have c0 := hA2.load cellsP_len hi0
          have q1 := hQ1 _ hi1
          have q0 := hQ1 _ hi0
          obtain ⟨x, hx⟩ : ∃ x, x = (d1)[s]! := ⟨_, rfl⟩
          rw [<- hx] at c1 q1
          rw [<- hpw] at c0 q0
          simp only [cellsP, Nat.mul_one, Row.val] at c1 c0
          refine AWp.draw mixed [(0, false), (1, false), (2, false), (3, false), (4, false), (5, false), (6, false), (7, false), (8, false), (9, false), (10, false), (11, false), (12, false), (13, false), (14, false), (15, false)] (by kernel_rfl) ?_
          simp (maxSteps := 1000000) [go_sem, hsj2, hsj3, c1, c0, n1, n0]
          refine hC H2 x pw _ hS2 q1 q0 ?_
          intro H3 c hp3 hc
          have hS3 := hS2.via (Same.of_prefix (S := fun _ => False) hp3) (fun _ _ h => h.elim)
          have hA3 := hA2.pre hp3
          cases hl' : lt x pw with
          | true =>
            rw [hl'] at hc
            have hc0 := hc
            simp only [decide_eq_true_eq, decide_eq_false_iff_not] at hc0
            simp (maxSteps := 1000000) [go_sem, hc, hc0, hw_s]
            exact hK (s + 1) _ _ (by omega) (by simp [upF, Fr.get, Up.refl]) ⟨by omega, by omega, hS3, hA3, by rw [<- hP]; exact (scanUp_go hsj2 (by show lt d1[s]! pw = true; rw [<- hx]; simp [hl'])).symm⟩
          | false =>
            rw [hl'] at hc
            have hc0 := hc
            simp only [decide_eq_true_eq, decide_eq_false_iff_not] at hc0
            rw [scanUp_stop (.inr (by show lt d1[s]! pw = false; rw [<- hx]; simp [hl']))] at hP
            simp (maxSteps := 1000000) [go_sem, hc, hc0]
            exact hKE () _ _ (by simp [upF, Fr.get, Up.refl, hP]) ⟨hS3, hA3⟩
        · rw [scanUp_stop (.inl (by omega))] at hP
          have hsj3 : ¬ ((s : Int) <= ((j : Nat) : Int)) := by omega
          refine AWp.draw mixed [(0, false), (1, false), (2, false), (3, false), (4, false), (5, false), (6, false), (7, false), (8, false), (9, false), (10, false), (11, false), (12, false), (13, false), (14, false), (15, false)] (by kernel_rfl) ?_
          simp (maxSteps := 1000000) [go_sem, undef, hsj2, hsj3]
          exact hKE () _ _ (by simp [upF, Fr.get, Up.refl, hP]) ⟨hS2, hA2⟩
      rintro _ H3 ⟨hS3, hA3⟩
      have hge3 := scanUp_ge (fun x => lt x pw) d1 j i
      have hle3 := (scanUp_spec (fun x => lt x pw) d1 j _ i rfl).2.1 (by omega)
      have hle3s := (scanUp_spec (fun x => lt x pw) d1 j _ i rfl).2.2.2
      obtain ⟨i4, hi4'⟩ : ∃ I, scanUp (fun x => lt x pw) d1 j i = I := ⟨_, rfl⟩
      rw [hi4'] at hge3 hle3 hle3s ⊢
      simp (maxSteps := 1000000) [go_sem]
      refine AWp.loopCut (St := Nat) (St' := Unit) 8 (fun s => [(0, lv 2 id 0 n), (1, .int .i64 a), (4, .func (.func g) fs.toArray cs.toArray), (12, .int .i64 i4), (13, .int .i64 s)])
        (fun s H2 => s < n /\ i4 <= s + 1 /\ Same (fun k => k = id) H H2 /\ Arr cellsP H2 id d1 /\ scanDown (fun x => !lt x pw) d1 i4 s = scanDown (fun x => !lt x pw) d1 i4 j) (fun s => s) j
        (fun _ => [(0, lv 2 id 0 n), (1, .int .i64 a), (4, .func (.func g) fs.toArray cs.toArray), (12, .int .i64 i4), (13, .int .i64 ((scanDown (fun x => !lt x pw) d1 i4 j : Nat) : Int))])
        (fun _ H2 => Same (fun k => k = id) H H2 /\ Arr cellsP H2 id d1) ?_ ?_ ?_ ?_
      · simp [upF, Fr.get, Up.refl]
      · exact ⟨by omega, by omega, hS3, hA3, rfl⟩
      · rintro K KE s H2 ⟨hsn, his, hS2, hA2, hP⟩ hK hKE
        by_cases his2 : i4 <= s
        · obtain ⟨r, rfl⟩ : ∃ r, s = r + 1 := ⟨s - 1, by omega⟩
          have hi1 : r + 1 < (d1).size := by omega
          have hi0 : a < (d1).size := by omega
          have n1 : r + 1 < n := by omega
          have n0 : a < n := by omega
          have m1 : (r : Int) + 1 < n := by omega
          have z1 : (0 : Int) <= (r : Int) + 1 := by omega
          have his3 : ((i4 : Nat) : Int) <= (r : Int) + 1 := by omega
          have hwr : IntKind.i64.wrap (r : Int) = (r : Int) := i64w (by omega) (by omega)
          have c1 := hA2.load cellsP_len hi1
          have c0 := hA2.load cellsP_len hi0
          have q1 := hQ1 _ hi1
          have q0 := hQ1 _ hi0
          obtain ⟨x, hx⟩ : ∃ x, x = (d1)[r + 1]! := ⟨_, rfl⟩
          rw [<- hx] at c1 q1
          rw [<- hpw] at c0 q0
          simp only [cellsP, Nat.mul_one, Row.val] at c1 c0
          refine AWp.draw mixed [(0, false), (1, false), (2, false), (3, false), (4, false), (5, false), (6, false), (7, false), (8, false), (9, false), (10, false), (11, false), (12, false), (13, false), (14, false), (15, false), (16, false)] (by kernel_rfl) ?_
          simp (maxSteps := 1000000) [go_sem, his2, his3, c1, c0, n1, n0, m1, z1]
          refine hC H2 x pw _ hS2 q1 q0 ?_
          intro H3 c hp3 hc
          have hS3 := hS2.via (Same.of_prefix (S := fun _ => False) hp3) (fun _ _ h => h.elim)
          have hA3 := hA2.pre hp3
          cases hl' : lt x pw with
          | false =>
            rw [hl'] at hc
            have hc0 := hc
            simp only [decide_eq_true_eq, decide_eq_false_iff_not] at hc0
            simp (maxSteps := 1000000) [go_sem, hc, hc0, hwr]
            exact hK r _ _ (by omega) (by simp [upF, Fr.get, Up.refl]) ⟨by omega, by omega, hS3, hA3, by rw [<- hP]; exact (scanDown_go his2 (by show (!lt d1[r + 1]! pw) = true; rw [<- hx]; simp [hl'])).symm⟩
          | true =>
            rw [hl'] at hc
            have hc0 := hc
            simp only [decide_eq_true_eq, decide_eq_false_iff_not] at hc0
            rw [scanDown_stop (.inr (by show (!lt d1[r + 1]! pw) = false; rw [<- hx]; simp [hl']))] at hP
            have hP' : ((r : Nat) : Int) + 1 = ((scanDown (fun x => !lt x pw) d1 i4 j : Nat) : Int) := by rw [<- hP]; simp
            simp (maxSteps := 1000000) [go_sem, hc, hc0]
            exact hKE () _ _ (by simp [upF, Fr.get, Up.refl, hP']) ⟨hS3, hA3⟩
        · rw [scanDown_stop (.inl (by omega))] at hP
          have his3 : ¬ (((i4 : Nat) : Int) <= (s : Int)) := by omega
          refine AWp.draw mixed [(0, false), (1, false), (2, false), (3, false), (4, false), (5, false), (6, false), (7, false), (8, false), (9, false), (10, false), (11, false), (12, false), (13, false), (14, false), (15, false), (16, false)] (by kernel_rfl) ?_
          simp (maxSteps := 1000000) [go_sem, undef, his2, his3]
          exact hKE () _ _ (by simp [upF, Fr.get, Up.refl, hP]) ⟨hS2, hA2⟩
      rintro _ H4 ⟨hS4, hA4⟩
      have hge4 := scanDown_le (fun x => !lt x pw) d1 i4 j
      have hle4 := (scanDown_spec (fun x => !lt x pw) d1 i4 j).2.1 (by omega)
      have hle4s := (scanDown_spec (fun x => !lt x pw) d1 i4 j).2.2.2
      obtain ⟨j4, hj4'⟩ : ∃ J, scanDown (fun x => !lt x pw) d1 i4 j = J := ⟨_, rfl⟩
      rw [hj4'] at hge4 hle4 hle4s ⊢
      simp (maxSteps := 1000000) [go_sem]
      rw [hi4', hj4'] at hO
      by_cases hgt : j4 < i4
      · have hgt' : (j4 : Int) < i4 := by omega
        rw [if_pos hgt] at hO
        rw [<- hO] at e0
        rw [e0] at h
        have z1 : j4 < (d1).size := by omega
        have z2 : a < (d1).size := by omega
        have z3 : j4 < n := by omega
        have z4 : a < n := by omega
        have zca := (hA4).load cellsP_len z1
        have zcb := (hA4).load cellsP_len z2
        obtain ⟨HC, HD, zs1, zs0, hAD, hSD, zl⟩ := (hA4).swap cellsP_len cellsP_one z1 z2
        obtain ⟨zx, zhx⟩ : ∃ x, x = (d1)[j4]! := ⟨_, rfl⟩
        obtain ⟨zy, zhy⟩ : ∃ y, y = (d1)[a]! := ⟨_, rfl⟩
        rw [<- zhx] at zca zs0
        rw [<- zhy] at zcb zs1
        simp only [cellsP, Nat.mul_one, Row.val] at zca zcb zs0 zs1
        simp (maxSteps := 1000000) [go_sem, hgt, hgt']
        refine AWp.draw mixed [(0, false), (1, false), (2, false), (3, false), (4, false), (5, false), (6, false), (7, false), (8, false), (9, false), (10, false), (11, false), (12, false), (13, false), (14, false), (15, false)] (by kernel_rfl) ?_
        simp (maxSteps := 1000000) [go_sem, zca, zcb, z3, z4, zs1, zs0]
        exact h HD (hS4.trans hSD) hAD
      · have hgt' : ¬ ((j4 : Int) < i4) := by omega
        rw [if_neg hgt] at hO
        have hne : i4 ≠ j4 := by
          intro e
          have f1 := hle3s (by omega)
          have f2 := hle4s (by omega) (by omega)
          rw [<- e] at f2
          rw [f1] at f2; cases f2
        have z1 : i4 < (d1).size := by omega
        have z2 : j4 < (d1).size := by omega
        have z3 : i4 < n := by omega
        have z4 : j4 < n := by omega
        have zca := (hA4).load cellsP_len z1
        have zcb := (hA4).load cellsP_len z2
        obtain ⟨HC, HD, zs1, zs0, hAD, hSD, zl⟩ := (hA4).swap cellsP_len cellsP_one z1 z2
        obtain ⟨zx, zhx⟩ : ∃ x, x = (d1)[i4]! := ⟨_, rfl⟩
        obtain ⟨zy, zhy⟩ : ∃ y, y = (d1)[j4]! := ⟨_, rfl⟩
        rw [<- zhx] at zca zs0
        rw [<- zhy] at zcb zs1
        simp only [cellsP, Nat.mul_one, Row.val] at zca zcb zs0 zs1
        obtain ⟨i5, hi5⟩ : ∃ i5, i5 = i4 + 1 := ⟨_, rfl⟩
        obtain ⟨j5, hj5⟩ : ∃ j5, j5 = j4 - 1 := ⟨_, rfl⟩
        have w6 : IntKind.i64.wrap ((j4 : Int) - 1) = (j5 : Int) := by rw [hj5, i64w (by omega) (by omega)]; omega
        have w7 : IntKind.i64.wrap ((i4 : Int) + 1) = (i5 : Int) := by rw [hi5, i64w (by omega) (by omega)]; omega
        rw [<- hi5, <- hj5] at hO
        simp (maxSteps := 1000000) [go_sem, hgt, hgt']
        refine AWp.draw mixed [(0, false), (1, false), (2, false), (3, false), (4, false), (5, false), (6, false), (7, false), (8, false), (9, false), (10, false), (11, false), (12, false), (13, false), (14, false), (15, false)] (by kernel_rfl) ?_
        simp (maxSteps := 1000000) [go_sem, zca, zcb, z3, z4, zs1, zs0, w6, w7]
        exact hK0 (i5, j5, swp d1 i4 j4) _ _ (by simp only; omega) (by simp [upF, Fr.get, Up.refl]) ⟨by simp only; omega, by simp only; omega, by simp only; omega, by rw [size_swp]; exact hsz, hQ1.swp z1 z2, hS4.trans hSD, hAD, hO⟩

end Go.Proofs.YtkimaohcmcfcnaaGreat
end
