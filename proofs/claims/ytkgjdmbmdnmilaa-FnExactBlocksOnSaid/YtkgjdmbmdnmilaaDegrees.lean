/- Degrees: both sides. -/
import Derived.Test.YtkgjdmbmdnmilaaThird
import Derived.Test.YtkgjdmbmdnmilaaRanges
set_option linter.all false
set_option maxRecDepth 20000
namespace Go.Ab

/-- A list that a call builds, behind the memory H. -/
def Bl (e : Nat) (H H' : Heap) (id : Nat) (cs : List Value) (n : Nat) : Prop := H <+: H' ∧ OL e H' id cs n ∧ H.length ≤ id
theorem Bl.ghost (e : Nat) (H : Heap) : Bl e H (H ++ [⟨[], false, false⟩]) H.length [] 0 := ⟨List.prefix_append _ _, OL.ghost e H, Nat.le_refl _⟩
theorem Bl.nil (e : Nat) (H : Heap) : Bl e H (H ++ [⟨[], true, true⟩]) H.length [] 0 := ⟨List.prefix_append _ _, ⟨by simp, .inr (by simp)⟩, Nat.le_refl _⟩
theorem Bl.pre {e : Nat} {H H' H'' : Heap} {id n : Nat} {cs : List Value} (h : Bl e H H' id cs n) (hp : H' <+: H'') : Bl e H H'' id cs n :=
  ⟨h.1.trans hp, h.2.1.keep (S := fun _ => False) (Same.of_prefix hp) (fun h => h), h.2.2⟩
theorem Bl.push {e : Nat} {H H' : Heap} {id n : Nat} {cs xs : List Value} (h : Bl e H H' id cs n) (he : 0 < e) (hx : xs.length = e) :
    cellsAt (H' ++ [⟨xs, true, true⟩]) H'.length 0 e = some xs ∧ ∃ H3, appendH (H' ++ [⟨xs, true, true⟩]) e (lv e id 0 n) 1 xs = some (lv e (H'.length + 1) 0 (n + 1), H3) ∧ Bl e H H3 (H'.length + 1) (cs ++ xs) (n + 1) := by
  obtain ⟨h1, H3, h2, h3, h4, h5⟩ := h.2.1.push he hx
  refine ⟨h1, H3, h2, ((Same.of_prefix h.1).trans h4).prefix (by have := h.2.2; omega), h3, ?_⟩
  have := h.1.length_le
  omega

/-- The numbers of the blocks with a point. -/
def atL (bs : List Bk) (q : Int) : List Int := (bs.zipIdx.filter fun x => x.1.has q).map fun x => (x.2 : Int)
theorem atL_snoc (bs : List Bk) (b : Bk) (q : Int) : atL (bs ++ [b]) q = atL bs q ++ (if b.has q then [(bs.length : Int)] else []) := by
  unfold atL
  rw [List.zipIdx_append, List.filter_append, List.map_append]
  congr 1
  cases h : b.has q <;> simp [h]
theorem atL_length (bs : List Bk) (q : Int) : (atL bs q).length = bs.countP (·.has q) := by
  have key : ∀ (bs : List Bk) (k : Nat), ((bs.zipIdx k).filter fun x => x.1.has q).length = bs.countP (·.has q) := by
    intro bs
    induction bs with
    | nil => intro k; rfl
    | cons b bs ih => intro k; simp only [List.zipIdx_cons, List.filter_cons, List.countP_cons]; cases h : b.has q <;> simp [h, ih]
  rw [atL, List.length_map, key]
theorem atL_le (bs : List Bk) (q : Int) : (atL bs q).length ≤ bs.length := by rw [atL_length]; exact List.countP_le_length

def degrees (p : Nat) (bs : List Bk) : List Int := (List.range p).map fun q : Nat => ((bs.countP (·.has (q : Int)) : Nat) : Int)

/-- How often the first numbers are each point. -/
def tally (p : Nat) (xs : List Int) : List Int := (List.range p).map fun q : Nat => ((xs.count (q : Int) : Nat) : Int)
theorem tally_length (p : Nat) (xs : List Int) : (tally p xs).length = p := by simp [tally]
theorem tally_get {p : Nat} {xs : List Int} {q : Nat} (h : q < p) : (tally p xs)[q]? = some ((xs.count (q : Int) : Nat) : Int) := by simp [tally, h]
theorem tally_snoc {p : Nat} {xs : List Int} {x : Nat} : tally p (xs ++ [(x : Int)]) = (tally p xs).set x ((xs.count (x : Int) : Nat) + 1) := by
  apply List.ext_getElem?
  intro k
  rw [List.getElem?_set]
  by_cases hk : k < p
  · rw [tally_get hk]
    by_cases e : x = k
    · subst e
      rw [if_pos rfl, if_pos (by rw [tally_length]; exact hk), List.count_append]
      simp
    · rw [if_neg e, tally_get hk, List.count_append]
      have : ((x : Int) == (k : Int)) = false := by simp; omega
      simp [List.count_cons, this]
  · have h1 : (tally p (xs ++ [(x : Int)]))[k]? = none := List.getElem?_eq_none (by rw [tally_length]; omega)
    have h2 : (tally p xs)[k]? = none := List.getElem?_eq_none (by rw [tally_length]; omega)
    rw [h1, h2, tally_length]
    split
    · rw [if_neg (by omega)]
    · rfl
theorem tally_nil (p : Nat) : tally p [] = List.replicate p 0 := by
  apply List.ext_getElem?
  intro k
  by_cases hk : k < p
  · rw [tally_get hk, List.getElem?_replicate, if_pos hk]; simp
  · rw [List.getElem?_eq_none (by rw [tally_length]; omega), List.getElem?_eq_none (by rw [List.length_replicate]; omega)]

end Go.Ab
namespace Go.Proofs.Ytkgjdmbmdnmilaa
open Go.Ab

theorem nums_cons (b : Bk) (bs : List Bk) : nums (b :: bs) = [b.a, b.b, b.c] ++ nums bs := by simp [nums]
theorem nums_get : ∀ {bs : List Bk} {s t : Nat} {b : Bk}, bs[s]? = some b → t < 3 → (nums bs)[s * 3 + t]? = some (b.nth t)
  | [], s, t, b, h, _ => by simp at h
  | d :: bs, 0, t, b, h, ht => by
    simp at h; subst h
    rw [nums_cons, List.getElem?_append_left (by simp; omega)]
    have : t = 0 ∨ t = 1 ∨ t = 2 := by omega
    rcases this with rfl | rfl | rfl <;> rfl
  | d :: bs, s + 1, t, b, h, ht => by
    have := nums_get (bs := bs) (s := s) (b := b) (by simpa using h) ht
    rw [nums_cons, List.getElem?_append_right (by simp; omega), ← this]
    congr 1; simp; omega
theorem nums_count {v : Int} {q : Int} : ∀ {bs : List Bk}, (∀ x ∈ bs, good v x = true) → (nums bs).count q = bs.countP (·.has q)
  | [], _ => rfl
  | b :: bs, h => by
    rw [nums_cons, List.count_append, nums_count fun x hx => h x (List.mem_cons_of_mem _ hx), List.countP_cons]
    have hb := h b List.mem_cons_self
    rw [good_iff] at hb
    have e : [b.a, b.b, b.c].count q = if b.has q then 1 else 0 := by
      have h3 : b.has q = true ↔ (b.a = q ∨ b.b = q ∨ b.c = q) := Bk.has_iff
      simp only [List.count_cons, List.count_nil, beq_iff_eq]
      by_cases hh : b.has q = true
      · rw [if_pos hh]; rw [h3] at hh; split <;> split <;> split <;> omega
      · rw [if_neg hh]; rw [h3] at hh; split <;> split <;> split <;> omega
    rw [e]; omega
theorem tally_nums {p : Int} {bs : List Bk} (h : ∀ x ∈ bs, good p x = true) (n : Nat) : tally n (nums bs) = degrees n bs := by
  unfold tally degrees
  apply List.map_congr_left
  intro q _
  rw [nums_count h]

noncomputable def rDegrees (p : Int) (bs : List Bk) : List Int × Int := if sysB p bs then (degrees p.toNat bs, 0) else ([], 1)

theorem l01At_ok {H : Heap} {u : Value} {p q : Int} {bs : List Bk} (hu : BlocksAt H u bs) (hl : bs.length ≤ 1048576) (Post : Value → Heap → Prop)
    (h : ∀ H' v id, H <+: H' → H.length ≤ id → OwnInts H' v id (atL bs q) → Post v H') :
    ACalls Try.prog 107 [sysV p u, .int .i64 q] H Post := by
  obtain ⟨i, o, rfl, h1, h2⟩ := hu
  refine ACalls.res ?_
  refine acalls_vc (rs := [.tmp 4]) Try.func107 rfl rfl Try.ntmps107 rfl rfl ?_
  simp (maxSteps := 1000000) [go_sem, sysV]
  have hp0 : H <+: H ++ [⟨[.int .i64 p, lv 3 i o bs.length], true, true⟩] := List.prefix_append _ _
  have hx0 := Holds.last H [.int .i64 p, lv 3 i o bs.length]
  have hb0 := Bl.nil 1 (H ++ [⟨[.int .i64 p, lv 3 i o bs.length], true, true⟩])
  simp only [List.length_append, List.length_singleton, List.append_assoc, List.singleton_append] at hb0
  have hlen : (H ++ [(⟨[.int .i64 p, lv 3 i o bs.length], true, true⟩ : Blk)]).length = H.length + 1 := by simp
  generalize H ++ [(⟨[.int .i64 p, lv 3 i o bs.length], true, true⟩ : Blk)] = H0 at hp0 hx0 hb0 hlen
  refine AWp.loopVc (St := Nat × Nat) (fun s => [(1, .int .i64 q), (2, .pointer (some ⟨H.length, 0, none⟩)), (5, lv 1 s.2 0 (atL (bs.take s.1) q).length), (6, .int .i64 s.1)])
    (fun s H' => s.1 ≤ bs.length ∧ Bl 1 H0 H' s.2 (ints (atL (bs.take s.1) q)) (atL (bs.take s.1) q).length) (fun s => bs.length - s.1) (0, H.length + 1) ?_ ?_ ?_
  · simp [upF, Fr.get, Up.refl, Up.ex0, atL]
  · exact ⟨by simp, by simpa [atL, ints] using hb0⟩
  · rintro K ⟨s, id⟩ H' ⟨hs, hbl⟩ hK
    simp only at hs hbl
    obtain ⟨d0, d1, d2⟩ := (hx0.pre hbl.1).sys
    by_cases hlt : s < bs.length
    · have hbs : bs[s]? = some bs[s] := List.getElem?_eq_getElem hlt
      have c1 := (h1.pre (hp0.trans hbl.1)).bk hbs
      simp only [Bk.cells] at c1
      have hw_s : IntKind.i64.wrap ((s : Int) + 1) = (s : Int) + 1 := i64w (by omega) (by omega)
      have hsn := atL_snoc (bs.take s) bs[s] q
      rw [← List.take_succ_eq_append_getElem hlt, List.length_take, Nat.min_eq_left hs] at hsn
      have hle : (atL (bs.take s) q).length ≤ bs.length := Nat.le_trans (atL_le _ _) (by simp; omega)
      simp (maxSteps := 1000000) [go_sem, hlt, d2, c1]
      refine l01With_ok (b := bs[s]) _ ?_
      intro H2 hp2
      have hbl2 := hbl.pre hp2
      cases hq : bs[s].has q with
      | false =>
        simp only [hq, Bool.false_eq_true, if_false, List.append_nil] at hsn
        simp (maxSteps := 1000000) [go_sem, hw_s]
        exact hK (s + 1, id) _ _ (by simp only; omega) (by simp [upF, Fr.get, Up.refl, hsn]) ⟨by simp only; omega, by simp only [hsn]; exact hbl2⟩
      | true =>
        simp only [hq, if_true] at hsn
        obtain ⟨hsrc, H3, hap, hbl3⟩ := hbl2.push (xs := [.int .i64 s]) (by omega) rfl
        simp (maxSteps := 1000000) [go_sem, hw_s, hsrc, hap]
        refine andK_intro (by omega) (hK (s + 1, H2.length + 1) _ _ (by simp only; omega) (by simp [upF, Fr.get, Up.refl, hsn]) ⟨by simp only; omega, ?_⟩)
        simp only [hsn, List.length_append, List.length_singleton, ← ints_append]
        exact hbl3
    · have : s = bs.length := by omega
      subst this
      rw [List.take_length] at hbl
      simp (maxSteps := 1000000) [go_sem, d2]
      refine ⟨_, Up.refl _ _, h H' _ id (hp0.trans hbl.1) (by have := hbl.2.2; omega) (OwnInts.of_ol hbl.2.1 ?_)⟩
      exact Nat.le_trans (atL_le _ _) h2

theorem specDegreesOf_ok {H : Heap} {u : Value} {p : Int} {bs : List Bk} (hu : BlocksAt H u bs) (hl : bs.length ≤ 1048576) (Post : Value → Heap → Prop)
    (h : ∀ H' v id, H <+: H' → H.length ≤ id → OwnInts H' v id (rDegrees p bs).1 → Post (.tuple #[v, .int .i64 (rDegrees p bs).2]) H') :
    ACalls Try.prog 44 [sysV p u] H Post := by
  refine ACalls.res ?_
  refine acalls_vc (rs := [.tmp 2, .tmp 3]) Try.func44 rfl rfl Try.ntmps44 rfl rfl ?_
  simp (maxSteps := 1000000) [go_sem, sysV, hu.one]
  have hx0 := Holds.last H [.int .i64 p, u]
  refine l01Is' (hu.pre (List.prefix_append _ _)) hl _ ?_
  intro H1 hp1
  have hpH := pre_box hp1
  have hx1 := hx0.pre hp1
  cases hs : sysB p bs with
  | false =>
    simp (maxSteps := 1000000) [go_sem]
    refine ⟨_, Up.tuple (ys := #[lv 1 H1.length 0 0, .int .i64 1]) ⟨Up.nil _ _ _ _, Up.refl _ _, trivial⟩, ?_⟩
    have := h H1 (lv 1 H1.length 0 0) H1.length hpH (hpH.length_le) (by simp only [rDegrees, hs]; exact ⟨rfl, .inl rfl, by simp⟩)
    simpa [rDegrees, hs] using this
  | true =>
    have hp := (sysB_of hs).1
    obtain ⟨n, rfl⟩ : ∃ n : Nat, p = n := ⟨p.toNat, by omega⟩
    simp (maxSteps := 1000000) [go_sem]
    have hb0 := Bl.nil 1 H1
    refine AWp.loopVc (St := Nat × Nat) (fun s => [(1, .pointer (some ⟨H.length, 0, none⟩)), (4, lv 1 s.2 0 s.1), (5, .int .i64 s.1)])
      (fun s H' => s.1 ≤ n ∧ Bl 1 H1 H' s.2 (ints (degrees s.1 bs)) s.1) (fun s => n - s.1) (0, H1.length) ?_ ?_ ?_
    · simp [upF, Fr.get, Up.refl, Up.ex0]
    · exact ⟨by simp, by simpa [degrees, ints] using hb0⟩
    · rintro K ⟨s, id⟩ H' ⟨hs', hbl⟩ hK
      simp only at hs' hbl
      obtain ⟨d0, d1, d2⟩ := (hx1.pre hbl.1).sys
      by_cases hlt : s < n
      · have hw_s : IntKind.i64.wrap ((s : Int) + 1) = (s : Int) + 1 := i64w (by omega) (by omega)
        simp (maxSteps := 1000000) [go_sem, hlt, d1, d0]
        refine l01At_ok (hu.pre (hpH.trans hbl.1)) hl _ ?_
        intro H2 v2 id2 hp2 _ ho2
        obtain ⟨rfl, _, _⟩ := ho2
        have hbl2 := hbl.pre hp2
        obtain ⟨hsrc, H3, hap, hbl3⟩ := hbl2.push (xs := [.int .i64 (atL bs s).length]) (by omega) rfl
        simp (maxSteps := 1000000) [go_sem, hw_s, hsrc, hap]
        refine andK_intro (by omega) (hK (s + 1, H2.length + 1) _ _ (by simp only; omega) (by simp [upF, Fr.get, Up.refl]) ⟨by simp only; omega, ?_⟩)
        have e : degrees (s + 1) bs = degrees s bs ++ [((atL bs s).length : Int)] := by simp [degrees, List.range_succ, atL_length]
        rw [e, ← ints_append]; exact hbl3
      · have : s = n := by omega
        subst this
        simp (maxSteps := 1000000) [go_sem, d1]
        refine ⟨_, Up.refl _ _, ?_⟩
        have hlen : (degrees s bs).length = s := by simp [degrees]
        have := h H' (lv 1 id 0 s) id (hpH.trans hbl.1) (by have := hbl.2.2; have := hpH.length_le; omega) (by
          simp only [rDegrees, hs, if_true, Int.toNat_natCast]
          have := OwnInts.of_ol (xs := degrees s bs) (by rw [hlen]; exact hbl.2.1) (by omega)
          rwa [hlen] at this)
        simpa [rDegrees, hs] using this

theorem implDegreesOf_ok {H : Heap} {u : Value} {p : Int} {bs : List Bk} (hu : BlocksAt H u bs) (hl : bs.length ≤ 1048576) (Post : Value → Heap → Prop)
    (h : ∀ H' v id, H <+: H' → H.length ≤ id → OwnInts H' v id (rDegrees p bs).1 → Post (.tuple #[v, .int .i64 (rDegrees p bs).2]) H') :
    ACalls Try.prog 45 [sysV p u] H Post := by
  refine ACalls.res ?_
  refine acalls_vc (rs := [.tmp 2, .tmp 3]) Try.func45 rfl rfl Try.ntmps45 rfl rfl ?_
  simp (maxSteps := 1000000) [go_sem, sysV, hu.one]
  have hx0 := Holds.last H [.int .i64 p, u]
  refine implIsSys (hu.pre (List.prefix_append _ _)) _ ?_
  intro H1 hp1
  have hpH := pre_box hp1
  obtain ⟨d0, d1, d2⟩ := (hx0.pre hp1).sys
  cases hs : sysB p bs with
  | false =>
    simp (maxSteps := 1000000) [go_sem]
    refine ⟨_, Up.tuple (ys := #[lv 1 H1.length 0 0, .int .i64 1]) ⟨Up.nil _ _ _ _, Up.refl _ _, trivial⟩, ?_⟩
    have := h H1 (lv 1 H1.length 0 0) H1.length hpH (hpH.length_le) (by simp only [rDegrees, hs]; exact ⟨rfl, .inl rfl, by simp⟩)
    simpa [rDegrees, hs] using this
  | true =>
    have hS := sysB_of hs
    have hp := hS.1
    obtain ⟨n, rfl⟩ : ∃ n : Nat, p = n := ⟨p.toNat, by omega⟩
    obtain ⟨i, o, rfl, h1, h2⟩ := hu
    have hm : ∀ n, (madeCells #[Value.int .i64 0] n).toList = ints (List.replicate n 0) := by
      intro n
      rw [made_same (v := .int .i64 0) (by simp) (by intro i hi; simp at hi; subst hi; rfl)]
      simp [ints]
    simp (maxSteps := 1000000) [go_sem, d1, hm]
    refine andK_intro (by omega) ?_
    have hlast : (H1 ++ [(⟨ints (List.replicate n 0), true, true⟩ : Blk)])[H1.length]? = some ⟨ints (List.replicate n 0), true, true⟩ := by simp
    have hpl : H1 <+: H1 ++ [⟨ints (List.replicate n 0), true, true⟩] := List.prefix_append _ _
    generalize H1 ++ [(⟨ints (List.replicate n 0), true, true⟩ : Blk)] = H2 at hlast hpl ⊢
    obtain ⟨e0, e1, e2⟩ := ((hx0.pre hp1).pre hpl).sys
    simp (maxSteps := 1000000) [go_sem, e2]
    have hnl := nums_length bs
    have hgood := hS.good
    refine AWp.loopVc (fun s : Nat => [(4, .slice (some ⟨H1.length, 0, none⟩) n n), (16, lv 3 i o bs.length), (17, .int .i64 bs.length), (18, .int .i64 s)])
      (fun s H' => s ≤ bs.length ∧ H1 <+: H' ∧ H'[H1.length]? = some ⟨ints (tally n ((nums bs).take (s * 3))), true, true⟩) (fun s => bs.length - s) 0 ?_ ?_ ?_
    · simp [upF, Fr.get, Up.refl]
    · exact ⟨by omega, hpl, by simpa [tally_nil] using hlast⟩
    · rintro K s H' ⟨hs', hp', hc⟩ hK
      by_cases hlt : s < bs.length
      · have hbs : bs[s]? = some bs[s] := List.getElem?_eq_getElem hlt
        have c1 := (h1.pre (hpH.trans hp')).bk hbs
        simp only [Bk.cells] at c1
        have hg := hgood _ (List.mem_of_getElem? hbs)
        obtain ⟨a, b, c, hb, hab, hbc, hc15⟩ := good_nat hg (by omega)
        rw [hb, good_iff] at hg
        simp only at hg
        rw [hb] at c1 hbs
        simp (maxSteps := 1000000) [go_sem, hlt, c1]
        have hpb : H' <+: H' ++ [⟨[.int .i64 a, .int .i64 b, .int .i64 c], true, true⟩] := List.prefix_append _ _
        have hcb := Same.get (S := fun _ => False) (Same.of_prefix hpb) hc (fun h => h)
        generalize H' ++ [(⟨[.int .i64 a, .int .i64 b, .int .i64 c], true, true⟩ : Blk)] = H3 at hpb hcb ⊢
        refine AWp.loopVc (fun t : Nat => [(4, .slice (some ⟨H1.length, 0, none⟩) n n), (16, lv 3 i o bs.length), (17, .int .i64 bs.length), (18, .int .i64 s), (22, .agg #[.int .i64 a, .int .i64 b, .int .i64 c]), (23, .int .i64 t)])
          (fun t H4 => t ≤ 3 ∧ H1 <+: H4 ∧ H4[H1.length]? = some ⟨ints (tally n ((nums bs).take (s * 3 + t))), true, true⟩) (fun t => 3 - t) 0 ?_ ?_ ?_
        · simp [upF, Fr.get, Up.refl]
        · exact ⟨by omega, hp'.trans hpb, hcb⟩
        · rintro K2 t H4 ⟨ht, hp4, hc4⟩ hK2
          by_cases htl : t < 3
          · have htl' : (t : Int) < 3 := by omega
            have hw_t : IntKind.i64.wrap ((t : Int) + 1) = (t : Int) + 1 := i64w (by omega) (by omega)
            -- one step at the point x
            have step : ∀ x : Nat, (nums bs)[s * 3 + t]? = some (x : Int) → x < n →
                (cellsAt H4 H1.length x 1 = some [.int .i64 ((((nums bs).take (s * 3 + t)).count (x : Int) : Nat) : Int)]) ∧
                IntKind.i64.wrap (((((nums bs).take (s * 3 + t)).count (x : Int) : Nat) : Int) + 1) = ((((nums bs).take (s * 3 + t)).count (x : Int) : Nat) : Int) + 1 ∧
                storeAt H4 H1.length x [.int .i64 (((((nums bs).take (s * 3 + t)).count (x : Int) : Nat) : Int) + 1)] = some (H4.set H1.length ⟨ints (tally n ((nums bs).take (s * 3 + (t + 1)))), true, true⟩) := by
              intro x hx hxn
              refine ⟨Holds.cell ⟨true, hc4⟩ (by rw [ints_get, tally_get hxn]; rfl), ?_, ?_⟩
              · have : ((nums bs).take (s * 3 + t)).count (x : Int) ≤ ((nums bs).take (s * 3 + t)).length := List.count_le_length
                rw [List.length_take] at this
                exact i64w (by omega) (by omega)
              · rw [storeAt_of hc4 rfl rfl (by simp only [ints_length, tally_length, List.length_singleton]; omega) (by simp [Value.oneCell']), over_one (by simp only [ints_length, tally_length]; omega), ints_set, ← tally_snoc]
                have : (nums bs).take (s * 3 + (t + 1)) = (nums bs).take (s * 3 + t) ++ [(x : Int)] := by
                  obtain ⟨hlt', hx'⟩ := List.getElem?_eq_some_iff.1 hx
                  rw [← Nat.add_assoc, List.take_succ_eq_append_getElem hlt', hx']
                rw [this]
            have fin : ∀ fr', upF (H4.set H1.length ⟨ints (tally n ((nums bs).take (s * 3 + (t + 1)))), true, true⟩) [(4, .slice (some ⟨H1.length, 0, none⟩) n n), (16, lv 3 i o bs.length), (17, .int .i64 bs.length), (18, .int .i64 s), (22, .agg #[.int .i64 a, .int .i64 b, .int .i64 c]), (23, .int .i64 ((t : Int) + 1))] fr' → K2 fr' (H4.set H1.length ⟨ints (tally n ((nums bs).take (s * 3 + (t + 1)))), true, true⟩) := fun fr' hf =>
              hK2 (t + 1) fr' _ (by omega) (by simpa using hf) ⟨by omega, (show Same (fun j => j = H1.length) H1 _ from (Same.of_prefix hp4).trans Same.set).prefix (by omega), by rw [List.getElem?_set_self (List.getElem?_eq_some_iff.1 hc4).1]⟩
            have hnx := nums_get hbs htl
            obtain ⟨x, hx1, hx2, hxn⟩ : ∃ x : Nat, partV Try.prog 2 [.int .i64 a, .int .i64 b, .int .i64 c] t = some (.int .i64 x) ∧ (nums bs)[s * 3 + t]? = some (x : Int) ∧ x < n := by
              have : t = 0 ∨ t = 1 ∨ t = 2 := by omega
              rcases this with rfl | rfl | rfl
              · exact ⟨a, by simp [partV, go_sem], by simpa [Bk.nth] using hnx, by omega⟩
              · exact ⟨b, by simp [partV, go_sem], by simpa [Bk.nth] using hnx, by omega⟩
              · exact ⟨c, by simp [partV, go_sem], by simpa [Bk.nth] using hnx, by omega⟩
            obtain ⟨s1, s2, s3⟩ := step x hx2 hxn
            have hxn' : (x : Int) < n := by omega
            simp (maxSteps := 1000000) [go_sem, htl, htl', hx1, hxn, hxn', s1, s2, s3, hw_t]
            refine fin _ ?_
            simp [upF, Fr.get, Up.refl]
          · have : t = 3 := by omega
            subst this
            have hw_s : IntKind.i64.wrap ((s : Int) + 1) = (s : Int) + 1 := i64w (by omega) (by omega)
            simp (maxSteps := 1000000) [go_sem, hw_s]
            exact hK (s + 1) _ _ (by omega) (by simp [upF, Fr.get, Up.refl]) ⟨by omega, hp4, by rw [Nat.add_mul]; exact hc4⟩
      · have : s = bs.length := by omega
        subst this
        simp (maxSteps := 1000000) [go_sem]
        rw [List.take_of_length_le (by omega), tally_nums hgood] at hc
        have hdl : (degrees n bs).length = n := by simp [degrees]
        refine ⟨_, Up.tuple (ys := #[lv 1 H1.length 0 n, .int .i64 0]) ⟨Up.ex (by omega) ?_, Up.refl _ _, trivial⟩, ?_⟩
        · right; rw [(Holds.cells ⟨true, hc⟩ (by rw [ints_length]; omega))]; rfl
        have := h H' (lv 1 H1.length 0 n) H1.length (hpH.trans hp') hpH.length_le (by
          simp only [rDegrees, hs, if_true, Int.toNat_natCast]
          exact ⟨by rw [hdl], .inr hc, by omega⟩)
        simpa [rDegrees, hs] using this

end Go.Proofs.Ytkgjdmbmdnmilaa
