/- Part 7 of what the proof of the law FnExactIsTrade rests on: contracts of functions of the program, for every argument that each names; no statement of the seat is proved here. -/
import Derived.Sort.LotA
import Derived.Sort.LotD3
import Derived.Sort.LotB
import Derived.Sort.LotC
import Derived.Test.YtakkmkinfeddeaaFnExactIsTradePart6

section
/- CyclesOf: membership, and lists of lists kept while other blocks change. -/
set_option linter.all false
set_option maxRecDepth 20000
set_option maxHeartbeats 4000000
namespace Go.Proofs.Ytakkmkinfeddeaa
open Go.Ab

theorem plc_mem {xs : List Int} {q : Int} : decide (0 ≤ plc xs q) = decide (q ∈ xs) := by
  by_cases h : q ∈ xs
  · rw [decide_eq_true h]
    by_cases h0 : 0 ≤ plc xs q
    · exact decide_eq_true h0
    · exfalso
      have hge := plc_ge xs q
      have hm1 : plc xs q = -1 := by omega
      clear h0 hge
      induction xs with
      | nil => simp at h
      | cons x xs ih =>
        simp only [plc] at hm1
        split at hm1
        · omega
        · rename_i hne
          split at hm1
          · rename_i h1
            rcases List.mem_cons.1 h with e | h
            · exact hne e.symm
            · exact ih h h1
          · have := plc_ge xs q; omega
  · rw [decide_eq_false h]
    refine decide_eq_false ?_
    have hno : ∀ x ∈ xs, x ≠ q := by
      intro x hx e
      subst e
      exact h hx
    rw [plc_none hno]; omega

theorem containsI_ok {H : Heap} {v : Value} {xs : List Int} {q : Int} (hv : IntsAt H v xs) (Post : Value → Heap → Prop) (h : Post (.bool (decide (q ∈ xs))) H) : ACalls Try.prog 152 [v, .int .i64 q] H Post := by
  refine acalls_vc (rs := [.tmp 4]) Try.func152 rfl rfl Try.ntmps152 rfl rfl ?_
  simp (maxSteps := 1000000) [go_sem]
  refine indexI_ok hv _ ?_
  simp (maxSteps := 1000000) [go_sem, plc_mem]
  exact h

theorem _root_.Go.Ab.Build.keepS {H0 H H' : Heap} {oid : Nat} {rows : List (Nat × List Int)} {S : Nat → Prop} (h : Build H0 H oid rows) (hs : Same S H H') (h0 : ∀ j, S j → H0.length ≤ j) (ho : ¬ S oid) (hr : ∀ r ∈ rows, ¬ S r.1) : Build H0 H' oid rows :=
  ⟨((Same.of_prefix h.pre).trans hs).prefix (by intro j hj hS; have := h0 j hS; omega), h.ol.keep hs ho, h.ge,
    ⟨fun r hm => (h.rows1.1 r hm).imp (fun h => h) fun hb => hs.get hb (hr r hm), h.rows1.2⟩,
    fun r hm => ⟨(h.ids r hm).1, Nat.lt_of_lt_of_le (h.ids r hm).2.1 hs.1, (h.ids r hm).2.2⟩⟩

theorem _root_.Go.Ab.Build.pushAt {H0 H2 : Heap} {oid rid : Nat} {rows : List (Nat × List Int)} {xs : List Int} (h : Build H0 H2 oid rows) (hr : OL 1 H2 rid (ints xs) xs.length) (hr0 : H0.length ≤ rid) (hro : rid ≠ oid) (hrr : ∀ r ∈ rows, r.1 ≠ rid) :
    cellsAt (H2 ++ [⟨[lv 1 rid 0 xs.length], true, true⟩]) H2.length 0 1 = some [lv 1 rid 0 xs.length] ∧
    ∃ H4, appendH (H2 ++ [⟨[lv 1 rid 0 xs.length], true, true⟩]) 1 (lv 1 oid 0 rows.length) 1 [lv 1 rid 0 xs.length] = some (lv 1 (H2.length + 1) 0 (rows.length + 1), H4) ∧ Build H0 H4 (H2.length + 1) (rows ++ [(rid, xs)]) ∧ Same (fun j => j = oid) H2 H4 := by
  have hol' : OL 1 H2 oid (rows.map rowVal) rows.length := h.ol
  have hp : H2 <+: H2 := List.prefix_refl _
  obtain ⟨hsrc, H4, hap, hol4, hsame4, hlen4⟩ := hol'.push (xs := [lv 1 rid 0 xs.length]) (by omega) rfl
  have hoid := h.ol.lt
  have hle := hp.length_le
  have hle0 := h.pre.length_le
  have hlt := hr.lt
  refine ⟨hsrc, H4, hap, ⟨⟨(show Same (fun j => j = oid) H0 H4 from (Same.of_prefix (h.pre.trans hp)).trans hsame4).prefix (by have := h.ge; omega), by simpa [rowVal] using hol4, by omega, ⟨?_, ?_⟩, ?_⟩, hsame4⟩⟩
  · intro r hm
    rcases List.mem_append.1 hm with hm | hm
    · refine (h.rows1.1 r hm).imp (fun h => h) fun hb => ?_
      exact hsame4.get (Same.get (S := fun _ => False) (Same.of_prefix hp) hb (fun h => h)) (h.ids r hm).2.2
    · simp at hm; subst hm
      rcases hr.2 with ⟨h0, _⟩ | h0
      · exact .inl (List.eq_nil_of_length_eq_zero h0)
      · right
        exact hsame4.get h0 (by simp only; omega)
  · intro a b r t ha hb hab hrn htn
    have key : ∀ (a : Nat) (r : Nat × List Int), (rows ++ [(rid, xs)])[a]? = some r → (a < rows.length ∧ rows[a]? = some r) ∨ (a = rows.length ∧ r = (rid, xs)) := by
      intro a r ha
      rcases Nat.lt_or_ge a rows.length with h | h
      · rw [List.getElem?_append_left h] at ha; exact .inl ⟨h, ha⟩
      · rw [List.getElem?_append_right h] at ha
        cases hk : a - rows.length with
        | zero => rw [hk] at ha; simp at ha; exact .inr ⟨by omega, ha.symm⟩
        | succ k => rw [hk] at ha; simp at ha
    rcases key a r ha with ⟨h1, h1'⟩ | ⟨h1, rfl⟩
    · rcases key b t hb with ⟨h2, h2'⟩ | ⟨h2, rfl⟩
      · exact h.rows1.2 a b r t h1' h2' hab hrn htn
      · exact hrr r (List.mem_of_getElem? h1')
    · rcases key b t hb with ⟨h2, h2'⟩ | ⟨h2, rfl⟩
      · exact fun e => hrr t (List.mem_of_getElem? h2') e.symm
      · omega
  · intro r hm
    rcases List.mem_append.1 hm with hm | hm
    · have := h.ids r hm
      omega
    · simp at hm; subst hm; simp only; omega


end Go.Proofs.Ytakkmkinfeddeaa
end

section
/- CyclesOf: all ways round, the tested program's side. -/
set_option linter.all false
set_option maxRecDepth 20000
set_option maxHeartbeats 8000000
namespace Go.Proofs.Ytakkmkinfeddeaa
open Go.Ab

def castL (xs : List Nat) : List Int := xs.map fun x : Nat => (x : Int)
theorem castL_mem {xs : List Nat} {x : Nat} : ((x : Int) ∈ castL xs) ↔ x ∈ xs := by
  simp only [castL, List.mem_map]
  constructor
  · rintro ⟨y, hy, e⟩; have : y = x := by omega
    exact this ▸ hy
  · intro h; exact ⟨x, h, rfl⟩
theorem castL_length (xs : List Nat) : (castL xs).length = xs.length := by simp [castL]
theorem castL_append (xs ys : List Nat) : castL (xs ++ ys) = castL xs ++ castL ys := by simp [castL]
theorem cycL_cast (f g : Nat → Nat) (p : Nat) : castL (cycL f g p) = altL f g p (cycN f g p) := by simp [castL, cycL, altL]
noncomputable def cycRows (f g : Nat → Nat) (ps met : List Nat) : List (List Int) := (cycAll f g ps met).map castL
theorem cycRows_in {f g : Nat → Nat} {p : Nat} {ps met : List Nat} (h : p ∈ met) : cycRows f g (p :: ps) met = cycRows f g ps met := by simp [cycRows, cycAll, h]
theorem cycRows_out {f g : Nat → Nat} {p : Nat} {ps met : List Nat} (h : p ∉ met) : cycRows f g (p :: ps) met = castL (cycL f g p) :: cycRows f g ps (met ++ cycL f g p) := by simp [cycRows, cycAll, h]
theorem upTo_cons {p v : Nat} (h : p < v) : upTo p v = p :: upTo (p + 1) v := by
  unfold upTo
  rw [show v - p = (v - (p + 1)) + 1 by omega, List.range'_succ]

theorem cycles_ok {H : Heap} {u : Value} {gid : Nat} {gs : List Int} {v a b : Nat} {bs : List Bk} (hu : u.oneCell' = true) (hS : IsSys v bs) (hf : fullB v bs = true) (hga : GridAt H gid gs) (hgo : GridOf gs bs) (hab : a ≠ b) (ha : a < v) (hb : b < v) (Post : Value → Heap → Prop)
    (h : ∀ H' w, H <+: H' → RowsIn H.length H'.length H' w (cycRows (thr bs a) (thr bs b) (upTo 0 v) [a, b, thr bs a b]) → Post w H') :
    ACalls Try.prog 88 [sysV v u, .pointer (some ⟨gid, 0, none⟩), .int .i64 a, .int .i64 b] H Post := by
  have hT := turn_of hS hf hab ha hb
  obtain ⟨t1, t2, t3, t4, t5⟩ := thr_spec hS hf hab ha hb
  have hv := hS.1
  refine ACalls.res ?_
  refine acalls_vc (rs := [.tmp 8]) Try.func88 rfl rfl Try.ntmps88 rfl rfl ?_
  have hp0 : H <+: H ++ [⟨[.int .i64 v, u], true, true⟩] := List.prefix_append _ _
  have hx0 := Holds.last H [.int .i64 v, u]
  have c1 : cellsAt (H ++ [⟨[.int .i64 v, u], true, true⟩]) gid (a * 15 + b) 1 = some [.int .i64 (thr bs a b)] := by
    have : cellsAt (H ++ [⟨[.int .i64 v, u], true, true⟩]) gid (a * 15 + b) 1 = some [.int .i64 (gAt gs a b)] := (hga.keep hp0).load (by omega)
    rw [hgo.2 a b (by omega) (by omega), if_neg hab, t1] at this
    exact this
  have g1 : a < 15 := by omega
  have g2 : b < 15 := by omega
  have g1' : (a : Int) < 15 := by omega
  have g2' : (b : Int) < 15 := by omega
  simp (maxSteps := 1000000) [go_sem, sysV, hu, g1, g2, g1', g2', c1]
  refine AWp.addGhost ?_
  have hlen0 : (H ++ [(⟨[.int .i64 v, u], true, true⟩ : Blk)]).length = H.length + 1 := by simp
  have hbd0 : Build (H ++ [⟨[.int .i64 v, u], true, true⟩]) ((H ++ [⟨[.int .i64 v, u], true, true⟩, ⟨[.int .i64 a, .int .i64 b, .int .i64 (thr bs a b)], true, true⟩]) ++ [⟨[], false, false⟩]) (H.length + 2) [] :=
    Build.of_ol ⟨[⟨[.int .i64 a, .int .i64 b, .int .i64 (thr bs a b)], true, true⟩, ⟨[], false, false⟩], by simp⟩ ⟨rfl, .inl ⟨rfl, by simp [ghostAt]⟩⟩ (by simp)
  have hsn0 : OL 1 ((H ++ [(⟨[.int .i64 v, u], true, true⟩ : Blk), ⟨[.int .i64 a, .int .i64 b, .int .i64 (thr bs a b)], true, true⟩]) ++ [⟨[], false, false⟩]) (H.length + 1) (ints (castL [a, b, thr bs a b])) 3 := ⟨by simp [castL, ints], .inr (by simp [castL, ints])⟩
  have hsl0 : (cellsAt ((H ++ [(⟨[.int .i64 v, u], true, true⟩ : Blk), ⟨[.int .i64 a, .int .i64 b, .int .i64 (thr bs a b)], true, true⟩]) ++ [⟨[], false, false⟩]) (H.length + 1) 0 (3 * 1)).isSome = true := by
    rw [cellsAt_of (b := ⟨[.int .i64 a, .int .i64 b, .int .i64 (thr bs a b)], true, true⟩) (by simp) rfl (by simp)]; rfl
  generalize (H ++ [(⟨[.int .i64 v, u], true, true⟩ : Blk), ⟨[.int .i64 a, .int .i64 b, .int .i64 (thr bs a b)], true, true⟩]) ++ [⟨[], false, false⟩] = HX at hbd0 hsn0 hsl0 ⊢
  generalize H ++ [(⟨[.int .i64 v, u], true, true⟩ : Blk)] = H0 at *
  obtain ⟨total, htot⟩ : ∃ x, x = cycRows (thr bs a) (thr bs b) (upTo 0 v) [a, b, thr bs a b] := ⟨_, rfl⟩
  refine AWp.loopVc (St := Nat × Nat × List Nat × Nat × List (Nat × List Int)) (fun s => [(1, .pointer (some ⟨gid, 0, none⟩)), (2, .int .i64 a), (3, .int .i64 b), (9, lv 1 s.2.2.2.1 0 s.2.2.2.2.length), (10, lv 1 s.2.1 0 s.2.2.1.length), (24, .int .i64 v), (25, .int .i64 s.1)])
    (fun s H' => s.1 ≤ v ∧ s.2.2.2.2.map (·.2) ++ cycRows (thr bs a) (thr bs b) (upTo s.1 v) s.2.2.1 = total ∧ Shut (thr bs a) (thr bs b) (cycS v bs a b) s.2.2.1 ∧ (a ∈ s.2.2.1 ∧ b ∈ s.2.2.1 ∧ thr bs a b ∈ s.2.2.1) ∧ s.2.2.1.length ≤ 3 + 15 * s.1 ∧ s.2.2.2.2.length ≤ s.1 ∧
      Build H0 H' s.2.2.2.1 s.2.2.2.2 ∧ OL 1 H' s.2.1 (ints (castL s.2.2.1)) s.2.2.1.length ∧ H0.length ≤ s.2.1 ∧ s.2.1 ≠ s.2.2.2.1 ∧ (∀ r ∈ s.2.2.2.2, r.1 ≠ s.2.1) ∧ (s.2.2.2.2.map (·.2)).flatten.length ≤ 15 * s.1) (fun s => v - s.1) (0, H.length + 1, [a, b, thr bs a b], H.length + 2, []) ?_ ?_ ?_
  · simp [upF, Fr.get, Up.refl, Up.nil]
    exact Up.ex (by omega) (.inr hsl0)
  · refine ⟨by simp, by simp [htot], ?_, by simp, by simp, by simp, hbd0, hsn0, by simp only; omega, by simp, by simp, by simp⟩
    intro x hx hn
    have hf1 := hT.fS x hx
    have hg1 := hT.gS x hx
    simp only [List.mem_cons, List.not_mem_nil, or_false, not_or]
    exact ⟨⟨hf1.2.1, hf1.2.2.1, hf1.2.2.2⟩, ⟨hg1.2.1, hg1.2.2.1, hg1.2.2.2⟩⟩
  · rintro K ⟨p, sid, met, oid, rows⟩ H' ⟨hpv, hrows, hshut, hmem, hml, hrl, hbd, hsn, hs0, hso, hsr, hfl⟩ hK
    simp only at hpv hrows hshut hmem hml hrl hbd hsn hs0 hso hsr hfl
    by_cases hlt : p < v
    · have hw_p : IntKind.i64.wrap ((p : Int) + 1) = (p : Int) + 1 := i64w (by omega) (by omega)
      have hseen : IntsAt H' (lv 1 sid 0 met.length) (castL met) := ⟨sid, 0, by rw [castL_length], hsn.at, by rw [castL_length]; omega⟩
      have hlt' : (p : Int) < v := by omega
      rw [upTo_cons hlt] at hrows
      simp (maxSteps := 1000000) [go_sem, hlt]
      refine containsI_ok hseen _ ?_
      by_cases hpm : p ∈ met
      · have e : decide ((p : Int) ∈ castL met) = true := decide_eq_true (castL_mem.2 hpm)
        rw [cycRows_in hpm] at hrows
        simp (maxSteps := 1000000) [go_sem, castL_mem, hpm, hw_p]
        exact hK (p + 1, sid, met, oid, rows) _ _ (by simp only; omega) (by simp [upF, Fr.get, Up.refl]) ⟨by simp only; omega, hrows, hshut, hmem, by simp only; omega, by simp only; omega, hbd, hsn, hs0, hso, hsr, by simp only; omega⟩
      · have hpS : cycS v bs a b p := ⟨hlt, fun e => hpm (e ▸ hmem.1), fun e => hpm (e ▸ hmem.2.1), fun e => hpm (e ▸ hmem.2.2)⟩
        rw [cycRows_out hpm] at hrows
        simp (maxSteps := 1000000) [go_sem, castL_mem, hpm]
        refine gridCycle_ok hS hf (hga.keep (hp0.trans hbd.pre)) hgo hab ha hb hpS _ ?_
        intro H2 cid hBl
        obtain ⟨⟨n2, _⟩, nv⟩ := cycN_ok hT hpS (fun x hx => hx.1)
        rw [cycL_cast] at hrows
        have hcl : (cycL (thr bs a) (thr bs b) p).length = cycN (thr bs a) (thr bs b) p := by simp [cycL]
        have hcc := cycL_cast (thr bs a) (thr bs b) p
        have hshut2 := hshut.next hT hpS (fun x hx => hx.1)
        have hal := altL_length (thr bs a) (thr bs b) p (cycN (thr bs a) (thr bs b) p)
        generalize cycL (thr bs a) (thr bs b) p = cy at *
        generalize cycN (thr bs a) (thr bs b) p = n at *
        generalize altL (thr bs a) (thr bs b) p n = al at *
        have hslt := hsn.lt
        have hge := hBl.2.2
        have hle2 := hBl.1.length_le
        have hsn2 : OL 1 H2 sid (ints (castL met)) met.length := hsn.keep (S := fun _ => False) (Same.of_prefix hBl.1) (fun h => h)
        obtain ⟨H3, hap, hol3, hsame3, hlen3⟩ := hsn2.append (m := n) (by omega) (by omega) (news := ints al) (by simp [ints, hal])
        have hn0 : ¬ n = 0 := by omega
        have hil : (ints al).length = n := by simp [ints, hal]
        have hsrc : cellsAt H2 cid 0 n = some (ints al) := by
          rcases hBl.2.1.at with e | e
          · rw [e] at hil; simp at hil; omega
          · rwa [hil] at e
        have hc3 : OL 1 H3 cid (ints al) al.length := by rw [hal]; exact hBl.2.1.keep hsame3 (by omega)
        have hbd2 : Build H0 H2 oid rows := hbd.keepS (S := fun _ => False) (Same.of_prefix hBl.1) (fun _ h => h.elim) (fun h => h) (fun _ _ h => h)
        have hbd3 : Build H0 H3 oid rows := hbd2.keepS hsame3 (fun j e => by omega) (fun e => hso e.symm) hsr
        have holt := hbd.ol.lt
        have hle0 := hbd.pre.length_le
        obtain ⟨hsrc4, H5, hap5, hbd5, hsame5⟩ := hbd3.pushAt (rid := cid) (xs := al) hc3 (by omega) (by omega) (fun r hr => by have := (hbd.ids r hr).2.1; omega)
        rw [hal] at hsrc4 hap5
        have hol5 := hol3.keep hsame5 (by have := hbd3.ol.lt; omega)
        simp (maxSteps := 1000000) [go_sem, hn0, hsrc, hap, hsrc4, hap5, hw_p]
        refine andK_intro (by omega) (andK_intro (by omega) (hK (p + 1, H2.length, met ++ cy, H3.length + 1, rows ++ [(cid, al)]) _ _ (by simp only; omega) (by simp [upF, Fr.get, Up.refl, hcl]) ⟨by simp only; omega, by simpa using hrows, hshut2, ⟨by simp [hmem.1], by simp [hmem.2.1], by simp [hmem.2.2]⟩, by simp only [List.length_append, hcl]; omega, by simp only [List.length_append, List.length_singleton]; omega, hbd5, ?_, by simp only; omega, by simp only; omega, ?_, ?_⟩))
        · simp only [castL_append, List.length_append, hcl, hcc, ← ints_append]; exact hol5
        · simp only
          intro r hr
          rcases List.mem_append.1 hr with hr | hr
          · have := (hbd.ids r hr).2.1; omega
          · simp at hr; subst hr; have := hBl.2.1.lt; simp only; omega
        · simp only [List.map_append, List.flatten_append, List.length_append, List.map_cons, List.map_nil, List.flatten_cons, List.flatten_nil, List.append_nil, hal]
          omega
    · have : p = v := by omega
      subst this
      have e0 : upTo p p = [] := upTo_self (Nat.le_refl _)
      rw [e0] at hrows
      simp only [cycRows, cycAll, List.map_nil, List.append_nil] at hrows
      simp (maxSteps := 1000000) [go_sem]
      refine ⟨_, Up.refl _ _, h H' _ (hp0.trans hbd.pre) ?_⟩
      have := (hbd.inn (by omega) (by omega)).wider hp0.length_le
      rw [hrows, htot] at this
      exact this

end Go.Proofs.Ytakkmkinfeddeaa
end

section
/- CyclesOf: the tested program's side. -/
set_option linter.all false
set_option maxRecDepth 20000
set_option maxHeartbeats 4000000
namespace Go.Proofs.Ytakkmkinfeddeaa
open Go.Ab

noncomputable def rCyc (p : Int) (bs : List Bk) (a b : Int) : List (List Int) × Int :=
  if pairCode p bs a b = 0 then (if fullB p bs then (cycRows (thr bs a.toNat) (thr bs b.toNat) (upTo 0 p.toNat) [a.toNat, b.toNat, thr bs a.toNat b.toNat], 0) else ([], 5)) else ([], pairCode p bs a b)

theorem fullCode_ok {H : Heap} {u : Value} {p : Int} {bs : List Bk} (hu : BlocksAt H u bs) (hp : 3 ≤ p ∧ p ≤ 15) (hl : bs.length ≤ 1048576) (Post : Value → Heap → Prop) (h : ∀ H', H <+: H' → Post (.int .i64 (if fullB p bs then 0 else 5)) H') :
    ACalls Try.prog 87 [sysV p u] H Post := by
  refine acalls_vc (rs := [.tmp 2]) Try.func87 rfl rfl Try.ntmps87 rfl rfl ?_
  simp (maxSteps := 1000000) [go_sem, sysV, hu.one]
  have hp0 : H <+: H ++ [⟨[.int .i64 p, u], true, true⟩] := List.prefix_append _ _
  refine isFull_ok (hu.pre hp0) hp hl _ ?_
  intro H1 hp1
  have fin := h H1 (hp0.trans hp1)
  cases hf : fullB p bs with
  | true =>
    rw [hf] at fin
    simp (maxSteps := 1000000) [go_sem]
    simpa using fin
  | false =>
    rw [hf] at fin
    simp (maxSteps := 1000000) [go_sem]
    simpa using fin

theorem implCyclesOf_ok {H : Heap} {u : Value} {p a b : Int} {bs : List Bk} (hu : BlocksAt H u bs) (hl : bs.length ≤ 1048576) (ha : In64 a) (hb : In64 b) (Post : Value → Heap → Prop)
    (h : ∀ H' w, H <+: H' → RowsIn H.length H'.length H' w (rCyc p bs a b).1 → Post (.tuple #[w, .int .i64 (rCyc p bs a b).2]) H') :
    ACalls Try.prog 24 [sysV p u, .int .i64 a, .int .i64 b] H Post := by
  refine ACalls.res ?_
  refine acalls_vc (rs := [.tmp 6, .tmp 7]) Try.func24 rfl rfl Try.ntmps24 rfl rfl ?_
  simp (maxSteps := 1000000) [go_sem, sysV, hu.one]
  have hp0 : H <+: H ++ [⟨[.int .i64 p, u], true, true⟩] := List.prefix_append _ _
  have hx0 := Holds.last H [.int .i64 p, u]
  generalize H ++ [(⟨[.int .i64 p, u], true, true⟩ : Blk)] = H0 at hp0 hx0 ⊢
  have bad : ∀ (H' : Heap) (c : Int), H <+: H' → rCyc p bs a b = ([], c) → ∃ v', Up H' (.tuple #[.slice none 0 0, .int .i64 c]) v' ∧ Post v' H' := by
    intro H' c hp hr
    refine ⟨_, Up.tuple (ys := #[lv 1 0 0 0, .int .i64 c]) ⟨Up.nil _ _ _ _, Up.refl _ _, trivial⟩, ?_⟩
    have := h H' (lv 1 0 0 0) hp (by rw [hr]; exact RowsIn.nil _ _ _)
    rwa [hr] at this
  refine pairCode_ok (hu.pre hp0) _ ?_
  intro H1 hp1
  obtain ⟨d0, d1, d2⟩ := (hx0.pre hp1).sys
  by_cases hc : pairCode p bs a b = 0
  · obtain ⟨hS, ⟨ha0, ha1⟩, ⟨hb0, hb1⟩, hab⟩ := pairCode_good hc
    have hp := hS.1
    simp (maxSteps := 1000000) [go_sem, hc, d0]
    refine fullCode_ok (hu.pre (hp0.trans hp1)) hp hl _ ?_
    intro H2 hp2
    obtain ⟨d0, d1, d2⟩ := (hx0.pre (hp1.trans hp2)).sys
    cases hf : fullB p bs with
    | false =>
      simp (maxSteps := 1000000) [go_sem]
      exact bad H2 5 (hp0.trans (hp1.trans hp2)) (by simp [rCyc, hc, hf])
    | true =>
      obtain ⟨v, rfl⟩ : ∃ n : Nat, p = n := ⟨p.toNat, by omega⟩
      obtain ⟨x, rfl⟩ : ∃ n : Nat, a = n := ⟨a.toNat, by omega⟩
      obtain ⟨y, rfl⟩ : ∃ n : Nat, b = n := ⟨b.toNat, by omega⟩
      simp (maxSteps := 1000000) [go_sem]
      refine AWp.draw mixed [(0, false), (1, false), (3, false), (4, false), (2, true), (5, false), (6, false), (7, false)] (by kernel_rfl) ?_
      simp (maxSteps := 1000000) [go_sem, d0]
      refine sysGrid_ok (hu.pre (hp0.trans (hp1.trans hp2))) hS.good15 hS.2.2.2 _ ?_
      intro H3 gid gs hp3 _ hga hgo
      simp (maxSteps := 1000000) [go_sem, hp3]
      refine cycles_ok hu.one hS hf hga hgo (by omega) (by omega) (by omega) _ ?_
      intro H4 w hp4 hw
      have hpre := hp0.trans (hp1.trans (hp2.trans hp3))
      have hr : rCyc v bs x y = (cycRows (thr bs x) (thr bs y) (upTo 0 v) [x, y, thr bs x y], 0) := by simp [rCyc, hc, hf]
      have fin := h H4 w (hpre.trans hp4) (by rw [hr]; exact hw.wider hpre.length_le)
      rw [hr] at fin
      simp (maxSteps := 1000000) [go_sem, hp4]
      exact ⟨_, Up.refl _ _, fin⟩
  · have hc2 : (pairCode p bs a b != 0) = true := by simpa using hc
    simp (maxSteps := 1000000) [go_sem, hc2]
    exact bad H1 _ (hp0.trans hp1) (by simp [rCyc, hc])

end Go.Proofs.Ytakkmkinfeddeaa
end

section
/- Trades: the pairs of blocks. Plain Lean. -/
set_option linter.all false
set_option maxRecDepth 20000
namespace Go.Proofs.Ytakkmkinfeddeaa
open Go.Ab

def prs (b : Bk) : List (Int × Int) := [(b.a, b.b), (b.a, b.c), (b.b, b.c)]
def pairsB (bs : List Bk) : List (Int × Int) := bs.flatMap prs
theorem pairsB_length (bs : List Bk) : (pairsB bs).length = bs.length * 3 := by
  induction bs with
  | nil => rfl
  | cons b bs ih => simp only [pairsB, List.flatMap_cons, List.length_append, List.length_cons] at ih ⊢; rw [ih]; simp [prs]; omega
theorem mem_pairsB {bs : List Bk} {p : Int × Int} : p ∈ pairsB bs ↔ ∃ b ∈ bs, p ∈ prs b := by simp [pairsB]
theorem prs_has {b : Bk} {p : Int × Int} (h : p ∈ prs b) : b.has p.1 = true ∧ b.has p.2 = true := by
  simp only [prs, List.mem_cons, List.not_mem_nil, or_false] at h
  rcases h with rfl | rfl | rfl <;> simp [Bk.has]
theorem prs_lt {v : Int} {b : Bk} (hg : good v b = true) {p : Int × Int} (h : p ∈ prs b) : 0 ≤ p.1 ∧ p.1 < p.2 ∧ p.2 < v := by
  rw [good_iff] at hg
  simp only [prs, List.mem_cons, List.not_mem_nil, or_false] at h
  rcases h with rfl | rfl | rfl <;> (simp only; omega)
theorem pairs_lt {v : Int} {bs : List Bk} (hg : ∀ x ∈ bs, good v x = true) {p : Int × Int} (h : p ∈ pairsB bs) : 0 ≤ p.1 ∧ p.1 < p.2 ∧ p.2 < v := by
  obtain ⟨b, hb, hp⟩ := mem_pairsB.1 h
  exact prs_lt (hg b hb) hp
theorem pairs_nodup {v : Int} {bs : List Bk} (hS : IsSys v bs) : (pairsB bs).Nodup := by
  unfold pairsB List.Nodup
  rw [List.pairwise_flatMap]
  constructor
  · intro b hb
    have hg := hS.good b hb
    rw [good_iff] at hg
    simp only [prs, List.pairwise_cons, List.mem_cons, List.not_mem_nil, or_false, forall_eq_or_imp, forall_eq, Prod.mk.injEq, ne_eq, false_implies, implies_true, and_true, List.Pairwise.nil]
    omega
  · rw [List.pairwise_iff_getElem]
    intro i j hi hj hij p hp q hq e
    subst e
    have hx : bs[i]? = some bs[i] := List.getElem?_eq_getElem hi
    have hy : bs[j]? = some bs[j] := List.getElem?_eq_getElem hj
    have hgx := hS.good _ (List.mem_of_getElem? hx)
    have hgy := hS.good _ (List.mem_of_getElem? hy)
    obtain ⟨c1, c2, c3⟩ := (common_le_one (w := v) hgy).1 (hS.2.2.2 j i _ _ hij hy hx)
    have h := prs_has hq
    simp only [prs, List.mem_cons, List.not_mem_nil, or_false] at hp
    rcases hp with rfl | rfl | rfl
    · exact c1 h
    · exact c2 h
    · exact c3 h

noncomputable def samePairs (x y : List Bk) : Bool := @decide (∀ p, p ∈ pairsB x ↔ p ∈ pairsB y) (Classical.propDecidable _)
theorem samePairs_iff {x y : List Bk} : samePairs x y = true ↔ ∀ p, p ∈ pairsB x ↔ p ∈ pairsB y := by simp [samePairs]
theorem samePairs_eq {x y : List Bk} {b : Bool} (h : b = true ↔ ∀ p, p ∈ pairsB x ↔ p ∈ pairsB y) : b = samePairs x y := by
  rw [← samePairs_iff] at h
  cases b <;> cases hs : samePairs x y <;> simp_all

/-- Two pairs in order. -/
def ltP (p q : Int × Int) : Bool := decide (p.1 < q.1) || (decide (p.1 = q.1) && decide (p.2 < q.2))
theorem ltP_iff {p q : Int × Int} : ltP p q = true ↔ p.1 < q.1 ∨ (p.1 = q.1 ∧ p.2 < q.2) := by simp [ltP]
theorem ltP_false {p q : Int × Int} : ltP p q = false ↔ ¬ (p.1 < q.1 ∨ (p.1 = q.1 ∧ p.2 < q.2)) := by rw [← ltP_iff]; simp
/-- Two ascending lists of the same pairs are equal. -/
theorem sorted_pairs {vx vy : Int} {x y : List Bk} (hx : IsSys vx x) (hy : IsSys vy y) {l m : List (Int × Int)} (hl : l.Perm (pairsB x)) (hm : m.Perm (pairsB y))
    (sl : l.Pairwise fun p q => ltP q p = false) (sm : m.Pairwise fun p q => ltP q p = false) : decide (l = m) = samePairs x y := by
  refine samePairs_eq ?_
  rw [decide_eq_true_iff]
  constructor
  · rintro rfl p
    rw [← hl.mem_iff, ← hm.mem_iff]
  · intro h
    have hp : l.Perm m := by
      refine (List.perm_ext_iff_of_nodup (hl.nodup_iff.2 (pairs_nodup hx)) (hm.nodup_iff.2 (pairs_nodup hy))).2 ?_
      intro p
      rw [hl.mem_iff, hm.mem_iff]; exact h p
    refine hp.eq_of_pairwise ?_ sl sm
    intro a b _ _ h1 h2
    rw [ltP_false] at h1 h2
    exact Prod.ext (by omega) (by omega)

/-- A pair's number. -/
def codeP (p : Int × Int) : Nat := (p.1 * 16 + p.2).toNat
def codesB (bs : List Bk) : List Nat := (pairsB bs).map codeP
theorem code_inj {p q : Int × Int} (hp : 0 ≤ p.1 ∧ p.1 < p.2 ∧ p.2 < 15) (hq : 0 ≤ q.1 ∧ q.1 < q.2 ∧ q.2 < 15) (h : codeP p = codeP q) : p = q := by
  unfold codeP at h
  exact Prod.ext (by omega) (by omega)
theorem codes_lt {bs : List Bk} (hg : ∀ x ∈ bs, good 15 x = true) {c : Nat} (h : c ∈ codesB bs) : c < 256 := by
  obtain ⟨p, hp, rfl⟩ := List.mem_map.1 h
  have := pairs_lt hg hp
  unfold codeP; omega
theorem same_codes {x y : List Bk} (hx : ∀ b ∈ x, good 15 b = true) (hy : ∀ b ∈ y, good 15 b = true) {b : Bool} (h : b = true ↔ ∀ c, c < 256 → (c ∈ codesB x ↔ c ∈ codesB y)) : b = samePairs x y := by
  refine samePairs_eq ?_
  rw [h]
  constructor
  · intro h p
    have key : ∀ {x y : List Bk}, (∀ b ∈ x, good 15 b = true) → (∀ b ∈ y, good 15 b = true) → (∀ c, c < 256 → (c ∈ codesB x → c ∈ codesB y)) → p ∈ pairsB x → p ∈ pairsB y := by
      intro x y hx hy h hp
      have hc : codeP p ∈ codesB x := List.mem_map.2 ⟨p, hp, rfl⟩
      obtain ⟨q, hq, e⟩ := List.mem_map.1 (h _ (codes_lt hx hc) hc)
      rw [code_inj (pairs_lt hx hp) (pairs_lt hy hq) e.symm]; exact hq
    exact ⟨key hx hy fun c hc => (h c hc).1, key hy hx fun c hc => (h c hc).2⟩
  · intro h c _
    unfold codesB
    simp only [List.mem_map]
    constructor <;> rintro ⟨p, hp, rfl⟩
    · exact ⟨p, (h p).1 hp, rfl⟩
    · exact ⟨p, (h p).2 hp, rfl⟩

/-- The blocks of a list that are in another one; those that are not. -/
def bothB (xs ys : List Bk) : List Bk := xs.filter (memB ys)
def lessB (xs ys : List Bk) : List Bk := xs.filter fun b => !memB ys b

noncomputable def tradeB (v : Int) (o i : List Bk) : Bool := sysB v o && (sysB v i && (decide (bothB o i = []) && samePairs o i))
def fitsB (p : Int) (bs : List Bk) (v : Int) (o : List Bk) : Bool := decide (p = v) && o.all (memB bs)

end Go.Proofs.Ytakkmkinfeddeaa
end

section
/- Arrays of elements of a fixed number of cells in one block that the call holds alone; swapping two of them. No statement of the seat is proved here; it holds for every program. -/
set_option linter.all false
namespace Go.Ab
open Go.Sort

section
variable {α : Type} {cells : α → List Value} {w : Nat}

theorem flat_len (hc : ∀ x, (cells x).length = w) : ∀ l : List α, (l.flatMap cells).length = l.length * w
  | [] => by simp
  | b :: l => by rw [List.flatMap_cons, List.length_append, flat_len hc l, hc, List.length_cons, Nat.succ_mul, Nat.add_comm]
theorem flat_cut (hc : ∀ x, (cells x).length = w) : ∀ {l : List α} {s : Nat} {b : α}, l[s]? = some b → ((l.flatMap cells).drop (s * w)).take w = cells b
  | [], s, b, h => by simp at h
  | d :: l, 0, b, h => by
    simp at h; subst h
    rw [List.flatMap_cons, Nat.zero_mul, List.drop_zero, List.take_append_of_le_length (by rw [hc]; exact Nat.le_refl _), List.take_of_length_le (by rw [hc]; exact Nat.le_refl _)]
  | d :: l, s + 1, b, h => by
    have ih := flat_cut hc (l := l) (s := s) (b := b) (by simpa using h)
    rw [List.flatMap_cons, show (s + 1) * w = (cells d).length + s * w by rw [hc, Nat.succ_mul, Nat.add_comm], List.drop_append, List.drop_eq_nil_of_le (by omega), List.nil_append, Nat.add_sub_cancel_left]
    exact ih
theorem flat_over (hc : ∀ x, (cells x).length = w) : ∀ {l : List α} {s : Nat} {b : α}, s < l.length → over (l.flatMap cells) (s * w) (cells b) = (l.set s b).flatMap cells
  | [], s, b, h => by simp at h
  | d :: l, 0, b, h => by
    simp only [List.set_cons_zero, List.flatMap_cons, over, Nat.zero_mul, List.take_zero, List.nil_append, Nat.zero_add, hc]
    rw [List.drop_append, List.drop_eq_nil_of_le (by rw [hc]; exact Nat.le_refl _), hc, Nat.sub_self, List.drop_zero, List.nil_append]
  | d :: l, s + 1, b, h => by
    have ih := flat_over hc (l := l) (s := s) (b := b) (by simpa using h)
    simp only [List.set_cons_succ, List.flatMap_cons]
    rw [← ih]
    have e : (s + 1) * w = (cells d).length + s * w := by rw [hc, Nat.succ_mul, Nat.add_comm]
    simp only [over, e]
    rw [List.take_append, List.take_of_length_le (by omega), Nat.add_sub_cancel_left, Nat.add_assoc, List.drop_append, List.drop_eq_nil_of_le (by omega), List.nil_append, Nat.add_sub_cancel_left]
    simp

theorem Same.via {S T : Nat → Prop} {H A B : Heap} (h : Same S H A) (h' : Same T A B) (k : ∀ j, j < H.length → T j → S j) : Same S H B :=
  ⟨Nat.le_trans h.1 h'.1, fun j hj hs => (h'.2 j (Nat.lt_of_lt_of_le hj h.1) fun ht => hs (k j hj ht)).trans (h.2 j hj hs)⟩

/-- The block id holds an array's elements. -/
def Arr (cells : α → List Value) (H : Heap) (id : Nat) (d : Array α) : Prop := H[id]? = some ⟨d.toList.flatMap cells, true, true⟩

theorem Arr.lt {H : Heap} {id : Nat} {d : Array α} (h : Arr cells H id d) : id < H.length := (List.getElem?_eq_some_iff.1 h).1
theorem Arr.pre {H H' : Heap} {id : Nat} {d : Array α} (h : Arr cells H id d) (hp : H <+: H') : Arr cells H' id d := Same.get (S := fun _ => False) (Same.of_prefix hp) h (fun h => h)
theorem Arr.load [Inhabited α] {H : Heap} {id : Nat} {d : Array α} (h : Arr cells H id d) (hc : ∀ x, (cells x).length = w) {i : Nat} (hi : i < d.size) : cellsAt H id (i * w) w = some (cells d[i]!) := by
  have hl : d.toList[i]? = some d[i]! := by rw [Array.getElem?_toList, Array.getElem?_eq_getElem hi, getElem!_pos d i hi]
  have hle : i * w + w ≤ (d.toList.flatMap cells).length := by
    rw [flat_len hc, Array.length_toList, ← Nat.succ_mul]
    exact Nat.mul_le_mul_right w hi
  rw [cellsAt_of h rfl hle, flat_cut hc hl]
theorem Arr.store {H : Heap} {id : Nat} {d : Array α} (h : Arr cells H id d) (hc : ∀ x, (cells x).length = w) (ho : ∀ x, (cells x).all Value.oneCell' = true) {i : Nat} {x : α} (hi : i < d.size) :
    storeAt H id (i * w) (cells x) = some (H.set id ⟨(d.setIfInBounds i x).toList.flatMap cells, true, true⟩) ∧ Arr cells (H.set id ⟨(d.setIfInBounds i x).toList.flatMap cells, true, true⟩) id (d.setIfInBounds i x) := by
  have hle : i * w + w ≤ (d.toList.flatMap cells).length := by
    rw [flat_len hc, Array.length_toList, ← Nat.succ_mul]
    exact Nat.mul_le_mul_right w hi
  refine ⟨?_, List.getElem?_set_self h.lt⟩
  rw [storeAt_of h rfl rfl (by rw [hc]; exact hle) (ho x), flat_over hc (by simpa using hi)]
  simp

theorem same_set {H : Heap} {id : Nat} {b : Blk} : Same (fun j => j = id) H (H.set id b) := ⟨by simp, fun j hj hS => List.getElem?_set_ne (fun e => hS e.symm)⟩
theorem set_twice {H : Heap} {id : Nat} {b c : Blk} : (H.set id b).set id c = H.set id c := by simp

/-- 'data[i], data[j] = data[j], data[i]'. -/
theorem Arr.swap [Inhabited α] {H : Heap} {id : Nat} {d : Array α} (h : Arr cells H id d) (hc : ∀ x, (cells x).length = w) (ho : ∀ x, (cells x).all Value.oneCell' = true) {i j : Nat} (hi : i < d.size) (hj : j < d.size) :
    ∃ H1 H2, storeAt H id (i * w) (cells d[j]!) = some H1 ∧ storeAt H1 id (j * w) (cells d[i]!) = some H2 ∧ Arr cells H2 id (swp d i j) ∧ Same (fun k => k = id) H H2 ∧ H2.length = H.length := by
  obtain ⟨s1, a1⟩ := h.store hc ho (x := d[j]!) hi
  obtain ⟨s2, a2⟩ := a1.store hc ho (x := d[i]!) (i := j) (by simpa using hj)
  exact ⟨_, _, s1, s2, a2, same_set.trans (same_set (id := id)), by simp⟩

/-- Every element is such. -/
def QA (Q : α → Prop) [Inhabited α] (d : Array α) : Prop := ∀ k, k < d.size → Q d[k]!
theorem QA.swp [Inhabited α] {Q : α → Prop} {d : Array α} (h : QA Q d) {i j : Nat} (hi : i < d.size) (hj : j < d.size) : QA Q (swp d i j) := by
  intro k hk
  rw [Go.Sort.swp_size] at hk
  rw [Go.Sort.swp_get d hi hj]
  split
  · exact h _ hi
  · split
    · exact h _ hj
    · exact h _ hk

end

/-- A function value that compares two elements. -/
def Cmp {α : Type} (P : Program) (val : α → Value) (lt : α → α → Bool) (g : FuncId) (fs cs : List Value) (Q : α → Prop) (id : Nat) (H : Heap) : Prop :=
  ∀ (H' : Heap) (x y : α) (Post : Value → Heap → Prop), Same (fun k => k = id) H H' → Q x → Q y →
    (∀ (H'' : Heap) (c : Int), H' <+: H'' → decide (c < 0) = lt x y → Post (.int .i64 c) H'') → ACalls P g (fs ++ val x :: val y :: cs) H' Post
theorem Cmp.keep {α : Type} {P : Program} {val : α → Value} {lt : α → α → Bool} {g : FuncId} {fs cs : List Value} {Q : α → Prop} {id : Nat} {H H' : Heap} (h : Cmp P val lt g fs cs Q id H) (hs : Same (fun k => k = id) H H') : Cmp P val lt g fs cs Q id H' :=
  fun H2 x y Post h2 => h H2 x y Post (hs.trans h2)

end Go.Ab
end

section
/- The kinds of elements that are sorted. No statement of the seat is proved here. -/
set_option linter.all false
namespace Go.Ab
open Go.Sort

instance : Inhabited Bk := ⟨⟨0, 0, 0⟩⟩
theorem Bk.cells_len (x : Bk) : x.cells.length = 3 := rfl
theorem Bk.cells_one (x : Bk) : x.cells.all Value.oneCell' = true := by simp [Bk.cells, Value.oneCell']

def cellsP (x : Int × Int) : List Value := [.int .i64 x.1, .int .i64 x.2]
def valP (x : Int × Int) : Value := .agg #[.int .i64 x.1, .int .i64 x.2]
theorem cellsP_len (x : Int × Int) : (cellsP x).length = 2 := rfl
theorem cellsP_one (x : Int × Int) : (cellsP x).all Value.oneCell' = true := by simp [cellsP, Value.oneCell']

def cellsI (x : Int) : List Value := [.int .i64 x]
def valI (x : Int) : Value := .int .i64 x
theorem cellsI_len (x : Int) : (cellsI x).length = 1 := rfl
theorem cellsI_one (x : Int) : (cellsI x).all Value.oneCell' = true := by simp [cellsI, Value.oneCell']

/-- A list of numbers by its place. -/
structure Row where
  id : Nat
  o : Nat
  xs : List Int
instance : Inhabited Row := ⟨⟨0, 0, []⟩⟩
def Row.val (r : Row) : Value := lv 1 r.id r.o r.xs.length
def Row.cells (r : Row) : List Value := [r.val]
theorem Row.cells_len (x : Row) : x.cells.length = 1 := rfl
theorem Row.cells_one (x : Row) : x.cells.all Value.oneCell' = true := by simp [Row.cells, Row.val, Value.oneCell']

end Go.Ab
end

section
/- Sorting by a function: insertion sort. -/
set_option linter.all false
set_option maxRecDepth 20000
set_option maxHeartbeats 4000000
namespace Go.Proofs.Ytakkmkinfeddeaa
open Go.Ab Go.Sort

theorem insP_ok {H : Heap} {id a b n : Nat} {d : Array (Int × Int)} {lt : (Int × Int) → (Int × Int) → Bool} {g : FuncId} {fs cs : List Value} {Q : (Int × Int) → Prop} (hA : Arr cellsP H id d) (hn : d.size = n) (hl : n ≤ 1048576) (hab : a ≤ b) (hb : b ≤ n) (hQ : QA Q d)
    (hC : Cmp Try.prog valP lt g fs cs Q id H) (Post : Value → Heap → Prop) (h : ∀ H', Same (fun k => k = id) H H' → Arr cellsP H' id (insertionSort lt d a b) → Post (.tuple #[]) H') :
    ACalls Try.prog 246 [lv 2 id 0 n, .int .i64 a, .int .i64 b, .func (.func g) fs.toArray cs.toArray] H Post := by
  refine acalls_vc (rs := []) Try.func246 rfl rfl Try.ntmps246 rfl rfl ?_
  have w0 : IntKind.i64.wrap ((a : Int) + 1) = (a : Int) + 1 := i64w (by omega) (by omega)
  simp (maxSteps := 1000000) [go_sem, w0]
  refine AWp.loopVc (St := Nat × Array (Int × Int)) (fun s => [(0, lv 2 id 0 n), (1, .int .i64 a), (2, .int .i64 b), (3, .func (.func g) fs.toArray cs.toArray), (8, .int .i64 s.1)])
    (fun s H' => a + 1 ≤ s.1 ∧ s.1 ≤ n + 1 ∧ s.2.size = n ∧ QA Q s.2 ∧ Same (fun k => k = id) H H' ∧ Arr cellsP H' id s.2 ∧ insOuter lt a b s.1 s.2 = insertionSort lt d a b) (fun s => n + 1 - s.1) (a + 1, d) ?_ ?_ ?_
  · simp [upF, Fr.get, Up.refl]
  · exact ⟨Nat.le_refl _, by simp only; omega, hn, hQ, Same.refl _ _, hA, rfl⟩
  · rintro K ⟨i, d1⟩ H' ⟨hai, hin, hsz, hQ1, hS, hA1, hO⟩ hK
    simp only at hai hin hsz hQ1 hS hA1 hO
    rw [insOuter] at hO
    by_cases hlt : i < b
    · rw [if_pos hlt] at hO
      have hw_i : IntKind.i64.wrap ((i : Int) + 1) = (i : Int) + 1 := i64w (by omega) (by omega)
      simp (maxSteps := 1000000) [go_sem, hlt]
      refine AWp.loopVc (St := Nat × Array (Int × Int)) (fun s => [(0, lv 2 id 0 n), (1, .int .i64 a), (2, .int .i64 b), (3, .func (.func g) fs.toArray cs.toArray), (8, .int .i64 i), (9, .int .i64 s.1)])
        (fun s H2 => a ≤ s.1 ∧ s.1 ≤ i ∧ s.2.size = n ∧ QA Q s.2 ∧ Same (fun k => k = id) H H2 ∧ Arr cellsP H2 id s.2 ∧ insInner lt a s.1 s.2 = insInner lt a i d1) (fun s => s.1) (i, d1) ?_ ?_ ?_
      · simp [upF, Fr.get, Up.refl]
      · exact ⟨by simp only; omega, Nat.le_refl _, hsz, hQ1, hS, hA1, rfl⟩
      · rintro K2 ⟨j, d2⟩ H2 ⟨haj, hji, hsz2, hQ2, hS2, hA2, hI⟩ hK2
        simp only at haj hji hsz2 hQ2 hS2 hA2 hI
        by_cases hja : a < j
        · obtain ⟨r, rfl⟩ : ∃ r, j = r + 1 := ⟨j - 1, by omega⟩
          have hr1 : r + 1 < d2.size := by omega
          have hr0 : r < d2.size := by omega
          have c1 := hA2.load cellsP_len hr1
          have c0 := hA2.load cellsP_len hr0
          have q1 := hQ2 _ hr1
          have q0 := hQ2 _ hr0
          rw [insInner] at hI
          obtain ⟨x, hx⟩ : ∃ x, x = d2[r + 1]! := ⟨_, rfl⟩
          obtain ⟨y, hy⟩ : ∃ y, y = d2[r]! := ⟨_, rfl⟩
          rw [← hx] at c1 q1 hI
          rw [← hy] at c0 q0 hI
          have e1 : decide (r + 1 > a) = true := decide_eq_true hja
          rw [e1, Bool.true_and] at hI
          simp only [cellsP, Nat.mul_one, Row.val] at c1 c0
          have n1 : r + 1 < n := by omega
          have n0 : r < n := by omega
          have m1 : (r : Int) + 1 < n := by omega
          have m0 : (r : Int) < n := by omega
          have z1 : (0 : Int) ≤ (r : Int) + 1 := by omega
          have hwr : IntKind.i64.wrap (r : Int) = (r : Int) := i64w (by omega) (by omega)
          have ja : (a : Int) < (r : Int) + 1 := by omega
          refine AWp.draw mixed [(0, false), (1, false), (2, false), (3, false), (4, false), (5, false), (6, false), (7, false), (8, false), (9, false), (10, false), (11, false), (12, false), (13, false), (14, false), (15, false), (16, false)] (by kernel_rfl) ?_
          simp (maxSteps := 1000000) [go_sem, hja, ja, c1, c0, n1, n0, m1, m0, z1, hwr]
          refine hC H2 x y _ hS2 q1 q0 ?_
          intro H3 c hp3 hc
          have hS3 := hS2.via (Same.of_prefix (S := fun _ => False) hp3) (fun _ _ h => h.elim)
          have hA3 := hA2.pre hp3
          cases hxy : lt x y with
          | false =>
            rw [hxy] at hc hI
            have hc0 : ¬ c < 0 := by simpa using hc
            simp (maxSteps := 1000000) [go_sem, hc, hc0, hw_i]
            exact hK (i + 1, d2) _ _ (by simp only; omega) (by simp [upF, Fr.get, Up.refl]) ⟨by simp only; omega, by simp only; omega, hsz2, hQ2, hS3, hA3, by simp only; rw [← hO, ← hI]; simp⟩
          | true =>
            rw [hxy] at hc hI
            have hc0 : c < 0 := by simpa using hc
            have c1 := hA3.load cellsP_len hr1
            have c0 := hA3.load cellsP_len hr0
            obtain ⟨H4, H5, s1, s0, hA5, hS5, hl5⟩ := hA3.swap cellsP_len cellsP_one hr1 hr0
            rw [← hx] at c1 s0
            rw [← hy] at c0 s1
            simp only [cellsP, Nat.mul_one, Row.val] at c1 c0 s1 s0
            simp (maxSteps := 1000000) [go_sem, hc, hc0]
            refine AWp.draw mixed [(0, false), (1, false), (2, false), (3, false), (4, false), (5, false), (6, false), (7, false), (8, false), (9, false), (10, false), (11, false), (12, false), (13, false), (14, false), (15, false), (16, false), (17, false)] (by kernel_rfl) ?_
            simp (maxSteps := 1000000) [go_sem, c1, c0, n1, n0, m1, m0, z1, hwr, s1, s0]
            exact hK2 (r, swp d2 (r + 1) r) _ _ (by simp only; omega) (by simp [upF, Fr.get, Up.refl]) ⟨by simp only; omega, by simp only; omega, by rw [size_swp]; exact hsz2, hQ2.swp hr1 hr0, hS3.trans hS5, hA5, by simp only; rw [← hI]; simp⟩
        · have hja' : j = a := by omega
          subst hja'
          have e : insInner lt j j d2 = d2 := by
            cases j with
            | zero => rfl
            | succ r => rw [insInner]; simp
          refine AWp.draw mixed [(0, false), (1, false), (2, false), (3, false), (4, false), (5, false), (6, false), (7, false), (8, false), (9, false), (10, false), (11, false), (12, false), (13, false), (14, false), (15, false), (16, false)] (by kernel_rfl) ?_
          simp (maxSteps := 1000000) [go_sem, undef, hw_i]
          exact hK (i + 1, d2) _ _ (by simp only; omega) (by simp [upF, Fr.get, Up.refl]) ⟨by simp only; omega, by simp only; omega, hsz2, hQ2, hS2, hA2, by simp only; rw [← hO, ← hI, e]⟩
    · rw [if_neg hlt] at hO
      simp (maxSteps := 1000000) [go_sem, hlt]
      exact h H' hS (hO ▸ hA1)

end Go.Proofs.Ytakkmkinfeddeaa
end

section
/- The sort's plain functions, one step each. No statement of the seat is proved here. -/
set_option linter.all false
namespace Go.Ab
open Go.Sort
variable {α : Type} [Inhabited α] {lt : α → α → Bool}

theorem sift_end {hi first root ch : Nat} {d : Array α} (h : ch = 2 * root + 1) (hh : hi ≤ ch) : siftDown lt hi first root d = d := by
  subst h; rw [siftDown]; exact dif_pos hh
theorem sift_step {hi first root ch c2 fr fc fc2 : Nat} {d : Array α} (h : ch = 2 * root + 1) (h2 : c2 = ch + 1) (e1 : fr = first + root) (e2 : fc = first + ch) (e3 : fc2 = first + c2) (hh : ¬ hi ≤ ch) :
    siftDown lt hi first root d = if decide (c2 < hi) && lt d[fc]! d[fc2]! then (if lt d[fr]! d[fc2]! then siftDown lt hi first c2 (swp d fr fc2) else d)
      else (if lt d[fr]! d[fc]! then siftDown lt hi first ch (swp d fr fc) else d) := by
  subst h; subst h2; subst e1; subst e2; subst e3
  have a1 : 2 * root + 1 + 1 = 2 * root + 2 := rfl
  have a2 : first + (2 * root + 1) + 1 = first + (2 * root + 2) := rfl
  rw [siftDown, dif_neg hh, a1, a2]
  by_cases hc : 2 * root + 2 < hi
  · have hd : decide (2 * root + 2 < hi) = true := decide_eq_true hc
    simp only [hd, Bool.true_and, dif_pos hc]
    cases hl : lt d[first + (2 * root + 1)]! d[first + (2 * root + 2)]! with
    | true =>
      have e : (2 * root + 2 < hi ∧ True) := ⟨hc, trivial⟩
      cases hm : lt d[first + root]! d[first + (2 * root + 2)]! <;> simp [hl, hm, hc]
    | false =>
      cases hm : lt d[first + root]! d[first + (2 * root + 1)]! <;> simp [hl, hm, hc]
  · have hd : decide (2 * root + 2 < hi) = false := decide_eq_false hc
    simp only [hd, Bool.false_and]
    cases hm : lt d[first + root]! d[first + (2 * root + 1)]! <;> simp [hm, hc]

theorem sift_size (hi first root : Nat) (d : Array α) : (siftDown lt hi first root d).size = d.size := by
  fun_induction siftDown lt hi first root d <;> simp_all [size_swp]
theorem sift_QA {Q : α → Prop} {hi first root : Nat} {d : Array α} (hs : first + hi ≤ d.size) (h : QA Q d) : QA Q (siftDown lt hi first root d) := by
  fun_induction siftDown lt hi first root d with
  | case1 => exact h
  | case2 => exact h
  | case3 root d h1 h2 h3 h4 ih =>
    refine ih (by rw [size_swp]; exact hs) (h.swp (by omega) (by omega))
  | case4 => exact h
  | case5 => exact h
  | case6 root d h1 h2 h3 ih => exact ih (by rw [size_swp]; exact hs) (h.swp (by omega) (by omega))

theorem scanUp_stop {p : α → Bool} {d : Array α} {j i : Nat} (h : j < i ∨ p d[i]! = false) : scanUp p d j i = i := by
  rw [scanUp, if_neg]
  rintro hc
  rw [Bool.and_eq_true, decide_eq_true_eq] at hc
  rcases h with h | h
  · omega
  · rw [h] at hc; cases hc.2
theorem scanUp_go {p : α → Bool} {d : Array α} {j i : Nat} (h : i ≤ j) (h' : p d[i]! = true) : scanUp p d j i = scanUp p d j (i + 1) := by
  rw [scanUp, if_pos]; simp [h, h']
theorem scanDown_stop {p : α → Bool} {d : Array α} {i j : Nat} (h : j < i ∨ p d[j]! = false) : scanDown p d i j = j := by
  cases j with
  | zero => rfl
  | succ r =>
    rw [scanDown, if_neg]
    rintro hc
    rw [Bool.and_eq_true, decide_eq_true_eq] at hc
    rcases h with h | h
    · omega
    · rw [h] at hc; cases hc.2
theorem scanDown_go {p : α → Bool} {d : Array α} {i r : Nat} (h : i ≤ r + 1) (h' : p d[r + 1]! = true) : scanDown p d i (r + 1) = scanDown p d i r := by
  rw [scanDown, if_pos]; simp [h, h']
theorem scanSorted_stop {d : Array α} {b i : Nat} (h : b ≤ i ∨ lt d[i]! d[i - 1]! = true) : scanSorted lt d b i = i := by
  rw [scanSorted, if_neg]
  rintro hc
  rw [Bool.and_eq_true, decide_eq_true_eq] at hc
  rcases h with h | h
  · omega
  · rw [h] at hc; cases hc.2
theorem scanSorted_go {d : Array α} {b i : Nat} (h : i < b) (h' : lt d[i]! d[i - 1]! = false) : scanSorted lt d b i = scanSorted lt d b (i + 1) := by
  rw [scanSorted, if_pos]; simp [h, h']
theorem scanSorted_bd {d : Array α} {b i : Nat} (h : i ≤ b) : i ≤ scanSorted lt d b i ∧ scanSorted lt d b i ≤ b := by
  fun_induction scanSorted lt d b i with
  | case1 i hc ih =>
    rw [Bool.and_eq_true, decide_eq_true_eq] at hc
    have := ih (by omega); omega
  | case2 i hc => omega
theorem shiftDown_stop {j : Nat} {d : Array α} (h : lt d[j + 1]! d[j]! = false) : shiftDown lt (j + 1) d = d := by rw [shiftDown, h]; rfl
theorem shiftDown_go {j : Nat} {d : Array α} (h : lt d[j + 1]! d[j]! = true) : shiftDown lt (j + 1) d = shiftDown lt j (swp d (j + 1) j) := by rw [shiftDown, h]; rfl
theorem shiftUp_end {b j : Nat} {d : Array α} (h : b ≤ j) : shiftUp lt b j d = d := by rw [shiftUp, if_neg (by omega)]
theorem shiftUp_stop {b j : Nat} {d : Array α} (hj : j < b) (h : lt d[j]! d[j - 1]! = false) : shiftUp lt b j d = d := by rw [shiftUp, if_pos hj, h]; rfl
theorem shiftUp_go {b j : Nat} {d : Array α} (hj : j < b) (h : lt d[j]! d[j - 1]! = true) : shiftUp lt b j d = shiftUp lt b (j + 1) (swp d j (j - 1)) := by rw [shiftUp, if_pos hj, h]; rfl
theorem shiftDown_size : ∀ (j : Nat) (d : Array α), (shiftDown lt j d).size = d.size
  | 0, d => rfl
  | j + 1, d => by
    cases h : lt d[j + 1]! d[j]! with
    | true => rw [shiftDown_go h, shiftDown_size j, size_swp]
    | false => rw [shiftDown_stop h]
theorem shiftDown_QA {Q : α → Prop} : ∀ {j : Nat} {d : Array α}, j < d.size → QA Q d → QA Q (shiftDown lt j d)
  | 0, d, _, h => h
  | j + 1, d, hj, h => by
    cases hl : lt d[j + 1]! d[j]! with
    | true => rw [shiftDown_go hl]; exact shiftDown_QA (by rw [size_swp]; omega) (h.swp hj (by omega))
    | false => rw [shiftDown_stop hl]; exact h
theorem shiftUp_size (b j : Nat) (d : Array α) : (shiftUp lt b j d).size = d.size := by
  fun_induction shiftUp lt b j d <;> simp_all [size_swp]
theorem shiftUp_QA {Q : α → Prop} {b j : Nat} {d : Array α} (hb : b ≤ d.size) (h : QA Q d) : QA Q (shiftUp lt b j d) := by
  fun_induction shiftUp lt b j d with
  | case1 => exact h
  | case2 j d h1 h2 ih => exact ih (by rw [size_swp]; exact hb) (h.swp (by omega) (by omega))
  | case3 => exact h

theorem QA_perm {Q : α → Prop} {a b : Nat} {d d' : Array α} (hb : b ≤ d.size) (hp : PermIn a b d d') (h : QA Q d) : QA Q d' := by
  intro k hk
  rw [hp.1] at hk
  by_cases hin : a ≤ k ∧ k < b
  · exact permIn_all d d' a b Q hb hp (fun i _ h2 => h i (by omega)) k hin.1 hin.2
  · rw [hp.2.1 k (by omega)]; exact h k hk

theorem perm_list {n : Nat} {d d' : Array α} (hn : d.size = n) (h : PermIn 0 n d d') : d'.toList.Perm d.toList := by
  have h3 := h.2.2
  rw [← hn, Array.extract_size] at h3
  rw [← h.1, Array.extract_size] at h3
  exact h3
theorem sorted_list {n : Nat} {d : Array α} (hn : d.size = n) (h : SortedIn lt 0 n d) : d.toList.Pairwise fun x y => lt y x = false := by
  rw [List.pairwise_iff_getElem]
  intro i j hi hj hij
  have hi' : i < d.size := by simpa using hi
  have hj' : j < d.size := by simpa using hj
  have := h i j (Nat.zero_le _) hij (by omega)
  rw [getElem!_pos d j hj', getElem!_pos d i hi'] at this
  simpa using this

theorem reverse_stop {i j : Nat} {d : Array α} (h : ¬ i < j) : reverseLoop i j d = d := by rw [reverseLoop, if_neg h]
theorem reverse_go {i j : Nat} {d : Array α} (h : i < j) : reverseLoop i j d = reverseLoop (i + 1) (j - 1) (swp d i j) := by rw [reverseLoop, if_pos h]

end Go.Ab
end

section
/- Sorting by a function: the heap. -/
set_option linter.all false
set_option maxRecDepth 20000
set_option maxHeartbeats 4000000
namespace Go.Proofs.Ytakkmkinfeddeaa
open Go.Ab Go.Sort

theorem siftP_ok {H : Heap} {id lo hi first n : Nat} {d : Array (Int × Int)} {lt : (Int × Int) → (Int × Int) → Bool} {g : FuncId} {fs cs : List Value} {Q : (Int × Int) → Prop} (hA : Arr cellsP H id d) (hn : d.size = n) (hl : n ≤ 1048576) (hlo : lo ≤ n) (hhi : first + hi ≤ n) (hQ : QA Q d)
    (hC : Cmp Try.prog valP lt g fs cs Q id H) (Post : Value → Heap → Prop) (h : ∀ H', Same (fun k => k = id) H H' → Arr cellsP H' id (siftDown lt hi first lo d) → Post (.tuple #[]) H') :
    ACalls Try.prog 273 [lv 2 id 0 n, .int .i64 lo, .int .i64 hi, .int .i64 first, .func (.func g) fs.toArray cs.toArray] H Post := by
  refine acalls_vc (rs := []) Try.func273 rfl rfl Try.ntmps273 rfl rfl ?_
  simp (maxSteps := 1000000) [go_sem]
  refine AWp.loopVc (St := Nat × Array (Int × Int)) (fun s => [(0, lv 2 id 0 n), (2, .int .i64 hi), (3, .int .i64 first), (4, .func (.func g) fs.toArray cs.toArray), (10, .int .i64 s.1)])
    (fun s H' => s.1 ≤ n ∧ s.2.size = n ∧ QA Q s.2 ∧ Same (fun k => k = id) H H' ∧ Arr cellsP H' id s.2 ∧ siftDown lt hi first s.1 s.2 = siftDown lt hi first lo d) (fun s => n - s.1) (lo, d) ?_ ?_ ?_
  · simp [upF, Fr.get, Up.refl]
  · exact ⟨hlo, hn, hQ, Same.refl _ _, hA, rfl⟩
  · rintro K ⟨root, d1⟩ H1 ⟨hr, hsz, hQ1, hS1, hA1, hO⟩ hK
    simp only at hr hsz hQ1 hS1 hA1 hO
    obtain ⟨ch, hch⟩ : ∃ ch, ch = 2 * root + 1 := ⟨_, rfl⟩
    obtain ⟨c2, hc2⟩ : ∃ c2, c2 = ch + 1 := ⟨_, rfl⟩
    obtain ⟨fr, hfr⟩ : ∃ fr, fr = first + root := ⟨_, rfl⟩
    obtain ⟨fc, hfc⟩ : ∃ fc, fc = first + ch := ⟨_, rfl⟩
    obtain ⟨fc2, hfc2⟩ : ∃ fc2, fc2 = first + c2 := ⟨_, rfl⟩
    have w1 : IntKind.i64.wrap (2 * (root : Int)) = 2 * (root : Int) := i64w (by omega) (by omega)
    have w2 : IntKind.i64.wrap (2 * (root : Int) + 1) = (ch : Int) := by rw [hch]; rw [i64w (by omega) (by omega)]; omega
    have w3 : IntKind.i64.wrap ((ch : Int) + 1) = (c2 : Int) := by rw [hc2]; rw [i64w (by omega) (by omega)]; omega
    by_cases hh : hi ≤ ch
    · rw [sift_end hch hh] at hO
      have hh' : (hi : Int) ≤ ch := by omega
      simp (maxSteps := 1000000) [go_sem, w1, w2, hh, hh']
      exact h H1 hS1 (hO ▸ hA1)
    · rw [sift_step hch hc2 hfr hfc hfc2 hh] at hO
      have hh' : ¬ ((hi : Int) ≤ ch) := by omega
      have hh2 : ch < hi := by omega
      have w4 : IntKind.i64.wrap ((first : Int) + root) = (fr : Int) := by rw [hfr]; rw [i64w (by omega) (by omega)]; omega
      have w5 : IntKind.i64.wrap ((first : Int) + ch) = (fc : Int) := by rw [hfc]; rw [i64w (by omega) (by omega)]; omega
      have w6 : IntKind.i64.wrap ((first : Int) + c2) = (fc2 : Int) := by rw [hfc2]; rw [i64w (by omega) (by omega)]; omega
      have w7 : IntKind.i64.wrap ((fc : Int) + 1) = (fc2 : Int) := by rw [hfc2, hfc, hc2]; rw [i64w (by omega) (by omega)]; omega
      have hfr1 : fr < d1.size := by omega
      have hfc1 : fc < d1.size := by omega
      have n1 : fr < n := by omega
      have n2 : fc < n := by omega
      obtain ⟨x, hx⟩ : ∃ x, x = d1[fr]! := ⟨_, rfl⟩
      obtain ⟨y, hy⟩ : ∃ y, y = d1[fc]! := ⟨_, rfl⟩
      obtain ⟨z, hz⟩ : ∃ z, z = d1[fc2]! := ⟨_, rfl⟩
      rw [← hx, ← hy, ← hz] at hO
      have qx := hQ1 _ hfr1
      have qy := hQ1 _ hfc1
      rw [← hx] at qx
      rw [← hy] at qy
      have cy := hA1.load cellsP_len hfc1
      rw [← hy] at cy
      simp only [cellsP, Nat.mul_one, Row.val] at cy
      by_cases h2 : c2 < hi
      · have h2' : (c2 : Int) < hi := by omega
        have hfc21 : fc2 < d1.size := by omega
        have n3 : fc2 < n := by omega
        have qz := hQ1 _ hfc21
        rw [← hz] at qz
        have cz := hA1.load cellsP_len hfc21
        rw [← hz] at cz
        simp only [cellsP, Nat.mul_one, Row.val] at cz
        have e2 : decide (c2 < hi) = true := decide_eq_true h2
        rw [e2, Bool.true_and] at hO
        simp (maxSteps := 1000000) [go_sem, w1, w2, w3, hh, hh', hh2]
        refine AWp.draw mixed [(0, false), (1, false), (2, false), (3, false), (4, false), (5, false), (6, false), (7, false), (8, false), (9, false), (10, false), (11, false), (12, false), (13, false), (14, false), (15, false), (16, false), (17, false), (18, false), (19, false), (20, false), (21, false)] (by kernel_rfl) ?_
        simp (maxSteps := 1000000) [go_sem, w3, w5, w7, h2, h2', cy, cz, n2, n3]
        refine hC H1 y z _ hS1 qy qz ?_
        intro H3 c hp3 hc
        have hS3 := hS1.via (Same.of_prefix (S := fun _ => False) hp3) (fun _ _ h => h.elim)
        have hA3 := hA1.pre hp3
        have cx := hA3.load cellsP_len hfr1
        rw [← hx] at cx
        simp only [cellsP, Nat.mul_one, Row.val] at cx
        cases hyz : lt y z with
        | true =>
          rw [hyz] at hc hO
          have hc0 : c < 0 := by simpa using hc
          have cz := hA3.load cellsP_len hfc21
          rw [← hz] at cz
          simp only [cellsP, Nat.mul_one, Row.val] at cz
          simp (maxSteps := 1000000) [go_sem, hc, hc0, w3]
          refine AWp.draw mixed [(0, false), (1, false), (2, false), (3, false), (4, false), (5, false), (6, false), (7, false), (8, false), (9, false), (10, false), (11, false), (12, false), (13, false), (14, false), (15, false)] (by kernel_rfl) ?_
          simp (maxSteps := 1000000) [go_sem, w4, w6, cx, cz, n1, n3]
          refine hC H3 x z _ hS3 qx qz ?_
          intro H4 e hp4 he
          have hS4 := hS3.via (Same.of_prefix (S := fun _ => False) hp4) (fun _ _ h => h.elim)
          have hA4 := hA3.pre hp4
          cases hxz : lt x z with
          | false =>
            rw [hxz] at he hO
            have he0 : ¬ e < 0 := by simpa using he
            simp (maxSteps := 1000000) [go_sem, he, he0]
            exact h H4 hS4 (by simpa [← hO] using hA4)
          | true =>
            rw [hxz] at he hO
            have he0 : e < 0 := by simpa using he
            have ca := hA4.load cellsP_len hfr1
            have cb := hA4.load cellsP_len hfc21
            obtain ⟨H5, H6, s1, s0, hA6, hS6, hl6⟩ := hA4.swap cellsP_len cellsP_one hfr1 hfc21
            rw [← hx] at ca s0
            rw [← hz] at cb s1
            simp only [cellsP, Nat.mul_one, Row.val] at ca cb s0 s1
            simp (maxSteps := 1000000) [go_sem, he, he0]
            refine AWp.draw mixed [(0, false), (1, false), (2, false), (3, false), (4, false), (5, false), (6, false), (7, false), (8, false), (9, false), (10, false), (11, false), (12, false), (13, false), (14, false), (15, false), (16, false), (17, false), (18, false), (19, false), (20, false), (21, false), (22, false), (23, false)] (by kernel_rfl) ?_
            simp (maxSteps := 1000000) [go_sem, w4, w6, ca, cb, n1, n3, s1, s0]
            exact hK (c2, swp d1 fr fc2) _ _ (by simp only; omega) (by simp [upF, Fr.get, Up.refl]) ⟨by simp only; omega, by rw [size_swp]; exact hsz, hQ1.swp hfr1 hfc21, hS4.trans hS6, hA6, by simp only; rw [← hO]; simp⟩
        | false =>
          rw [hyz] at hc hO
          have hc0 : ¬ c < 0 := by simpa using hc
          have cy := hA3.load cellsP_len hfc1
          rw [← hy] at cy
          simp only [cellsP, Nat.mul_one, Row.val] at cy
          simp (maxSteps := 1000000) [go_sem, hc, hc0]
          refine AWp.draw mixed [(0, false), (1, false), (2, false), (3, false), (4, false), (5, false), (6, false), (7, false), (8, false), (9, false), (10, false), (11, false), (12, false), (13, false), (14, false), (15, false)] (by kernel_rfl) ?_
          simp (maxSteps := 1000000) [go_sem, w4, w5, cx, cy, n1, n2]
          refine hC H3 x y _ hS3 qx qy ?_
          intro H4 e hp4 he
          have hS4 := hS3.via (Same.of_prefix (S := fun _ => False) hp4) (fun _ _ h => h.elim)
          have hA4 := hA3.pre hp4
          cases hxz : lt x y with
          | false =>
            rw [hxz] at he hO
            have he0 : ¬ e < 0 := by simpa using he
            simp (maxSteps := 1000000) [go_sem, he, he0]
            exact h H4 hS4 (by simpa [← hO] using hA4)
          | true =>
            rw [hxz] at he hO
            have he0 : e < 0 := by simpa using he
            have ca := hA4.load cellsP_len hfr1
            have cb := hA4.load cellsP_len hfc1
            obtain ⟨H5, H6, s1, s0, hA6, hS6, hl6⟩ := hA4.swap cellsP_len cellsP_one hfr1 hfc1
            rw [← hx] at ca s0
            rw [← hy] at cb s1
            simp only [cellsP, Nat.mul_one, Row.val] at ca cb s0 s1
            simp (maxSteps := 1000000) [go_sem, he, he0]
            refine AWp.draw mixed [(0, false), (1, false), (2, false), (3, false), (4, false), (5, false), (6, false), (7, false), (8, false), (9, false), (10, false), (11, false), (12, false), (13, false), (14, false), (15, false), (16, false), (17, false), (18, false), (19, false), (20, false), (21, false), (22, false), (23, false)] (by kernel_rfl) ?_
            simp (maxSteps := 1000000) [go_sem, w4, w5, ca, cb, n1, n2, s1, s0]
            exact hK (ch, swp d1 fr fc) _ _ (by simp only; omega) (by simp [upF, Fr.get, Up.refl]) ⟨by simp only; omega, by rw [size_swp]; exact hsz, hQ1.swp hfr1 hfc1, hS4.trans hS6, hA6, by simp only; rw [← hO]; simp⟩
      · have h2' : ¬ ((c2 : Int) < hi) := by omega
        have e2 : decide (c2 < hi) = false := decide_eq_false h2
        rw [e2, Bool.false_and] at hO
        have hA3 := hA1
        have hS3 := hS1
        have cx := hA3.load cellsP_len hfr1
        rw [← hx] at cx
        simp only [cellsP, Nat.mul_one, Row.val] at cx
        simp (maxSteps := 1000000) [go_sem, w1, w2, w3, hh, hh', hh2]
        refine AWp.draw mixed [(0, false), (1, false), (2, false), (3, false), (4, false), (5, false), (6, false), (7, false), (8, false), (9, false), (10, false), (11, false), (12, false), (13, false), (14, false), (15, false), (16, false), (17, false), (18, false), (19, false), (20, false), (21, false)] (by kernel_rfl) ?_
        simp (maxSteps := 1000000) [go_sem, undef, w3, h2, h2']
        obtain ⟨H3, eH3⟩ : ∃ H3, H3 = H1 := ⟨_, rfl⟩
        rw [← eH3] at hA3 hS3 cx cy ⊢
        refine AWp.draw mixed [(0, false), (1, false), (2, false), (3, false), (4, false), (5, false), (6, false), (7, false), (8, false), (9, false), (10, false), (11, false), (12, false), (13, false), (14, false), (15, false)] (by kernel_rfl) ?_
        simp (maxSteps := 1000000) [go_sem, w4, w5, cx, cy, n1, n2]
        refine hC H3 x y _ hS3 qx qy ?_
        intro H4 e hp4 he
        have hS4 := hS3.via (Same.of_prefix (S := fun _ => False) hp4) (fun _ _ h => h.elim)
        have hA4 := hA3.pre hp4
        cases hxz : lt x y with
        | false =>
          rw [hxz] at he hO
          have he0 : ¬ e < 0 := by simpa using he
          simp (maxSteps := 1000000) [go_sem, he, he0]
          exact h H4 hS4 (by simpa [← hO] using hA4)
        | true =>
          rw [hxz] at he hO
          have he0 : e < 0 := by simpa using he
          have ca := hA4.load cellsP_len hfr1
          have cb := hA4.load cellsP_len hfc1
          obtain ⟨H5, H6, s1, s0, hA6, hS6, hl6⟩ := hA4.swap cellsP_len cellsP_one hfr1 hfc1
          rw [← hx] at ca s0
          rw [← hy] at cb s1
          simp only [cellsP, Nat.mul_one, Row.val] at ca cb s0 s1
          simp (maxSteps := 1000000) [go_sem, he, he0]
          refine AWp.draw mixed [(0, false), (1, false), (2, false), (3, false), (4, false), (5, false), (6, false), (7, false), (8, false), (9, false), (10, false), (11, false), (12, false), (13, false), (14, false), (15, false), (16, false), (17, false), (18, false), (19, false), (20, false), (21, false), (22, false), (23, false)] (by kernel_rfl) ?_
          simp (maxSteps := 1000000) [go_sem, w4, w5, ca, cb, n1, n2, s1, s0]
          exact hK (ch, swp d1 fr fc) _ _ (by simp only; omega) (by simp [upF, Fr.get, Up.refl]) ⟨by simp only; omega, by rw [size_swp]; exact hsz, hQ1.swp hfr1 hfc1, hS4.trans hS6, hA6, by simp only; rw [← hO]; simp⟩

theorem heapP_ok {H : Heap} {id a b n : Nat} {d : Array (Int × Int)} {lt : (Int × Int) → (Int × Int) → Bool} {g : FuncId} {fs cs : List Value} {Q : (Int × Int) → Prop} (hA : Arr cellsP H id d) (hn : d.size = n) (hl : n ≤ 1048576) (hab : a < b) (hb : b ≤ n) (hQ : QA Q d)
    (hC : Cmp Try.prog valP lt g fs cs Q id H) (Post : Value → Heap → Prop) (h : ∀ H', Same (fun k => k = id) H H' → Arr cellsP H' id (heapSort lt d a b) → Post (.tuple #[]) H') :
    ACalls Try.prog 247 [lv 2 id 0 n, .int .i64 a, .int .i64 b, .func (.func g) fs.toArray cs.toArray] H Post := by
  refine acalls_vc (rs := []) Try.func247 rfl rfl Try.ntmps247 rfl rfl ?_
  obtain ⟨hi, hhi⟩ : ∃ hi, hi = b - a := ⟨_, rfl⟩
  obtain ⟨h1, hh1⟩ : ∃ h1, h1 = hi - 1 := ⟨_, rfl⟩
  obtain ⟨k0, hk0⟩ : ∃ k0, k0 = h1 / 2 := ⟨_, rfl⟩
  have w0 : IntKind.i64.wrap ((b : Int) - a) = (hi : Int) := by rw [hhi, i64w (by omega) (by omega)]; omega
  have w1 : IntKind.i64.wrap ((hi : Int) - 1) = (h1 : Int) := by rw [hh1, i64w (by omega) (by omega)]; omega
  have w2 : IntKind.i64.wrap ((h1 : Int) / 2) = (k0 : Int) := by rw [hk0, i64w (by omega) (by omega)]; omega
  have e0 : heapSort lt d a b = heapPop lt a hi (heapBuild lt hi a (k0 + 1) d) := by rw [hk0, hh1, hhi]; rfl
  rw [e0] at h
  simp (maxSteps := 1000000) [go_sem, w0, w1, w2]
  refine AWp.loopVc (St := Nat × Array (Int × Int)) (fun s => [(0, lv 2 id 0 n), (3, .func (.func g) fs.toArray cs.toArray), (8, .int .i64 a), (9, .int .i64 0), (10, .int .i64 hi), (11, .int .i64 ((s.1 : Int) - 1))])
    (fun s H' => s.1 ≤ k0 + 1 ∧ s.2.size = n ∧ QA Q s.2 ∧ Same (fun k => k = id) H H' ∧ Arr cellsP H' id s.2 ∧ heapBuild lt hi a s.1 s.2 = heapBuild lt hi a (k0 + 1) d) (fun s => s.1) (k0 + 1, d) ?_ ?_ ?_
  · have e : ((k0 + 1 : Nat) : Int) - 1 = k0 := by omega
    simp [upF, Fr.get, Up.refl, e]
  · exact ⟨Nat.le_refl _, hn, hQ, Same.refl _ _, hA, rfl⟩
  · rintro K ⟨k, d1⟩ H1 ⟨hk, hsz, hQ1, hS1, hA1, hO⟩ hK
    simp only at hk hsz hQ1 hS1 hA1 hO
    cases k with
    | succ r =>
      have hwr : IntKind.i64.wrap ((r : Int) - 1) = (r : Int) - 1 := i64w (by omega) (by omega)
      simp (maxSteps := 1000000) [go_sem]
      refine siftP_ok hA1 hsz hl (by omega) (by omega) hQ1 (hC.keep hS1) _ ?_
      intro H2 hS2 hA2
      have hsz2 : (siftDown lt hi a r d1).size = n := by rw [sift_size]; exact hsz
      simp (maxSteps := 1000000) [go_sem, hwr]
      exact hK (r, siftDown lt hi a r d1) _ _ (by simp only; omega) (by simp [upF, Fr.get, Up.refl]) ⟨by simp only; omega, hsz2, sift_QA (by omega) hQ1, hS1.trans hS2, hA2, hO⟩
    | zero =>
      simp (maxSteps := 1000000) [go_sem, w1]
      have hO' : d1 = heapBuild lt hi a (k0 + 1) d := hO
      rw [← hO'] at h
      refine AWp.loopVc (St := Nat × Array (Int × Int)) (fun s => [(0, lv 2 id 0 n), (3, .func (.func g) fs.toArray cs.toArray), (8, .int .i64 a), (9, .int .i64 0), (12, .int .i64 ((s.1 : Int) - 1))])
        (fun s H' => s.1 ≤ hi ∧ s.2.size = n ∧ QA Q s.2 ∧ Same (fun k => k = id) H H' ∧ Arr cellsP H' id s.2 ∧ heapPop lt a s.1 s.2 = heapPop lt a hi d1) (fun s => s.1) (hi, d1) ?_ ?_ ?_
      · have e : (hi : Int) - 1 = h1 := by omega
        simp [upF, Fr.get, Up.refl, e]
      · exact ⟨Nat.le_refl _, hsz, hQ1, hS1, hA1, rfl⟩
      · rintro K2 ⟨k, d2⟩ H2 ⟨hk2, hsz2, hQ2, hS2, hA2, hP⟩ hK2
        simp only at hk2 hsz2 hQ2 hS2 hA2 hP
        cases k with
        | succ r =>
          have hwr : IntKind.i64.wrap ((r : Int) - 1) = (r : Int) - 1 := i64w (by omega) (by omega)
          obtain ⟨ar, har⟩ : ∃ ar, ar = a + r := ⟨_, rfl⟩
          have w4 : IntKind.i64.wrap ((a : Int) + r) = (ar : Int) := by rw [har]; rw [i64w (by omega) (by omega)]; omega
          have hi1 : a < d2.size := by omega
          have hi2 : ar < d2.size := by omega
          have n1 : a < n := by omega
          have n2 : ar < n := by omega
          have ca := hA2.load cellsP_len hi1
          have cb := hA2.load cellsP_len hi2
          obtain ⟨H5, H6, s1, s0, hA6, hS6, hl6⟩ := hA2.swap cellsP_len cellsP_one hi1 hi2
          obtain ⟨x, hx⟩ : ∃ x, x = d2[a]! := ⟨_, rfl⟩
          obtain ⟨y, hy⟩ : ∃ y, y = d2[ar]! := ⟨_, rfl⟩
          rw [← hx] at ca s0
          rw [← hy] at cb s1
          simp only [cellsP, Nat.mul_one, Row.val] at ca cb s0 s1
          rw [heapPop, ← har] at hP
          have hsz3 : (swp d2 a ar).size = n := by rw [size_swp]; exact hsz2
          have hQ3 := hQ2.swp hi1 hi2
          simp (maxSteps := 1000000) [go_sem]
          refine AWp.draw mixed [(0, false), (1, false), (2, false), (3, false), (4, false), (5, false), (6, false), (7, false), (8, false), (9, false), (10, false), (11, false), (12, false), (13, false), (14, false), (15, false), (16, false), (17, false), (18, false), (19, false)] (by kernel_rfl) ?_
          simp (maxSteps := 1000000) [go_sem, w4, ca, cb, n1, n2, s1, s0]
          refine siftP_ok (lo := 0) hA6 hsz3 hl (by omega) (by omega) hQ3 (hC.keep (hS2.trans hS6)) _ ?_
          intro H7 hS7 hA7
          have hsz4 : (siftDown lt r a 0 (swp d2 a ar)).size = n := by rw [sift_size]; exact hsz3
          simp (maxSteps := 1000000) [go_sem, hwr]
          exact hK2 (r, siftDown lt r a 0 (swp d2 a ar)) _ _ (by simp only; omega) (by simp [upF, Fr.get, Up.refl]) ⟨by simp only; omega, hsz4, sift_QA (by omega) hQ3, (hS2.trans hS6).trans hS7, hA7, hP⟩
        | zero =>
          simp (maxSteps := 1000000) [go_sem]
          refine h H2 hS2 ?_
          rw [← hP]; exact hA2

end Go.Proofs.Ytakkmkinfeddeaa
end

section
/- Sorting by a function: turning around, the choice of a pivot. -/
set_option linter.all false
set_option maxRecDepth 20000
set_option maxHeartbeats 4000000
namespace Go.Proofs.Ytakkmkinfeddeaa
open Go.Ab Go.Sort

theorem reverseP_ok {H : Heap} {id a b n : Nat} {d : Array (Int × Int)} {g : FuncId} {fs cs : List Value} (hA : Arr cellsP H id d) (hn : d.size = n) (hl : n ≤ 1048576) (hab : a < b) (hb : b ≤ n)
    (Post : Value → Heap → Prop) (h : ∀ H', Same (fun k => k = id) H H' → Arr cellsP H' id (reverseRange d a b) → Post (.tuple #[]) H') :
    ACalls Try.prog 250 [lv 2 id 0 n, .int .i64 a, .int .i64 b, .func (.func g) fs.toArray cs.toArray] H Post := by
  refine acalls_vc (rs := []) Try.func250 rfl rfl Try.ntmps250 rfl rfl ?_
  obtain ⟨b1, hb1⟩ : ∃ b1, b1 = b - 1 := ⟨_, rfl⟩
  have w0 : IntKind.i64.wrap ((b : Int) - 1) = (b1 : Int) := by rw [hb1, i64w (by omega) (by omega)]; omega
  have e0 : reverseRange d a b = reverseLoop a b1 d := by rw [hb1]; rfl
  rw [e0] at h
  simp (maxSteps := 1000000) [go_sem, w0]
  refine AWp.loopVc (St := Nat × Nat × Array (Int × Int)) (fun s => [(0, lv 2 id 0 n), (8, .int .i64 s.1), (9, .int .i64 s.2.1)])
    (fun s H' => s.2.1 < n ∧ s.1 ≤ n ∧ s.2.2.size = n ∧ Same (fun k => k = id) H H' ∧ Arr cellsP H' id s.2.2 ∧ reverseLoop s.1 s.2.1 s.2.2 = reverseLoop a b1 d) (fun s => s.2.1 - s.1) (a, b1, d) ?_ ?_ ?_
  · simp [upF, Fr.get, Up.refl]
  · exact ⟨by simp only; omega, by simp only; omega, hn, Same.refl _ _, hA, rfl⟩
  · rintro K ⟨i, j, d1⟩ H1 ⟨hj, hi, hsz, hS1, hA1, hO⟩ hK
    simp only at hj hi hsz hS1 hA1 hO
    by_cases hij : i < j
    · obtain ⟨r, rfl⟩ : ∃ r, j = r + 1 := ⟨j - 1, by omega⟩
      rw [reverse_go hij] at hO
      have hi1 : i < d1.size := by omega
      have hi2 : r + 1 < d1.size := by omega
      have n1 : i < n := by omega
      have n2 : r + 1 < n := by omega
      have m2 : (r : Int) + 1 < n := by omega
      have z2 : (0 : Int) ≤ (r : Int) + 1 := by omega
      have hij' : (i : Int) < (r : Int) + 1 := by omega
      have hwr : IntKind.i64.wrap (r : Int) = (r : Int) := i64w (by omega) (by omega)
      have hw_i : IntKind.i64.wrap ((i : Int) + 1) = (i : Int) + 1 := i64w (by omega) (by omega)
      have ca := hA1.load cellsP_len hi1
      have cb := hA1.load cellsP_len hi2
      obtain ⟨H5, H6, s1, s0, hA6, hS6, hl6⟩ := hA1.swap cellsP_len cellsP_one hi1 hi2
      obtain ⟨x, hx⟩ : ∃ x, x = d1[i]! := ⟨_, rfl⟩
      obtain ⟨y, hy⟩ : ∃ y, y = d1[r + 1]! := ⟨_, rfl⟩
      rw [← hx] at ca s0
      rw [← hy] at cb s1
      simp only [cellsP, Nat.mul_one, Row.val] at ca cb s0 s1
      simp (maxSteps := 1000000) [go_sem, hij, hij']
      refine AWp.draw mixed [(0, false), (1, false), (2, false), (3, false), (4, false), (5, false), (6, false), (7, false), (8, false), (9, false), (10, false), (11, false), (12, false), (13, false), (14, false), (15, false)] (by kernel_rfl) ?_
      simp (maxSteps := 1000000) [go_sem, ca, cb, n1, n2, m2, z2, s1, s0, hw_i, hwr]
      exact hK (i + 1, r, swp d1 i (r + 1)) _ _ (by simp only; omega) (by simp [upF, Fr.get, Up.refl]) ⟨by simp only; omega, by simp only; omega, by rw [size_swp]; exact hsz, hS1.trans hS6, hA6, hO⟩
    · rw [reverse_stop hij] at hO
      have hij' : ¬ ((i : Int) < j) := by omega
      simp (maxSteps := 1000000) [go_sem, hij, hij']
      exact h H1 hS1 (hO ▸ hA1)

theorem order2P_ok {HB H : Heap} {id sw a b n : Nat} {z : Int} {d : Array (Int × Int)} {lt : (Int × Int) → (Int × Int) → Bool} {g : FuncId} {fs cs : List Value} {Q : (Int × Int) → Prop} (hA : Arr cellsP H id d) (hn : d.size = n) (hl : n ≤ 1048576) (ha : a < n) (hb : b < n) (hQ : QA Q d)
    (hC : Cmp Try.prog valP lt g fs cs Q id HB) (hB : Same (fun k => k = id) HB H) (hz : H[sw]? = some ⟨[.int .i64 z], true, true⟩) (hsw : HB.length ≤ sw) (hid : id ≠ sw) (Post : Value → Heap → Prop)
    (h : ∀ H' (x y : Nat) (z' : Int), Same (fun k => k = sw) H H' → H'[sw]? = some ⟨[.int .i64 z'], true, true⟩ → (x = a ∧ y = b ∨ x = b ∧ y = a) → Post (.tuple #[.int .i64 x, .int .i64 y]) H') :
    ACalls Try.prog 282 [lv 2 id 0 n, .int .i64 a, .int .i64 b, .pointer (some ⟨sw, 0, none⟩), .func (.func g) fs.toArray cs.toArray] H Post := by
  refine acalls_vc (rs := [.tmp 10, .tmp 11]) Try.func282 rfl rfl Try.ntmps282 rfl rfl ?_
  have hi1 : a < d.size := by omega
  have hi2 : b < d.size := by omega
  have ca := hA.load cellsP_len hi1
  have cb := hA.load cellsP_len hi2
  have qa := hQ _ hi1
  have qb := hQ _ hi2
  obtain ⟨x, hx⟩ : ∃ x, x = d[a]! := ⟨_, rfl⟩
  obtain ⟨y, hy⟩ : ∃ y, y = d[b]! := ⟨_, rfl⟩
  rw [← hx] at ca qa
  rw [← hy] at cb qb
  simp only [cellsP, Nat.mul_one, Row.val] at ca cb
  simp (maxSteps := 1000000) [go_sem]
  refine AWp.draw mixed [(0, false), (1, false), (2, false), (3, false), (4, false), (5, false), (6, false), (7, false), (8, false), (9, false), (10, false)] (by kernel_rfl) ?_
  simp (maxSteps := 1000000) [go_sem, ca, cb, ha, hb]
  refine hC H y x _ hB qb qa ?_
  intro H3 c hp3 hc
  have hz3 : H3[sw]? = some ⟨[.int .i64 z], true, true⟩ := Same.get (S := fun _ => False) (Same.of_prefix hp3) hz (fun h => h)
  cases hyx : lt y x with
  | true =>
    rw [hyx] at hc
    have hc0 : c < 0 := by simpa using hc
    have lz : cellsAt H3 sw 0 1 = some [.int .i64 z] := by rw [cellsAt_of hz3 rfl (by simp)]; rfl
    obtain ⟨z1, hz1⟩ : ∃ z1, IntKind.i64.wrap (z + 1) = z1 := ⟨_, rfl⟩
    have sz : storeAt H3 sw 0 [.int .i64 z1] = some (H3.set sw ⟨[.int .i64 z1], true, true⟩) := by
      rw [storeAt_of hz3 rfl rfl (by simp) (by simp [Value.oneCell'])]; rfl
    have hlt := (List.getElem?_eq_some_iff.1 hz3).1
    have fin := h (H3.set sw ⟨[.int .i64 z1], true, true⟩) b a _ ((Same.of_prefix hp3).trans same_set) (List.getElem?_set_self hlt) (.inr ⟨rfl, rfl⟩)
    generalize H3.set sw ⟨[.int .i64 z1], true, true⟩ = H4 at sz fin
    simp (maxSteps := 1000000) [go_sem, hc, hc0, lz, hz1, sz]
    exact fin
  | false =>
    rw [hyx] at hc
    have hc0 : ¬ c < 0 := by simpa using hc
    have fin := h H3 a b z (Same.of_prefix hp3) hz3 (.inl ⟨rfl, rfl⟩)
    simp (maxSteps := 1000000) [go_sem, hc, hc0]
    exact fin

theorem medianP_ok {HB H : Heap} {id sw a b c n : Nat} {z : Int} {d : Array (Int × Int)} {lt : (Int × Int) → (Int × Int) → Bool} {g : FuncId} {fs cs : List Value} {Q : (Int × Int) → Prop} (hA : Arr cellsP H id d) (hn : d.size = n) (hl : n ≤ 1048576) (ha : a < n) (hb : b < n) (hc : c < n) (hQ : QA Q d)
    (hC : Cmp Try.prog valP lt g fs cs Q id HB) (hB : Same (fun k => k = id) HB H) (hz : H[sw]? = some ⟨[.int .i64 z], true, true⟩) (hsw : HB.length ≤ sw) (hid : id ≠ sw) (Post : Value → Heap → Prop)
    (h : ∀ H' (x : Nat) (z' : Int), Same (fun k => k = sw) H H' → H'[sw]? = some ⟨[.int .i64 z'], true, true⟩ → (x = a ∨ x = b ∨ x = c) → Post (.int .i64 x) H') :
    ACalls Try.prog 275 [lv 2 id 0 n, .int .i64 a, .int .i64 b, .int .i64 c, .pointer (some ⟨sw, 0, none⟩), .func (.func g) fs.toArray cs.toArray] H Post := by
  have stepB : ∀ {H1 : Heap}, Same (fun k => k = sw) H H1 → Same (fun k => k = id) HB H1 := fun h1 => hB.via h1 (by intro j hj e; omega)
  have stepA : ∀ {H1 : Heap}, Same (fun k => k = sw) H H1 → Arr cellsP H1 id d := fun h1 => h1.get hA hid
  refine acalls_vc (rs := [.tmp 12]) Try.func275 rfl rfl Try.ntmps275 rfl rfl ?_
  simp (maxSteps := 1000000) [go_sem]
  refine order2P_ok hA hn hl ha hb hQ hC hB hz hsw hid _ ?_
  intro H1 a1 b1 z1 hs1 hz1 h1
  simp (maxSteps := 1000000) [go_sem]
  refine order2P_ok (stepA hs1) hn hl (by omega) hc hQ hC (stepB hs1) hz1 hsw hid _ ?_
  intro H2 b2 c2 z2 hs2 hz2 h2
  have hs2 := hs1.trans hs2
  simp (maxSteps := 1000000) [go_sem]
  refine order2P_ok (stepA hs2) hn hl (by omega) (by omega) hQ hC (stepB hs2) hz2 hsw hid _ ?_
  intro H3 a3 b3 z3 hs3 hz3 h3
  simp (maxSteps := 1000000) [go_sem]
  exact h H3 b3 z3 (hs2.trans hs3) hz3 (by omega)

theorem medianAdjP_ok {HB H : Heap} {id sw a n : Nat} {z : Int} {d : Array (Int × Int)} {lt : (Int × Int) → (Int × Int) → Bool} {g : FuncId} {fs cs : List Value} {Q : (Int × Int) → Prop} (hA : Arr cellsP H id d) (hn : d.size = n) (hl : n ≤ 1048576) (ha0 : 0 < a) (ha : a + 1 < n) (hQ : QA Q d)
    (hC : Cmp Try.prog valP lt g fs cs Q id HB) (hB : Same (fun k => k = id) HB H) (hz : H[sw]? = some ⟨[.int .i64 z], true, true⟩) (hsw : HB.length ≤ sw) (hid : id ≠ sw) (Post : Value → Heap → Prop)
    (h : ∀ H' (x : Nat) (z' : Int), Same (fun k => k = sw) H H' → H'[sw]? = some ⟨[.int .i64 z'], true, true⟩ → (a ≤ x + 1 ∧ x ≤ a + 1) → Post (.int .i64 x) H') :
    ACalls Try.prog 274 [lv 2 id 0 n, .int .i64 a, .pointer (some ⟨sw, 0, none⟩), .func (.func g) fs.toArray cs.toArray] H Post := by
  obtain ⟨p, hp⟩ : ∃ p, p = a - 1 := ⟨_, rfl⟩
  obtain ⟨q, hq⟩ : ∃ q, q = a + 1 := ⟨_, rfl⟩
  have w0 : IntKind.i64.wrap ((a : Int) - 1) = (p : Int) := by rw [hp, i64w (by omega) (by omega)]; omega
  have w1 : IntKind.i64.wrap ((a : Int) + 1) = (q : Int) := by rw [hq, i64w (by omega) (by omega)]; omega
  refine acalls_vc (rs := [.tmp 8]) Try.func274 rfl rfl Try.ntmps274 rfl rfl ?_
  simp (maxSteps := 1000000) [go_sem, w0, w1]
  refine medianP_ok hA hn hl (by omega) (by omega) (by omega) hQ hC hB hz hsw hid _ ?_
  intro H1 x z1 hs1 hz1 h1
  simp (maxSteps := 1000000) [go_sem]
  exact h H1 x z1 hs1 hz1 (by omega)

theorem pivotP_ok {H : Heap} {id a b n : Nat} {d : Array (Int × Int)} {lt : (Int × Int) → (Int × Int) → Bool} {g : FuncId} {fs cs : List Value} {Q : (Int × Int) → Prop} (hA : Arr cellsP H id d) (hn : d.size = n) (hl : n ≤ 1048576) (hab : a < b) (hb : b ≤ n) (hQ : QA Q d)
    (hC : Cmp Try.prog valP lt g fs cs Q id H) (Post : Value → Heap → Prop)
    (h : ∀ H' (x : Nat) (t : Int), H <+: H' → (a ≤ x ∧ x < b) → Post (.tuple #[.int .i64 x, .int .i64 t]) H') :
    ACalls Try.prog 249 [lv 2 id 0 n, .int .i64 a, .int .i64 b, .func (.func g) fs.toArray cs.toArray] H Post := by
  obtain ⟨l, hll⟩ : ∃ l, l = b - a := ⟨_, rfl⟩
  obtain ⟨q, hq⟩ : ∃ q, q = l / 4 := ⟨_, rfl⟩
  obtain ⟨i, hi⟩ : ∃ i, i = a + q := ⟨_, rfl⟩
  obtain ⟨j, hj⟩ : ∃ j, j = a + q * 2 := ⟨_, rfl⟩
  obtain ⟨k, hk⟩ : ∃ k, k = a + q * 3 := ⟨_, rfl⟩
  have w0 : IntKind.i64.wrap ((b : Int) - a) = (l : Int) := by rw [hll, i64w (by omega) (by omega)]; omega
  have w1 : IntKind.i64.wrap ((l : Int) / 4) = (q : Int) := by rw [hq, i64w (by omega) (by omega)]; omega
  have w1' : IntKind.i64.wrap (q : Int) = (q : Int) := i64w (by omega) (by omega)
  have w2 : IntKind.i64.wrap ((q : Int) * 2) = (q : Int) * 2 := i64w (by omega) (by omega)
  have w3 : IntKind.i64.wrap ((q : Int) * 3) = (q : Int) * 3 := i64w (by omega) (by omega)
  have w4 : IntKind.i64.wrap ((a : Int) + q) = (i : Int) := by rw [hi, i64w (by omega) (by omega)]; omega
  have w5 : IntKind.i64.wrap ((a : Int) + (q : Int) * 2) = (j : Int) := by rw [hj, i64w (by omega) (by omega)]; omega
  have w6 : IntKind.i64.wrap ((a : Int) + (q : Int) * 3) = (k : Int) := by rw [hk, i64w (by omega) (by omega)]; omega
  have hidl := hA.lt
  have hp0 : H <+: H ++ [⟨[.int .i64 0], true, true⟩] := List.prefix_append _ _
  have hz0 : (H ++ [(⟨[.int .i64 0], true, true⟩ : Blk)])[H.length]? = some ⟨[.int .i64 0], true, true⟩ := by simp
  have fin0 : ∀ (H' : Heap) (x : Nat) (t : Int), Same (fun k => k = H.length) (H ++ [⟨[.int .i64 0], true, true⟩]) H' → (a ≤ x ∧ x < b) → Post (.tuple #[.int .i64 x, .int .i64 t]) H' := by
    intro H' x t hs hx
    refine h H' x t ?_ hx
    exact ((Same.of_prefix (S := fun k => k = H.length) hp0).trans hs).prefix (by intro j hj e; omega)
  have lz : ∀ {H' : Heap} {z : Int}, H'[H.length]? = some ⟨[.int .i64 z], true, true⟩ → cellsAt H' H.length 0 1 = some [.int .i64 z] := by
    intro H' z hz; rw [cellsAt_of hz rfl (by simp)]; rfl
  refine acalls_vc (rs := [.tmp 8, .tmp 9]) Try.func249 rfl rfl Try.ntmps249 rfl rfl ?_
  by_cases h8 : 8 ≤ l
  · have h8' : (8 : Int) ≤ l := by omega
    by_cases h50 : 50 ≤ l
    · have h50' : (50 : Int) ≤ l := by omega
      simp (maxSteps := 1000000) [go_sem, w0, w1, w1', w2, w3, w4, w5, w6, h8, h8', h50, h50']
      have hA0 := hA.pre hp0
      have hB0 : Same (fun k => k = id) H (H ++ [⟨[.int .i64 0], true, true⟩]) := Same.of_prefix hp0
      generalize H ++ [(⟨[.int .i64 0], true, true⟩ : Blk)] = H0 at hp0 hz0 fin0 hA0 hB0 ⊢
      have stepB : ∀ {H1 : Heap}, Same (fun k => k = H.length) H0 H1 → Same (fun k => k = id) H H1 := fun h1 => hB0.via h1 (by intro j hj e; omega)
      have stepA : ∀ {H1 : Heap}, Same (fun k => k = H.length) H0 H1 → Arr cellsP H1 id d := fun h1 => h1.get hA0 (by omega)
      refine medianAdjP_ok hA0 hn hl (by omega) (by omega) hQ hC hB0 hz0 (Nat.le_refl _) (by omega) _ ?_
      intro H1 i1 z1 hs1 hz1 h1
      simp (maxSteps := 1000000) [go_sem]
      refine medianAdjP_ok (stepA hs1) hn hl (by omega) (by omega) hQ hC (stepB hs1) hz1 (Nat.le_refl _) (by omega) _ ?_
      intro H2 j1 z2 hs2 hz2 h2
      have hs2 := hs1.trans hs2
      simp (maxSteps := 1000000) [go_sem]
      refine medianAdjP_ok (stepA hs2) hn hl (by omega) (by omega) hQ hC (stepB hs2) hz2 (Nat.le_refl _) (by omega) _ ?_
      intro H3 k1 z3 hs3 hz3 h3
      have hs3 := hs2.trans hs3
      simp (maxSteps := 1000000) [go_sem]
      refine medianP_ok (stepA hs3) hn hl (by omega) (by omega) (by omega) hQ hC (stepB hs3) hz3 (Nat.le_refl _) (by omega) _ ?_
      intro H4 x z4 hs4 hz4 h4
      have hs4 := hs3.trans hs4
      have c4 := lz hz4
      have hx : a ≤ x ∧ x < b := by omega
      by_cases e0 : z4 = 0
      · have fin := fin0 H4 x 1 hs4 hx
        subst e0
        simp (maxSteps := 1000000) [go_sem, c4]
        exact fin
      · have e0' : (z4 == 0) = false := by simpa using e0
        by_cases e1 : z4 = 12
        · have fin := fin0 H4 x 2 hs4 hx
          subst e1
          simp (maxSteps := 1000000) [go_sem, c4]
          exact fin
        · have fin := fin0 H4 x 0 hs4 hx
          have e1' : (z4 == 12) = false := by simpa using e1
          simp (maxSteps := 1000000) [go_sem, c4, e0, e0', e1, e1']
          exact fin
    · have h50' : ¬ ((50 : Int) ≤ l) := by omega
      simp (maxSteps := 1000000) [go_sem, w0, w1, w1', w2, w3, w4, w5, w6, h8, h8', h50, h50']
      have hA0 := hA.pre hp0
      have hB0 : Same (fun k => k = id) H (H ++ [⟨[.int .i64 0], true, true⟩]) := Same.of_prefix hp0
      generalize H ++ [(⟨[.int .i64 0], true, true⟩ : Blk)] = H0 at hp0 hz0 fin0 hA0 hB0 ⊢
      refine medianP_ok hA0 hn hl (by omega) (by omega) (by omega) hQ hC hB0 hz0 (Nat.le_refl _) (by omega) _ ?_
      intro H4 x z4 hs4 hz4 h4
      have c4 := lz hz4
      have hx : a ≤ x ∧ x < b := by omega
      by_cases e0 : z4 = 0
      · have fin := fin0 H4 x 1 hs4 hx
        subst e0
        simp (maxSteps := 1000000) [go_sem, c4]
        exact fin
      · have e0' : (z4 == 0) = false := by simpa using e0
        by_cases e1 : z4 = 12
        · have fin := fin0 H4 x 2 hs4 hx
          subst e1
          simp (maxSteps := 1000000) [go_sem, c4]
          exact fin
        · have fin := fin0 H4 x 0 hs4 hx
          have e1' : (z4 == 12) = false := by simpa using e1
          simp (maxSteps := 1000000) [go_sem, c4, e0, e0', e1, e1']
          exact fin
  · have h8' : ¬ ((8 : Int) ≤ l) := by omega
    have fin := fin0 _ j 1 (Same.refl _ _) (by omega)
    simp (maxSteps := 1000000) [go_sem, w0, w1, w1', w2, w3, w4, w5, w6, h8, h8']
    exact fin

end Go.Proofs.Ytakkmkinfeddeaa
end

section
/- A loop whose end is told once: what is owed at the exit is shown from a state of one's own. No statement of the seat is proved here; it holds for every program. -/
set_option linter.all false
namespace Go.Ab
open Go.RowKit (Below)

/-- At the exit id another thing is owed. -/
def exitA (id : Nat) (K : Fr → Heap → Prop) (Q : Exit → Fr → Heap → Prop) : Exit → Fr → Heap → Prop
  | .normal => Q .normal
  | .exit i => fun fr H => (i = id ∧ K fr H) ∨ (i ≠ id ∧ Q (.exit i) fr H)
  | .goto l => Q (.goto l)
  | .ret => Q .ret
  | .panic c => Q (.panic c)
  | .outgrown => Q .outgrown
attribute [go_sem] exitA

section
variable {P : Program} {N : Nat} {H : Heap} {fr : Fr} {Q : Exit → Fr → Heap → Prop}

theorem Lift.weak {B : Nat} {w0 : World} {ρ : Rho} {e : Exit} {a : Act} {w : World} {Q Q' : Exit → Fr → Heap → Prop} (h : ∀ e fr H, Q e fr H → ∃ f0, upF H f0 fr ∧ Q' e f0 H) (hl : Lift B w0 N ρ Q e a w) : Lift B w0 N ρ Q' e a w := by
  obtain ⟨ρ', f, H, h1, h2, h3, h4⟩ := hl
  obtain ⟨f0, h5, h6⟩ := h e f H h4
  exact ⟨ρ', f0, H, h1, h2, FR.up h2 h5 h3, h6⟩

theorem AWp.weak {c : Code} {Q Q' : Exit → Fr → Heap → Prop} (h : ∀ e fr H, Q e fr H → ∃ f0, upF H f0 fr ∧ Q' e f0 H) (hw : AWp P N c Q fr H) : AWp P N c Q' fr H :=
  fun B w0 ρ w a hR hF => wp_mono (hw B w0 ρ w a hR hF) fun _ _ _ hl => Lift.weak h hl

theorem upF.refl (H : Heap) : ∀ fr : Fr, (∀ t v, (t, v) ∈ fr → Fr.get fr t = some v) → upF H fr fr := by
  intro fr h
  have key : ∀ l : Fr, (∀ p ∈ l, p ∈ fr) → upF H l fr := by
    intro l
    induction l with
    | nil => intro _; trivial
    | cons p l ih =>
      intro hl
      obtain ⟨t, v⟩ := p
      exact ⟨⟨v, h t v (hl _ List.mem_cons_self), Up.refl _ _⟩, ih fun q hq => hl q (List.mem_cons_of_mem _ hq)⟩
  exact key fr fun p hp => hp

/-- The same for any exit: what is owed from the frame itself stays owed. -/
theorem AWp.loopCut {St St' : Type} {c : Code} (id : Nat) (L : St → Fr) (I : St → Heap → Prop) (m : St → Nat) (s0 : St) (L' : St' → Fr) (E : St' → Heap → Prop) (h0 : upF H (L s0) fr) (hI : I s0 H)
    (round : ∀ (K KE : Fr → Heap → Prop) (s : St) (H : Heap), I s H → (∀ (s' : St) (fr' : Fr) (H' : Heap), m s' < m s → upF H' (L s') fr' → I s' H' → K fr' H') →
      (∀ (s' : St') (fr' : Fr) (H' : Heap), upF H' (L' s') fr' → E s' H' → KE fr' H') → vc P N c (thenA K (exitA id KE Q)) (L s) H)
    (after : ∀ (s' : St') (H' : Heap), E s' H' → Q (.exit id) (L' s') H') : AWp P N (.loop c) Q fr H := by
  let KE : Fr → Heap → Prop := fun fr' H' => ∃ s', upF H' (L' s') fr' ∧ E s' H'
  let Q1 : Exit → Fr → Heap → Prop := fun e fr' H' => (∃ f0, upF H' f0 fr' ∧ Q e f0 H') ∨ Q e fr' H'
  have h1 : AWp P N (.loop c) (exitA id KE Q) fr H :=
    AWp.loopVc L I m s0 h0 hI fun K s H hI hK => round K KE s H hI hK fun s' _ _ h2 h3 => ⟨s', h2, h3⟩
  have h2 : ∀ e fr H, exitA id KE Q e fr H → (∃ f0, upF H f0 fr ∧ Q e f0 H) ∨ Q e fr H := by
    intro e fr H h
    cases e with
    | exit i =>
      rcases h with ⟨rfl, s', h3, h4⟩ | ⟨_, h⟩
      · exact .inl ⟨_, h3, after s' H h4⟩
      · exact .inr h
    | normal => exact .inr h
    | goto l => exact .inr h
    | ret => exact .inr h
    | panic c => exact .inr h
    | outgrown => exact .inr h
  intro B w0 ρ w a hR hF
  refine wp_mono (h1 B w0 ρ w a hR hF) fun e a' w' hl => ?_
  obtain ⟨ρ', f, H2, g1, g2, g3, g4⟩ := hl
  rcases h2 e f H2 g4 with ⟨f0, h5, h6⟩ | h6
  · exact ⟨ρ', f0, H2, g1, g2, FR.up g2 h5 g3, h6⟩
  · exact ⟨ρ', f, H2, g1, g2, g3, h6⟩

/-- The first part by its conditions, the rest from whatever state it leaves. -/
theorem AWp.ofVc {x y : Code} (h : vc P N x (thenA (AWp P N y Q) Q) fr H) : AWp P N (.seq x y) Q fr H := AWp.seq (vc_sound _ _ _ _ h)
/-- The same; the rest is shown once, from states of one's own. -/
theorem AWp.seqCut {St : Type} {x y : Code} (L : St → Fr) (E : St → Heap → Prop)
    (hx : ∀ KE : Fr → Heap → Prop, (∀ (s : St) (fr' : Fr) (H' : Heap), upF H' (L s) fr' → E s H' → KE fr' H') → vc P N x (thenA KE Q) fr H)
    (hy : ∀ (s : St) (H' : Heap), E s H' → AWp P N y Q (L s) H') : AWp P N (.seq x y) Q fr H :=
  AWp.seq (vc_sound _ _ _ _ (hx (AWp P N y Q) fun s _ _ hu he => AWp.up hu (hy s _ he)))
/-- A loop; the round is given whole. -/
theorem AWp.loopA {St : Type} {c : Code} (L : St → Fr) (I : St → Heap → Prop) (m : St → Nat) (s0 : St) (h0 : upF H (L s0) fr) (hI : I s0 H)
    (round : ∀ (K : Fr → Heap → Prop) (s : St) (H : Heap), I s H → (∀ (s' : St) (fr' : Fr) (H' : Heap), m s' < m s → upF H' (L s') fr' → I s' H' → K fr' H') → AWp P N c (thenA K Q) (L s) H) : AWp P N (.loop c) Q fr H :=
  AWp.loopUp L I m s0 h0 hI fun s H hI => round _ s H hI fun s' _ _ h1 h2 h3 => ⟨s', h1, h2, h3⟩

end
end Go.Ab
end

section
/- Sorting by a function: the partitions. -/
set_option linter.all false
set_option maxRecDepth 20000
set_option maxHeartbeats 8000000
namespace Go.Proofs.Ytakkmkinfeddeaa
open Go.Ab Go.Sort

theorem partEqP_ok {H : Heap} {id a b pivot n : Nat} {d : Array (Int × Int)} {lt : (Int × Int) → (Int × Int) → Bool} {g : FuncId} {fs cs : List Value} {Q : (Int × Int) → Prop} (hA : Arr cellsP H id d) (hn : d.size = n) (hl : n ≤ 1048576) (hap : a ≤ pivot) (hpb : pivot < b) (hb : b ≤ n) (hQ : QA Q d)
    (hC : Cmp Try.prog valP lt g fs cs Q id H) (Post : Value → Heap → Prop) (h : ∀ H', Same (fun k => k = id) H H' → Arr cellsP H' id (partitionEqual lt d a b pivot).2 → Post (.int .i64 ((partitionEqual lt d a b pivot).1 : Nat)) H') :
    ACalls Try.prog 252 [lv 2 id 0 n, .int .i64 a, .int .i64 b, .int .i64 pivot, .func (.func g) fs.toArray cs.toArray] H Post := by
  refine acalls_vc (rs := [.tmp 10]) Try.func252 rfl rfl Try.ntmps252 rfl rfl ?_
  obtain ⟨b1, hb1⟩ : ∃ b1, b1 = b - 1 := ⟨_, rfl⟩
  obtain ⟨a1, ha1⟩ : ∃ a1, a1 = a + 1 := ⟨_, rfl⟩
  have w0 : IntKind.i64.wrap ((b : Int) - 1) = (b1 : Int) := by rw [hb1, i64w (by omega) (by omega)]; omega
  have w1 : IntKind.i64.wrap ((a : Int) + 1) = (a1 : Int) := by rw [ha1, i64w (by omega) (by omega)]; omega
  have hi1 : a < d.size := by omega
  have hi2 : pivot < d.size := by omega
  have n1 : a < n := by omega
  have n2 : pivot < n := by omega
  have ca := hA.load cellsP_len hi1
  have cb := hA.load cellsP_len hi2
  obtain ⟨H5, H6, s1, s0, hA6, hS6, hl6⟩ := hA.swap cellsP_len cellsP_one hi1 hi2
  obtain ⟨x, hx⟩ : ∃ x, x = d[a]! := ⟨_, rfl⟩
  obtain ⟨y, hy⟩ : ∃ y, y = d[pivot]! := ⟨_, rfl⟩
  rw [← hx] at ca s0
  rw [← hy] at cb s1
  simp only [cellsP, Nat.mul_one, Row.val] at ca cb s0 s1
  have e0 : partitionEqual lt d a b pivot = partEqLoop lt a a1 b1 (swp d a pivot) := by rw [hb1, ha1]; rfl
  rw [e0] at h
  have hQ6 := hQ.swp hi1 hi2
  have hsz6 : (swp d a pivot).size = n := by rw [size_swp]; exact hn
  generalize swp d a pivot = d0 at *
  simp (maxSteps := 1000000) [go_sem]
  refine AWp.draw mixed [(0, false), (1, false), (2, false), (3, false), (4, false), (5, false), (6, false), (7, false), (8, false), (9, false), (10, false), (11, false), (12, false), (13, false), (14, false), (15, false)] (by kernel_rfl) ?_
  simp (maxSteps := 1000000) [go_sem, ca, cb, n1, n2, s1, s0, w0, w1]
  refine AWp.loopVc (St := Nat × Nat × Array (Int × Int)) (fun s => [(0, lv 2 id 0 n), (1, .int .i64 a), (4, .func (.func g) fs.toArray cs.toArray), (11, .int .i64 s.1), (12, .int .i64 s.2.1)])
    (fun s H' => a < s.1 ∧ s.1 ≤ s.2.1 + 1 ∧ s.2.1 < n ∧ s.2.2.size = n ∧ QA Q s.2.2 ∧ Same (fun k => k = id) H H' ∧ Arr cellsP H' id s.2.2 ∧ partEqLoop lt a s.1 s.2.1 s.2.2 = partEqLoop lt a a1 b1 d0) (fun s => s.2.1 + 1 - s.1) (a1, b1, d0) ?_ ?_ ?_
  · simp [upF, Fr.get, Up.refl]
  · exact ⟨by simp only; omega, by simp only; omega, by simp only; omega, hsz6, hQ6, hS6, hA6, rfl⟩
  · rintro K0 ⟨i, j, d1⟩ H1 ⟨hai, hij, hjn, hsz, hQ1, hS1, hA1, hO⟩ hK0
    simp only at hai hij hjn hsz hQ1 hS1 hA1 hO
    obtain ⟨pv, hpv⟩ : ∃ pv, pv = d1[a]! := ⟨_, rfl⟩
    rw [partEqLoop_eq, ← hpv] at hO
    simp (maxSteps := 1000000) [go_sem]
    refine AWp.loopCut (St := Nat) (St' := Unit) 2 (fun s => [(0, lv 2 id 0 n), (1, .int .i64 a), (4, .func (.func g) fs.toArray cs.toArray), (11, .int .i64 s), (12, .int .i64 j)])
      (fun s H2 => a < s ∧ s ≤ j + 1 ∧ Same (fun k => k = id) H H2 ∧ Arr cellsP H2 id d1 ∧ scanUp (fun x => !lt pv x) d1 j s = scanUp (fun x => !lt pv x) d1 j i) (fun s => j + 1 - s) i
      (fun _ => [(0, lv 2 id 0 n), (1, .int .i64 a), (4, .func (.func g) fs.toArray cs.toArray), (11, .int .i64 ((scanUp (fun x => !lt pv x) d1 j i : Nat) : Int)), (12, .int .i64 j)])
      (fun _ H2 => Same (fun k => k = id) H H2 ∧ Arr cellsP H2 id d1) ?_ ?_ ?_ ?_
    · simp [upF, Fr.get, Up.refl]
    · exact ⟨by omega, by omega, hS1, hA1, rfl⟩
    · rintro K KE s H2 ⟨has, hsj, hS2, hA2, hP⟩ hK hKE
      by_cases hsj2 : s ≤ j
      · have hi1 : s < (d1).size := by omega
        have hi0 : a < (d1).size := by omega
        have n1 : s < n := by omega
        have n0 : a < n := by omega
        have hsj3 : (s : Int) ≤ ((j : Nat) : Int) := by omega
        have hw_s : IntKind.i64.wrap ((s : Int) + 1) = (s : Int) + 1 := i64w (by omega) (by omega)
        have c1 := hA2.load cellsP_len hi1
        have c0 := hA2.load cellsP_len hi0
        have q1 := hQ1 _ hi1
        have q0 := hQ1 _ hi0
        obtain ⟨x, hx⟩ : ∃ x, x = (d1)[s]! := ⟨_, rfl⟩
        rw [← hx] at c1 q1
        rw [← hpv] at c0 q0
        simp only [cellsP, Nat.mul_one, Row.val] at c1 c0
        refine AWp.draw mixed [(0, false), (1, false), (2, false), (3, false), (4, false), (5, false), (6, false), (7, false), (8, false), (9, false), (10, false), (11, false), (12, false), (13, false), (14, false), (15, false), (16, false)] (by kernel_rfl) ?_
        simp (maxSteps := 1000000) [go_sem, hsj2, hsj3, c1, c0, n1, n0]
        refine hC H2 pv x _ hS2 q0 q1 ?_
        intro H3 c hp3 hc
        have hS3 := hS2.via (Same.of_prefix (S := fun _ => False) hp3) (fun _ _ h => h.elim)
        have hA3 := hA2.pre hp3
        cases hl' : lt pv x with
        | false =>
          rw [hl'] at hc
          have hc0 := hc
          simp only [decide_eq_true_eq, decide_eq_false_iff_not] at hc0
          simp (maxSteps := 1000000) [go_sem, hc, hc0, hw_s]
          exact hK (s + 1) _ _ (by omega) (by simp [upF, Fr.get, Up.refl]) ⟨by omega, by omega, hS3, hA3, by rw [← hP]; exact (scanUp_go hsj2 (by show (!lt pv d1[s]!) = true; rw [← hx]; simp [hl'])).symm⟩
        | true =>
          rw [hl'] at hc
          have hc0 := hc
          simp only [decide_eq_true_eq, decide_eq_false_iff_not] at hc0
          rw [scanUp_stop (.inr (by show (!lt pv d1[s]!) = false; rw [← hx]; simp [hl']))] at hP
          simp (maxSteps := 1000000) [go_sem, hc, hc0]
          exact hKE () _ _ (by simp [upF, Fr.get, Up.refl, hP]) ⟨hS3, hA3⟩
      · rw [scanUp_stop (.inl (by omega))] at hP
        have hsj3 : ¬ ((s : Int) ≤ ((j : Nat) : Int)) := by omega
        refine AWp.draw mixed [(0, false), (1, false), (2, false), (3, false), (4, false), (5, false), (6, false), (7, false), (8, false), (9, false), (10, false), (11, false), (12, false), (13, false), (14, false), (15, false), (16, false)] (by kernel_rfl) ?_
        simp (maxSteps := 1000000) [go_sem, undef, hsj2, hsj3]
        exact hKE () _ _ (by simp [upF, Fr.get, Up.refl, hP]) ⟨hS2, hA2⟩
    rintro _ H3 ⟨hS3, hA3⟩
    have hge1 := scanUp_ge (fun x => !lt pv x) d1 j i
    have hle1 := (scanUp_spec (fun x => !lt pv x) d1 j _ i rfl).2.1 (by omega)
    have hle1s := (scanUp_spec (fun x => !lt pv x) d1 j _ i rfl).2.2.2
    obtain ⟨i2, hi2'⟩ : ∃ I, scanUp (fun x => !lt pv x) d1 j i = I := ⟨_, rfl⟩
    rw [hi2'] at hge1 hle1 hle1s ⊢
    simp (maxSteps := 1000000) [go_sem]
    refine AWp.loopCut (St := Nat) (St' := Unit) 4 (fun s => [(0, lv 2 id 0 n), (1, .int .i64 a), (4, .func (.func g) fs.toArray cs.toArray), (11, .int .i64 i2), (12, .int .i64 s)])
      (fun s H2 => s < n ∧ i2 ≤ s + 1 ∧ Same (fun k => k = id) H H2 ∧ Arr cellsP H2 id d1 ∧ scanDown (fun x => lt pv x) d1 i2 s = scanDown (fun x => lt pv x) d1 i2 j) (fun s => s) j
      (fun _ => [(0, lv 2 id 0 n), (1, .int .i64 a), (4, .func (.func g) fs.toArray cs.toArray), (11, .int .i64 i2), (12, .int .i64 ((scanDown (fun x => lt pv x) d1 i2 j : Nat) : Int))])
      (fun _ H2 => Same (fun k => k = id) H H2 ∧ Arr cellsP H2 id d1) ?_ ?_ ?_ ?_
    · simp [upF, Fr.get, Up.refl]
    · exact ⟨by omega, by omega, hS3, hA3, rfl⟩
    · rintro K KE s H2 ⟨hsn, his, hS2, hA2, hP⟩ hK hKE
      by_cases his2 : i2 ≤ s
      · obtain ⟨r, rfl⟩ : ∃ r, s = r + 1 := ⟨s - 1, by omega⟩
        have hi1 : r + 1 < (d1).size := by omega
        have hi0 : a < (d1).size := by omega
        have n1 : r + 1 < n := by omega
        have n0 : a < n := by omega
        have m1 : (r : Int) + 1 < n := by omega
        have z1 : (0 : Int) ≤ (r : Int) + 1 := by omega
        have his3 : ((i2 : Nat) : Int) ≤ (r : Int) + 1 := by omega
        have hwr : IntKind.i64.wrap (r : Int) = (r : Int) := i64w (by omega) (by omega)
        have c1 := hA2.load cellsP_len hi1
        have c0 := hA2.load cellsP_len hi0
        have q1 := hQ1 _ hi1
        have q0 := hQ1 _ hi0
        obtain ⟨x, hx⟩ : ∃ x, x = (d1)[r + 1]! := ⟨_, rfl⟩
        rw [← hx] at c1 q1
        rw [← hpv] at c0 q0
        simp only [cellsP, Nat.mul_one, Row.val] at c1 c0
        refine AWp.draw mixed [(0, false), (1, false), (2, false), (3, false), (4, false), (5, false), (6, false), (7, false), (8, false), (9, false), (10, false), (11, false), (12, false), (13, false), (14, false), (15, false)] (by kernel_rfl) ?_
        simp (maxSteps := 1000000) [go_sem, his2, his3, c1, c0, n1, n0, m1, z1]
        refine hC H2 pv x _ hS2 q0 q1 ?_
        intro H3 c hp3 hc
        have hS3 := hS2.via (Same.of_prefix (S := fun _ => False) hp3) (fun _ _ h => h.elim)
        have hA3 := hA2.pre hp3
        cases hl' : lt pv x with
        | true =>
          rw [hl'] at hc
          have hc0 := hc
          simp only [decide_eq_true_eq, decide_eq_false_iff_not] at hc0
          simp (maxSteps := 1000000) [go_sem, hc, hc0, hwr]
          exact hK r _ _ (by omega) (by simp [upF, Fr.get, Up.refl]) ⟨by omega, by omega, hS3, hA3, by rw [← hP]; exact (scanDown_go his2 (by show (lt pv d1[r + 1]!) = true; rw [← hx]; simp [hl'])).symm⟩
        | false =>
          rw [hl'] at hc
          have hc0 := hc
          simp only [decide_eq_true_eq, decide_eq_false_iff_not] at hc0
          rw [scanDown_stop (.inr (by show (lt pv d1[r + 1]!) = false; rw [← hx]; simp [hl']))] at hP
          have hP' : ((r : Nat) : Int) + 1 = ((scanDown (fun x => lt pv x) d1 i2 j : Nat) : Int) := by rw [← hP]; simp
          simp (maxSteps := 1000000) [go_sem, hc, hc0]
          exact hKE () _ _ (by simp [upF, Fr.get, Up.refl, hP']) ⟨hS3, hA3⟩
      · rw [scanDown_stop (.inl (by omega))] at hP
        have his3 : ¬ (((i2 : Nat) : Int) ≤ (s : Int)) := by omega
        refine AWp.draw mixed [(0, false), (1, false), (2, false), (3, false), (4, false), (5, false), (6, false), (7, false), (8, false), (9, false), (10, false), (11, false), (12, false), (13, false), (14, false), (15, false)] (by kernel_rfl) ?_
        simp (maxSteps := 1000000) [go_sem, undef, his2, his3]
        exact hKE () _ _ (by simp [upF, Fr.get, Up.refl, hP]) ⟨hS2, hA2⟩
    rintro _ H4 ⟨hS4, hA4⟩
    have hge2 := scanDown_le (fun x => lt pv x) d1 i2 j
    have hle2 := (scanDown_spec (fun x => lt pv x) d1 i2 j).2.1 (by omega)
    have hle2s := (scanDown_spec (fun x => lt pv x) d1 i2 j).2.2.2
    obtain ⟨j2, hj2'⟩ : ∃ J, scanDown (fun x => lt pv x) d1 i2 j = J := ⟨_, rfl⟩
    rw [hj2'] at hge2 hle2 hle2s ⊢
    simp (maxSteps := 1000000) [go_sem]
    rw [hi2', hj2'] at hO
    by_cases hgt : j2 < i2
    · have hgt' : (j2 : Int) < i2 := by omega
      rw [if_pos hgt] at hO
      simp (maxSteps := 1000000) [go_sem, hgt, hgt']
      rw [← hO] at h
      exact h H4 hS4 hA4
    · have hgt' : ¬ ((j2 : Int) < i2) := by omega
      rw [if_neg hgt] at hO
      have hne : i2 ≠ j2 := by
        intro e
        have f1 := hle1s (by omega)
        have f2 := hle2s (by omega) (by omega)
        rw [← e] at f2
        simp only [Bool.not_eq_false'] at f1
        rw [f1] at f2; cases f2
      obtain ⟨r, rfl⟩ : ∃ r, j2 = r + 1 := ⟨j2 - 1, by omega⟩
      have hi1 : i2 < d1.size := by omega
      have hi2 : r + 1 < d1.size := by omega
      have n1 : i2 < n := by omega
      have n2 : r + 1 < n := by omega
      have m2 : (r : Int) + 1 < n := by omega
      have z2 : (0 : Int) ≤ (r : Int) + 1 := by omega
      have hgt3 : ¬ ((r : Int) + 1 < i2) := by omega
      have hwr : IntKind.i64.wrap (r : Int) = (r : Int) := i64w (by omega) (by omega)
      have hwi : IntKind.i64.wrap ((i2 : Int) + 1) = (i2 : Int) + 1 := i64w (by omega) (by omega)
      have ca := hA4.load cellsP_len hi1
      have cb := hA4.load cellsP_len hi2
      obtain ⟨H5, H6, s1, s0, hA6, hS6, hl6⟩ := hA4.swap cellsP_len cellsP_one hi1 hi2
      obtain ⟨x, hx⟩ : ∃ x, x = d1[i2]! := ⟨_, rfl⟩
      obtain ⟨y, hy⟩ : ∃ y, y = d1[r + 1]! := ⟨_, rfl⟩
      rw [← hx] at ca s0
      rw [← hy] at cb s1
      simp only [cellsP, Nat.mul_one, Row.val] at ca cb s0 s1
      simp (maxSteps := 1000000) [go_sem, hgt, hgt', hgt3]
      refine AWp.draw mixed [(0, false), (1, false), (2, false), (3, false), (4, false), (5, false), (6, false), (7, false), (8, false), (9, false), (10, false), (11, false), (12, false), (13, false), (14, false), (15, false)] (by kernel_rfl) ?_
      simp (maxSteps := 1000000) [go_sem, ca, cb, n1, n2, m2, z2, s1, s0, hwr, hwi]
      exact hK0 (i2 + 1, r, swp d1 i2 (r + 1)) _ _ (by simp only; omega) (by simp [upF, Fr.get, Up.refl]) ⟨by simp only; omega, by simp only; omega, by simp only; omega, by rw [size_swp]; exact hsz, hQ1.swp hi1 hi2, hS4.trans hS6, hA6, hO⟩

end Go.Proofs.Ytakkmkinfeddeaa
end
