/- Part 7 of what the proof of the law FnExactCyclesOf rests on: contracts of functions of the program, for every argument that each names; no statement of the seat is proved here. -/
import Derived.Sort.LotA
import Derived.Sort.LotD3
import Derived.Sort.LotB
import Derived.Sort.LotC
import Derived.Test.YtakkmkinfeddeaaFnExactCyclesOfPart6

section
/- CyclesOf: membership, and lists of lists kept while other blocks change. -/
set_option linter.all false
set_option maxRecDepth 20000
set_option maxHeartbeats 4000000
namespace Go.Proofs.Ytakkmkinfeddeaa
open Go.Ab

theorem plc_mem {xs : List Int} {q : Int} : decide (0 ≤ plc xs q) = decide (q ∈ xs) := by
  by_cases h : q ∈ xs
  · rw [decide_eq_true h]
    by_cases h0 : 0 ≤ plc xs q
    · exact decide_eq_true h0
    · exfalso
      have hge := plc_ge xs q
      have hm1 : plc xs q = -1 := by omega
      clear h0 hge
      induction xs with
      | nil => simp at h
      | cons x xs ih =>
        simp only [plc] at hm1
        split at hm1
        · omega
        · rename_i hne
          split at hm1
          · rename_i h1
            rcases List.mem_cons.1 h with e | h
            · exact hne e.symm
            · exact ih h h1
          · have := plc_ge xs q; omega
  · rw [decide_eq_false h]
    refine decide_eq_false ?_
    have hno : ∀ x ∈ xs, x ≠ q := by
      intro x hx e
      subst e
      exact h hx
    rw [plc_none hno]; omega

theorem containsI_ok {H : Heap} {v : Value} {xs : List Int} {q : Int} (hv : IntsAt H v xs) (Post : Value → Heap → Prop) (h : Post (.bool (decide (q ∈ xs))) H) : ACalls Try.prog 152 [v, .int .i64 q] H Post := by
  refine acalls_vc (rs := [.tmp 4]) Try.func152 rfl rfl Try.ntmps152 rfl rfl ?_
  simp (maxSteps := 1000000) [go_sem]
  refine indexI_ok hv _ ?_
  simp (maxSteps := 1000000) [go_sem, plc_mem]
  exact h

theorem _root_.Go.Ab.Build.keepS {H0 H H' : Heap} {oid : Nat} {rows : List (Nat × List Int)} {S : Nat → Prop} (h : Build H0 H oid rows) (hs : Same S H H') (h0 : ∀ j, S j → H0.length ≤ j) (ho : ¬ S oid) (hr : ∀ r ∈ rows, ¬ S r.1) : Build H0 H' oid rows :=
  ⟨((Same.of_prefix h.pre).trans hs).prefix (by intro j hj hS; have := h0 j hS; omega), h.ol.keep hs ho, h.ge,
    ⟨fun r hm => (h.rows1.1 r hm).imp (fun h => h) fun hb => hs.get hb (hr r hm), h.rows1.2⟩,
    fun r hm => ⟨(h.ids r hm).1, Nat.lt_of_lt_of_le (h.ids r hm).2.1 hs.1, (h.ids r hm).2.2⟩⟩

theorem _root_.Go.Ab.Build.pushAt {H0 H2 : Heap} {oid rid : Nat} {rows : List (Nat × List Int)} {xs : List Int} (h : Build H0 H2 oid rows) (hr : OL 1 H2 rid (ints xs) xs.length) (hr0 : H0.length ≤ rid) (hro : rid ≠ oid) (hrr : ∀ r ∈ rows, r.1 ≠ rid) :
    cellsAt (H2 ++ [⟨[lv 1 rid 0 xs.length], true, true⟩]) H2.length 0 1 = some [lv 1 rid 0 xs.length] ∧
    ∃ H4, appendH (H2 ++ [⟨[lv 1 rid 0 xs.length], true, true⟩]) 1 (lv 1 oid 0 rows.length) 1 [lv 1 rid 0 xs.length] = some (lv 1 (H2.length + 1) 0 (rows.length + 1), H4) ∧ Build H0 H4 (H2.length + 1) (rows ++ [(rid, xs)]) ∧ Same (fun j => j = oid) H2 H4 := by
  have hol' : OL 1 H2 oid (rows.map rowVal) rows.length := h.ol
  have hp : H2 <+: H2 := List.prefix_refl _
  obtain ⟨hsrc, H4, hap, hol4, hsame4, hlen4⟩ := hol'.push (xs := [lv 1 rid 0 xs.length]) (by omega) rfl
  have hoid := h.ol.lt
  have hle := hp.length_le
  have hle0 := h.pre.length_le
  have hlt := hr.lt
  refine ⟨hsrc, H4, hap, ⟨⟨(show Same (fun j => j = oid) H0 H4 from (Same.of_prefix (h.pre.trans hp)).trans hsame4).prefix (by have := h.ge; omega), by simpa [rowVal] using hol4, by omega, ⟨?_, ?_⟩, ?_⟩, hsame4⟩⟩
  · intro r hm
    rcases List.mem_append.1 hm with hm | hm
    · refine (h.rows1.1 r hm).imp (fun h => h) fun hb => ?_
      exact hsame4.get (Same.get (S := fun _ => False) (Same.of_prefix hp) hb (fun h => h)) (h.ids r hm).2.2
    · simp at hm; subst hm
      rcases hr.2 with ⟨h0, _⟩ | h0
      · exact .inl (List.eq_nil_of_length_eq_zero h0)
      · right
        exact hsame4.get h0 (by simp only; omega)
  · intro a b r t ha hb hab hrn htn
    have key : ∀ (a : Nat) (r : Nat × List Int), (rows ++ [(rid, xs)])[a]? = some r → (a < rows.length ∧ rows[a]? = some r) ∨ (a = rows.length ∧ r = (rid, xs)) := by
      intro a r ha
      rcases Nat.lt_or_ge a rows.length with h | h
      · rw [List.getElem?_append_left h] at ha; exact .inl ⟨h, ha⟩
      · rw [List.getElem?_append_right h] at ha
        cases hk : a - rows.length with
        | zero => rw [hk] at ha; simp at ha; exact .inr ⟨by omega, ha.symm⟩
        | succ k => rw [hk] at ha; simp at ha
    rcases key a r ha with ⟨h1, h1'⟩ | ⟨h1, rfl⟩
    · rcases key b t hb with ⟨h2, h2'⟩ | ⟨h2, rfl⟩
      · exact h.rows1.2 a b r t h1' h2' hab hrn htn
      · exact hrr r (List.mem_of_getElem? h1')
    · rcases key b t hb with ⟨h2, h2'⟩ | ⟨h2, rfl⟩
      · exact fun e => hrr t (List.mem_of_getElem? h2') e.symm
      · omega
  · intro r hm
    rcases List.mem_append.1 hm with hm | hm
    · have := h.ids r hm
      omega
    · simp at hm; subst hm; simp only; omega


end Go.Proofs.Ytakkmkinfeddeaa
end

section
/- CyclesOf: all ways round, the tested program's side. -/
set_option linter.all false
set_option maxRecDepth 20000
set_option maxHeartbeats 8000000
namespace Go.Proofs.Ytakkmkinfeddeaa
open Go.Ab

def castL (xs : List Nat) : List Int := xs.map fun x : Nat => (x : Int)
theorem castL_mem {xs : List Nat} {x : Nat} : ((x : Int) ∈ castL xs) ↔ x ∈ xs := by
  simp only [castL, List.mem_map]
  constructor
  · rintro ⟨y, hy, e⟩; have : y = x := by omega
    exact this ▸ hy
  · intro h; exact ⟨x, h, rfl⟩
theorem castL_length (xs : List Nat) : (castL xs).length = xs.length := by simp [castL]
theorem castL_append (xs ys : List Nat) : castL (xs ++ ys) = castL xs ++ castL ys := by simp [castL]
theorem cycL_cast (f g : Nat → Nat) (p : Nat) : castL (cycL f g p) = altL f g p (cycN f g p) := by simp [castL, cycL, altL]
noncomputable def cycRows (f g : Nat → Nat) (ps met : List Nat) : List (List Int) := (cycAll f g ps met).map castL
theorem cycRows_in {f g : Nat → Nat} {p : Nat} {ps met : List Nat} (h : p ∈ met) : cycRows f g (p :: ps) met = cycRows f g ps met := by simp [cycRows, cycAll, h]
theorem cycRows_out {f g : Nat → Nat} {p : Nat} {ps met : List Nat} (h : p ∉ met) : cycRows f g (p :: ps) met = castL (cycL f g p) :: cycRows f g ps (met ++ cycL f g p) := by simp [cycRows, cycAll, h]
theorem upTo_cons {p v : Nat} (h : p < v) : upTo p v = p :: upTo (p + 1) v := by
  unfold upTo
  rw [show v - p = (v - (p + 1)) + 1 by omega, List.range'_succ]

theorem cycles_ok {H : Heap} {u : Value} {gid : Nat} {gs : List Int} {v a b : Nat} {bs : List Bk} (hu : u.oneCell' = true) (hS : IsSys v bs) (hf : fullB v bs = true) (hga : GridAt H gid gs) (hgo : GridOf gs bs) (hab : a ≠ b) (ha : a < v) (hb : b < v) (Post : Value → Heap → Prop)
    (h : ∀ H' w, H <+: H' → RowsIn H.length H'.length H' w (cycRows (thr bs a) (thr bs b) (upTo 0 v) [a, b, thr bs a b]) → Post w H') :
    ACalls Try.prog 88 [sysV v u, .pointer (some ⟨gid, 0, none⟩), .int .i64 a, .int .i64 b] H Post := by
  have hT := turn_of hS hf hab ha hb
  obtain ⟨t1, t2, t3, t4, t5⟩ := thr_spec hS hf hab ha hb
  have hv := hS.1
  refine ACalls.res ?_
  refine acalls_vc (rs := [.tmp 8]) Try.func88 rfl rfl Try.ntmps88 rfl rfl ?_
  have hp0 : H <+: H ++ [⟨[.int .i64 v, u], true, true⟩] := List.prefix_append _ _
  have hx0 := Holds.last H [.int .i64 v, u]
  have c1 : cellsAt (H ++ [⟨[.int .i64 v, u], true, true⟩]) gid (a * 15 + b) 1 = some [.int .i64 (thr bs a b)] := by
    have : cellsAt (H ++ [⟨[.int .i64 v, u], true, true⟩]) gid (a * 15 + b) 1 = some [.int .i64 (gAt gs a b)] := (hga.keep hp0).load (by omega)
    rw [hgo.2 a b (by omega) (by omega), if_neg hab, t1] at this
    exact this
  have g1 : a < 15 := by omega
  have g2 : b < 15 := by omega
  have g1' : (a : Int) < 15 := by omega
  have g2' : (b : Int) < 15 := by omega
  simp (maxSteps := 1000000) [go_sem, sysV, hu, g1, g2, g1', g2', c1]
  refine AWp.addGhost ?_
  have hlen0 : (H ++ [(⟨[.int .i64 v, u], true, true⟩ : Blk)]).length = H.length + 1 := by simp
  have hbd0 : Build (H ++ [⟨[.int .i64 v, u], true, true⟩]) ((H ++ [⟨[.int .i64 v, u], true, true⟩, ⟨[.int .i64 a, .int .i64 b, .int .i64 (thr bs a b)], true, true⟩]) ++ [⟨[], false, false⟩]) (H.length + 2) [] :=
    Build.of_ol ⟨[⟨[.int .i64 a, .int .i64 b, .int .i64 (thr bs a b)], true, true⟩, ⟨[], false, false⟩], by simp⟩ ⟨rfl, .inl ⟨rfl, by simp [ghostAt]⟩⟩ (by simp)
  have hsn0 : OL 1 ((H ++ [(⟨[.int .i64 v, u], true, true⟩ : Blk), ⟨[.int .i64 a, .int .i64 b, .int .i64 (thr bs a b)], true, true⟩]) ++ [⟨[], false, false⟩]) (H.length + 1) (ints (castL [a, b, thr bs a b])) 3 := ⟨by simp [castL, ints], .inr (by simp [castL, ints])⟩
  have hsl0 : (cellsAt ((H ++ [(⟨[.int .i64 v, u], true, true⟩ : Blk), ⟨[.int .i64 a, .int .i64 b, .int .i64 (thr bs a b)], true, true⟩]) ++ [⟨[], false, false⟩]) (H.length + 1) 0 (3 * 1)).isSome = true := by
    rw [cellsAt_of (b := ⟨[.int .i64 a, .int .i64 b, .int .i64 (thr bs a b)], true, true⟩) (by simp) rfl (by simp)]; rfl
  generalize (H ++ [(⟨[.int .i64 v, u], true, true⟩ : Blk), ⟨[.int .i64 a, .int .i64 b, .int .i64 (thr bs a b)], true, true⟩]) ++ [⟨[], false, false⟩] = HX at hbd0 hsn0 hsl0 ⊢
  generalize H ++ [(⟨[.int .i64 v, u], true, true⟩ : Blk)] = H0 at *
  obtain ⟨total, htot⟩ : ∃ x, x = cycRows (thr bs a) (thr bs b) (upTo 0 v) [a, b, thr bs a b] := ⟨_, rfl⟩
  refine AWp.loopVc (St := Nat × Nat × List Nat × Nat × List (Nat × List Int)) (fun s => [(1, .pointer (some ⟨gid, 0, none⟩)), (2, .int .i64 a), (3, .int .i64 b), (9, lv 1 s.2.2.2.1 0 s.2.2.2.2.length), (10, lv 1 s.2.1 0 s.2.2.1.length), (24, .int .i64 v), (25, .int .i64 s.1)])
    (fun s H' => s.1 ≤ v ∧ s.2.2.2.2.map (·.2) ++ cycRows (thr bs a) (thr bs b) (upTo s.1 v) s.2.2.1 = total ∧ Shut (thr bs a) (thr bs b) (cycS v bs a b) s.2.2.1 ∧ (a ∈ s.2.2.1 ∧ b ∈ s.2.2.1 ∧ thr bs a b ∈ s.2.2.1) ∧ s.2.2.1.length ≤ 3 + 15 * s.1 ∧ s.2.2.2.2.length ≤ s.1 ∧
      Build H0 H' s.2.2.2.1 s.2.2.2.2 ∧ OL 1 H' s.2.1 (ints (castL s.2.2.1)) s.2.2.1.length ∧ H0.length ≤ s.2.1 ∧ s.2.1 ≠ s.2.2.2.1 ∧ (∀ r ∈ s.2.2.2.2, r.1 ≠ s.2.1) ∧ (s.2.2.2.2.map (·.2)).flatten.length ≤ 15 * s.1) (fun s => v - s.1) (0, H.length + 1, [a, b, thr bs a b], H.length + 2, []) ?_ ?_ ?_
  · simp [upF, Fr.get, Up.refl, Up.nil]
    exact Up.ex (by omega) (.inr hsl0)
  · refine ⟨by simp, by simp [htot], ?_, by simp, by simp, by simp, hbd0, hsn0, by simp only; omega, by simp, by simp, by simp⟩
    intro x hx hn
    have hf1 := hT.fS x hx
    have hg1 := hT.gS x hx
    simp only [List.mem_cons, List.not_mem_nil, or_false, not_or]
    exact ⟨⟨hf1.2.1, hf1.2.2.1, hf1.2.2.2⟩, ⟨hg1.2.1, hg1.2.2.1, hg1.2.2.2⟩⟩
  · rintro K ⟨p, sid, met, oid, rows⟩ H' ⟨hpv, hrows, hshut, hmem, hml, hrl, hbd, hsn, hs0, hso, hsr, hfl⟩ hK
    simp only at hpv hrows hshut hmem hml hrl hbd hsn hs0 hso hsr hfl
    by_cases hlt : p < v
    · have hw_p : IntKind.i64.wrap ((p : Int) + 1) = (p : Int) + 1 := i64w (by omega) (by omega)
      have hseen : IntsAt H' (lv 1 sid 0 met.length) (castL met) := ⟨sid, 0, by rw [castL_length], hsn.at, by rw [castL_length]; omega⟩
      have hlt' : (p : Int) < v := by omega
      rw [upTo_cons hlt] at hrows
      simp (maxSteps := 1000000) [go_sem, hlt]
      refine containsI_ok hseen _ ?_
      by_cases hpm : p ∈ met
      · have e : decide ((p : Int) ∈ castL met) = true := decide_eq_true (castL_mem.2 hpm)
        rw [cycRows_in hpm] at hrows
        simp (maxSteps := 1000000) [go_sem, castL_mem, hpm, hw_p]
        exact hK (p + 1, sid, met, oid, rows) _ _ (by simp only; omega) (by simp [upF, Fr.get, Up.refl]) ⟨by simp only; omega, hrows, hshut, hmem, by simp only; omega, by simp only; omega, hbd, hsn, hs0, hso, hsr, by simp only; omega⟩
      · have hpS : cycS v bs a b p := ⟨hlt, fun e => hpm (e ▸ hmem.1), fun e => hpm (e ▸ hmem.2.1), fun e => hpm (e ▸ hmem.2.2)⟩
        rw [cycRows_out hpm] at hrows
        simp (maxSteps := 1000000) [go_sem, castL_mem, hpm]
        refine gridCycle_ok hS hf (hga.keep (hp0.trans hbd.pre)) hgo hab ha hb hpS _ ?_
        intro H2 cid hBl
        obtain ⟨⟨n2, _⟩, nv⟩ := cycN_ok hT hpS (fun x hx => hx.1)
        rw [cycL_cast] at hrows
        have hcl : (cycL (thr bs a) (thr bs b) p).length = cycN (thr bs a) (thr bs b) p := by simp [cycL]
        have hcc := cycL_cast (thr bs a) (thr bs b) p
        have hshut2 := hshut.next hT hpS (fun x hx => hx.1)
        have hal := altL_length (thr bs a) (thr bs b) p (cycN (thr bs a) (thr bs b) p)
        generalize cycL (thr bs a) (thr bs b) p = cy at *
        generalize cycN (thr bs a) (thr bs b) p = n at *
        generalize altL (thr bs a) (thr bs b) p n = al at *
        have hslt := hsn.lt
        have hge := hBl.2.2
        have hle2 := hBl.1.length_le
        have hsn2 : OL 1 H2 sid (ints (castL met)) met.length := hsn.keep (S := fun _ => False) (Same.of_prefix hBl.1) (fun h => h)
        obtain ⟨H3, hap, hol3, hsame3, hlen3⟩ := hsn2.append (m := n) (by omega) (by omega) (news := ints al) (by simp [ints, hal])
        have hn0 : ¬ n = 0 := by omega
        have hil : (ints al).length = n := by simp [ints, hal]
        have hsrc : cellsAt H2 cid 0 n = some (ints al) := by
          rcases hBl.2.1.at with e | e
          · rw [e] at hil; simp at hil; omega
          · rwa [hil] at e
        have hc3 : OL 1 H3 cid (ints al) al.length := by rw [hal]; exact hBl.2.1.keep hsame3 (by omega)
        have hbd2 : Build H0 H2 oid rows := hbd.keepS (S := fun _ => False) (Same.of_prefix hBl.1) (fun _ h => h.elim) (fun h => h) (fun _ _ h => h)
        have hbd3 : Build H0 H3 oid rows := hbd2.keepS hsame3 (fun j e => by omega) (fun e => hso e.symm) hsr
        have holt := hbd.ol.lt
        have hle0 := hbd.pre.length_le
        obtain ⟨hsrc4, H5, hap5, hbd5, hsame5⟩ := hbd3.pushAt (rid := cid) (xs := al) hc3 (by omega) (by omega) (fun r hr => by have := (hbd.ids r hr).2.1; omega)
        rw [hal] at hsrc4 hap5
        have hol5 := hol3.keep hsame5 (by have := hbd3.ol.lt; omega)
        simp (maxSteps := 1000000) [go_sem, hn0, hsrc, hap, hsrc4, hap5, hw_p]
        refine andK_intro (by omega) (andK_intro (by omega) (hK (p + 1, H2.length, met ++ cy, H3.length + 1, rows ++ [(cid, al)]) _ _ (by simp only; omega) (by simp [upF, Fr.get, Up.refl, hcl]) ⟨by simp only; omega, by simpa using hrows, hshut2, ⟨by simp [hmem.1], by simp [hmem.2.1], by simp [hmem.2.2]⟩, by simp only [List.length_append, hcl]; omega, by simp only [List.length_append, List.length_singleton]; omega, hbd5, ?_, by simp only; omega, by simp only; omega, ?_, ?_⟩))
        · simp only [castL_append, List.length_append, hcl, hcc, ← ints_append]; exact hol5
        · simp only
          intro r hr
          rcases List.mem_append.1 hr with hr | hr
          · have := (hbd.ids r hr).2.1; omega
          · simp at hr; subst hr; have := hBl.2.1.lt; simp only; omega
        · simp only [List.map_append, List.flatten_append, List.length_append, List.map_cons, List.map_nil, List.flatten_cons, List.flatten_nil, List.append_nil, hal]
          omega
    · have : p = v := by omega
      subst this
      have e0 : upTo p p = [] := upTo_self (Nat.le_refl _)
      rw [e0] at hrows
      simp only [cycRows, cycAll, List.map_nil, List.append_nil] at hrows
      simp (maxSteps := 1000000) [go_sem]
      refine ⟨_, Up.refl _ _, h H' _ (hp0.trans hbd.pre) ?_⟩
      have := (hbd.inn (by omega) (by omega)).wider hp0.length_le
      rw [hrows, htot] at this
      exact this

end Go.Proofs.Ytakkmkinfeddeaa
end

section
/- CyclesOf: the tested program's side. -/
set_option linter.all false
set_option maxRecDepth 20000
set_option maxHeartbeats 4000000
namespace Go.Proofs.Ytakkmkinfeddeaa
open Go.Ab

noncomputable def rCyc (p : Int) (bs : List Bk) (a b : Int) : List (List Int) × Int :=
  if pairCode p bs a b = 0 then (if fullB p bs then (cycRows (thr bs a.toNat) (thr bs b.toNat) (upTo 0 p.toNat) [a.toNat, b.toNat, thr bs a.toNat b.toNat], 0) else ([], 5)) else ([], pairCode p bs a b)

theorem fullCode_ok {H : Heap} {u : Value} {p : Int} {bs : List Bk} (hu : BlocksAt H u bs) (hp : 3 ≤ p ∧ p ≤ 15) (hl : bs.length ≤ 1048576) (Post : Value → Heap → Prop) (h : ∀ H', H <+: H' → Post (.int .i64 (if fullB p bs then 0 else 5)) H') :
    ACalls Try.prog 87 [sysV p u] H Post := by
  refine acalls_vc (rs := [.tmp 2]) Try.func87 rfl rfl Try.ntmps87 rfl rfl ?_
  simp (maxSteps := 1000000) [go_sem, sysV, hu.one]
  have hp0 : H <+: H ++ [⟨[.int .i64 p, u], true, true⟩] := List.prefix_append _ _
  refine isFull_ok (hu.pre hp0) hp hl _ ?_
  intro H1 hp1
  have fin := h H1 (hp0.trans hp1)
  cases hf : fullB p bs with
  | true =>
    rw [hf] at fin
    simp (maxSteps := 1000000) [go_sem]
    simpa using fin
  | false =>
    rw [hf] at fin
    simp (maxSteps := 1000000) [go_sem]
    simpa using fin

theorem implCyclesOf_ok {H : Heap} {u : Value} {p a b : Int} {bs : List Bk} (hu : BlocksAt H u bs) (hl : bs.length ≤ 1048576) (ha : In64 a) (hb : In64 b) (Post : Value → Heap → Prop)
    (h : ∀ H' w, H <+: H' → RowsIn H.length H'.length H' w (rCyc p bs a b).1 → Post (.tuple #[w, .int .i64 (rCyc p bs a b).2]) H') :
    ACalls Try.prog 24 [sysV p u, .int .i64 a, .int .i64 b] H Post := by
  refine ACalls.res ?_
  refine acalls_vc (rs := [.tmp 6, .tmp 7]) Try.func24 rfl rfl Try.ntmps24 rfl rfl ?_
  simp (maxSteps := 1000000) [go_sem, sysV, hu.one]
  have hp0 : H <+: H ++ [⟨[.int .i64 p, u], true, true⟩] := List.prefix_append _ _
  have hx0 := Holds.last H [.int .i64 p, u]
  generalize H ++ [(⟨[.int .i64 p, u], true, true⟩ : Blk)] = H0 at hp0 hx0 ⊢
  have bad : ∀ (H' : Heap) (c : Int), H <+: H' → rCyc p bs a b = ([], c) → ∃ v', Up H' (.tuple #[.slice none 0 0, .int .i64 c]) v' ∧ Post v' H' := by
    intro H' c hp hr
    refine ⟨_, Up.tuple (ys := #[lv 1 0 0 0, .int .i64 c]) ⟨Up.nil _ _ _ _, Up.refl _ _, trivial⟩, ?_⟩
    have := h H' (lv 1 0 0 0) hp (by rw [hr]; exact RowsIn.nil _ _ _)
    rwa [hr] at this
  refine pairCode_ok (hu.pre hp0) _ ?_
  intro H1 hp1
  obtain ⟨d0, d1, d2⟩ := (hx0.pre hp1).sys
  by_cases hc : pairCode p bs a b = 0
  · obtain ⟨hS, ⟨ha0, ha1⟩, ⟨hb0, hb1⟩, hab⟩ := pairCode_good hc
    have hp := hS.1
    simp (maxSteps := 1000000) [go_sem, hc, d0]
    refine fullCode_ok (hu.pre (hp0.trans hp1)) hp hl _ ?_
    intro H2 hp2
    obtain ⟨d0, d1, d2⟩ := (hx0.pre (hp1.trans hp2)).sys
    cases hf : fullB p bs with
    | false =>
      simp (maxSteps := 1000000) [go_sem]
      exact bad H2 5 (hp0.trans (hp1.trans hp2)) (by simp [rCyc, hc, hf])
    | true =>
      obtain ⟨v, rfl⟩ : ∃ n : Nat, p = n := ⟨p.toNat, by omega⟩
      obtain ⟨x, rfl⟩ : ∃ n : Nat, a = n := ⟨a.toNat, by omega⟩
      obtain ⟨y, rfl⟩ : ∃ n : Nat, b = n := ⟨b.toNat, by omega⟩
      simp (maxSteps := 1000000) [go_sem]
      refine AWp.draw mixed [(0, false), (1, false), (3, false), (4, false), (2, true), (5, false), (6, false), (7, false)] (by kernel_rfl) ?_
      simp (maxSteps := 1000000) [go_sem, d0]
      refine sysGrid_ok (hu.pre (hp0.trans (hp1.trans hp2))) hS.good15 hS.2.2.2 _ ?_
      intro H3 gid gs hp3 _ hga hgo
      simp (maxSteps := 1000000) [go_sem, hp3]
      refine cycles_ok hu.one hS hf hga hgo (by omega) (by omega) (by omega) _ ?_
      intro H4 w hp4 hw
      have hpre := hp0.trans (hp1.trans (hp2.trans hp3))
      have hr : rCyc v bs x y = (cycRows (thr bs x) (thr bs y) (upTo 0 v) [x, y, thr bs x y], 0) := by simp [rCyc, hc, hf]
      have fin := h H4 w (hpre.trans hp4) (by rw [hr]; exact hw.wider hpre.length_le)
      rw [hr] at fin
      simp (maxSteps := 1000000) [go_sem, hp4]
      exact ⟨_, Up.refl _ _, fin⟩
  · have hc2 : (pairCode p bs a b != 0) = true := by simpa using hc
    simp (maxSteps := 1000000) [go_sem, hc2]
    exact bad H1 _ (hp0.trans hp1) (by simp [rCyc, hc])

end Go.Proofs.Ytakkmkinfeddeaa
end

section
/- CyclesOf: the specification's side, its code. -/
set_option linter.all false
set_option maxRecDepth 20000
set_option maxHeartbeats 4000000
namespace Go.Proofs.Ytakkmkinfeddeaa
open Go.Ab

noncomputable def cCode (p : Int) (bs : List Bk) (a b : Int) : Int := if pairCode p bs a b = 0 then (if fullB p bs then 0 else 5) else pairCode p bs a b

theorem l03Code_ok {H : Heap} {u : Value} {p a b : Int} {bs : List Bk} (hu : BlocksAt H u bs) (hl : bs.length ≤ 1048576) (ha : In64 a) (hb : In64 b) (Post : Value → Heap → Prop)
    (h : ∀ H', H <+: H' → Post (.int .i64 (cCode p bs a b)) H') : ACalls Try.prog 83 [sysV p u, .int .i64 a, .int .i64 b] H Post := by
  refine acalls_vc (rs := [.tmp 6]) Try.func83 rfl rfl Try.ntmps83 rfl rfl ?_
  simp (maxSteps := 1000000) [go_sem, sysV, hu.one]
  have hp0 : H <+: H ++ [⟨[.int .i64 p, u], true, true⟩, ⟨[.int .i64 a, .int .i64 b], true, true⟩] := List.prefix_append _ _
  have hx0 : Holds (H ++ [⟨[.int .i64 p, u], true, true⟩, ⟨[.int .i64 a, .int .i64 b], true, true⟩]) H.length [.int .i64 p, u] := ⟨true, by simp⟩
  refine ACalls.up (args' := [sysV p u, lv 1 (H.length + 1) 0 2]) ⟨Up.refl _ _, Up.ex (by omega) (.inr (by simp [go_sem])), trivial⟩ ?_
  refine l01Points_ok (xs := [a, b]) (hu.pre hp0) hl ⟨H.length + 1, 0, rfl, Holds.at ⟨true, by simp [ints]⟩, by simp⟩ _ ?_
  generalize H ++ [(⟨[.int .i64 p, u], true, true⟩ : Blk), ⟨[.int .i64 a, .int .i64 b], true, true⟩] = H0 at hp0 hx0 ⊢
  intro H1 hp1
  obtain ⟨d0, d1, d2⟩ := (hx0.pre hp1).sys
  have fin := h H1 (hp0.trans hp1)
  cases hs : sysB p bs with
  | false =>
    have e : ptsCode p bs [a, b] = 1 := by simp [ptsCode, hs]
    simp (maxSteps := 1000000) [go_sem, e]
    simpa [cCode, pairCode, hs] using fin
  | true =>
    have hS := sysB_of hs
    cases hin : (inP p a && inP p b) with
    | false =>
      have e : ptsCode p bs [a, b] = 2 := by
        have e0 : [a, b].all (inP p) = false := by simpa using hin
        simp only [ptsCode, hs, e0]; simp
      simp (maxSteps := 1000000) [go_sem, e]
      simpa [cCode, pairCode, hs, hin] using fin
    | true =>
      have e : ptsCode p bs [a, b] = 0 := by
        have h2 := hin
        rw [Bool.and_eq_true] at h2
        simp [ptsCode, hs, h2.1, h2.2]
      by_cases hab : a = b
      · have e2 : (a == b) = true := by simpa using hab
        simp (maxSteps := 1000000) [go_sem, e, e2]
        simpa [cCode, pairCode, hs, hin, hab] using fin
      · have e2 : (a == b) = false := by simpa using hab
        simp (maxSteps := 1000000) [go_sem, e, e2, d0]
        refine l01Full_ok (hu.pre (hp0.trans hp1)) hS.1 hl _ ?_
        intro H2 hp2
        have fin := h H2 (hp0.trans (hp1.trans hp2))
        have e3 : pairCode p bs a b = 0 := by simp [pairCode, hs, hin, hab]
        cases hf : fullB p bs with
        | true =>
          simp (maxSteps := 1000000) [go_sem]
          simpa [cCode, e3, hf] using fin
        | false =>
          simp (maxSteps := 1000000) [go_sem]
          simpa [cCode, e3, hf] using fin

end Go.Proofs.Ytakkmkinfeddeaa
end

section
/- Arrays of elements of a fixed number of cells in one block that the call holds alone; swapping two of them. No statement of the seat is proved here; it holds for every program. -/
set_option linter.all false
namespace Go.Ab
open Go.Sort

section
variable {α : Type} {cells : α → List Value} {w : Nat}

theorem flat_len (hc : ∀ x, (cells x).length = w) : ∀ l : List α, (l.flatMap cells).length = l.length * w
  | [] => by simp
  | b :: l => by rw [List.flatMap_cons, List.length_append, flat_len hc l, hc, List.length_cons, Nat.succ_mul, Nat.add_comm]
theorem flat_cut (hc : ∀ x, (cells x).length = w) : ∀ {l : List α} {s : Nat} {b : α}, l[s]? = some b → ((l.flatMap cells).drop (s * w)).take w = cells b
  | [], s, b, h => by simp at h
  | d :: l, 0, b, h => by
    simp at h; subst h
    rw [List.flatMap_cons, Nat.zero_mul, List.drop_zero, List.take_append_of_le_length (by rw [hc]; exact Nat.le_refl _), List.take_of_length_le (by rw [hc]; exact Nat.le_refl _)]
  | d :: l, s + 1, b, h => by
    have ih := flat_cut hc (l := l) (s := s) (b := b) (by simpa using h)
    rw [List.flatMap_cons, show (s + 1) * w = (cells d).length + s * w by rw [hc, Nat.succ_mul, Nat.add_comm], List.drop_append, List.drop_eq_nil_of_le (by omega), List.nil_append, Nat.add_sub_cancel_left]
    exact ih
theorem flat_over (hc : ∀ x, (cells x).length = w) : ∀ {l : List α} {s : Nat} {b : α}, s < l.length → over (l.flatMap cells) (s * w) (cells b) = (l.set s b).flatMap cells
  | [], s, b, h => by simp at h
  | d :: l, 0, b, h => by
    simp only [List.set_cons_zero, List.flatMap_cons, over, Nat.zero_mul, List.take_zero, List.nil_append, Nat.zero_add, hc]
    rw [List.drop_append, List.drop_eq_nil_of_le (by rw [hc]; exact Nat.le_refl _), hc, Nat.sub_self, List.drop_zero, List.nil_append]
  | d :: l, s + 1, b, h => by
    have ih := flat_over hc (l := l) (s := s) (b := b) (by simpa using h)
    simp only [List.set_cons_succ, List.flatMap_cons]
    rw [← ih]
    have e : (s + 1) * w = (cells d).length + s * w := by rw [hc, Nat.succ_mul, Nat.add_comm]
    simp only [over, e]
    rw [List.take_append, List.take_of_length_le (by omega), Nat.add_sub_cancel_left, Nat.add_assoc, List.drop_append, List.drop_eq_nil_of_le (by omega), List.nil_append, Nat.add_sub_cancel_left]
    simp

theorem Same.via {S T : Nat → Prop} {H A B : Heap} (h : Same S H A) (h' : Same T A B) (k : ∀ j, j < H.length → T j → S j) : Same S H B :=
  ⟨Nat.le_trans h.1 h'.1, fun j hj hs => (h'.2 j (Nat.lt_of_lt_of_le hj h.1) fun ht => hs (k j hj ht)).trans (h.2 j hj hs)⟩

/-- The block id holds an array's elements. -/
def Arr (cells : α → List Value) (H : Heap) (id : Nat) (d : Array α) : Prop := H[id]? = some ⟨d.toList.flatMap cells, true, true⟩

theorem Arr.lt {H : Heap} {id : Nat} {d : Array α} (h : Arr cells H id d) : id < H.length := (List.getElem?_eq_some_iff.1 h).1
theorem Arr.pre {H H' : Heap} {id : Nat} {d : Array α} (h : Arr cells H id d) (hp : H <+: H') : Arr cells H' id d := Same.get (S := fun _ => False) (Same.of_prefix hp) h (fun h => h)
theorem Arr.load [Inhabited α] {H : Heap} {id : Nat} {d : Array α} (h : Arr cells H id d) (hc : ∀ x, (cells x).length = w) {i : Nat} (hi : i < d.size) : cellsAt H id (i * w) w = some (cells d[i]!) := by
  have hl : d.toList[i]? = some d[i]! := by rw [Array.getElem?_toList, Array.getElem?_eq_getElem hi, getElem!_pos d i hi]
  have hle : i * w + w ≤ (d.toList.flatMap cells).length := by
    rw [flat_len hc, Array.length_toList, ← Nat.succ_mul]
    exact Nat.mul_le_mul_right w hi
  rw [cellsAt_of h rfl hle, flat_cut hc hl]
theorem Arr.store {H : Heap} {id : Nat} {d : Array α} (h : Arr cells H id d) (hc : ∀ x, (cells x).length = w) (ho : ∀ x, (cells x).all Value.oneCell' = true) {i : Nat} {x : α} (hi : i < d.size) :
    storeAt H id (i * w) (cells x) = some (H.set id ⟨(d.setIfInBounds i x).toList.flatMap cells, true, true⟩) ∧ Arr cells (H.set id ⟨(d.setIfInBounds i x).toList.flatMap cells, true, true⟩) id (d.setIfInBounds i x) := by
  have hle : i * w + w ≤ (d.toList.flatMap cells).length := by
    rw [flat_len hc, Array.length_toList, ← Nat.succ_mul]
    exact Nat.mul_le_mul_right w hi
  refine ⟨?_, List.getElem?_set_self h.lt⟩
  rw [storeAt_of h rfl rfl (by rw [hc]; exact hle) (ho x), flat_over hc (by simpa using hi)]
  simp

theorem same_set {H : Heap} {id : Nat} {b : Blk} : Same (fun j => j = id) H (H.set id b) := ⟨by simp, fun j hj hS => List.getElem?_set_ne (fun e => hS e.symm)⟩
theorem set_twice {H : Heap} {id : Nat} {b c : Blk} : (H.set id b).set id c = H.set id c := by simp

/-- 'data[i], data[j] = data[j], data[i]'. -/
theorem Arr.swap [Inhabited α] {H : Heap} {id : Nat} {d : Array α} (h : Arr cells H id d) (hc : ∀ x, (cells x).length = w) (ho : ∀ x, (cells x).all Value.oneCell' = true) {i j : Nat} (hi : i < d.size) (hj : j < d.size) :
    ∃ H1 H2, storeAt H id (i * w) (cells d[j]!) = some H1 ∧ storeAt H1 id (j * w) (cells d[i]!) = some H2 ∧ Arr cells H2 id (swp d i j) ∧ Same (fun k => k = id) H H2 ∧ H2.length = H.length := by
  obtain ⟨s1, a1⟩ := h.store hc ho (x := d[j]!) hi
  obtain ⟨s2, a2⟩ := a1.store hc ho (x := d[i]!) (i := j) (by simpa using hj)
  exact ⟨_, _, s1, s2, a2, same_set.trans (same_set (id := id)), by simp⟩

/-- Every element is such. -/
def QA (Q : α → Prop) [Inhabited α] (d : Array α) : Prop := ∀ k, k < d.size → Q d[k]!
theorem QA.swp [Inhabited α] {Q : α → Prop} {d : Array α} (h : QA Q d) {i j : Nat} (hi : i < d.size) (hj : j < d.size) : QA Q (swp d i j) := by
  intro k hk
  rw [Go.Sort.swp_size] at hk
  rw [Go.Sort.swp_get d hi hj]
  split
  · exact h _ hi
  · split
    · exact h _ hj
    · exact h _ hk

end

/-- A function value that compares two elements. -/
def Cmp {α : Type} (P : Program) (val : α → Value) (lt : α → α → Bool) (g : FuncId) (fs cs : List Value) (Q : α → Prop) (id : Nat) (H : Heap) : Prop :=
  ∀ (H' : Heap) (x y : α) (Post : Value → Heap → Prop), Same (fun k => k = id) H H' → Q x → Q y →
    (∀ (H'' : Heap) (c : Int), H' <+: H'' → decide (c < 0) = lt x y → Post (.int .i64 c) H'') → ACalls P g (fs ++ val x :: val y :: cs) H' Post
theorem Cmp.keep {α : Type} {P : Program} {val : α → Value} {lt : α → α → Bool} {g : FuncId} {fs cs : List Value} {Q : α → Prop} {id : Nat} {H H' : Heap} (h : Cmp P val lt g fs cs Q id H) (hs : Same (fun k => k = id) H H') : Cmp P val lt g fs cs Q id H' :=
  fun H2 x y Post h2 => h H2 x y Post (hs.trans h2)

end Go.Ab
end

section
/- CyclesOf: the specification's side. -/
set_option linter.all false
set_option maxRecDepth 20000
set_option maxHeartbeats 8000000
namespace Go.Proofs.Ytakkmkinfeddeaa
open Go.Ab

/-- Which points were met. -/
def metC (v : Nat) (met : List Nat) : List Value := (List.range v).map fun x => Value.bool (decide (x ∈ met))
theorem metC_length (v : Nat) (met : List Nat) : (metC v met).length = v := by simp [metC]
theorem metC_get {v : Nat} {met : List Nat} {x : Nat} (h : x < v) : (metC v met)[x]? = some (.bool (decide (x ∈ met))) := by simp [metC, h]
theorem metC_set {v : Nat} {met : List Nat} {x : Nat} (h : x < v) : (metC v met).set x (.bool true) = metC v (met ++ [x]) := by
  apply List.ext_getElem?
  intro k
  rw [List.getElem?_set]
  by_cases hk : k < v
  · rw [metC_get (met := met ++ [x]) hk]
    by_cases e : x = k
    · subst e
      rw [if_pos rfl, if_pos (by rw [metC_length]; exact hk), decide_eq_true (show x ∈ met ++ [x] by simp)]
    · rw [if_neg e, metC_get hk]
      have : k ≠ x := fun h => e h.symm
      simp [this]
  · rw [List.getElem?_eq_none (l := metC v (met ++ [x])) (by rw [metC_length]; omega)]
    split
    · rw [if_neg (by rw [metC_length]; omega)]
    · exact List.getElem?_eq_none (by rw [metC_length]; omega)
theorem madeB (v : Nat) : (madeCells #[Value.bool false] v).toList = metC v [] := by
  apply List.ext_getElem?
  intro k
  by_cases hk : k < v
  · rw [metC_get hk]; simp [madeCells, hk, Nat.mod_one]
  · rw [List.getElem?_eq_none (by simp [madeCells]; omega), List.getElem?_eq_none (by rw [metC_length]; omega)]

def altN (f g : Nat → Nat) (p k : Nat) : List Nat := (List.range k).map (alt f g p)
theorem altN_one (f g : Nat → Nat) (p k : Nat) : altN f g p (k + 1) = altN f g p k ++ [alt f g p k] := by unfold altN; rw [List.range_succ]; simp
theorem mem_altN {f g : Nat → Nat} {p k x : Nat} : x ∈ altN f g p k ↔ ∃ j, j < k ∧ alt f g p j = x := by simp [altN]
theorem metC_put {v : Nat} {met : List Nat} {x : Nat} (h : x < v) : (metC v met).take x ++ Value.bool true :: (metC v met).drop (x + 1) = metC v (met ++ [x]) := by
  rw [← metC_set h, List.set_eq_take_append_cons_drop, if_pos (by rw [metC_length]; exact h)]

theorem l03Cycles_ok {H : Heap} {u : Value} {v a b : Nat} {bs : List Bk} (hu : BlocksAt H u bs) (hS : IsSys v bs) (hf : fullB v bs = true) (hab : a ≠ b) (ha : a < v) (hb : b < v) (Post : Value → Heap → Prop)
    (h : ∀ H' w, H <+: H' → RowsIn H.length H'.length H' w (cycRows (thr bs a) (thr bs b) (upTo 0 v) [a, b, thr bs a b]) → Post w H') :
    ACalls Try.prog 84 [sysV v u, .int .i64 a, .int .i64 b] H Post := by
  have hT := turn_of hS hf hab ha hb
  obtain ⟨t1, t2, t3, t4, t5⟩ := thr_spec hS hf hab ha hb
  have hv := hS.1
  refine ACalls.res ?_
  refine acalls_vc (rs := [.tmp 6]) Try.func84 rfl rfl Try.ntmps84 rfl rfl ?_
  have hx0 := Holds.last H [.int .i64 v, u]
  obtain ⟨d0, d1, d2⟩ := hx0.sys
  have k1 : a + 1 ≤ v := by omega
  have k2 : b + 1 ≤ v := by omega
  have m1 := metC_put (met := []) ha
  have m2 := metC_put (met := [a]) hb
  simp only [List.nil_append, List.singleton_append] at m1 m2
  have hb1 : (v : Int) ≤ 281474976710656 ∧ (v : Int) ≤ 9223372036854775807 := by omega
  simp (maxSteps := 1000000) [go_sem, sysV, hu.one, d1, madeB, metC_length, k1, k2, m1, m2, ha, hb, hb1]
  have hp0 : H <+: H ++ [⟨[.int .i64 v, u], true, true⟩, ⟨metC v [a, b], true, true⟩, ⟨[], true, true⟩] := List.prefix_append _ _
  have hb0 : (H ++ [(⟨[.int .i64 v, u], true, true⟩ : Blk), ⟨metC v [a, b], true, true⟩, ⟨[], true, true⟩])[H.length + 1]? = some ⟨metC v [a, b], true, true⟩ := by simp
  have hx1 : Holds (H ++ [(⟨[.int .i64 v, u], true, true⟩ : Blk), ⟨metC v [a, b], true, true⟩, ⟨[], true, true⟩]) H.length [.int .i64 v, u] := ⟨true, by simp⟩
  have ho0 : (H ++ [(⟨[.int .i64 v, u], true, true⟩ : Blk), ⟨metC v [a, b], true, true⟩, ⟨[], true, true⟩])[H.length + 2]? = some ⟨[], true, true⟩ := by simp
  generalize H ++ [(⟨[.int .i64 v, u], true, true⟩ : Blk), ⟨metC v [a, b], true, true⟩, ⟨[], true, true⟩] = H0 at hp0 hb0 hx1 ho0 ⊢
  refine l01Third_ok (hu.pre hp0) hS.good15 _ ?_
  intro H1 hp1
  rw [t1]
  have hb1 := Same.get (S := fun _ => False) (Same.of_prefix hp1) hb0 (fun h => h)
  have hst1 : storeAt H1 (H.length + 1) (thr bs a b) [.bool true] = some (H1.set (H.length + 1) ⟨metC v [a, b, thr bs a b], true, true⟩) := by
    rw [storeAt_of hb1 rfl rfl (by simp [metC_length]; omega) (by simp [Value.oneCell'])]
    have := metC_put (met := [a, b]) t2
    simp only [over, List.length_singleton, List.append_assoc, List.singleton_append]
    rw [this]; rfl
  have hx2 := hx1.pre hp1
  have hlt1 := (List.getElem?_eq_some_iff.1 hb1).1
  have hsame1 : Same (fun j => j = H.length + 1) H1 (H1.set (H.length + 1) ⟨metC v [a, b, thr bs a b], true, true⟩) := ⟨by simp, fun j hj hS => List.getElem?_set_ne (fun e => hS e.symm)⟩
  have hb2 : (H1.set (H.length + 1) ⟨metC v [a, b, thr bs a b], true, true⟩)[H.length + 1]? = some ⟨metC v [a, b, thr bs a b], true, true⟩ := List.getElem?_set_self hlt1
  have ho2 := hsame1.get (Same.get (S := fun _ => False) (Same.of_prefix hp1) ho0 (fun h => h)) (by omega)
  have hpA : H <+: H1.set (H.length + 1) ⟨metC v [a, b, thr bs a b], true, true⟩ := ((Same.of_prefix (hp0.trans hp1)).trans hsame1).prefix (by intro j hj e; omega)
  have hx3 : Holds (H1.set (H.length + 1) ⟨metC v [a, b, thr bs a b], true, true⟩) H.length [.int .i64 v, u] := hx2.keepS hsame1 (by omega)
  have hbd0 : Build H (H1.set (H.length + 1) ⟨metC v [a, b, thr bs a b], true, true⟩) (H.length + 2) [] := Build.of_ol hpA ⟨rfl, .inr ho2⟩ (by omega)
  simp (maxSteps := 1000000) [go_sem, t2, hst1]
  generalize H1.set (H.length + 1) ⟨metC v [a, b, thr bs a b], true, true⟩ = HX at *
  obtain ⟨total, htot⟩ : ∃ x, x = cycRows (thr bs a) (thr bs b) (upTo 0 v) [a, b, thr bs a b] := ⟨_, rfl⟩
  refine AWp.loopVc (St := Nat × List Nat × Nat × List (Nat × List Int)) (fun s => [(1, .int .i64 a), (2, .int .i64 b), (3, .pointer (some ⟨H.length, 0, none⟩)), (7, .slice (some ⟨H.length + 1, 0, none⟩) v v), (8, lv 1 s.2.2.1 0 s.2.2.2.length), (9, .int .i64 s.1)])
    (fun s H' => s.1 ≤ v ∧ s.2.2.2.map (·.2) ++ cycRows (thr bs a) (thr bs b) (upTo s.1 v) s.2.1 = total ∧ Shut (thr bs a) (thr bs b) (cycS v bs a b) s.2.1 ∧ (a ∈ s.2.1 ∧ b ∈ s.2.1 ∧ thr bs a b ∈ s.2.1) ∧ s.2.2.2.length ≤ s.1 ∧ (s.2.2.2.map (·.2)).flatten.length ≤ 15 * s.1 ∧
      Build H H' s.2.2.1 s.2.2.2 ∧ H'[H.length + 1]? = some ⟨metC v s.2.1, true, true⟩ ∧ Holds H' H.length [.int .i64 v, u] ∧ H.length + 2 ≤ s.2.2.1 ∧ ∀ r ∈ s.2.2.2, H.length + 2 ≤ r.1) (fun s => v - s.1) (0, [a, b, thr bs a b], H.length + 2, []) ?_ ?_ ?_
  · simp [upF, Fr.get, Up.refl, Up.ex0]
  · refine ⟨by simp, by simp [htot], ?_, by simp, by simp, by simp, hbd0, hb2, hx3, by simp, by simp⟩
    intro x hx hn
    have hf1 := hT.fS x hx
    have hg1 := hT.gS x hx
    simp only [List.mem_cons, List.not_mem_nil, or_false, not_or]
    exact ⟨⟨hf1.2.1, hf1.2.2.1, hf1.2.2.2⟩, ⟨hg1.2.1, hg1.2.2.1, hg1.2.2.2⟩⟩
  · rintro K ⟨p, met, oid, rows⟩ H' ⟨hpv, hrows, hshut, hmem, hrl, hfl, hbd, hmet, hbox, hoid, hids⟩ hK
    simp only at hpv hrows hshut hmem hrl hfl hbd hmet hbox hoid hids
    obtain ⟨d0, d1, d2⟩ := hbox.sys
    by_cases hlt : p < v
    · have hw_p : IntKind.i64.wrap ((p : Int) + 1) = (p : Int) + 1 := i64w (by omega) (by omega)
      rw [upTo_cons hlt] at hrows
      have lm : cellsAt H' (H.length + 1) p 1 = some [.bool (decide (p ∈ met))] := by
        have := Holds.cell (H := H') ⟨true, hmet⟩ (metC_get (met := met) hlt)
        exact this
      by_cases hpm : p ∈ met
      · rw [cycRows_in hpm] at hrows
        have e : decide (p ∈ met) = true := decide_eq_true hpm
        rw [e] at lm
        simp (maxSteps := 1000000) [go_sem, hlt, d1, lm, hw_p]
        exact hK (p + 1, met, oid, rows) _ _ (by simp only; omega) (by simp [upF, Fr.get, Up.refl]) ⟨by simp only; omega, hrows, hshut, hmem, by simp only; omega, by simp only; omega, hbd, hmet, hbox, hoid, hids⟩
      · have hpS : cycS v bs a b p := ⟨hlt, fun e => hpm (e ▸ hmem.1), fun e => hpm (e ▸ hmem.2.1), fun e => hpm (e ▸ hmem.2.2)⟩
        rw [cycRows_out hpm] at hrows
        have e : decide (p ∈ met) = false := decide_eq_false hpm
        rw [e] at lm
        simp (maxSteps := 1000000) [go_sem, hlt, d1, lm]
        obtain ⟨⟨n2, ne, nb, nd⟩, nv⟩ := cycN_ok hT hpS (fun x hx => hx.1)
        rw [cycL_cast] at hrows
        have hcyl : cycL (thr bs a) (thr bs b) p = altN (thr bs a) (thr bs b) p (cycN (thr bs a) (thr bs b) p) := rfl
        have hshut2 := hshut.next hT hpS (fun x hx => hx.1)
        rw [hcyl] at hrows hshut2
        have hnotin := hshut.alt hT hpS hpm
        have hSk := alt_S hT hpS
        have hal := altL_length (thr bs a) (thr bs b) p (cycN (thr bs a) (thr bs b) p)
        generalize cycN (thr bs a) (thr bs b) p = n at *
        refine AWp.loopVc (St := Nat × Nat) (fun s => [(1, .int .i64 a), (2, .int .i64 b), (3, .pointer (some ⟨H.length, 0, none⟩)), (7, .slice (some ⟨H.length + 1, 0, none⟩) v v), (8, lv 1 oid 0 rows.length), (9, .int .i64 p), (10, lv 1 s.2 0 s.1), (11, .int .i64 (alt (thr bs a) (thr bs b) p s.1)), (12, .int .i64 (if s.1 % 2 = 0 then a else b))])
          (fun s H2 => s.1 ≤ n ∧ Same (fun j => j = H.length + 1) H' H2 ∧ OL 1 H2 s.2 (ints (altL (thr bs a) (thr bs b) p s.1)) s.1 ∧ H'.length ≤ s.2 ∧ H2[H.length + 1]? = some ⟨metC v (met ++ altN (thr bs a) (thr bs b) p s.1), true, true⟩) (fun s => n - s.1) (0, H'.length) ?_ ?_ ?_
        · simp [upF, Fr.get, Up.refl, Up.ex0, alt]
        · refine ⟨by simp, Same.of_prefix (List.prefix_append _ _), ⟨rfl, .inr (by simp [altL, ints])⟩, by simp, ?_⟩
          simp only [altN, List.range_zero, List.map_nil, List.append_nil]
          exact Same.get (S := fun _ => False) (Same.of_prefix (List.prefix_append _ _)) hmet (fun h => h)
        · rintro K2 ⟨k, cid⟩ H2 ⟨hk, hsm, hol, hcid, hmet2⟩ hK2
          simp only at hk hsm hol hcid hmet2
          have hx := hSk k
          have lk : cellsAt H2 (H.length + 1) (alt (thr bs a) (thr bs b) p k) 1 = some [.bool (decide (alt (thr bs a) (thr bs b) p k ∈ met ++ altN (thr bs a) (thr bs b) p k))] := Holds.cell (H := H2) ⟨true, hmet2⟩ (metC_get hx.1)
          have hbox2 : Holds H2 H.length [.int .i64 v, u] := hbox.keepS hsm (by omega)
          obtain ⟨d0, d1, d2⟩ := hbox2.sys
          by_cases hkn : k < n
          · have e : decide (alt (thr bs a) (thr bs b) p k ∈ met ++ altN (thr bs a) (thr bs b) p k) = false := by
              refine decide_eq_false ?_
              rw [List.mem_append, mem_altN]
              rintro (h1 | ⟨j, hj, e⟩)
              · exact hnotin k h1
              · exact nd j k hj hkn e
            rw [e] at lk
            have hx1 := hx.1
            have hmp := metC_put (v := v) (met := met ++ altN (thr bs a) (thr bs b) p k) hx.1
            have hst : storeAt H2 (H.length + 1) (alt (thr bs a) (thr bs b) p k) [.bool true] = some (H2.set (H.length + 1) ⟨metC v (met ++ altN (thr bs a) (thr bs b) p (k + 1)), true, true⟩) := by
              rw [storeAt_of hmet2 rfl rfl (by simp [metC_length]; omega) (by simp [Value.oneCell'])]
              simp only [over, List.length_singleton, List.append_assoc, List.singleton_append] at hmp ⊢
              rw [hmp, altN_one]
            have hlt2 := (List.getElem?_eq_some_iff.1 hmet2).1
            have hsX : Same (fun j => j = H.length + 1) H2 (H2.set (H.length + 1) ⟨metC v (met ++ altN (thr bs a) (thr bs b) p (k + 1)), true, true⟩) := ⟨by simp, fun j hj hS => List.getElem?_set_ne (fun e => hS e.symm)⟩
            have hmX : (H2.set (H.length + 1) ⟨metC v (met ++ altN (thr bs a) (thr bs b) p (k + 1)), true, true⟩)[H.length + 1]? = some ⟨metC v (met ++ altN (thr bs a) (thr bs b) p (k + 1)), true, true⟩ := List.getElem?_set_self hlt2
            have hH' : H.length + 1 < H'.length := (List.getElem?_eq_some_iff.1 hmet).1
            generalize H2.set (H.length + 1) ⟨metC v (met ++ altN (thr bs a) (thr bs b) p (k + 1)), true, true⟩ = HX at hst hsX hmX
            have holX := hol.keep hsX (by omega)
            obtain ⟨hsrc, H3, hap, hol3, hs3, hl3⟩ := holX.push (by omega) (xs := [.int .i64 (alt (thr bs a) (thr bs b) p k)]) rfl
            have hsm3 : Same (fun j => j = H.length + 1) H' H3 := (hsm.trans hsX).via hs3 (by intro j hj e; omega)
            have hm3 := hs3.get hmX (by omega)
            have hboxX : Holds HX H.length [.int .i64 v, u] := hbox2.keepS hsX (by omega)
            have hbox3 : Holds H3 H.length [.int .i64 v, u] := hboxX.keepS hs3 (by omega)
            obtain ⟨q0, q1, q2⟩ := hbox3.sys
            have hpH3 : H <+: H3 := ((Same.of_prefix (S := fun j => j = H.length + 1) hbd.pre).trans hsm3).prefix (by intro j hj e; omega)
            simp (maxSteps := 1000000) [go_sem, lk, hx.1, hst, hsrc, hap, q0]
            refine andK_intro (by omega) ?_
            refine l01Third_ok (p := v) (hu.pre hpH3) hS.good15 _ ?_
            intro H4 hp4
            have hthr : third bs (if k % 2 = 0 then (a : Int) else b) (alt (thr bs a) (thr bs b) p k : Nat) = ((alt (thr bs a) (thr bs b) p (k + 1) : Nat) : Int) := by
              simp only [alt]
              split
              · exact (thr_spec hS hf (Ne.symm hx.2.1) ha hx1).1
              · exact (thr_spec hS hf (Ne.symm hx.2.2.1) hb hx1).1
            rw [hthr]
            have w1 : IntKind.i64.wrap ((a : Int) + b) = (a : Int) + b := i64w (by omega) (by omega)
            have w2 : IntKind.i64.wrap ((a : Int) + b - (if k % 2 = 0 then (a : Int) else b)) = if (k + 1) % 2 = 0 then (a : Int) else b := by
              by_cases hk2 : k % 2 = 0
              · rw [if_pos hk2, if_neg (by omega), i64w (by omega) (by omega)]; omega
              · rw [if_neg hk2, if_pos (by omega), i64w (by omega) (by omega)]; omega
            simp (maxSteps := 1000000) [go_sem, w1, w2]
            have hs4 : Same (fun _ => False) H3 H4 := Same.of_prefix hp4
            refine hK2 (k + 1, HX.length + 1) _ _ (by simp only; omega) (by simp [upF, Fr.get, Up.refl]) ⟨by simp only; omega, hsm3.via hs4 (fun _ _ h => h.elim), ?_, ?_, ?_⟩
            · simp only
              rw [altL_one, ← ints_append]
              exact hol3.keep hs4 (fun h => h)
            · simp only
              have := hsm.1; have := hsX.1; omega
            · exact hs4.get hm3 (fun h => h)
          · have : k = n := by omega
            subst this
            have e : decide (alt (thr bs a) (thr bs b) p k ∈ met ++ altN (thr bs a) (thr bs b) p k) = true := by
              refine decide_eq_true ?_
              rw [List.mem_append, mem_altN]
              exact .inr ⟨0, by omega, by rw [nb]; rfl⟩
            rw [e] at lk
            have hH' : H.length + 1 < H'.length := (List.getElem?_eq_some_iff.1 hmet).1
            have holt := hbd.ol.lt
            have hal := altL_length (thr bs a) (thr bs b) p k
            have hbd2 : Build H H2 oid rows := hbd.keepS hsm (fun j e => by omega) (by omega) (fun r hr => by have := hids r hr; omega)
            obtain ⟨hsrc4, H5, hap5, hbd5, hsame5⟩ := hbd2.pushAt (rid := cid) (xs := altL (thr bs a) (thr bs b) p k) (by rw [hal]; exact hol) (by omega) (by omega) (fun r hr => by have := (hbd.ids r hr).2.1; omega)
            rw [hal] at hsrc4 hap5
            have hxk := hx.1
            simp (maxSteps := 1000000) [go_sem, lk, hx.1, hsrc4, hap5, hw_p]
            have hm5 := hsame5.get hmet2 (by omega)
            have hbox5 : Holds H5 H.length [.int .i64 v, u] := hbox2.keepS hsame5 (by omega)
            refine andK_intro (by omega) (hK (p + 1, met ++ altN (thr bs a) (thr bs b) p k, H2.length + 1, rows ++ [(cid, altL (thr bs a) (thr bs b) p k)]) _ _ (by simp only; omega) (by simp [upF, Fr.get, Up.refl]) ⟨by simp only; omega, by simpa using hrows, hshut2, ⟨by simp [hmem.1], by simp [hmem.2.1], by simp [hmem.2.2]⟩, by simp only [List.length_append, List.length_singleton]; omega, ?_, hbd5, hm5, hbox5, ?_, ?_⟩)
            · simp only [List.map_append, List.flatten_append, List.length_append, List.map_cons, List.map_nil, List.flatten_cons, List.flatten_nil, List.append_nil, hal]
              omega
            · simp only
              have := hsm.1; omega
            · simp only
              intro r hr
              rcases List.mem_append.1 hr with hr | hr
              · exact hids r hr
              · simp at hr; subst hr; simp only; omega
    · have : p = v := by omega
      subst this
      have e0 : upTo p p = [] := upTo_self (Nat.le_refl _)
      rw [e0] at hrows
      simp only [cycRows, cycAll, List.map_nil, List.append_nil] at hrows
      simp (maxSteps := 1000000) [go_sem, d1]
      refine ⟨_, Up.refl _ _, h H' _ hbd.pre ?_⟩
      have := hbd.inn (by omega) (by omega)
      rw [hrows, htot] at this
      exact this

end Go.Proofs.Ytakkmkinfeddeaa
end

section
/- CyclesOf: the specification's side, whole. -/
set_option linter.all false
set_option maxRecDepth 20000
set_option maxHeartbeats 4000000
namespace Go.Proofs.Ytakkmkinfeddeaa
open Go.Ab

theorem specCyclesOf_ok {H : Heap} {u : Value} {p a b : Int} {bs : List Bk} (hu : BlocksAt H u bs) (hl : bs.length ≤ 1048576) (ha : In64 a) (hb : In64 b) (Post : Value → Heap → Prop)
    (h : ∀ H' w, H <+: H' → RowsIn H.length H'.length H' w (rCyc p bs a b).1 → Post (.tuple #[w, .int .i64 (rCyc p bs a b).2]) H') :
    ACalls Try.prog 22 [sysV p u, .int .i64 a, .int .i64 b] H Post := by
  refine ACalls.res ?_
  refine acalls_vc (rs := [.tmp 6, .tmp 7]) Try.func22 rfl rfl Try.ntmps22 rfl rfl ?_
  simp (maxSteps := 1000000) [go_sem, sysV, hu.one]
  have hp0 : H <+: H ++ [⟨[.int .i64 p, u], true, true⟩] := List.prefix_append _ _
  have hx0 := Holds.last H [.int .i64 p, u]
  generalize H ++ [(⟨[.int .i64 p, u], true, true⟩ : Blk)] = H0 at hp0 hx0 ⊢
  have bad : ∀ (H' : Heap) (c : Int), H <+: H' → rCyc p bs a b = ([], c) → ∃ v', Up H' (.tuple #[.slice none 0 0, .int .i64 c]) v' ∧ Post v' H' := by
    intro H' c hp hr
    refine ⟨_, Up.tuple (ys := #[lv 1 0 0 0, .int .i64 c]) ⟨Up.nil _ _ _ _, Up.refl _ _, trivial⟩, ?_⟩
    have := h H' (lv 1 0 0 0) hp (by rw [hr]; exact RowsIn.nil _ _ _)
    rwa [hr] at this
  refine l03Code_ok (hu.pre hp0) hl ha hb _ ?_
  intro H1 hp1
  obtain ⟨d0, d1, d2⟩ := (hx0.pre hp1).sys
  by_cases hc : pairCode p bs a b = 0
  · obtain ⟨hS, ⟨ha0, ha1⟩, ⟨hb0, hb1⟩, hab⟩ := pairCode_good hc
    have hp := hS.1
    cases hf : fullB p bs with
    | false =>
      have e : cCode p bs a b = 5 := by simp [cCode, hc, hf]
      simp (maxSteps := 1000000) [go_sem, e]
      exact bad H1 5 (hp0.trans hp1) (by simp [rCyc, hc, hf])
    | true =>
      have e : cCode p bs a b = 0 := by simp [cCode, hc, hf]
      obtain ⟨v, rfl⟩ : ∃ n : Nat, p = n := ⟨p.toNat, by omega⟩
      obtain ⟨x, rfl⟩ : ∃ n : Nat, a = n := ⟨a.toNat, by omega⟩
      obtain ⟨y, rfl⟩ : ∃ n : Nat, b = n := ⟨b.toNat, by omega⟩
      simp (maxSteps := 1000000) [go_sem, e, d0]
      refine l03Cycles_ok (hu.pre (hp0.trans hp1)) hS hf (by omega) (by omega) (by omega) _ ?_
      intro H4 w hp4 hw
      have hpre := hp0.trans hp1
      have hr : rCyc v bs x y = (cycRows (thr bs x) (thr bs y) (upTo 0 v) [x, y, thr bs x y], 0) := by simp [rCyc, hc, hf]
      have fin := h H4 w (hpre.trans hp4) (by rw [hr]; exact hw.wider hpre.length_le)
      rw [hr] at fin
      simp (maxSteps := 1000000) [go_sem, hp4]
      exact ⟨_, Up.refl _ _, fin⟩
  · have e : cCode p bs a b = pairCode p bs a b := by simp [cCode, hc]
    have hc2 : (pairCode p bs a b != 0) = true := by simpa using hc
    simp (maxSteps := 1000000) [go_sem, e, hc2]
    exact bad H1 _ (hp0.trans hp1) (by simp [rCyc, hc])

end Go.Proofs.Ytakkmkinfeddeaa
end

section
/- The law on CyclesOf, in abstract terms: its code returns true, for every input. -/
set_option linter.all false
set_option maxRecDepth 20000
namespace Go.Proofs.Ytakkmkinfeddeaa
open Go.Ab

theorem lawFnExactCyclesOf (H : Heap) (avs : List Value) (h : argsSay [shSystem, shInt, shInt] H avs) : ACalls Try.prog 3 avs H fun v _ => v = .bool true := by
  obtain ⟨_, _, rfl, a0, _, _, rfl, a1, _, _, rfl, a2, rfl⟩ := h
  obtain ⟨p0, u0, b0, rfl, hp00, hz0, hw0⟩ := says_shSystem a0
  have one0 : u0.oneCell' = true := by obtain ⟨i, o, rfl, _⟩ := hz0; rfl
  obtain ⟨n1, rfl, hn1⟩ := says_shInt' a1
  obtain ⟨n2, rfl, hn2⟩ := says_shInt' a2
  refine acalls_vc (rs := [.tmp 6]) Try.func3 rfl rfl Try.ntmps3 rfl rfl ?_
  try simp (maxSteps := 1000000) [go_sem, one0, sysV]
  have hp1 : H <+: H ++ [(⟨[.int .i64 p0, u0], true, true⟩ : Blk)] := List.prefix_append _ _
  have bx0 : Holds (H ++ [(⟨[.int .i64 p0, u0], true, true⟩ : Blk)]) (H.length) [.int .i64 p0, u0] := ⟨true, by simp⟩
  have hbH1 : (H ++ [(⟨[.int .i64 p0, u0], true, true⟩ : Blk)]).length = H.length + 1 := by simp
  generalize H ++ [(⟨[.int .i64 p0, u0], true, true⟩ : Blk)] = H1 at hp1 hbH1 bx0 ⊢
  have hlH1 := hp1.length_le
  have qz0 := hp1
  obtain ⟨d0a, d0b, d0c⟩ := bx0.sys
  refine szSystem0_ok (hz0.pre qz0) (by omega) (by omega) _ ?_
  intro H2 hp2
  replace bx0 := bx0.pre hp2
  replace qz0 := qz0.trans hp2
  have hlH2 := hp2.length_le
  obtain ⟨d0a, d0b, d0c⟩ := bx0.sys
  by_cases hbig0 : (1048576 : Int) < b0.length
  · simp (maxSteps := 1000000) [go_sem, hbig0, one0, sysV]
  have hneg0 : decide ((1048576 : Int) - b0.length < 0) = false := by simp; omega
  have hl0 : b0.length ≤ 1048576 := by omega
  have hq0 := hz0.at (by omega)
  try simp (maxSteps := 1000000) [go_sem, hbig0, hneg0, one0, sysV, d0a, d0b, d0c]
  refine toSys_ok (hq0.pre qz0) hl0 _ ?_
  intro H3 wo3 hp3 hoo3
  replace bx0 := bx0.pre hp3
  replace qz0 := qz0.trans hp3
  have hlH3 := hp3.length_le
  obtain ⟨d0a, d0b, d0c⟩ := bx0.sys
  try simp (maxSteps := 1000000) [go_sem, hbig0, hneg0, one0, sysV, d0a, d0b, d0c]
  refine specCyclesOf_ok hoo3.read hl0 hn1 hn2 _ ?_
  intro H4 wH4_0 hp4 hoH4_0
  replace bx0 := bx0.pre hp4
  replace hoo3 := hoo3.pre hp4
  replace qz0 := qz0.trans hp4
  have hlH4 := hp4.length_le
  obtain ⟨d0a, d0b, d0c⟩ := bx0.sys
  try simp (maxSteps := 1000000) [go_sem, hbig0, hneg0, one0, sysV, d0a, d0b, d0c]
  refine toSys_ok (hq0.pre qz0) hl0 _ ?_
  intro H5 wo5 hp5 hoo5
  replace bx0 := bx0.pre hp5
  replace hoo3 := hoo3.pre hp5
  replace hoH4_0 := hoH4_0.pre hp5
  replace qz0 := qz0.trans hp5
  have hlH5 := hp5.length_le
  obtain ⟨d0a, d0b, d0c⟩ := bx0.sys
  have one_o5 : wo5.oneCell' = true := hoo5.read.one
  try simp (maxSteps := 1000000) [go_sem, hbig0, hneg0, one0, one_o5, sysV, d0a, d0b, d0c]
  have bxo5 := Holds.last H5 [.int .i64 p0, wo5]
  have hp6 : H5 <+: H5 ++ [(⟨[.int .i64 p0, wo5], true, true⟩ : Blk)] := List.prefix_append _ _
  have hbH6 : (H5 ++ [(⟨[.int .i64 p0, wo5], true, true⟩ : Blk)]).length = H5.length + 1 := by simp
  generalize H5 ++ [(⟨[.int .i64 p0, wo5], true, true⟩ : Blk)] = H6 at bxo5 hp6 hbH6 ⊢
  replace bx0 := bx0.pre hp6
  replace hoo3 := hoo3.pre hp6
  replace hoH4_0 := hoH4_0.pre hp6
  replace hoo5 := hoo5.pre hp6
  replace qz0 := qz0.trans hp6
  have hlH6 := hp6.length_le
  obtain ⟨d0a, d0b, d0c⟩ := bx0.sys
  obtain ⟨eo5a, eo5b, eo5c⟩ := bxo5.sys
  try simp (maxSteps := 1000000) [go_sem, hbig0, hneg0, one0, one_o5, sysV, d0a, d0b, d0c, eo5a, eo5b, eo5c]
  refine implCyclesOf_ok hoo5.read hl0 hn1 hn2 _ ?_
  intro H7 wH7_0 hp7 hoH7_0
  replace bx0 := bx0.pre hp7
  replace bxo5 := bxo5.pre hp7
  replace hoo3 := hoo3.pre hp7
  replace hoH4_0 := hoH4_0.pre hp7
  replace hoo5 := hoo5.pre hp7
  replace qz0 := qz0.trans hp7
  have hlH7 := hp7.length_le
  obtain ⟨d0a, d0b, d0c⟩ := bx0.sys
  obtain ⟨eo5a, eo5b, eo5c⟩ := bxo5.sys
  try simp (maxSteps := 1000000) [go_sem, hbig0, hneg0, one0, one_o5, sysV, d0a, d0b, d0c, eo5a, eo5b, eo5c]
  refine eqInt64SS_ok hoH7_0.read hoH4_0.read _ ?_
  try simp (maxSteps := 1000000) [go_sem, hbig0, hneg0, one0, one_o5, sysV, d0a, d0b, d0c, eo5a, eo5b, eo5c]
  refine AWp.draw mixed [(0, false), (1, false), (2, true), (3, false), (4, false)] (by kernel_rfl) ?_
  try simp (maxSteps := 1000000) [go_sem, hbig0, hneg0, one0, one_o5, sysV, d0a, d0b, d0c, eo5a, eo5b, eo5c]
  refine toSys_ok (hq0.pre qz0) hl0 _ ?_
  intro H8 wo8 hp8 hoo8
  replace bx0 := bx0.pre hp8
  replace bxo5 := bxo5.pre hp8
  replace hoo3 := hoo3.pre hp8
  replace hoH4_0 := hoH4_0.pre hp8
  replace hoo5 := hoo5.pre hp8
  replace hoH7_0 := hoH7_0.pre hp8
  replace qz0 := qz0.trans hp8
  have hlH8 := hp8.length_le
  obtain ⟨d0a, d0b, d0c⟩ := bx0.sys
  obtain ⟨eo5a, eo5b, eo5c⟩ := bxo5.sys
  try simp (maxSteps := 1000000) [go_sem, hbig0, hneg0, hp8, one0, one_o5, sysV, d0a, d0b, d0c, eo5a, eo5b, eo5c]
  refine eqSystem_ok hoo5.read hoo8.read _ ?_
  intro H9 hp9
  replace bx0 := bx0.pre hp9
  replace bxo5 := bxo5.pre hp9
  replace hoo3 := hoo3.pre hp9
  replace hoH4_0 := hoH4_0.pre hp9
  replace hoo5 := hoo5.pre hp9
  replace hoH7_0 := hoH7_0.pre hp9
  replace hoo8 := hoo8.pre hp9
  replace qz0 := qz0.trans hp9
  have hlH9 := hp9.length_le
  obtain ⟨d0a, d0b, d0c⟩ := bx0.sys
  obtain ⟨eo5a, eo5b, eo5c⟩ := bxo5.sys
  try simp (maxSteps := 1000000) [go_sem, hbig0, hneg0, hp8, one0, one_o5, sysV, d0a, d0b, d0c, eo5a, eo5b, eo5c]
  refine markSys_ok hoo5 (by omega) (by omega) _ ?_
  intro H10 hs10 mk10
  replace bx0 := bx0.keepS hs10 (by rintro ⟨h1, h2⟩; omega)
  replace bxo5 := bxo5.keepS hs10 (by rintro ⟨h1, h2⟩; omega)
  replace hoo3 := hoo3.keep hs10 (by rintro j ⟨h1, h2⟩ ⟨h3, h4⟩; omega)
  replace hoH4_0 := hoH4_0.keep hs10 (by rintro j ⟨h1, h2⟩ ⟨h3, h4⟩; omega)
  replace hoH7_0 := hoH7_0.keep hs10 (by rintro j ⟨h1, h2⟩ ⟨h3, h4⟩; omega)
  replace hoo8 := hoo8.keep hs10 (by rintro j ⟨h1, h2⟩ ⟨h3, h4⟩; omega)
  replace qz0 := ((Same.of_prefix qz0).trans hs10).prefix (by rintro j hj ⟨h1, h2⟩; omega)
  have hlH10 := hs10.1
  obtain ⟨d0a, d0b, d0c⟩ := bx0.sys
  obtain ⟨eo5a, eo5b, eo5c⟩ := bxo5.sys
  have hng10 : decide ((1 : Int) + ((b0).length * 3 : Nat) < 0) = false := by simp only [decide_eq_false_iff_not]; omega
  try simp only [Int.natCast_mul, Int.cast_ofNat_Int] at hng10
  try simp (maxSteps := 1000000) [go_sem, hbig0, hneg0, hng10, hp8, one0, one_o5, sysV, d0a, d0b, d0c, eo5a, eo5b, eo5c]
  refine eqInt64SS_ok hoH7_0.read hoH4_0.read _ ?_
  try simp (maxSteps := 1000000) [go_sem, hbig0, hneg0, hng10, hp8, one0, one_o5, sysV, d0a, d0b, d0c, eo5a, eo5b, eo5c]
  obtain ⟨TrH7_0, hTrH7_0⟩ : ∃ T : Nat, T = ((rCyc p0 b0 n1 n2).1).flatten.length := ⟨_, rfl⟩
  refine markIntss_ok hoH7_0 hTrH7_0 (by omega) (by omega) _ ?_
  intro H11 hs11 mk11
  replace bx0 := bx0.keepS hs11 (by rintro ⟨h1, h2⟩; omega)
  replace bxo5 := bxo5.keepS hs11 (by rintro ⟨h1, h2⟩; omega)
  replace hoo3 := hoo3.keep hs11 (by rintro j ⟨h1, h2⟩ ⟨h3, h4⟩; omega)
  replace hoH4_0 := hoH4_0.keep hs11 (by rintro j ⟨h1, h2⟩ ⟨h3, h4⟩; omega)
  replace mk10 := mk10.keep hs11 (by rintro j ⟨h1, h2⟩ ⟨h3, h4⟩; omega)
  replace hoo8 := hoo8.keep hs11 (by rintro j ⟨h1, h2⟩ ⟨h3, h4⟩; omega)
  replace qz0 := ((Same.of_prefix qz0).trans hs11).prefix (by rintro j hj ⟨h1, h2⟩; omega)
  have hlH11 := hs11.1
  obtain ⟨d0a, d0b, d0c⟩ := bx0.sys
  obtain ⟨eo5a, eo5b, eo5c⟩ := bxo5.sys
  have hng11 : decide ((1 : Int) + (TrH7_0 : Int) < 0) = false := by simp only [decide_eq_false_iff_not]; omega
  try simp only [Int.natCast_mul, Int.cast_ofNat_Int] at hng11
  try simp (maxSteps := 1000000) [go_sem, hbig0, hneg0, hng10, hng11, hp8, one0, one_o5, sysV, d0a, d0b, d0c, eo5a, eo5b, eo5c]
  refine heldIntss_ok mk11 hTrH7_0 (by omega) (by omega) _ ?_
  try simp (maxSteps := 1000000) [go_sem, hbig0, hneg0, hng10, hng11, hp8, one0, one_o5, sysV, d0a, d0b, d0c, eo5a, eo5b, eo5c]
  refine toSys_ok (hq0.pre qz0) hl0 _ ?_
  intro H12 wo12 hp12 hoo12
  replace bx0 := bx0.pre hp12
  replace bxo5 := bxo5.pre hp12
  replace hoo3 := hoo3.pre hp12
  replace hoH4_0 := hoH4_0.pre hp12
  replace mk10 := mk10.pre hp12
  replace mk11 := mk11.pre hp12
  replace hoo8 := hoo8.pre hp12
  replace qz0 := qz0.trans hp12
  have hlH12 := hp12.length_le
  obtain ⟨d0a, d0b, d0c⟩ := bx0.sys
  obtain ⟨eo5a, eo5b, eo5c⟩ := bxo5.sys
  try simp (maxSteps := 1000000) [go_sem, hbig0, hneg0, hng10, hng11, hp8, one0, one_o5, sysV, d0a, d0b, d0c, eo5a, eo5b, eo5c]
  refine implCyclesOf_ok hoo12.read hl0 hn1 hn2 _ ?_
  intro H13 wH13_0 hp13 hoH13_0
  replace bx0 := bx0.pre hp13
  replace bxo5 := bxo5.pre hp13
  replace hoo3 := hoo3.pre hp13
  replace hoH4_0 := hoH4_0.pre hp13
  replace mk10 := mk10.pre hp13
  replace mk11 := mk11.pre hp13
  replace hoo8 := hoo8.pre hp13
  replace hoo12 := hoo12.pre hp13
  replace qz0 := qz0.trans hp13
  have hlH13 := hp13.length_le
  obtain ⟨d0a, d0b, d0c⟩ := bx0.sys
  obtain ⟨eo5a, eo5b, eo5c⟩ := bxo5.sys
  try simp (maxSteps := 1000000) [go_sem, hbig0, hneg0, hng10, hng11, hp8, one0, one_o5, sysV, d0a, d0b, d0c, eo5a, eo5b, eo5c]
  refine eqInt64SS_ok hoH13_0.read hoH4_0.read _ ?_
  try simp (maxSteps := 1000000) [go_sem, hbig0, hneg0, hng10, hng11, hp8, one0, one_o5, sysV, d0a, d0b, d0c, eo5a, eo5b, eo5c]
  refine heldIntss_ok mk11 hTrH7_0 (by omega) (by omega) _ ?_
  try simp (maxSteps := 1000000) [go_sem, hbig0, hneg0, hng10, hng11, hp8, one0, one_o5, sysV, d0a, d0b, d0c, eo5a, eo5b, eo5c]

end Go.Proofs.Ytakkmkinfeddeaa
end
