/- Part 7 of what the proof of the law FnExactTypesOf rests on: contracts of functions of the program, for every argument that each names; no statement of the seat is proved here. -/
import Derived.Sort.LotA
import Derived.Sort.LotD3
import Derived.Sort.LotB
import Derived.Sort.LotC
import Derived.Test.YtakkmkinfeddeaaFnExactTypesOfPart6

section
/- CyclesOf: membership, and lists of lists kept while other blocks change. -/
set_option linter.all false
set_option maxRecDepth 20000
set_option maxHeartbeats 4000000
namespace Go.Proofs.Ytakkmkinfeddeaa
open Go.Ab

theorem plc_mem {xs : List Int} {q : Int} : decide (0 ≤ plc xs q) = decide (q ∈ xs) := by
  by_cases h : q ∈ xs
  · rw [decide_eq_true h]
    by_cases h0 : 0 ≤ plc xs q
    · exact decide_eq_true h0
    · exfalso
      have hge := plc_ge xs q
      have hm1 : plc xs q = -1 := by omega
      clear h0 hge
      induction xs with
      | nil => simp at h
      | cons x xs ih =>
        simp only [plc] at hm1
        split at hm1
        · omega
        · rename_i hne
          split at hm1
          · rename_i h1
            rcases List.mem_cons.1 h with e | h
            · exact hne e.symm
            · exact ih h h1
          · have := plc_ge xs q; omega
  · rw [decide_eq_false h]
    refine decide_eq_false ?_
    have hno : ∀ x ∈ xs, x ≠ q := by
      intro x hx e
      subst e
      exact h hx
    rw [plc_none hno]; omega

theorem containsI_ok {H : Heap} {v : Value} {xs : List Int} {q : Int} (hv : IntsAt H v xs) (Post : Value → Heap → Prop) (h : Post (.bool (decide (q ∈ xs))) H) : ACalls Try.prog 152 [v, .int .i64 q] H Post := by
  refine acalls_vc (rs := [.tmp 4]) Try.func152 rfl rfl Try.ntmps152 rfl rfl ?_
  simp (maxSteps := 1000000) [go_sem]
  refine indexI_ok hv _ ?_
  simp (maxSteps := 1000000) [go_sem, plc_mem]
  exact h

theorem _root_.Go.Ab.Build.keepS {H0 H H' : Heap} {oid : Nat} {rows : List (Nat × List Int)} {S : Nat → Prop} (h : Build H0 H oid rows) (hs : Same S H H') (h0 : ∀ j, S j → H0.length ≤ j) (ho : ¬ S oid) (hr : ∀ r ∈ rows, ¬ S r.1) : Build H0 H' oid rows :=
  ⟨((Same.of_prefix h.pre).trans hs).prefix (by intro j hj hS; have := h0 j hS; omega), h.ol.keep hs ho, h.ge,
    ⟨fun r hm => (h.rows1.1 r hm).imp (fun h => h) fun hb => hs.get hb (hr r hm), h.rows1.2⟩,
    fun r hm => ⟨(h.ids r hm).1, Nat.lt_of_lt_of_le (h.ids r hm).2.1 hs.1, (h.ids r hm).2.2⟩⟩

theorem _root_.Go.Ab.Build.pushAt {H0 H2 : Heap} {oid rid : Nat} {rows : List (Nat × List Int)} {xs : List Int} (h : Build H0 H2 oid rows) (hr : OL 1 H2 rid (ints xs) xs.length) (hr0 : H0.length ≤ rid) (hro : rid ≠ oid) (hrr : ∀ r ∈ rows, r.1 ≠ rid) :
    cellsAt (H2 ++ [⟨[lv 1 rid 0 xs.length], true, true⟩]) H2.length 0 1 = some [lv 1 rid 0 xs.length] ∧
    ∃ H4, appendH (H2 ++ [⟨[lv 1 rid 0 xs.length], true, true⟩]) 1 (lv 1 oid 0 rows.length) 1 [lv 1 rid 0 xs.length] = some (lv 1 (H2.length + 1) 0 (rows.length + 1), H4) ∧ Build H0 H4 (H2.length + 1) (rows ++ [(rid, xs)]) ∧ Same (fun j => j = oid) H2 H4 := by
  have hol' : OL 1 H2 oid (rows.map rowVal) rows.length := h.ol
  have hp : H2 <+: H2 := List.prefix_refl _
  obtain ⟨hsrc, H4, hap, hol4, hsame4, hlen4⟩ := hol'.push (xs := [lv 1 rid 0 xs.length]) (by omega) rfl
  have hoid := h.ol.lt
  have hle := hp.length_le
  have hle0 := h.pre.length_le
  have hlt := hr.lt
  refine ⟨hsrc, H4, hap, ⟨⟨(show Same (fun j => j = oid) H0 H4 from (Same.of_prefix (h.pre.trans hp)).trans hsame4).prefix (by have := h.ge; omega), by simpa [rowVal] using hol4, by omega, ⟨?_, ?_⟩, ?_⟩, hsame4⟩⟩
  · intro r hm
    rcases List.mem_append.1 hm with hm | hm
    · refine (h.rows1.1 r hm).imp (fun h => h) fun hb => ?_
      exact hsame4.get (Same.get (S := fun _ => False) (Same.of_prefix hp) hb (fun h => h)) (h.ids r hm).2.2
    · simp at hm; subst hm
      rcases hr.2 with ⟨h0, _⟩ | h0
      · exact .inl (List.eq_nil_of_length_eq_zero h0)
      · right
        exact hsame4.get h0 (by simp only; omega)
  · intro a b r t ha hb hab hrn htn
    have key : ∀ (a : Nat) (r : Nat × List Int), (rows ++ [(rid, xs)])[a]? = some r → (a < rows.length ∧ rows[a]? = some r) ∨ (a = rows.length ∧ r = (rid, xs)) := by
      intro a r ha
      rcases Nat.lt_or_ge a rows.length with h | h
      · rw [List.getElem?_append_left h] at ha; exact .inl ⟨h, ha⟩
      · rw [List.getElem?_append_right h] at ha
        cases hk : a - rows.length with
        | zero => rw [hk] at ha; simp at ha; exact .inr ⟨by omega, ha.symm⟩
        | succ k => rw [hk] at ha; simp at ha
    rcases key a r ha with ⟨h1, h1'⟩ | ⟨h1, rfl⟩
    · rcases key b t hb with ⟨h2, h2'⟩ | ⟨h2, rfl⟩
      · exact h.rows1.2 a b r t h1' h2' hab hrn htn
      · exact hrr r (List.mem_of_getElem? h1')
    · rcases key b t hb with ⟨h2, h2'⟩ | ⟨h2, rfl⟩
      · exact fun e => hrr t (List.mem_of_getElem? h2') e.symm
      · omega
  · intro r hm
    rcases List.mem_append.1 hm with hm | hm
    · have := h.ids r hm
      omega
    · simp at hm; subst hm; simp only; omega


end Go.Proofs.Ytakkmkinfeddeaa
end

section
/- CyclesOf: all ways round, the tested program's side. -/
set_option linter.all false
set_option maxRecDepth 20000
set_option maxHeartbeats 8000000
namespace Go.Proofs.Ytakkmkinfeddeaa
open Go.Ab

def castL (xs : List Nat) : List Int := xs.map fun x : Nat => (x : Int)
theorem castL_mem {xs : List Nat} {x : Nat} : ((x : Int) ∈ castL xs) ↔ x ∈ xs := by
  simp only [castL, List.mem_map]
  constructor
  · rintro ⟨y, hy, e⟩; have : y = x := by omega
    exact this ▸ hy
  · intro h; exact ⟨x, h, rfl⟩
theorem castL_length (xs : List Nat) : (castL xs).length = xs.length := by simp [castL]
theorem castL_append (xs ys : List Nat) : castL (xs ++ ys) = castL xs ++ castL ys := by simp [castL]
theorem cycL_cast (f g : Nat → Nat) (p : Nat) : castL (cycL f g p) = altL f g p (cycN f g p) := by simp [castL, cycL, altL]
noncomputable def cycRows (f g : Nat → Nat) (ps met : List Nat) : List (List Int) := (cycAll f g ps met).map castL
theorem cycRows_in {f g : Nat → Nat} {p : Nat} {ps met : List Nat} (h : p ∈ met) : cycRows f g (p :: ps) met = cycRows f g ps met := by simp [cycRows, cycAll, h]
theorem cycRows_out {f g : Nat → Nat} {p : Nat} {ps met : List Nat} (h : p ∉ met) : cycRows f g (p :: ps) met = castL (cycL f g p) :: cycRows f g ps (met ++ cycL f g p) := by simp [cycRows, cycAll, h]
theorem upTo_cons {p v : Nat} (h : p < v) : upTo p v = p :: upTo (p + 1) v := by
  unfold upTo
  rw [show v - p = (v - (p + 1)) + 1 by omega, List.range'_succ]

theorem cycles_ok {H : Heap} {u : Value} {gid : Nat} {gs : List Int} {v a b : Nat} {bs : List Bk} (hu : u.oneCell' = true) (hS : IsSys v bs) (hf : fullB v bs = true) (hga : GridAt H gid gs) (hgo : GridOf gs bs) (hab : a ≠ b) (ha : a < v) (hb : b < v) (Post : Value → Heap → Prop)
    (h : ∀ H' w, H <+: H' → RowsIn H.length H'.length H' w (cycRows (thr bs a) (thr bs b) (upTo 0 v) [a, b, thr bs a b]) → Post w H') :
    ACalls Try.prog 88 [sysV v u, .pointer (some ⟨gid, 0, none⟩), .int .i64 a, .int .i64 b] H Post := by
  have hT := turn_of hS hf hab ha hb
  obtain ⟨t1, t2, t3, t4, t5⟩ := thr_spec hS hf hab ha hb
  have hv := hS.1
  refine ACalls.res ?_
  refine acalls_vc (rs := [.tmp 8]) Try.func88 rfl rfl Try.ntmps88 rfl rfl ?_
  have hp0 : H <+: H ++ [⟨[.int .i64 v, u], true, true⟩] := List.prefix_append _ _
  have hx0 := Holds.last H [.int .i64 v, u]
  have c1 : cellsAt (H ++ [⟨[.int .i64 v, u], true, true⟩]) gid (a * 15 + b) 1 = some [.int .i64 (thr bs a b)] := by
    have : cellsAt (H ++ [⟨[.int .i64 v, u], true, true⟩]) gid (a * 15 + b) 1 = some [.int .i64 (gAt gs a b)] := (hga.keep hp0).load (by omega)
    rw [hgo.2 a b (by omega) (by omega), if_neg hab, t1] at this
    exact this
  have g1 : a < 15 := by omega
  have g2 : b < 15 := by omega
  have g1' : (a : Int) < 15 := by omega
  have g2' : (b : Int) < 15 := by omega
  simp (maxSteps := 1000000) [go_sem, sysV, hu, g1, g2, g1', g2', c1]
  refine AWp.addGhost ?_
  have hlen0 : (H ++ [(⟨[.int .i64 v, u], true, true⟩ : Blk)]).length = H.length + 1 := by simp
  have hbd0 : Build (H ++ [⟨[.int .i64 v, u], true, true⟩]) ((H ++ [⟨[.int .i64 v, u], true, true⟩, ⟨[.int .i64 a, .int .i64 b, .int .i64 (thr bs a b)], true, true⟩]) ++ [⟨[], false, false⟩]) (H.length + 2) [] :=
    Build.of_ol ⟨[⟨[.int .i64 a, .int .i64 b, .int .i64 (thr bs a b)], true, true⟩, ⟨[], false, false⟩], by simp⟩ ⟨rfl, .inl ⟨rfl, by simp [ghostAt]⟩⟩ (by simp)
  have hsn0 : OL 1 ((H ++ [(⟨[.int .i64 v, u], true, true⟩ : Blk), ⟨[.int .i64 a, .int .i64 b, .int .i64 (thr bs a b)], true, true⟩]) ++ [⟨[], false, false⟩]) (H.length + 1) (ints (castL [a, b, thr bs a b])) 3 := ⟨by simp [castL, ints], .inr (by simp [castL, ints])⟩
  have hsl0 : (cellsAt ((H ++ [(⟨[.int .i64 v, u], true, true⟩ : Blk), ⟨[.int .i64 a, .int .i64 b, .int .i64 (thr bs a b)], true, true⟩]) ++ [⟨[], false, false⟩]) (H.length + 1) 0 (3 * 1)).isSome = true := by
    rw [cellsAt_of (b := ⟨[.int .i64 a, .int .i64 b, .int .i64 (thr bs a b)], true, true⟩) (by simp) rfl (by simp)]; rfl
  generalize (H ++ [(⟨[.int .i64 v, u], true, true⟩ : Blk), ⟨[.int .i64 a, .int .i64 b, .int .i64 (thr bs a b)], true, true⟩]) ++ [⟨[], false, false⟩] = HX at hbd0 hsn0 hsl0 ⊢
  generalize H ++ [(⟨[.int .i64 v, u], true, true⟩ : Blk)] = H0 at *
  obtain ⟨total, htot⟩ : ∃ x, x = cycRows (thr bs a) (thr bs b) (upTo 0 v) [a, b, thr bs a b] := ⟨_, rfl⟩
  refine AWp.loopVc (St := Nat × Nat × List Nat × Nat × List (Nat × List Int)) (fun s => [(1, .pointer (some ⟨gid, 0, none⟩)), (2, .int .i64 a), (3, .int .i64 b), (9, lv 1 s.2.2.2.1 0 s.2.2.2.2.length), (10, lv 1 s.2.1 0 s.2.2.1.length), (24, .int .i64 v), (25, .int .i64 s.1)])
    (fun s H' => s.1 ≤ v ∧ s.2.2.2.2.map (·.2) ++ cycRows (thr bs a) (thr bs b) (upTo s.1 v) s.2.2.1 = total ∧ Shut (thr bs a) (thr bs b) (cycS v bs a b) s.2.2.1 ∧ (a ∈ s.2.2.1 ∧ b ∈ s.2.2.1 ∧ thr bs a b ∈ s.2.2.1) ∧ s.2.2.1.length ≤ 3 + 15 * s.1 ∧ s.2.2.2.2.length ≤ s.1 ∧
      Build H0 H' s.2.2.2.1 s.2.2.2.2 ∧ OL 1 H' s.2.1 (ints (castL s.2.2.1)) s.2.2.1.length ∧ H0.length ≤ s.2.1 ∧ s.2.1 ≠ s.2.2.2.1 ∧ (∀ r ∈ s.2.2.2.2, r.1 ≠ s.2.1) ∧ (s.2.2.2.2.map (·.2)).flatten.length ≤ 15 * s.1) (fun s => v - s.1) (0, H.length + 1, [a, b, thr bs a b], H.length + 2, []) ?_ ?_ ?_
  · simp [upF, Fr.get, Up.refl, Up.nil]
    exact Up.ex (by omega) (.inr hsl0)
  · refine ⟨by simp, by simp [htot], ?_, by simp, by simp, by simp, hbd0, hsn0, by simp only; omega, by simp, by simp, by simp⟩
    intro x hx hn
    have hf1 := hT.fS x hx
    have hg1 := hT.gS x hx
    simp only [List.mem_cons, List.not_mem_nil, or_false, not_or]
    exact ⟨⟨hf1.2.1, hf1.2.2.1, hf1.2.2.2⟩, ⟨hg1.2.1, hg1.2.2.1, hg1.2.2.2⟩⟩
  · rintro K ⟨p, sid, met, oid, rows⟩ H' ⟨hpv, hrows, hshut, hmem, hml, hrl, hbd, hsn, hs0, hso, hsr, hfl⟩ hK
    simp only at hpv hrows hshut hmem hml hrl hbd hsn hs0 hso hsr hfl
    by_cases hlt : p < v
    · have hw_p : IntKind.i64.wrap ((p : Int) + 1) = (p : Int) + 1 := i64w (by omega) (by omega)
      have hseen : IntsAt H' (lv 1 sid 0 met.length) (castL met) := ⟨sid, 0, by rw [castL_length], hsn.at, by rw [castL_length]; omega⟩
      have hlt' : (p : Int) < v := by omega
      rw [upTo_cons hlt] at hrows
      simp (maxSteps := 1000000) [go_sem, hlt]
      refine containsI_ok hseen _ ?_
      by_cases hpm : p ∈ met
      · have e : decide ((p : Int) ∈ castL met) = true := decide_eq_true (castL_mem.2 hpm)
        rw [cycRows_in hpm] at hrows
        simp (maxSteps := 1000000) [go_sem, castL_mem, hpm, hw_p]
        exact hK (p + 1, sid, met, oid, rows) _ _ (by simp only; omega) (by simp [upF, Fr.get, Up.refl]) ⟨by simp only; omega, hrows, hshut, hmem, by simp only; omega, by simp only; omega, hbd, hsn, hs0, hso, hsr, by simp only; omega⟩
      · have hpS : cycS v bs a b p := ⟨hlt, fun e => hpm (e ▸ hmem.1), fun e => hpm (e ▸ hmem.2.1), fun e => hpm (e ▸ hmem.2.2)⟩
        rw [cycRows_out hpm] at hrows
        simp (maxSteps := 1000000) [go_sem, castL_mem, hpm]
        refine gridCycle_ok hS hf (hga.keep (hp0.trans hbd.pre)) hgo hab ha hb hpS _ ?_
        intro H2 cid hBl
        obtain ⟨⟨n2, _⟩, nv⟩ := cycN_ok hT hpS (fun x hx => hx.1)
        rw [cycL_cast] at hrows
        have hcl : (cycL (thr bs a) (thr bs b) p).length = cycN (thr bs a) (thr bs b) p := by simp [cycL]
        have hcc := cycL_cast (thr bs a) (thr bs b) p
        have hshut2 := hshut.next hT hpS (fun x hx => hx.1)
        have hal := altL_length (thr bs a) (thr bs b) p (cycN (thr bs a) (thr bs b) p)
        generalize cycL (thr bs a) (thr bs b) p = cy at *
        generalize cycN (thr bs a) (thr bs b) p = n at *
        generalize altL (thr bs a) (thr bs b) p n = al at *
        have hslt := hsn.lt
        have hge := hBl.2.2
        have hle2 := hBl.1.length_le
        have hsn2 : OL 1 H2 sid (ints (castL met)) met.length := hsn.keep (S := fun _ => False) (Same.of_prefix hBl.1) (fun h => h)
        obtain ⟨H3, hap, hol3, hsame3, hlen3⟩ := hsn2.append (m := n) (by omega) (by omega) (news := ints al) (by simp [ints, hal])
        have hn0 : ¬ n = 0 := by omega
        have hil : (ints al).length = n := by simp [ints, hal]
        have hsrc : cellsAt H2 cid 0 n = some (ints al) := by
          rcases hBl.2.1.at with e | e
          · rw [e] at hil; simp at hil; omega
          · rwa [hil] at e
        have hc3 : OL 1 H3 cid (ints al) al.length := by rw [hal]; exact hBl.2.1.keep hsame3 (by omega)
        have hbd2 : Build H0 H2 oid rows := hbd.keepS (S := fun _ => False) (Same.of_prefix hBl.1) (fun _ h => h.elim) (fun h => h) (fun _ _ h => h)
        have hbd3 : Build H0 H3 oid rows := hbd2.keepS hsame3 (fun j e => by omega) (fun e => hso e.symm) hsr
        have holt := hbd.ol.lt
        have hle0 := hbd.pre.length_le
        obtain ⟨hsrc4, H5, hap5, hbd5, hsame5⟩ := hbd3.pushAt (rid := cid) (xs := al) hc3 (by omega) (by omega) (fun r hr => by have := (hbd.ids r hr).2.1; omega)
        rw [hal] at hsrc4 hap5
        have hol5 := hol3.keep hsame5 (by have := hbd3.ol.lt; omega)
        simp (maxSteps := 1000000) [go_sem, hn0, hsrc, hap, hsrc4, hap5, hw_p]
        refine andK_intro (by omega) (andK_intro (by omega) (hK (p + 1, H2.length, met ++ cy, H3.length + 1, rows ++ [(cid, al)]) _ _ (by simp only; omega) (by simp [upF, Fr.get, Up.refl, hcl]) ⟨by simp only; omega, by simpa using hrows, hshut2, ⟨by simp [hmem.1], by simp [hmem.2.1], by simp [hmem.2.2]⟩, by simp only [List.length_append, hcl]; omega, by simp only [List.length_append, List.length_singleton]; omega, hbd5, ?_, by simp only; omega, by simp only; omega, ?_, ?_⟩))
        · simp only [castL_append, List.length_append, hcl, hcc, ← ints_append]; exact hol5
        · simp only
          intro r hr
          rcases List.mem_append.1 hr with hr | hr
          · have := (hbd.ids r hr).2.1; omega
          · simp at hr; subst hr; have := hBl.2.1.lt; simp only; omega
        · simp only [List.map_append, List.flatten_append, List.length_append, List.map_cons, List.map_nil, List.flatten_cons, List.flatten_nil, List.append_nil, hal]
          omega
    · have : p = v := by omega
      subst this
      have e0 : upTo p p = [] := upTo_self (Nat.le_refl _)
      rw [e0] at hrows
      simp only [cycRows, cycAll, List.map_nil, List.append_nil] at hrows
      simp (maxSteps := 1000000) [go_sem]
      refine ⟨_, Up.refl _ _, h H' _ (hp0.trans hbd.pre) ?_⟩
      have := (hbd.inn (by omega) (by omega)).wider hp0.length_le
      rw [hrows, htot] at this
      exact this

end Go.Proofs.Ytakkmkinfeddeaa
end

section
/- CyclesOf: the tested program's side. -/
set_option linter.all false
set_option maxRecDepth 20000
set_option maxHeartbeats 4000000
namespace Go.Proofs.Ytakkmkinfeddeaa
open Go.Ab

noncomputable def rCyc (p : Int) (bs : List Bk) (a b : Int) : List (List Int) × Int :=
  if pairCode p bs a b = 0 then (if fullB p bs then (cycRows (thr bs a.toNat) (thr bs b.toNat) (upTo 0 p.toNat) [a.toNat, b.toNat, thr bs a.toNat b.toNat], 0) else ([], 5)) else ([], pairCode p bs a b)

theorem fullCode_ok {H : Heap} {u : Value} {p : Int} {bs : List Bk} (hu : BlocksAt H u bs) (hp : 3 ≤ p ∧ p ≤ 15) (hl : bs.length ≤ 1048576) (Post : Value → Heap → Prop) (h : ∀ H', H <+: H' → Post (.int .i64 (if fullB p bs then 0 else 5)) H') :
    ACalls Try.prog 87 [sysV p u] H Post := by
  refine acalls_vc (rs := [.tmp 2]) Try.func87 rfl rfl Try.ntmps87 rfl rfl ?_
  simp (maxSteps := 1000000) [go_sem, sysV, hu.one]
  have hp0 : H <+: H ++ [⟨[.int .i64 p, u], true, true⟩] := List.prefix_append _ _
  refine isFull_ok (hu.pre hp0) hp hl _ ?_
  intro H1 hp1
  have fin := h H1 (hp0.trans hp1)
  cases hf : fullB p bs with
  | true =>
    rw [hf] at fin
    simp (maxSteps := 1000000) [go_sem]
    simpa using fin
  | false =>
    rw [hf] at fin
    simp (maxSteps := 1000000) [go_sem]
    simpa using fin

theorem implCyclesOf_ok {H : Heap} {u : Value} {p a b : Int} {bs : List Bk} (hu : BlocksAt H u bs) (hl : bs.length ≤ 1048576) (ha : In64 a) (hb : In64 b) (Post : Value → Heap → Prop)
    (h : ∀ H' w, H <+: H' → RowsIn H.length H'.length H' w (rCyc p bs a b).1 → Post (.tuple #[w, .int .i64 (rCyc p bs a b).2]) H') :
    ACalls Try.prog 24 [sysV p u, .int .i64 a, .int .i64 b] H Post := by
  refine ACalls.res ?_
  refine acalls_vc (rs := [.tmp 6, .tmp 7]) Try.func24 rfl rfl Try.ntmps24 rfl rfl ?_
  simp (maxSteps := 1000000) [go_sem, sysV, hu.one]
  have hp0 : H <+: H ++ [⟨[.int .i64 p, u], true, true⟩] := List.prefix_append _ _
  have hx0 := Holds.last H [.int .i64 p, u]
  generalize H ++ [(⟨[.int .i64 p, u], true, true⟩ : Blk)] = H0 at hp0 hx0 ⊢
  have bad : ∀ (H' : Heap) (c : Int), H <+: H' → rCyc p bs a b = ([], c) → ∃ v', Up H' (.tuple #[.slice none 0 0, .int .i64 c]) v' ∧ Post v' H' := by
    intro H' c hp hr
    refine ⟨_, Up.tuple (ys := #[lv 1 0 0 0, .int .i64 c]) ⟨Up.nil _ _ _ _, Up.refl _ _, trivial⟩, ?_⟩
    have := h H' (lv 1 0 0 0) hp (by rw [hr]; exact RowsIn.nil _ _ _)
    rwa [hr] at this
  refine pairCode_ok (hu.pre hp0) _ ?_
  intro H1 hp1
  obtain ⟨d0, d1, d2⟩ := (hx0.pre hp1).sys
  by_cases hc : pairCode p bs a b = 0
  · obtain ⟨hS, ⟨ha0, ha1⟩, ⟨hb0, hb1⟩, hab⟩ := pairCode_good hc
    have hp := hS.1
    simp (maxSteps := 1000000) [go_sem, hc, d0]
    refine fullCode_ok (hu.pre (hp0.trans hp1)) hp hl _ ?_
    intro H2 hp2
    obtain ⟨d0, d1, d2⟩ := (hx0.pre (hp1.trans hp2)).sys
    cases hf : fullB p bs with
    | false =>
      simp (maxSteps := 1000000) [go_sem]
      exact bad H2 5 (hp0.trans (hp1.trans hp2)) (by simp [rCyc, hc, hf])
    | true =>
      obtain ⟨v, rfl⟩ : ∃ n : Nat, p = n := ⟨p.toNat, by omega⟩
      obtain ⟨x, rfl⟩ : ∃ n : Nat, a = n := ⟨a.toNat, by omega⟩
      obtain ⟨y, rfl⟩ : ∃ n : Nat, b = n := ⟨b.toNat, by omega⟩
      simp (maxSteps := 1000000) [go_sem]
      refine AWp.draw mixed [(0, false), (1, false), (3, false), (4, false), (2, true), (5, false), (6, false), (7, false)] (by kernel_rfl) ?_
      simp (maxSteps := 1000000) [go_sem, d0]
      refine sysGrid_ok (hu.pre (hp0.trans (hp1.trans hp2))) hS.good15 hS.2.2.2 _ ?_
      intro H3 gid gs hp3 _ hga hgo
      simp (maxSteps := 1000000) [go_sem, hp3]
      refine cycles_ok hu.one hS hf hga hgo (by omega) (by omega) (by omega) _ ?_
      intro H4 w hp4 hw
      have hpre := hp0.trans (hp1.trans (hp2.trans hp3))
      have hr : rCyc v bs x y = (cycRows (thr bs x) (thr bs y) (upTo 0 v) [x, y, thr bs x y], 0) := by simp [rCyc, hc, hf]
      have fin := h H4 w (hpre.trans hp4) (by rw [hr]; exact hw.wider hpre.length_le)
      rw [hr] at fin
      simp (maxSteps := 1000000) [go_sem, hp4]
      exact ⟨_, Up.refl _ _, fin⟩
  · have hc2 : (pairCode p bs a b != 0) = true := by simpa using hc
    simp (maxSteps := 1000000) [go_sem, hc2]
    exact bad H1 _ (hp0.trans hp1) (by simp [rCyc, hc])

end Go.Proofs.Ytakkmkinfeddeaa
end

section
/- CyclesOf: the specification's side, its code. -/
set_option linter.all false
set_option maxRecDepth 20000
set_option maxHeartbeats 4000000
namespace Go.Proofs.Ytakkmkinfeddeaa
open Go.Ab

noncomputable def cCode (p : Int) (bs : List Bk) (a b : Int) : Int := if pairCode p bs a b = 0 then (if fullB p bs then 0 else 5) else pairCode p bs a b

theorem l03Code_ok {H : Heap} {u : Value} {p a b : Int} {bs : List Bk} (hu : BlocksAt H u bs) (hl : bs.length ≤ 1048576) (ha : In64 a) (hb : In64 b) (Post : Value → Heap → Prop)
    (h : ∀ H', H <+: H' → Post (.int .i64 (cCode p bs a b)) H') : ACalls Try.prog 83 [sysV p u, .int .i64 a, .int .i64 b] H Post := by
  refine acalls_vc (rs := [.tmp 6]) Try.func83 rfl rfl Try.ntmps83 rfl rfl ?_
  simp (maxSteps := 1000000) [go_sem, sysV, hu.one]
  have hp0 : H <+: H ++ [⟨[.int .i64 p, u], true, true⟩, ⟨[.int .i64 a, .int .i64 b], true, true⟩] := List.prefix_append _ _
  have hx0 : Holds (H ++ [⟨[.int .i64 p, u], true, true⟩, ⟨[.int .i64 a, .int .i64 b], true, true⟩]) H.length [.int .i64 p, u] := ⟨true, by simp⟩
  refine ACalls.up (args' := [sysV p u, lv 1 (H.length + 1) 0 2]) ⟨Up.refl _ _, Up.ex (by omega) (.inr (by simp [go_sem])), trivial⟩ ?_
  refine l01Points_ok (xs := [a, b]) (hu.pre hp0) hl ⟨H.length + 1, 0, rfl, Holds.at ⟨true, by simp [ints]⟩, by simp⟩ _ ?_
  generalize H ++ [(⟨[.int .i64 p, u], true, true⟩ : Blk), ⟨[.int .i64 a, .int .i64 b], true, true⟩] = H0 at hp0 hx0 ⊢
  intro H1 hp1
  obtain ⟨d0, d1, d2⟩ := (hx0.pre hp1).sys
  have fin := h H1 (hp0.trans hp1)
  cases hs : sysB p bs with
  | false =>
    have e : ptsCode p bs [a, b] = 1 := by simp [ptsCode, hs]
    simp (maxSteps := 1000000) [go_sem, e]
    simpa [cCode, pairCode, hs] using fin
  | true =>
    have hS := sysB_of hs
    cases hin : (inP p a && inP p b) with
    | false =>
      have e : ptsCode p bs [a, b] = 2 := by
        have e0 : [a, b].all (inP p) = false := by simpa using hin
        simp only [ptsCode, hs, e0]; simp
      simp (maxSteps := 1000000) [go_sem, e]
      simpa [cCode, pairCode, hs, hin] using fin
    | true =>
      have e : ptsCode p bs [a, b] = 0 := by
        have h2 := hin
        rw [Bool.and_eq_true] at h2
        simp [ptsCode, hs, h2.1, h2.2]
      by_cases hab : a = b
      · have e2 : (a == b) = true := by simpa using hab
        simp (maxSteps := 1000000) [go_sem, e, e2]
        simpa [cCode, pairCode, hs, hin, hab] using fin
      · have e2 : (a == b) = false := by simpa using hab
        simp (maxSteps := 1000000) [go_sem, e, e2, d0]
        refine l01Full_ok (hu.pre (hp0.trans hp1)) hS.1 hl _ ?_
        intro H2 hp2
        have fin := h H2 (hp0.trans (hp1.trans hp2))
        have e3 : pairCode p bs a b = 0 := by simp [pairCode, hs, hin, hab]
        cases hf : fullB p bs with
        | true =>
          simp (maxSteps := 1000000) [go_sem]
          simpa [cCode, e3, hf] using fin
        | false =>
          simp (maxSteps := 1000000) [go_sem]
          simpa [cCode, e3, hf] using fin

end Go.Proofs.Ytakkmkinfeddeaa
end

section
/- Arrays of elements of a fixed number of cells in one block that the call holds alone; swapping two of them. No statement of the seat is proved here; it holds for every program. -/
set_option linter.all false
namespace Go.Ab
open Go.Sort

section
variable {α : Type} {cells : α → List Value} {w : Nat}

theorem flat_len (hc : ∀ x, (cells x).length = w) : ∀ l : List α, (l.flatMap cells).length = l.length * w
  | [] => by simp
  | b :: l => by rw [List.flatMap_cons, List.length_append, flat_len hc l, hc, List.length_cons, Nat.succ_mul, Nat.add_comm]
theorem flat_cut (hc : ∀ x, (cells x).length = w) : ∀ {l : List α} {s : Nat} {b : α}, l[s]? = some b → ((l.flatMap cells).drop (s * w)).take w = cells b
  | [], s, b, h => by simp at h
  | d :: l, 0, b, h => by
    simp at h; subst h
    rw [List.flatMap_cons, Nat.zero_mul, List.drop_zero, List.take_append_of_le_length (by rw [hc]; exact Nat.le_refl _), List.take_of_length_le (by rw [hc]; exact Nat.le_refl _)]
  | d :: l, s + 1, b, h => by
    have ih := flat_cut hc (l := l) (s := s) (b := b) (by simpa using h)
    rw [List.flatMap_cons, show (s + 1) * w = (cells d).length + s * w by rw [hc, Nat.succ_mul, Nat.add_comm], List.drop_append, List.drop_eq_nil_of_le (by omega), List.nil_append, Nat.add_sub_cancel_left]
    exact ih
theorem flat_over (hc : ∀ x, (cells x).length = w) : ∀ {l : List α} {s : Nat} {b : α}, s < l.length → over (l.flatMap cells) (s * w) (cells b) = (l.set s b).flatMap cells
  | [], s, b, h => by simp at h
  | d :: l, 0, b, h => by
    simp only [List.set_cons_zero, List.flatMap_cons, over, Nat.zero_mul, List.take_zero, List.nil_append, Nat.zero_add, hc]
    rw [List.drop_append, List.drop_eq_nil_of_le (by rw [hc]; exact Nat.le_refl _), hc, Nat.sub_self, List.drop_zero, List.nil_append]
  | d :: l, s + 1, b, h => by
    have ih := flat_over hc (l := l) (s := s) (b := b) (by simpa using h)
    simp only [List.set_cons_succ, List.flatMap_cons]
    rw [← ih]
    have e : (s + 1) * w = (cells d).length + s * w := by rw [hc, Nat.succ_mul, Nat.add_comm]
    simp only [over, e]
    rw [List.take_append, List.take_of_length_le (by omega), Nat.add_sub_cancel_left, Nat.add_assoc, List.drop_append, List.drop_eq_nil_of_le (by omega), List.nil_append, Nat.add_sub_cancel_left]
    simp

theorem Same.via {S T : Nat → Prop} {H A B : Heap} (h : Same S H A) (h' : Same T A B) (k : ∀ j, j < H.length → T j → S j) : Same S H B :=
  ⟨Nat.le_trans h.1 h'.1, fun j hj hs => (h'.2 j (Nat.lt_of_lt_of_le hj h.1) fun ht => hs (k j hj ht)).trans (h.2 j hj hs)⟩

/-- The block id holds an array's elements. -/
def Arr (cells : α → List Value) (H : Heap) (id : Nat) (d : Array α) : Prop := H[id]? = some ⟨d.toList.flatMap cells, true, true⟩

theorem Arr.lt {H : Heap} {id : Nat} {d : Array α} (h : Arr cells H id d) : id < H.length := (List.getElem?_eq_some_iff.1 h).1
theorem Arr.pre {H H' : Heap} {id : Nat} {d : Array α} (h : Arr cells H id d) (hp : H <+: H') : Arr cells H' id d := Same.get (S := fun _ => False) (Same.of_prefix hp) h (fun h => h)
theorem Arr.load [Inhabited α] {H : Heap} {id : Nat} {d : Array α} (h : Arr cells H id d) (hc : ∀ x, (cells x).length = w) {i : Nat} (hi : i < d.size) : cellsAt H id (i * w) w = some (cells d[i]!) := by
  have hl : d.toList[i]? = some d[i]! := by rw [Array.getElem?_toList, Array.getElem?_eq_getElem hi, getElem!_pos d i hi]
  have hle : i * w + w ≤ (d.toList.flatMap cells).length := by
    rw [flat_len hc, Array.length_toList, ← Nat.succ_mul]
    exact Nat.mul_le_mul_right w hi
  rw [cellsAt_of h rfl hle, flat_cut hc hl]
theorem Arr.store {H : Heap} {id : Nat} {d : Array α} (h : Arr cells H id d) (hc : ∀ x, (cells x).length = w) (ho : ∀ x, (cells x).all Value.oneCell' = true) {i : Nat} {x : α} (hi : i < d.size) :
    storeAt H id (i * w) (cells x) = some (H.set id ⟨(d.setIfInBounds i x).toList.flatMap cells, true, true⟩) ∧ Arr cells (H.set id ⟨(d.setIfInBounds i x).toList.flatMap cells, true, true⟩) id (d.setIfInBounds i x) := by
  have hle : i * w + w ≤ (d.toList.flatMap cells).length := by
    rw [flat_len hc, Array.length_toList, ← Nat.succ_mul]
    exact Nat.mul_le_mul_right w hi
  refine ⟨?_, List.getElem?_set_self h.lt⟩
  rw [storeAt_of h rfl rfl (by rw [hc]; exact hle) (ho x), flat_over hc (by simpa using hi)]
  simp

theorem same_set {H : Heap} {id : Nat} {b : Blk} : Same (fun j => j = id) H (H.set id b) := ⟨by simp, fun j hj hS => List.getElem?_set_ne (fun e => hS e.symm)⟩
theorem set_twice {H : Heap} {id : Nat} {b c : Blk} : (H.set id b).set id c = H.set id c := by simp

/-- 'data[i], data[j] = data[j], data[i]'. -/
theorem Arr.swap [Inhabited α] {H : Heap} {id : Nat} {d : Array α} (h : Arr cells H id d) (hc : ∀ x, (cells x).length = w) (ho : ∀ x, (cells x).all Value.oneCell' = true) {i j : Nat} (hi : i < d.size) (hj : j < d.size) :
    ∃ H1 H2, storeAt H id (i * w) (cells d[j]!) = some H1 ∧ storeAt H1 id (j * w) (cells d[i]!) = some H2 ∧ Arr cells H2 id (swp d i j) ∧ Same (fun k => k = id) H H2 ∧ H2.length = H.length := by
  obtain ⟨s1, a1⟩ := h.store hc ho (x := d[j]!) hi
  obtain ⟨s2, a2⟩ := a1.store hc ho (x := d[i]!) (i := j) (by simpa using hj)
  exact ⟨_, _, s1, s2, a2, same_set.trans (same_set (id := id)), by simp⟩

/-- Every element is such. -/
def QA (Q : α → Prop) [Inhabited α] (d : Array α) : Prop := ∀ k, k < d.size → Q d[k]!
theorem QA.swp [Inhabited α] {Q : α → Prop} {d : Array α} (h : QA Q d) {i j : Nat} (hi : i < d.size) (hj : j < d.size) : QA Q (swp d i j) := by
  intro k hk
  rw [Go.Sort.swp_size] at hk
  rw [Go.Sort.swp_get d hi hj]
  split
  · exact h _ hi
  · split
    · exact h _ hj
    · exact h _ hk

end

/-- A function value that compares two elements. -/
def Cmp {α : Type} (P : Program) (val : α → Value) (lt : α → α → Bool) (g : FuncId) (fs cs : List Value) (Q : α → Prop) (id : Nat) (H : Heap) : Prop :=
  ∀ (H' : Heap) (x y : α) (Post : Value → Heap → Prop), Same (fun k => k = id) H H' → Q x → Q y →
    (∀ (H'' : Heap) (c : Int), H' <+: H'' → decide (c < 0) = lt x y → Post (.int .i64 c) H'') → ACalls P g (fs ++ val x :: val y :: cs) H' Post
theorem Cmp.keep {α : Type} {P : Program} {val : α → Value} {lt : α → α → Bool} {g : FuncId} {fs cs : List Value} {Q : α → Prop} {id : Nat} {H H' : Heap} (h : Cmp P val lt g fs cs Q id H) (hs : Same (fun k => k = id) H H') : Cmp P val lt g fs cs Q id H' :=
  fun H2 x y Post h2 => h H2 x y Post (hs.trans h2)

end Go.Ab
end

section
/- CyclesOf: the specification's side. -/
set_option linter.all false
set_option maxRecDepth 20000
set_option maxHeartbeats 8000000
namespace Go.Proofs.Ytakkmkinfeddeaa
open Go.Ab

/-- Which points were met. -/
def metC (v : Nat) (met : List Nat) : List Value := (List.range v).map fun x => Value.bool (decide (x ∈ met))
theorem metC_length (v : Nat) (met : List Nat) : (metC v met).length = v := by simp [metC]
theorem metC_get {v : Nat} {met : List Nat} {x : Nat} (h : x < v) : (metC v met)[x]? = some (.bool (decide (x ∈ met))) := by simp [metC, h]
theorem metC_set {v : Nat} {met : List Nat} {x : Nat} (h : x < v) : (metC v met).set x (.bool true) = metC v (met ++ [x]) := by
  apply List.ext_getElem?
  intro k
  rw [List.getElem?_set]
  by_cases hk : k < v
  · rw [metC_get (met := met ++ [x]) hk]
    by_cases e : x = k
    · subst e
      rw [if_pos rfl, if_pos (by rw [metC_length]; exact hk), decide_eq_true (show x ∈ met ++ [x] by simp)]
    · rw [if_neg e, metC_get hk]
      have : k ≠ x := fun h => e h.symm
      simp [this]
  · rw [List.getElem?_eq_none (l := metC v (met ++ [x])) (by rw [metC_length]; omega)]
    split
    · rw [if_neg (by rw [metC_length]; omega)]
    · exact List.getElem?_eq_none (by rw [metC_length]; omega)
theorem madeB (v : Nat) : (madeCells #[Value.bool false] v).toList = metC v [] := by
  apply List.ext_getElem?
  intro k
  by_cases hk : k < v
  · rw [metC_get hk]; simp [madeCells, hk, Nat.mod_one]
  · rw [List.getElem?_eq_none (by simp [madeCells]; omega), List.getElem?_eq_none (by rw [metC_length]; omega)]

def altN (f g : Nat → Nat) (p k : Nat) : List Nat := (List.range k).map (alt f g p)
theorem altN_one (f g : Nat → Nat) (p k : Nat) : altN f g p (k + 1) = altN f g p k ++ [alt f g p k] := by unfold altN; rw [List.range_succ]; simp
theorem mem_altN {f g : Nat → Nat} {p k x : Nat} : x ∈ altN f g p k ↔ ∃ j, j < k ∧ alt f g p j = x := by simp [altN]
theorem metC_put {v : Nat} {met : List Nat} {x : Nat} (h : x < v) : (metC v met).take x ++ Value.bool true :: (metC v met).drop (x + 1) = metC v (met ++ [x]) := by
  rw [← metC_set h, List.set_eq_take_append_cons_drop, if_pos (by rw [metC_length]; exact h)]

theorem l03Cycles_ok {H : Heap} {u : Value} {v a b : Nat} {bs : List Bk} (hu : BlocksAt H u bs) (hS : IsSys v bs) (hf : fullB v bs = true) (hab : a ≠ b) (ha : a < v) (hb : b < v) (Post : Value → Heap → Prop)
    (h : ∀ H' w, H <+: H' → RowsIn H.length H'.length H' w (cycRows (thr bs a) (thr bs b) (upTo 0 v) [a, b, thr bs a b]) → Post w H') :
    ACalls Try.prog 84 [sysV v u, .int .i64 a, .int .i64 b] H Post := by
  have hT := turn_of hS hf hab ha hb
  obtain ⟨t1, t2, t3, t4, t5⟩ := thr_spec hS hf hab ha hb
  have hv := hS.1
  refine ACalls.res ?_
  refine acalls_vc (rs := [.tmp 6]) Try.func84 rfl rfl Try.ntmps84 rfl rfl ?_
  have hx0 := Holds.last H [.int .i64 v, u]
  obtain ⟨d0, d1, d2⟩ := hx0.sys
  have k1 : a + 1 ≤ v := by omega
  have k2 : b + 1 ≤ v := by omega
  have m1 := metC_put (met := []) ha
  have m2 := metC_put (met := [a]) hb
  simp only [List.nil_append, List.singleton_append] at m1 m2
  have hb1 : (v : Int) ≤ 281474976710656 ∧ (v : Int) ≤ 9223372036854775807 := by omega
  simp (maxSteps := 1000000) [go_sem, sysV, hu.one, d1, madeB, metC_length, k1, k2, m1, m2, ha, hb, hb1]
  have hp0 : H <+: H ++ [⟨[.int .i64 v, u], true, true⟩, ⟨metC v [a, b], true, true⟩, ⟨[], true, true⟩] := List.prefix_append _ _
  have hb0 : (H ++ [(⟨[.int .i64 v, u], true, true⟩ : Blk), ⟨metC v [a, b], true, true⟩, ⟨[], true, true⟩])[H.length + 1]? = some ⟨metC v [a, b], true, true⟩ := by simp
  have hx1 : Holds (H ++ [(⟨[.int .i64 v, u], true, true⟩ : Blk), ⟨metC v [a, b], true, true⟩, ⟨[], true, true⟩]) H.length [.int .i64 v, u] := ⟨true, by simp⟩
  have ho0 : (H ++ [(⟨[.int .i64 v, u], true, true⟩ : Blk), ⟨metC v [a, b], true, true⟩, ⟨[], true, true⟩])[H.length + 2]? = some ⟨[], true, true⟩ := by simp
  generalize H ++ [(⟨[.int .i64 v, u], true, true⟩ : Blk), ⟨metC v [a, b], true, true⟩, ⟨[], true, true⟩] = H0 at hp0 hb0 hx1 ho0 ⊢
  refine l01Third_ok (hu.pre hp0) hS.good15 _ ?_
  intro H1 hp1
  rw [t1]
  have hb1 := Same.get (S := fun _ => False) (Same.of_prefix hp1) hb0 (fun h => h)
  have hst1 : storeAt H1 (H.length + 1) (thr bs a b) [.bool true] = some (H1.set (H.length + 1) ⟨metC v [a, b, thr bs a b], true, true⟩) := by
    rw [storeAt_of hb1 rfl rfl (by simp [metC_length]; omega) (by simp [Value.oneCell'])]
    have := metC_put (met := [a, b]) t2
    simp only [over, List.length_singleton, List.append_assoc, List.singleton_append]
    rw [this]; rfl
  have hx2 := hx1.pre hp1
  have hlt1 := (List.getElem?_eq_some_iff.1 hb1).1
  have hsame1 : Same (fun j => j = H.length + 1) H1 (H1.set (H.length + 1) ⟨metC v [a, b, thr bs a b], true, true⟩) := ⟨by simp, fun j hj hS => List.getElem?_set_ne (fun e => hS e.symm)⟩
  have hb2 : (H1.set (H.length + 1) ⟨metC v [a, b, thr bs a b], true, true⟩)[H.length + 1]? = some ⟨metC v [a, b, thr bs a b], true, true⟩ := List.getElem?_set_self hlt1
  have ho2 := hsame1.get (Same.get (S := fun _ => False) (Same.of_prefix hp1) ho0 (fun h => h)) (by omega)
  have hpA : H <+: H1.set (H.length + 1) ⟨metC v [a, b, thr bs a b], true, true⟩ := ((Same.of_prefix (hp0.trans hp1)).trans hsame1).prefix (by intro j hj e; omega)
  have hx3 : Holds (H1.set (H.length + 1) ⟨metC v [a, b, thr bs a b], true, true⟩) H.length [.int .i64 v, u] := hx2.keepS hsame1 (by omega)
  have hbd0 : Build H (H1.set (H.length + 1) ⟨metC v [a, b, thr bs a b], true, true⟩) (H.length + 2) [] := Build.of_ol hpA ⟨rfl, .inr ho2⟩ (by omega)
  simp (maxSteps := 1000000) [go_sem, t2, hst1]
  generalize H1.set (H.length + 1) ⟨metC v [a, b, thr bs a b], true, true⟩ = HX at *
  obtain ⟨total, htot⟩ : ∃ x, x = cycRows (thr bs a) (thr bs b) (upTo 0 v) [a, b, thr bs a b] := ⟨_, rfl⟩
  refine AWp.loopVc (St := Nat × List Nat × Nat × List (Nat × List Int)) (fun s => [(1, .int .i64 a), (2, .int .i64 b), (3, .pointer (some ⟨H.length, 0, none⟩)), (7, .slice (some ⟨H.length + 1, 0, none⟩) v v), (8, lv 1 s.2.2.1 0 s.2.2.2.length), (9, .int .i64 s.1)])
    (fun s H' => s.1 ≤ v ∧ s.2.2.2.map (·.2) ++ cycRows (thr bs a) (thr bs b) (upTo s.1 v) s.2.1 = total ∧ Shut (thr bs a) (thr bs b) (cycS v bs a b) s.2.1 ∧ (a ∈ s.2.1 ∧ b ∈ s.2.1 ∧ thr bs a b ∈ s.2.1) ∧ s.2.2.2.length ≤ s.1 ∧ (s.2.2.2.map (·.2)).flatten.length ≤ 15 * s.1 ∧
      Build H H' s.2.2.1 s.2.2.2 ∧ H'[H.length + 1]? = some ⟨metC v s.2.1, true, true⟩ ∧ Holds H' H.length [.int .i64 v, u] ∧ H.length + 2 ≤ s.2.2.1 ∧ ∀ r ∈ s.2.2.2, H.length + 2 ≤ r.1) (fun s => v - s.1) (0, [a, b, thr bs a b], H.length + 2, []) ?_ ?_ ?_
  · simp [upF, Fr.get, Up.refl, Up.ex0]
  · refine ⟨by simp, by simp [htot], ?_, by simp, by simp, by simp, hbd0, hb2, hx3, by simp, by simp⟩
    intro x hx hn
    have hf1 := hT.fS x hx
    have hg1 := hT.gS x hx
    simp only [List.mem_cons, List.not_mem_nil, or_false, not_or]
    exact ⟨⟨hf1.2.1, hf1.2.2.1, hf1.2.2.2⟩, ⟨hg1.2.1, hg1.2.2.1, hg1.2.2.2⟩⟩
  · rintro K ⟨p, met, oid, rows⟩ H' ⟨hpv, hrows, hshut, hmem, hrl, hfl, hbd, hmet, hbox, hoid, hids⟩ hK
    simp only at hpv hrows hshut hmem hrl hfl hbd hmet hbox hoid hids
    obtain ⟨d0, d1, d2⟩ := hbox.sys
    by_cases hlt : p < v
    · have hw_p : IntKind.i64.wrap ((p : Int) + 1) = (p : Int) + 1 := i64w (by omega) (by omega)
      rw [upTo_cons hlt] at hrows
      have lm : cellsAt H' (H.length + 1) p 1 = some [.bool (decide (p ∈ met))] := by
        have := Holds.cell (H := H') ⟨true, hmet⟩ (metC_get (met := met) hlt)
        exact this
      by_cases hpm : p ∈ met
      · rw [cycRows_in hpm] at hrows
        have e : decide (p ∈ met) = true := decide_eq_true hpm
        rw [e] at lm
        simp (maxSteps := 1000000) [go_sem, hlt, d1, lm, hw_p]
        exact hK (p + 1, met, oid, rows) _ _ (by simp only; omega) (by simp [upF, Fr.get, Up.refl]) ⟨by simp only; omega, hrows, hshut, hmem, by simp only; omega, by simp only; omega, hbd, hmet, hbox, hoid, hids⟩
      · have hpS : cycS v bs a b p := ⟨hlt, fun e => hpm (e ▸ hmem.1), fun e => hpm (e ▸ hmem.2.1), fun e => hpm (e ▸ hmem.2.2)⟩
        rw [cycRows_out hpm] at hrows
        have e : decide (p ∈ met) = false := decide_eq_false hpm
        rw [e] at lm
        simp (maxSteps := 1000000) [go_sem, hlt, d1, lm]
        obtain ⟨⟨n2, ne, nb, nd⟩, nv⟩ := cycN_ok hT hpS (fun x hx => hx.1)
        rw [cycL_cast] at hrows
        have hcyl : cycL (thr bs a) (thr bs b) p = altN (thr bs a) (thr bs b) p (cycN (thr bs a) (thr bs b) p) := rfl
        have hshut2 := hshut.next hT hpS (fun x hx => hx.1)
        rw [hcyl] at hrows hshut2
        have hnotin := hshut.alt hT hpS hpm
        have hSk := alt_S hT hpS
        have hal := altL_length (thr bs a) (thr bs b) p (cycN (thr bs a) (thr bs b) p)
        generalize cycN (thr bs a) (thr bs b) p = n at *
        refine AWp.loopVc (St := Nat × Nat) (fun s => [(1, .int .i64 a), (2, .int .i64 b), (3, .pointer (some ⟨H.length, 0, none⟩)), (7, .slice (some ⟨H.length + 1, 0, none⟩) v v), (8, lv 1 oid 0 rows.length), (9, .int .i64 p), (10, lv 1 s.2 0 s.1), (11, .int .i64 (alt (thr bs a) (thr bs b) p s.1)), (12, .int .i64 (if s.1 % 2 = 0 then a else b))])
          (fun s H2 => s.1 ≤ n ∧ Same (fun j => j = H.length + 1) H' H2 ∧ OL 1 H2 s.2 (ints (altL (thr bs a) (thr bs b) p s.1)) s.1 ∧ H'.length ≤ s.2 ∧ H2[H.length + 1]? = some ⟨metC v (met ++ altN (thr bs a) (thr bs b) p s.1), true, true⟩) (fun s => n - s.1) (0, H'.length) ?_ ?_ ?_
        · simp [upF, Fr.get, Up.refl, Up.ex0, alt]
        · refine ⟨by simp, Same.of_prefix (List.prefix_append _ _), ⟨rfl, .inr (by simp [altL, ints])⟩, by simp, ?_⟩
          simp only [altN, List.range_zero, List.map_nil, List.append_nil]
          exact Same.get (S := fun _ => False) (Same.of_prefix (List.prefix_append _ _)) hmet (fun h => h)
        · rintro K2 ⟨k, cid⟩ H2 ⟨hk, hsm, hol, hcid, hmet2⟩ hK2
          simp only at hk hsm hol hcid hmet2
          have hx := hSk k
          have lk : cellsAt H2 (H.length + 1) (alt (thr bs a) (thr bs b) p k) 1 = some [.bool (decide (alt (thr bs a) (thr bs b) p k ∈ met ++ altN (thr bs a) (thr bs b) p k))] := Holds.cell (H := H2) ⟨true, hmet2⟩ (metC_get hx.1)
          have hbox2 : Holds H2 H.length [.int .i64 v, u] := hbox.keepS hsm (by omega)
          obtain ⟨d0, d1, d2⟩ := hbox2.sys
          by_cases hkn : k < n
          · have e : decide (alt (thr bs a) (thr bs b) p k ∈ met ++ altN (thr bs a) (thr bs b) p k) = false := by
              refine decide_eq_false ?_
              rw [List.mem_append, mem_altN]
              rintro (h1 | ⟨j, hj, e⟩)
              · exact hnotin k h1
              · exact nd j k hj hkn e
            rw [e] at lk
            have hx1 := hx.1
            have hmp := metC_put (v := v) (met := met ++ altN (thr bs a) (thr bs b) p k) hx.1
            have hst : storeAt H2 (H.length + 1) (alt (thr bs a) (thr bs b) p k) [.bool true] = some (H2.set (H.length + 1) ⟨metC v (met ++ altN (thr bs a) (thr bs b) p (k + 1)), true, true⟩) := by
              rw [storeAt_of hmet2 rfl rfl (by simp [metC_length]; omega) (by simp [Value.oneCell'])]
              simp only [over, List.length_singleton, List.append_assoc, List.singleton_append] at hmp ⊢
              rw [hmp, altN_one]
            have hlt2 := (List.getElem?_eq_some_iff.1 hmet2).1
            have hsX : Same (fun j => j = H.length + 1) H2 (H2.set (H.length + 1) ⟨metC v (met ++ altN (thr bs a) (thr bs b) p (k + 1)), true, true⟩) := ⟨by simp, fun j hj hS => List.getElem?_set_ne (fun e => hS e.symm)⟩
            have hmX : (H2.set (H.length + 1) ⟨metC v (met ++ altN (thr bs a) (thr bs b) p (k + 1)), true, true⟩)[H.length + 1]? = some ⟨metC v (met ++ altN (thr bs a) (thr bs b) p (k + 1)), true, true⟩ := List.getElem?_set_self hlt2
            have hH' : H.length + 1 < H'.length := (List.getElem?_eq_some_iff.1 hmet).1
            generalize H2.set (H.length + 1) ⟨metC v (met ++ altN (thr bs a) (thr bs b) p (k + 1)), true, true⟩ = HX at hst hsX hmX
            have holX := hol.keep hsX (by omega)
            obtain ⟨hsrc, H3, hap, hol3, hs3, hl3⟩ := holX.push (by omega) (xs := [.int .i64 (alt (thr bs a) (thr bs b) p k)]) rfl
            have hsm3 : Same (fun j => j = H.length + 1) H' H3 := (hsm.trans hsX).via hs3 (by intro j hj e; omega)
            have hm3 := hs3.get hmX (by omega)
            have hboxX : Holds HX H.length [.int .i64 v, u] := hbox2.keepS hsX (by omega)
            have hbox3 : Holds H3 H.length [.int .i64 v, u] := hboxX.keepS hs3 (by omega)
            obtain ⟨q0, q1, q2⟩ := hbox3.sys
            have hpH3 : H <+: H3 := ((Same.of_prefix (S := fun j => j = H.length + 1) hbd.pre).trans hsm3).prefix (by intro j hj e; omega)
            simp (maxSteps := 1000000) [go_sem, lk, hx.1, hst, hsrc, hap, q0]
            refine andK_intro (by omega) ?_
            refine l01Third_ok (p := v) (hu.pre hpH3) hS.good15 _ ?_
            intro H4 hp4
            have hthr : third bs (if k % 2 = 0 then (a : Int) else b) (alt (thr bs a) (thr bs b) p k : Nat) = ((alt (thr bs a) (thr bs b) p (k + 1) : Nat) : Int) := by
              simp only [alt]
              split
              · exact (thr_spec hS hf (Ne.symm hx.2.1) ha hx1).1
              · exact (thr_spec hS hf (Ne.symm hx.2.2.1) hb hx1).1
            rw [hthr]
            have w1 : IntKind.i64.wrap ((a : Int) + b) = (a : Int) + b := i64w (by omega) (by omega)
            have w2 : IntKind.i64.wrap ((a : Int) + b - (if k % 2 = 0 then (a : Int) else b)) = if (k + 1) % 2 = 0 then (a : Int) else b := by
              by_cases hk2 : k % 2 = 0
              · rw [if_pos hk2, if_neg (by omega), i64w (by omega) (by omega)]; omega
              · rw [if_neg hk2, if_pos (by omega), i64w (by omega) (by omega)]; omega
            simp (maxSteps := 1000000) [go_sem, w1, w2]
            have hs4 : Same (fun _ => False) H3 H4 := Same.of_prefix hp4
            refine hK2 (k + 1, HX.length + 1) _ _ (by simp only; omega) (by simp [upF, Fr.get, Up.refl]) ⟨by simp only; omega, hsm3.via hs4 (fun _ _ h => h.elim), ?_, ?_, ?_⟩
            · simp only
              rw [altL_one, ← ints_append]
              exact hol3.keep hs4 (fun h => h)
            · simp only
              have := hsm.1; have := hsX.1; omega
            · exact hs4.get hm3 (fun h => h)
          · have : k = n := by omega
            subst this
            have e : decide (alt (thr bs a) (thr bs b) p k ∈ met ++ altN (thr bs a) (thr bs b) p k) = true := by
              refine decide_eq_true ?_
              rw [List.mem_append, mem_altN]
              exact .inr ⟨0, by omega, by rw [nb]; rfl⟩
            rw [e] at lk
            have hH' : H.length + 1 < H'.length := (List.getElem?_eq_some_iff.1 hmet).1
            have holt := hbd.ol.lt
            have hal := altL_length (thr bs a) (thr bs b) p k
            have hbd2 : Build H H2 oid rows := hbd.keepS hsm (fun j e => by omega) (by omega) (fun r hr => by have := hids r hr; omega)
            obtain ⟨hsrc4, H5, hap5, hbd5, hsame5⟩ := hbd2.pushAt (rid := cid) (xs := altL (thr bs a) (thr bs b) p k) (by rw [hal]; exact hol) (by omega) (by omega) (fun r hr => by have := (hbd.ids r hr).2.1; omega)
            rw [hal] at hsrc4 hap5
            have hxk := hx.1
            simp (maxSteps := 1000000) [go_sem, lk, hx.1, hsrc4, hap5, hw_p]
            have hm5 := hsame5.get hmet2 (by omega)
            have hbox5 : Holds H5 H.length [.int .i64 v, u] := hbox2.keepS hsame5 (by omega)
            refine andK_intro (by omega) (hK (p + 1, met ++ altN (thr bs a) (thr bs b) p k, H2.length + 1, rows ++ [(cid, altL (thr bs a) (thr bs b) p k)]) _ _ (by simp only; omega) (by simp [upF, Fr.get, Up.refl]) ⟨by simp only; omega, by simpa using hrows, hshut2, ⟨by simp [hmem.1], by simp [hmem.2.1], by simp [hmem.2.2]⟩, by simp only [List.length_append, List.length_singleton]; omega, ?_, hbd5, hm5, hbox5, ?_, ?_⟩)
            · simp only [List.map_append, List.flatten_append, List.length_append, List.map_cons, List.map_nil, List.flatten_cons, List.flatten_nil, List.append_nil, hal]
              omega
            · simp only
              have := hsm.1; omega
            · simp only
              intro r hr
              rcases List.mem_append.1 hr with hr | hr
              · exact hids r hr
              · simp at hr; subst hr; simp only; omega
    · have : p = v := by omega
      subst this
      have e0 : upTo p p = [] := upTo_self (Nat.le_refl _)
      rw [e0] at hrows
      simp only [cycRows, cycAll, List.map_nil, List.append_nil] at hrows
      simp (maxSteps := 1000000) [go_sem, d1]
      refine ⟨_, Up.refl _ _, h H' _ hbd.pre ?_⟩
      have := hbd.inn (by omega) (by omega)
      rw [hrows, htot] at this
      exact this

end Go.Proofs.Ytakkmkinfeddeaa
end

section
/- CyclesOf: the specification's side, whole. -/
set_option linter.all false
set_option maxRecDepth 20000
set_option maxHeartbeats 4000000
namespace Go.Proofs.Ytakkmkinfeddeaa
open Go.Ab

theorem specCyclesOf_ok {H : Heap} {u : Value} {p a b : Int} {bs : List Bk} (hu : BlocksAt H u bs) (hl : bs.length ≤ 1048576) (ha : In64 a) (hb : In64 b) (Post : Value → Heap → Prop)
    (h : ∀ H' w, H <+: H' → RowsIn H.length H'.length H' w (rCyc p bs a b).1 → Post (.tuple #[w, .int .i64 (rCyc p bs a b).2]) H') :
    ACalls Try.prog 22 [sysV p u, .int .i64 a, .int .i64 b] H Post := by
  refine ACalls.res ?_
  refine acalls_vc (rs := [.tmp 6, .tmp 7]) Try.func22 rfl rfl Try.ntmps22 rfl rfl ?_
  simp (maxSteps := 1000000) [go_sem, sysV, hu.one]
  have hp0 : H <+: H ++ [⟨[.int .i64 p, u], true, true⟩] := List.prefix_append _ _
  have hx0 := Holds.last H [.int .i64 p, u]
  generalize H ++ [(⟨[.int .i64 p, u], true, true⟩ : Blk)] = H0 at hp0 hx0 ⊢
  have bad : ∀ (H' : Heap) (c : Int), H <+: H' → rCyc p bs a b = ([], c) → ∃ v', Up H' (.tuple #[.slice none 0 0, .int .i64 c]) v' ∧ Post v' H' := by
    intro H' c hp hr
    refine ⟨_, Up.tuple (ys := #[lv 1 0 0 0, .int .i64 c]) ⟨Up.nil _ _ _ _, Up.refl _ _, trivial⟩, ?_⟩
    have := h H' (lv 1 0 0 0) hp (by rw [hr]; exact RowsIn.nil _ _ _)
    rwa [hr] at this
  refine l03Code_ok (hu.pre hp0) hl ha hb _ ?_
  intro H1 hp1
  obtain ⟨d0, d1, d2⟩ := (hx0.pre hp1).sys
  by_cases hc : pairCode p bs a b = 0
  · obtain ⟨hS, ⟨ha0, ha1⟩, ⟨hb0, hb1⟩, hab⟩ := pairCode_good hc
    have hp := hS.1
    cases hf : fullB p bs with
    | false =>
      have e : cCode p bs a b = 5 := by simp [cCode, hc, hf]
      simp (maxSteps := 1000000) [go_sem, e]
      exact bad H1 5 (hp0.trans hp1) (by simp [rCyc, hc, hf])
    | true =>
      have e : cCode p bs a b = 0 := by simp [cCode, hc, hf]
      obtain ⟨v, rfl⟩ : ∃ n : Nat, p = n := ⟨p.toNat, by omega⟩
      obtain ⟨x, rfl⟩ : ∃ n : Nat, a = n := ⟨a.toNat, by omega⟩
      obtain ⟨y, rfl⟩ : ∃ n : Nat, b = n := ⟨b.toNat, by omega⟩
      simp (maxSteps := 1000000) [go_sem, e, d0]
      refine l03Cycles_ok (hu.pre (hp0.trans hp1)) hS hf (by omega) (by omega) (by omega) _ ?_
      intro H4 w hp4 hw
      have hpre := hp0.trans hp1
      have hr : rCyc v bs x y = (cycRows (thr bs x) (thr bs y) (upTo 0 v) [x, y, thr bs x y], 0) := by simp [rCyc, hc, hf]
      have fin := h H4 w (hpre.trans hp4) (by rw [hr]; exact hw.wider hpre.length_le)
      rw [hr] at fin
      simp (maxSteps := 1000000) [go_sem, hp4]
      exact ⟨_, Up.refl _ _, fin⟩
  · have e : cCode p bs a b = pairCode p bs a b := by simp [cCode, hc]
    have hc2 : (pairCode p bs a b != 0) = true := by simpa using hc
    simp (maxSteps := 1000000) [go_sem, e, hc2]
    exact bad H1 _ (hp0.trans hp1) (by simp [rCyc, hc])

end Go.Proofs.Ytakkmkinfeddeaa
end

section
/- Sorting numbers: the specification's side. -/
set_option linter.all false
set_option maxRecDepth 20000
set_option maxHeartbeats 4000000
namespace Go.Proofs.Ytakkmkinfeddeaa
open Go.Ab

/-- A number put into numbers, from the end on. -/
def insRevI (x : Int) : List Int → List Int
  | [] => [x]
  | y :: l => if x < y then y :: insRevI x l else x :: y :: l
def insI (x : Int) (l : List Int) : List Int := (insRevI x l.reverse).reverse
def sortI (xs : List Int) : List Int := xs.foldl (fun l x => insI x l) []
theorem insRevI_append {x : Int} {B : List Int} (hB : ∀ y l, B = y :: l → ¬ x < y) : ∀ {A : List Int}, (∀ y ∈ A, x < y) → insRevI x (A ++ B) = A ++ x :: B
  | [], _ => by
    cases B with
    | nil => rfl
    | cons y l => simp [insRevI, hB y l rfl]
  | y :: A, h => by
    simp only [List.cons_append, insRevI, h y List.mem_cons_self, if_true]
    rw [insRevI_append hB fun z hz => h z (List.mem_cons_of_mem _ hz)]
theorem insI_at {x : Int} {l : List Int} {k : Nat} (hk : k ≤ l.length) (h1 : ∀ y ∈ l.drop k, x < y) (h2 : ∀ (r : Nat) (y : Int), k = r + 1 → l[r]? = some y → ¬ x < y) : insI x l = l.take k ++ x :: l.drop k := by
  unfold insI
  conv => lhs; rw [← List.take_append_drop k l]
  rw [List.reverse_append, insRevI_append (B := (l.take k).reverse) ?_ (fun y hy => h1 y (by simpa using hy))]
  · simp
  · intro y t e
    cases k with
    | zero => simp at e
    | succ r =>
      have hr : r < l.length := by omega
      have e2 : (l.take (r + 1)).reverse = l[r] :: (l.take r).reverse := by rw [List.take_succ_eq_append_getElem hr]; simp
      rw [e2] at e
      cases e
      exact h2 r _ rfl (List.getElem?_eq_getElem hr)
theorem insRevI_perm (x : Int) : ∀ l : List Int, (insRevI x l).Perm (x :: l)
  | [] => List.Perm.refl _
  | y :: l => by
    simp only [insRevI]
    split
    · exact ((insRevI_perm x l).cons y).trans (List.Perm.swap x y l)
    · exact List.Perm.refl _
theorem insI_perm (x : Int) (l : List Int) : (insI x l).Perm (x :: l) := by
  unfold insI
  exact ((List.reverse_perm _).trans (insRevI_perm x _)).trans ((List.reverse_perm l).cons x)
theorem sortI_snoc (xs : List Int) (x : Int) : sortI (xs ++ [x]) = insI x (sortI xs) := by simp [sortI, List.foldl_append]
theorem sortI_perm : ∀ (n : Nat) (xs : List Int), xs.length = n → (sortI xs).Perm xs
  | 0, xs, h => by have := List.eq_nil_of_length_eq_zero h; subst this; exact List.Perm.refl _
  | n + 1, xs, h => by
    have hne : xs ≠ [] := by rintro rfl; simp at h
    have e := List.dropLast_concat_getLast hne
    rw [← e, sortI_snoc]
    refine (insI_perm _ _).trans ?_
    refine ((sortI_perm n _ (by simp [h])).cons _).trans ?_
    exact (List.perm_append_singleton _ _).symm
theorem sortI_length (xs : List Int) : (sortI xs).length = xs.length := (sortI_perm _ xs rfl).length_eq
theorem insRevI_sorted (x : Int) : ∀ {l : List Int}, l.Pairwise (fun a b => b ≤ a) → (insRevI x l).Pairwise (fun a b => b ≤ a)
  | [], _ => by simp [insRevI]
  | y :: l, h => by
    rw [List.pairwise_cons] at h
    simp only [insRevI]
    split
    · rename_i hb
      rw [List.pairwise_cons]
      refine ⟨fun z hz => ?_, insRevI_sorted x h.2⟩
      rcases List.mem_cons.1 ((insRevI_perm x l).mem_iff.1 hz) with rfl | hz
      · omega
      · exact h.1 z hz
    · rename_i hb
      rw [List.pairwise_cons]
      refine ⟨fun z hz => ?_, List.pairwise_cons.2 h⟩
      rcases List.mem_cons.1 hz with rfl | hz
      · omega
      · have := h.1 z hz; omega
theorem insI_sorted (x : Int) {l : List Int} (h : l.Pairwise (fun a b => a ≤ b)) : (insI x l).Pairwise (fun a b => a ≤ b) := by
  unfold insI
  rw [List.pairwise_reverse]
  exact insRevI_sorted x (List.pairwise_reverse.2 h)
theorem sortI_sorted : ∀ (n : Nat) (xs : List Int), xs.length = n → (sortI xs).Pairwise (fun a b => a ≤ b)
  | 0, xs, h => by have := List.eq_nil_of_length_eq_zero h; subst this; exact List.Pairwise.nil
  | n + 1, xs, h => by
    have hne : xs ≠ [] := by rintro rfl; simp at h
    rw [← List.dropLast_concat_getLast hne, sortI_snoc]
    exact insI_sorted _ (sortI_sorted n _ (by simp [h]))

/-- Descending. -/
def descI (xs : List Int) : List Int := (sortI (xs.map fun x => -x)).map fun x => -x
theorem descI_length (xs : List Int) : (descI xs).length = xs.length := by unfold descI; rw [List.length_map, sortI_length, List.length_map]
theorem neg_neg_map (xs : List Int) : (xs.map fun x => -x).map (fun x => -x) = xs := by
  rw [List.map_map]
  conv => rhs; rw [← List.map_id xs]
  apply List.map_congr_left
  intro x _
  simp
theorem descI_perm (xs : List Int) : (descI xs).Perm xs := by
  have := (sortI_perm _ (xs.map fun x => -x) rfl).map (fun x : Int => -x)
  rw [neg_neg_map] at this
  exact this
theorem descI_sorted (xs : List Int) : (descI xs).Pairwise (fun a b => b ≤ a) := by
  unfold descI
  rw [List.pairwise_map]
  exact (sortI_sorted _ _ rfl).imp fun h => by omega
theorem desc_uniq {xs l : List Int} (hp : l.Perm xs) (hs : l.Pairwise (fun a b => b ≤ a)) : l = descI xs := by
  refine (hp.trans (descI_perm xs).symm).eq_of_pairwise ?_ hs (descI_sorted xs)
  intro x y _ _ h1 h2
  omega

theorem storeI {H : Heap} {id : Nat} {ys : List Int} {s : Nat} {y : Int} (hb : H[id]? = some ⟨ints ys, true, true⟩) (hs : s < ys.length) : storeAt H id s [.int .i64 y] = some (H.set id ⟨ints (ys.set s y), true, true⟩) := by
  rw [storeAt_of hb rfl rfl (by rw [ints_length]; simp; omega) (by simp [Value.oneCell'])]
  congr 3
  rw [← ints_set, List.set_eq_take_append_cons_drop, if_pos (by rw [ints_length]; exact hs)]
  simp [over]

theorem l03Asc_ok {H : Heap} {u : Value} {bs : List Int} (hu : IntsAt H u bs) (hl : bs.length ≤ 1048576) (Post : Value → Heap → Prop)
    (h : ∀ (H' : Heap) (id : Nat), H <+: H' → H.length ≤ id → OL 1 H' id (ints (sortI bs)) bs.length → Post (lv 1 id 0 bs.length) H') : ACalls Try.prog 187 [u] H Post := by
  obtain ⟨i, o, rfl, h1, h2⟩ := hu
  refine ACalls.res ?_
  refine acalls_vc (rs := [.tmp 2]) Try.func187 rfl rfl Try.ntmps187 rfl rfl ?_
  simp (maxSteps := 1000000) [go_sem]
  refine AWp.loopVc (St := Nat × Nat) (fun s => [(0, lv 1 i o bs.length), (3, lv 1 s.2 0 s.1), (4, .int .i64 s.1)])
    (fun s H' => s.1 ≤ bs.length ∧ Bl 1 H H' s.2 (ints (sortI (bs.take s.1))) s.1) (fun s => bs.length - s.1) (0, H.length) ?_ ?_ ?_
  · simp [upF, Fr.get, Up.refl, Up.ex0]
  · exact ⟨by simp, by simpa [sortI, ints] using Bl.nil 1 H⟩
  · rintro K ⟨s, id⟩ H' ⟨hs, hbl⟩ hK
    simp only at hs hbl
    by_cases hlt : s < bs.length
    · have c1 := (h1.pre hbl.1).cell (k := s) (v := .int .i64 bs[s]) (by simp [ints_get, hlt])
      have hw_s : IntKind.i64.wrap ((s : Int) + 1) = (s : Int) + 1 := i64w (by omega) (by omega)
      obtain ⟨hsrc, H4, hap, hbl4⟩ := hbl.push (xs := [.int .i64 bs[s]]) (by omega) rfl
      have hll : (sortI (bs.take s)).length = s := by rw [sortI_length]; simp; omega
      have hsn : sortI (bs.take (s + 1)) = insI bs[s] (sortI (bs.take s)) := by rw [List.take_succ_eq_append_getElem hlt, sortI_snoc]
      have cxx : ∀ {H2 : Heap}, H <+: H2 → cellsAt H2 i (o + s) 1 = some [.int .i64 bs[s]] := fun hp => (h1.pre hp).cell (k := s) (v := .int .i64 bs[s]) (by simp [ints_get, hlt])
      obtain ⟨l, hl0⟩ : ∃ l, l = sortI (bs.take s) := ⟨_, rfl⟩
      obtain ⟨x, hx⟩ : ∃ x, x = bs[s] := ⟨_, rfl⟩
      rw [← hl0] at hll hsn hbl4
      rw [← hx] at c1 hsn hbl4 hap hsrc
      simp only [← hx] at cxx
      have hid4 : H4[H'.length + 1]? = some ⟨ints (l ++ [x]), true, true⟩ := by
        rcases hbl4.2.1.2 with ⟨h0, _⟩ | hb
        · omega
        · rw [hb, ← ints_append]; rfl
      have hge : H.length ≤ H'.length + 1 := hbl4.2.2
      simp (maxSteps := 1000000) [go_sem, hlt, c1, hsrc, hap]
      refine andK_intro (by omega) ?_
      obtain ⟨nid, hnid⟩ : ∃ nid, nid = H'.length + 1 := ⟨_, rfl⟩
      rw [← hnid] at hid4 hge ⊢
      refine AWp.loopVc (St := Nat × List Int) (fun t => [(0, lv 1 i o bs.length), (3, lv 1 nid 0 (s + 1)), (4, .int .i64 s), (5, .int .i64 t.1)])
        (fun t H2 => t.1 ≤ s ∧ t.2.length = s + 1 ∧ H <+: H2 ∧ H2[nid]? = some ⟨ints t.2, true, true⟩ ∧ t.2.take t.1 = l.take t.1 ∧ t.2.drop (t.1 + 1) = l.drop t.1 ∧ ∀ y ∈ l.drop t.1, x < y) (fun t => t.1) (s, l ++ [x]) ?_ ?_ ?_
      · simp [upF, Fr.get, Up.refl]
      · refine ⟨by simp, by simp [hll], hbl4.1, hid4, ?_, ?_, ?_⟩
        · simp only; rw [List.take_append_of_le_length (by omega)]
        · simp only; rw [List.drop_eq_nil_of_le (by simp; omega), List.drop_eq_nil_of_le (by omega)]
        · simp only; rw [List.drop_eq_nil_of_le (by omega)]; simp
      · rintro K2 ⟨at_, ys⟩ H2 ⟨hat, hyl, hp2, hb2, htk, hdr, hbf⟩ hK2
        simp only at hat hyl hp2 hb2 htk hdr hbf
        have cx := cxx hp2
        have fin : (∀ (r : Nat) (y : Int), at_ = r + 1 → l[r]? = some y → ¬ x < y) →
            storeAt H2 nid at_ [.int .i64 x] = some (H2.set nid ⟨ints (ys.set at_ x), true, true⟩) ∧ Bl 1 H (H2.set nid ⟨ints (ys.set at_ x), true, true⟩) nid (ints (sortI (bs.take (s + 1)))) (s + 1) := by
          intro hstop
          have hlt3 := (List.getElem?_eq_some_iff.1 hb2).1
          refine ⟨storeI hb2 (by omega), ?_, ⟨?_, .inr ?_⟩, hge⟩
          · have hsame : Same (fun j => j = nid) H2 (H2.set nid ⟨ints (ys.set at_ x), true, true⟩) := ⟨by simp, fun j hj hS => List.getElem?_set_ne (fun e => hS e.symm)⟩
            exact ((Same.of_prefix hp2).trans hsame).prefix (by intro j hj e; omega)
          · rw [ints_length, sortI_length]; simp; omega
          · rw [List.getElem?_set_self hlt3, hsn, insI_at (k := at_) (by omega) hbf hstop]
            have e : ys.set at_ x = l.take at_ ++ x :: l.drop at_ := by
              rw [List.set_eq_take_append_cons_drop, if_pos (by omega), htk, hdr]
            rw [e]
        have hats : at_ < s + 1 := by omega
        have hats' : (at_ : Int) < (s : Int) + 1 := by omega
        by_cases h0 : at_ = 0
        · subst h0
          obtain ⟨hst, hb5⟩ := fin (by intro r y e; omega)
          refine AWp.draw mixed [(0, false), (1, false), (2, false), (3, false), (4, false), (5, false), (6, false), (7, false), (8, false), (9, false), (10, false), (11, false), (12, false), (13, false)] (by kernel_rfl) ?_
          simp (maxSteps := 1000000) [go_sem, undef, hlt, cx, hst, hw_s]
          exact hK (s + 1, nid) _ _ (by simp only; omega) (by simp [upF, Fr.get, Up.refl]) ⟨by simp only; omega, hb5⟩
        · obtain ⟨r, rfl⟩ : ∃ r, at_ = r + 1 := ⟨at_ - 1, by omega⟩
          have hrl : r < l.length := by omega
          obtain ⟨y, hy⟩ : ∃ y, l[r]? = some y := ⟨l[r], List.getElem?_eq_getElem hrl⟩
          have hyr : ys[r]? = some y := by
            have := congrArg (fun z : List Int => z[r]?) htk
            simp only [List.getElem?_take, if_pos (show r < r + 1 by omega)] at this
            rw [this]; exact hy
          have cy : cellsAt H2 nid r 1 = some [.int .i64 y] := by
            have hat3 : At H2 nid 0 (ints ys) := Holds.at ⟨true, hb2⟩
            have := hat3.cell (k := r) (v := .int .i64 y) (by rw [ints_get, hyr]; rfl)
            rwa [Nat.zero_add] at this
          have hr1 : r < s + 1 := by omega
          have hr2 : r < s := by omega
          have hr3 : (r : Int) < (s : Int) + 1 := by omega
          have hr4 : (r : Int) < (s : Int) := by omega
          have hr5 : (0 : Int) < (r : Int) + 1 := by omega
          have hr6 : (0 : Int) ≤ (r : Int) + 1 := by omega
          have hwr : IntKind.i64.wrap (r : Int) = (r : Int) := i64w (by omega) (by omega)
          by_cases hbxy : x < y
          · have hst := storeI (s := r + 1) (y := y) hb2 (by omega)
            have hlt3 := (List.getElem?_eq_some_iff.1 hb2).1
            refine AWp.draw mixed [(0, false), (1, false), (2, false), (3, false), (4, false), (5, false), (6, false), (7, false), (8, false), (9, false), (10, false), (11, false), (12, false), (13, false)] (by kernel_rfl) ?_
            simp (maxSteps := 1000000) [go_sem, hlt, cx, cy, hr1, hr2, hr3, hr4, hr5, hr6, hwr, hbxy, hst]
            refine hK2 (r, ys.set (r + 1) y) _ _ (by simp only; omega) (by simp [upF, Fr.get, Up.refl]) ⟨by simp only; omega, by simp [hyl], ?_, ?_, ?_, ?_, ?_⟩
            · have hsame : Same (fun j => j = nid) H2 (H2.set nid ⟨ints (ys.set (r + 1) y), true, true⟩) := ⟨by simp, fun j hj hS => List.getElem?_set_ne (fun e => hS e.symm)⟩
              exact ((Same.of_prefix hp2).trans hsame).prefix (by intro j hj e; omega)
            · simp only; rw [List.getElem?_set_self hlt3]
            · simp only
              have := congrArg (List.take r) htk
              rw [List.take_take, List.take_take, Nat.min_eq_left (by omega)] at this
              rw [List.take_set_of_le (by omega)]; exact this
            · simp only
              rw [List.drop_eq_getElem_cons (by simp; omega), List.getElem_set_self, List.drop_set_of_lt (by omega), hdr]
              rw [List.drop_eq_getElem_cons hrl]
              congr 1
              rw [List.getElem?_eq_getElem hrl] at hy; exact (Option.some.inj hy).symm
            · simp only
              intro z hz
              rw [List.drop_eq_getElem_cons hrl] at hz
              rcases List.mem_cons.1 hz with rfl | hz
              · rw [List.getElem?_eq_getElem hrl] at hy; rw [Option.some.inj hy]; exact hbxy
              · exact hbf z hz
          · obtain ⟨hst, hb5⟩ := fin (by
              intro r' y' e hy'
              have : r' = r := by omega
              subst this; rw [hy] at hy'; cases hy'; exact hbxy)
            refine AWp.draw mixed [(0, false), (1, false), (2, false), (3, false), (4, false), (5, false), (6, false), (7, false), (8, false), (9, false), (10, false), (11, false), (12, false), (13, false)] (by kernel_rfl) ?_
            simp (maxSteps := 1000000) [go_sem, hlt, cx, cy, hr1, hr2, hr3, hr4, hr5, hr6, hwr, hbxy, hst, hw_s]
            exact hK (s + 1, nid) _ _ (by simp only; omega) (by simp [upF, Fr.get, Up.refl]) ⟨by simp only; omega, hb5⟩
    · have : s = bs.length := by omega
      subst this
      simp (maxSteps := 1000000) [go_sem]
      rw [List.take_length] at hbl
      exact ⟨_, Up.refl _ _, h H' id hbl.1 hbl.2.2 hbl.2.1⟩

end Go.Proofs.Ytakkmkinfeddeaa
end

section
/- Types of pairs of points: the specification's side. -/
set_option linter.all false
set_option maxRecDepth 20000
set_option maxHeartbeats 8000000
namespace Go.Proofs.Ytakkmkinfeddeaa
open Go.Ab

/-- The lengths of the cycles of two points. -/
noncomputable def cycLens (v a b : Nat) (bs : List Bk) : List Int := (cycRows (thr bs a) (thr bs b) (upTo 0 v) [a, b, thr bs a b]).map fun r => (r.length : Int)
theorem rows_count (f g : Nat → Nat) : ∀ (ps met : List Nat), (cycRows f g ps met).length ≤ ps.length
  | [], _ => by simp [cycRows, cycAll]
  | p :: ps, met => by
    by_cases h : p ∈ met
    · rw [cycRows_in h]; have := rows_count f g ps met; simp; omega
    · rw [cycRows_out h]; have := rows_count f g ps (met ++ cycL f g p); simp; omega
theorem cycLens_len (v a b : Nat) (bs : List Bk) : (cycLens v a b bs).length ≤ v := by
  unfold cycLens
  rw [List.length_map]
  have := rows_count (thr bs a) (thr bs b) (upTo 0 v) [a, b, thr bs a b]
  rw [upTo_length] at this
  omega

theorem row_at {H : Heap} {u : Value} {xss : List (List Int)} {k : Nat} (h : IntssAt H u xss) (hk : k < xss.length) : ∃ i o, u = lv 1 i o xss.length ∧ ∀ {H' : Heap}, H <+: H' → ∃ i' o', cellsAt H' i (o + k) 1 = some [lv 1 i' o' xss[k].length] ∧ IntsAt H' (lv 1 i' o' xss[k].length) xss[k] := by
  obtain ⟨i, o, vs, h1, h2, h3, h4, h5⟩ := h
  refine ⟨i, o, h1, fun hp => ?_⟩
  have hv : vs[k]? = some (vs[k]'(by omega)) := List.getElem?_eq_getElem (by omega)
  obtain ⟨i', o', e1, e2, e3⟩ := h4 k _ xss[k] hv (List.getElem?_eq_getElem hk)
  have c := (h3.pre hp).cell hv
  rw [e1] at c
  exact ⟨i', o', c, i', o', rfl, e2.pre hp, e3⟩

theorem l03Type_ok {H : Heap} {u : Value} {v a b : Nat} {bs : List Bk} (hu : BlocksAt H u bs) (hS : IsSys v bs) (hf : fullB v bs = true) (hab : a ≠ b) (ha : a < v) (hb : b < v) (Post : Value → Heap → Prop)
    (h : ∀ H' w, H <+: H' → IntsIn H.length H'.length H' w (descI (cycLens v a b bs)) → Post w H') :
    ACalls Try.prog 141 [sysV v u, .int .i64 a, .int .i64 b] H Post := by
  have hv := hS.1
  have hlen := cycLens_len v a b bs
  refine ACalls.res ?_
  refine acalls_vc (rs := [.tmp 6]) Try.func141 rfl rfl Try.ntmps141 rfl rfl ?_
  simp (maxSteps := 1000000) [go_sem, sysV, hu.one]
  have hp0 : H <+: H ++ [⟨[.int .i64 v, u], true, true⟩] := List.prefix_append _ _
  have hx0 := Holds.last H [.int .i64 v, u]
  generalize H ++ [(⟨[.int .i64 v, u], true, true⟩ : Blk)] = H0 at hp0 hx0 ⊢
  refine l03Cycles_ok (hu.pre hp0) hS hf hab ha hb _ ?_
  intro H1 w hp1 hw
  have hr := hw.read
  obtain ⟨xss, hxss⟩ : ∃ x, x = cycRows (thr bs a) (thr bs b) (upTo 0 v) [a, b, thr bs a b] := ⟨_, rfl⟩
  have hcl : cycLens v a b bs = xss.map fun r => (r.length : Int) := by rw [hxss]; rfl
  rw [← hxss] at hr hw
  rw [hcl] at h hlen
  have hxl : xss.length ≤ v := by simpa using hlen
  obtain ⟨i, o, ew, hrow⟩ : ∃ i o, w = lv 1 i o xss.length ∧ ∀ k, (hk : k < xss.length) → ∀ {H' : Heap}, H1 <+: H' → ∃ i' o', cellsAt H' i (o + k) 1 = some [lv 1 i' o' xss[k].length] ∧ IntsAt H' (lv 1 i' o' xss[k].length) xss[k] := by
    obtain ⟨i, o, vs, h1, h2, h3, h4, h5⟩ := hr
    refine ⟨i, o, h1, fun k hk H' hp => ?_⟩
    have hv : vs[k]? = some (vs[k]'(by omega)) := List.getElem?_eq_getElem (by omega)
    obtain ⟨i', o', e1, e2, e3⟩ := h4 k _ xss[k] hv (List.getElem?_eq_getElem hk)
    have c := (h3.pre hp).cell hv
    rw [e1] at c
    exact ⟨i', o', c, i', o', rfl, e2.pre hp, e3⟩
  subst ew
  have hsz : ∀ k, (hk : k < xss.length) → xss[k].length ≤ 140737488355328 := fun k hk => by
    obtain ⟨i', o', _, _, _, _, _, h5⟩ := hrow k hk (List.prefix_refl _)
    exact h5
  simp (maxSteps := 1000000) [go_sem]
  refine AWp.loopVc (St := Nat × Nat) (fun s => [(7, lv 1 i o xss.length), (8, lv 1 s.2 0 s.1), (9, .int .i64 s.1)])
    (fun s H' => s.1 ≤ xss.length ∧ Bl 1 H1 H' s.2 (ints ((xss.take s.1).map fun r => -(r.length : Int))) s.1) (fun s => xss.length - s.1) (0, H1.length) ?_ ?_ ?_
  · simp [upF, Fr.get, Up.refl, Up.ex0]
  · exact ⟨by simp, by simpa [ints] using Bl.nil 1 H1⟩
  · rintro K ⟨s, id⟩ H' ⟨hs, hbl⟩ hK
    simp only at hs hbl
    by_cases hlt : s < xss.length
    · obtain ⟨i', o', c1, _⟩ := hrow s hlt hbl.1
      have hz := hsz s hlt
      have hw_s : IntKind.i64.wrap ((s : Int) + 1) = (s : Int) + 1 := i64w (by omega) (by omega)
      have hsn : (xss.take (s + 1)).map (fun r => -(r.length : Int)) = (xss.take s).map (fun r => -(r.length : Int)) ++ [-(xss[s].length : Int)] := by rw [List.take_succ_eq_append_getElem hlt, List.map_append]; rfl
      generalize xss[s].length = m at *
      have wm : IntKind.i64.wrap (-(m : Int)) = -(m : Int) := i64w (by omega) (by omega)
      obtain ⟨hsrc, H4, hap, hbl4⟩ := hbl.push (xs := [.int .i64 (-(m : Int))]) (by omega) rfl
      rw [show ints ((xss.take s).map fun r => -(r.length : Int)) ++ [Value.int .i64 (-(m : Int))] = ints ((xss.take (s + 1)).map fun r => -(r.length : Int)) by rw [hsn, ← ints_append]; rfl] at hbl4
      simp (maxSteps := 1000000) [go_sem, hlt, c1, wm, hsrc, hap, hw_s]
      exact andK_intro (by omega) (hK (s + 1, H'.length + 1) _ _ (by simp only; omega) (by simp [upF, Fr.get, Up.refl]) ⟨by simp only; omega, hbl4⟩)
    · have : s = xss.length := by omega
      subst this
      rw [List.take_length] at hbl
      have hints : IntsAt H' (lv 1 id 0 xss.length) (xss.map fun r => -(r.length : Int)) := ⟨id, 0, by simp, hbl.2.1.at, by simp; omega⟩
      simp (maxSteps := 1000000) [go_sem]
      refine l03Asc_ok hints (by simp; omega) _ ?_
      intro H2 nid hp2 hnid hol
      simp only [List.length_map] at hol ⊢
      obtain ⟨ys, hys⟩ : ∃ ys, ys = sortI (xss.map fun r => -(r.length : Int)) := ⟨_, rfl⟩
      have hyl : ys.length = xss.length := by rw [hys, sortI_length, List.length_map]
      rw [← hys] at hol
      have hdesc : descI (xss.map fun r => (r.length : Int)) = ys.map fun x => -x := by
        unfold descI
        rw [hys, List.map_map]; rfl
      have hyb : ∀ y ∈ ys, -140737488355328 ≤ y ∧ y ≤ 0 := by
        intro y hy
        rw [hys] at hy
        have := (sortI_perm _ (xss.map fun r => -(r.length : Int)) rfl).mem_iff.1 hy
        obtain ⟨r, hr, rfl⟩ := List.mem_map.1 this
        obtain ⟨k, hk, rfl⟩ := List.mem_iff_getElem.1 hr
        have := hsz k hk
        omega
      simp (maxSteps := 1000000) [go_sem]
      refine AWp.loopVc (St := Nat) (fun t => [(8, lv 1 nid 0 xss.length), (10, .int .i64 t)])
        (fun t H3 => t ≤ xss.length ∧ Same (fun k => k = nid) H2 H3 ∧ OL 1 H3 nid (ints ((ys.take t).map (fun x => -x) ++ ys.drop t)) xss.length) (fun t => xss.length - t) 0 ?_ ?_ ?_
      · simp [upF, Fr.get, Up.refl]
      · exact ⟨by omega, Same.refl _ _, by simpa using hol⟩
      · rintro K2 t H3 ⟨ht, hs3, hol3⟩ hK2
        by_cases hlt : t < xss.length
        · have hw_t : IntKind.i64.wrap ((t : Int) + 1) = (t : Int) + 1 := i64w (by omega) (by omega)
          have hyt : t < ys.length := by omega
          have hb3 : H3[nid]? = some ⟨ints ((ys.take t).map (fun x => -x) ++ ys.drop t), true, true⟩ := by
            rcases hol3.2 with ⟨e, _⟩ | e
            · omega
            · exact e
          obtain ⟨y, hy⟩ : ∃ y, y = ys[t] := ⟨_, rfl⟩
          have hyy := hyb ys[t] (List.getElem_mem hyt)
          rw [← hy] at hyy
          have tl : ((ys.take t).map (fun x => -x)).length = t := by simp; omega
          have c1 : cellsAt H3 nid t 1 = some [.int .i64 y] := by
            refine Holds.cell (H := H3) ⟨true, hb3⟩ ?_
            rw [ints_get, List.getElem?_append_right (by omega), tl, Nat.sub_self, List.getElem?_drop, Nat.add_zero, List.getElem?_eq_getElem hyt, ← hy]; rfl
          have wy : IntKind.i64.wrap (-y) = -y := i64w (by omega) (by omega)
          have hst := storeI (s := t) (y := -y) hb3 (by rw [List.length_append, tl, List.length_drop]; omega)
          have hset : ((ys.take t).map (fun x => -x) ++ ys.drop t).set t (-y) = (ys.take (t + 1)).map (fun x => -x) ++ ys.drop (t + 1) := by
            rw [List.set_append_right _ _ (by omega), tl, Nat.sub_self, List.drop_eq_getElem_cons hyt, List.set_cons_zero, List.take_succ_eq_append_getElem hyt, List.map_append, ← hy]
            simp
          rw [hset] at hst
          simp (maxSteps := 1000000) [go_sem, hlt, c1, wy, hst, hw_t]
          refine hK2 (t + 1) _ _ (by omega) (by simp [upF, Fr.get, Up.refl]) ⟨by omega, hs3.trans same_set, ?_, .inr (by rw [List.getElem?_set_self (List.getElem?_eq_some_iff.1 hb3).1, List.map_take])⟩
          rw [ints_length, List.length_append, List.length_map, List.length_take, List.length_drop]; omega
        · have : t = xss.length := by omega
          subst this
          rw [← hyl, List.take_length, List.drop_length, List.append_nil, ← hdesc] at hol3
          have hp3 : H <+: H3 := ((Same.of_prefix (hp0.trans (hp1.trans (hbl.1.trans hp2)))).trans hs3).prefix (by
            have := (hp0.trans (hp1.trans hbl.1)).length_le
            intro j hj e; omega)
          have hlast : IntsIn H.length H3.length H3 (lv 1 nid 0 ys.length) (descI (xss.map fun r => (r.length : Int))) := by
            have hdl : (descI (xss.map fun r => (r.length : Int))).length = ys.length := by rw [hdesc, List.length_map]
            refine ⟨nid, ⟨by rw [hdl], ?_, by rw [hdl]; omega⟩, fun _ => ⟨by have := (hp0.trans (hp1.trans hbl.1)).length_le; omega, hol3.lt⟩⟩
            rcases hol3.2 with ⟨e, _⟩ | e
            · left; exact List.eq_nil_of_length_eq_zero (by rw [hdl]; exact e)
            · right; exact e
          have fin := h H3 _ hp3 hlast
          rw [hyl] at fin
          simp (maxSteps := 1000000) [go_sem]
          exact ⟨_, Up.refl _ _, fin⟩

end Go.Proofs.Ytakkmkinfeddeaa
end

section
/- All types of a system: order, each once, how often. Plain Lean. -/
set_option linter.all false
set_option maxRecDepth 20000
namespace Go.Proofs.Ytakkmkinfeddeaa
open Go.Ab Go.Sort

/- The two points may change places. -/
theorem alt_rev {f g : Nat → Nat} {S : Nat → Prop} (h : Turn f g S) {p n : Nat} (hp : S p) (hc : IsCyc f g p n) : ∀ k, k ≤ n → alt g f p k = alt f g p (n - k)
  | 0, _ => by show p = _; exact hc.2.2.1.symm
  | k + 1, hk => by
    have ih := alt_rev h hp hc k (by omega)
    have hn := hc.2.1
    have hs := alt_S h hp (n - (k + 1))
    have e : n - k = (n - (k + 1)) + 1 := by omega
    simp only [alt]
    rw [ih, e]
    simp only [alt]
    by_cases hk2 : k % 2 = 0
    · rw [if_pos hk2, if_neg (by omega), h.gg _ hs]
    · rw [if_neg hk2, if_pos (by omega), h.ff _ hs]
theorem cyc_rev {f g : Nat → Nat} {S : Nat → Prop} (h : Turn f g S) {p n : Nat} (hp : S p) (hc : IsCyc f g p n) : IsCyc g f p n := by
  refine ⟨hc.1, hc.2.1, by rw [alt_rev h hp hc n (Nat.le_refl _), Nat.sub_self]; rfl, fun i j hij hj => ?_⟩
  rw [alt_rev h hp hc i (by omega), alt_rev h hp hc j (by omega)]
  by_cases hi : i = 0
  · subst hi
    rw [Nat.sub_zero, hc.2.2.1]
    exact hc.2.2.2 0 (n - j) (by omega) (by omega)
  · exact fun e => hc.2.2.2 (n - j) (n - i) (by omega) (by omega) e.symm
theorem _root_.Go.Ab.Turn.symm {f g : Nat → Nat} {S : Nat → Prop} (h : Turn f g S) : Turn g f S := ⟨h.gS, h.fS, h.gg, h.ff, h.gne, h.fne⟩
theorem cycN_rev {f g : Nat → Nat} {S : Nat → Prop} (h : Turn f g S) {p v : Nat} (hp : S p) (hv : ∀ x, S x → x < v) : cycN g f p = cycN f g p :=
  (cycN_ok h.symm hp hv).1.uniq (cyc_rev h hp (cycN_ok h hp hv).1)
theorem cycL_rev {f g : Nat → Nat} {S : Nat → Prop} (h : Turn f g S) {p v x : Nat} (hp : S p) (hv : ∀ x, S x → x < v) (hx : x ∈ cycL f g p) : x ∈ cycL g f p := by
  obtain ⟨k, hk, rfl⟩ := mem_cycL.1 hx
  have hc := (cycN_ok h hp hv).1
  rw [mem_cycL, cycN_rev h hp hv]
  by_cases h0 : k = 0
  · subst h0; exact ⟨0, hk, rfl⟩
  · refine ⟨cycN f g p - k, by omega, ?_⟩
    rw [alt_rev h hp hc _ (by omega), show cycN f g p - (cycN f g p - k) = k by omega]
theorem cycAll_rev {f g : Nat → Nat} {S : Nat → Prop} (h : Turn f g S) {v : Nat} (hv : ∀ x, S x → x < v) : ∀ (ps met met' : List Nat), (∀ x, x ∈ met ↔ x ∈ met') → (∀ p ∈ ps, p ∉ met → S p) →
    (cycAll f g ps met).map List.length = (cycAll g f ps met').map List.length
  | [], _, _, _, _ => rfl
  | p :: ps, met, met', hm, hs => by
    by_cases hp : p ∈ met
    · simp only [cycAll, if_pos hp, if_pos ((hm p).1 hp)]
      exact cycAll_rev h hv ps met met' hm fun q hq => hs q (List.mem_cons_of_mem _ hq)
    · have hp' : p ∉ met' := fun e => hp ((hm p).2 e)
      have hS := hs p (List.mem_cons_self) hp
      simp only [cycAll, if_neg hp, if_neg hp', List.map_cons]
      congr 1
      · simp only [cycL, List.length_map, List.length_range]; exact (cycN_rev h hS hv).symm
      · refine cycAll_rev h hv ps _ _ (fun x => ?_) fun q hq hn => hs q (List.mem_cons_of_mem _ hq) fun e => hn (List.mem_append_left _ e)
        rw [List.mem_append, List.mem_append, hm x]
        exact ⟨fun e => e.imp (fun h => h) (cycL_rev h hS hv), fun e => e.imp (fun h => h) (cycL_rev h.symm hS hv)⟩
theorem cycLens_comm {v a b : Nat} {bs : List Bk} (hS : IsSys v bs) (hf : fullB v bs = true) (hab : a ≠ b) (ha : a < v) (hb : b < v) : cycLens v a b bs = cycLens v b a bs := by
  have ht := turn_of hS hf hab ha hb
  have h := cycAll_rev ht (fun x hx => hx.1) (upTo 0 v) [a, b, thr bs a b] [b, a, thr bs b a] (fun x => by simp [thr_comm bs a b]; omega) (fun p hp hn => by
    simp only [List.mem_cons, List.not_mem_nil, or_false, not_or] at hn
    exact ⟨(mem_upTo.1 hp).2, hn.1, hn.2.1, hn.2.2⟩)
  have e : ∀ l : List (List Nat), (l.map castL).map (fun r => (r.length : Int)) = (l.map List.length).map (fun n : Nat => (n : Int)) := by
    intro l
    rw [List.map_map, List.map_map]
    refine List.map_congr_left fun r _ => ?_
    simp [castL]
  unfold cycLens cycRows
  rw [e, e, h]

/- How lists are ordered. -/
def ltL (x y : List Int) : Bool := decide (lexC x y < 0)
theorem ltL_nil (y : List Int) : ltL [] y = !y.isEmpty := by cases y <;> simp [ltL, lexC]
theorem ltL_cons_nil (x : Int) (xs : List Int) : ltL (x :: xs) [] = false := by simp [ltL, lexC]
theorem ltL_cons (x y : Int) (xs ys : List Int) : ltL (x :: xs) (y :: ys) = (decide (x < y) || (decide (x = y) && ltL xs ys)) := by
  unfold ltL
  simp only [lexC]
  by_cases h1 : x < y
  · simp [h1]
  · by_cases h2 : y < x
    · simp [h1, h2]; omega
    · have : x = y := by omega
      subst this
      simp
theorem ltL_irrefl : ∀ x : List Int, ltL x x = false
  | [] => rfl
  | x :: xs => by rw [ltL_cons, ltL_irrefl xs]; simp
theorem ltL_trans : ∀ x y z : List Int, ltL x y = true → ltL y z = true → ltL x z = true
  | [], [], _, h1, _ => by simp [ltL_nil] at h1
  | [], _ :: _, [], _, h2 => by simp [ltL_cons_nil] at h2
  | [], _ :: _, _ :: _, _, _ => by simp [ltL_nil]
  | _ :: _, [], _, h1, _ => by simp [ltL_cons_nil] at h1
  | _ :: _, _ :: _, [], _, h2 => by simp [ltL_cons_nil] at h2
  | x :: xs, y :: ys, z :: zs, h1, h2 => by
    rw [ltL_cons] at *
    simp only [Bool.or_eq_true, Bool.and_eq_true, decide_eq_true_eq] at *
    have ih := ltL_trans xs ys zs
    rcases h1 with h1 | ⟨h1, h1'⟩ <;> rcases h2 with h2 | ⟨h2, h2'⟩
    · left; omega
    · left; omega
    · left; omega
    · right; exact ⟨by omega, ih h1' h2'⟩
theorem ltL_total : ∀ x y : List Int, ltL x y = false → ltL y x = false → x = y
  | [], [], _, _ => rfl
  | [], _ :: _, h1, _ => by simp [ltL_nil] at h1
  | _ :: _, [], _, h2 => by simp [ltL_nil] at h2
  | x :: xs, y :: ys, h1, h2 => by
    rw [ltL_cons] at h1 h2
    simp only [Bool.or_eq_false_iff, Bool.and_eq_false_iff, decide_eq_false_iff_not] at h1 h2
    have hxy : x = y := by omega
    subst hxy
    rw [ltL_total xs ys (h1.2.resolve_left (by simp)) (h2.2.resolve_left (by simp))]
theorem swoL : SWO ltL := by
  refine ⟨ltL_irrefl, ltL_trans, fun x y z h1 h2 => ?_⟩
  cases h : ltL x z with
  | false => rfl
  | true =>
    cases h3 : ltL y x with
    | true => rw [ltL_trans _ _ _ h3 h] at h2; simp at h2
    | false => rw [ltL_total x y h1 h3, h2] at h; simp at h
theorem ltL_asymm {x y : List Int} (h : ltL x y = true) : ltL y x = false := by
  cases h2 : ltL y x with
  | false => rfl
  | true => have := ltL_trans _ _ _ h h2; rw [ltL_irrefl] at this; simp at this

/- Ascending lists, each element once. -/
def AscL (l : List (List Int)) : Prop := l.Pairwise (fun x y => ltL x y = true)
theorem AscL.uniq {l m : List (List Int)} (hl : AscL l) (hm : AscL m) (h : ∀ x, x ∈ l ↔ x ∈ m) : l = m := by
  have nd : ∀ {l : List (List Int)}, AscL l → l.Nodup := fun hl => List.Pairwise.imp (fun {a b} e => by rintro rfl; rw [ltL_irrefl] at e; simp at e) hl
  have hp := (List.perm_ext_iff_of_nodup (nd hl) (nd hm)).2 h
  refine hp.eq_of_pairwise ?_ hl hm
  intro x y _ _ h1 h2
  rw [ltL_asymm h1] at h2; simp at h2
def insL (x : List Int) : List (List Int) → List (List Int)
  | [] => [x]
  | y :: l => if ltL x y = true then x :: y :: l else if x = y then y :: l else y :: insL x l
theorem mem_insL {x z : List Int} : ∀ {l : List (List Int)}, z ∈ insL x l ↔ z = x ∨ z ∈ l
  | [] => by simp [insL]
  | y :: l => by
    simp only [insL]
    split
    · simp
    · split
      · rename_i h; subst h; simp
      · simp only [List.mem_cons, mem_insL (l := l)]
        constructor
        · rintro (h | h | h) <;> simp [h]
        · rintro (h | h | h) <;> simp [h]
theorem insL_asc {x : List Int} : ∀ {l : List (List Int)}, AscL l → AscL (insL x l)
  | [], _ => by simp [insL, AscL]
  | y :: l, h => by
    have h' := List.pairwise_cons.1 h
    simp only [insL]
    split
    · rename_i hx
      refine List.pairwise_cons.2 ⟨fun z hz => ?_, h⟩
      rcases List.mem_cons.1 hz with rfl | hz
      · exact hx
      · exact ltL_trans _ _ _ hx (h'.1 z hz)
    · split
      · exact h
      · rename_i h1 h2
        refine List.pairwise_cons.2 ⟨fun z hz => ?_, insL_asc h'.2⟩
        rcases mem_insL.1 hz with rfl | hz
        · cases h3 : ltL y z with
          | true => rfl
          | false => exact absurd (ltL_total z y (by simpa using h1) h3) h2
        · exact h'.1 z hz
/-- Each element once, ascending. -/
def onceL (l : List (List Int)) : List (List Int) := l.foldr insL []
theorem onceL_asc : ∀ l, AscL (onceL l)
  | [] => List.Pairwise.nil
  | x :: l => insL_asc (onceL_asc l)
theorem mem_onceL {z : List Int} : ∀ {l : List (List Int)}, z ∈ onceL l ↔ z ∈ l
  | [] => by simp [onceL]
  | x :: l => by
    show z ∈ insL x (onceL l) ↔ _
    rw [mem_insL, mem_onceL, List.mem_cons]
theorem insL_length (x : List Int) : ∀ l : List (List Int), (insL x l).length ≤ l.length + 1
  | [] => by simp [insL]
  | y :: l => by
    simp only [insL]
    have := insL_length x l
    split
    · simp
    · split <;> simp <;> omega
theorem onceL_length : ∀ l : List (List Int), (onceL l).length ≤ l.length
  | [] => by simp [onceL]
  | x :: l => by
    show (insL x (onceL l)).length ≤ _
    have := onceL_length l
    have := insL_length x (onceL l)
    simp; omega
theorem once_uniq {l m : List (List Int)} (hm : AscL m) (h : ∀ x, x ∈ m ↔ x ∈ l) : m = onceL l := hm.uniq (onceL_asc l) fun x => (h x).trans mem_onceL.symm

/- The place where a list is put. -/
def PutAt (l : List (List Int)) (x : List Int) (t : Nat) : Prop := t ≤ l.length ∧ (∀ j (h : j < l.length), t ≤ j → ltL x l[j] = true) ∧ ∀ (h : 0 < t) (h' : t - 1 < l.length), ltL x l[t - 1] = false
theorem PutAt.asc {l : List (List Int)} {x : List Int} {t : Nat} (hA : AscL l) (h : PutAt l x t) (hne : ∀ (h' : t - 1 < l.length), 0 < t → l[t - 1] ≠ x) : AscL (l.take t ++ x :: l.drop t) := by
  have hsp := List.take_append_drop t l
  have hA' : AscL (l.take t ++ l.drop t) := by rw [hsp]; exact hA
  obtain ⟨a1, a2, a3⟩ := List.pairwise_append.1 hA'
  refine List.pairwise_append.2 ⟨a1, List.pairwise_cons.2 ⟨fun z hz => ?_, a2⟩, fun y hy z hz => ?_⟩
  · obtain ⟨i, hi, rfl⟩ := List.mem_iff_getElem.1 hz
    rw [List.getElem_drop]
    rw [List.length_drop] at hi
    exact h.2.1 (t + i) (by omega) (by omega)
  · rcases List.mem_cons.1 hz with rfl | hz
    · obtain ⟨i, hi, rfl⟩ := List.mem_iff_getElem.1 hy
      rw [List.length_take] at hi
      rw [List.getElem_take]
      have ht0 : 0 < t := by omega
      have htl : t - 1 < l.length := by have := h.1; omega
      have hlast : ltL l[t - 1] z = true := by
        cases h3 : ltL l[t - 1] z with
        | true => rfl
        | false => exact absurd (ltL_total _ _ h3 (h.2.2 ht0 htl)) (hne htl ht0)
      by_cases hi1 : i = t - 1
      · subst hi1; exact hlast
      · exact ltL_trans _ _ _ (List.pairwise_iff_getElem.1 hA i (t - 1) (by omega) htl (by omega)) hlast
    · exact a3 y hy z hz

/- Runs of the same element. -/
theorem run_end {l : List (List Int)} (hs : l.Pairwise (fun x y => ltL y x = false)) {s : Nat} (hsl : s < l.length) {ts : List (List Int)} (hA : AscL ts) (hm : ∀ x, x ∈ ts ↔ x ∈ l.take s) (hne : ∀ (h : ts ≠ []), ts.getLast h ≠ l[s]) : l[s] ∉ l.take s ∧ AscL (ts ++ [l[s]]) := by
  have hle : ∀ x ∈ l.take s, ltL l[s] x = false := by
    intro x hx
    obtain ⟨i, hi, rfl⟩ := List.mem_iff_getElem.1 hx
    rw [List.length_take] at hi
    rw [List.getElem_take]
    exact List.pairwise_iff_getElem.1 hs i s (by omega) hsl (by omega)
  have hn : l[s] ∉ ts := by
    intro hmem
    have h0 : ts ≠ [] := List.ne_nil_of_mem hmem
    have hlast := hle _ ((hm _).1 (List.getLast_mem h0))
    obtain ⟨i, hi, e⟩ := List.mem_iff_getElem.1 hmem
    by_cases hi1 : i = ts.length - 1
    · subst hi1
      exact hne h0 (by rw [List.getLast_eq_getElem]; exact e)
    · have hlt := List.pairwise_iff_getElem.1 hA i (ts.length - 1) hi (by omega) (by omega)
      rw [e, ← List.getLast_eq_getElem h0, hlast] at hlt
      simp at hlt
  refine ⟨fun h => hn ((hm _).2 h), List.pairwise_append.2 ⟨hA, by simp, fun x hx y hy => ?_⟩⟩
  simp only [List.mem_singleton] at hy
  subst hy
  cases h3 : ltL x l[s] with
  | true => rfl
  | false =>
    have := ltL_total _ _ h3 (hle x ((hm x).1 hx))
    exact absurd (this ▸ hx) hn
/-- How often each type comes. -/
def cntL (ts l : List (List Int)) : List Int := ts.map fun t => (l.count t : Int)

/- All types of a system. -/
def prA (v : Nat) : List (Nat × Nat) := (upTo 0 v).flatMap fun a => (upTo (a + 1) v).map fun b => (a, b)
def prD (v : Nat) : List (Nat × Nat) := (upTo 0 v).flatMap fun a => (upTo 0 a).map fun b => (a, b)
theorem prs_perm : ∀ v, v < 16 → ((prD v).map fun p => (p.2, p.1)).isPerm (prA v) = true := by decide +kernel
theorem mem_prA {v : Nat} {p : Nat × Nat} : p ∈ prA v ↔ p.1 < p.2 ∧ p.2 < v := by
  simp only [prA, List.mem_flatMap, List.mem_map, mem_upTo]
  constructor
  · rintro ⟨a, ha, b, hb, rfl⟩; simp only; omega
  · rintro h; exact ⟨p.1, by omega, p.2, by omega, rfl⟩
theorem prA_length : ∀ v, v < 16 → (prA v).length ≤ 105 := by decide +kernel
theorem mem_prD {v : Nat} {p : Nat × Nat} : p ∈ prD v ↔ p.2 < p.1 ∧ p.1 < v := by
  simp only [prD, List.mem_flatMap, List.mem_map, mem_upTo]
  constructor
  · rintro ⟨a, ha, b, hb, rfl⟩; simp only; omega
  · rintro h; exact ⟨p.1, by omega, p.2, by omega, rfl⟩
noncomputable def typ (v : Nat) (bs : List Bk) (p : Nat × Nat) : List Int := descI (cycLens v p.1 p.2 bs)
noncomputable def tys1 (v : Nat) (bs : List Bk) : List (List Int) := (prA v).map (typ v bs)
noncomputable def tys2 (v : Nat) (bs : List Bk) : List (List Int) := (prD v).map (typ v bs)
theorem tys_perm {v : Nat} {bs : List Bk} (hS : IsSys v bs) (hf : fullB v bs = true) : (tys2 v bs).Perm (tys1 v bs) := by
  have hv := hS.1
  have hp := List.isPerm_iff.1 (prs_perm v (by omega))
  have h2 := hp.map (typ v bs)
  rw [List.map_map] at h2
  refine List.Perm.trans (List.Perm.of_eq ?_) h2
  refine List.map_congr_left fun p hm => ?_
  have hm := mem_prD.1 hm
  show descI _ = descI _
  rw [cycLens_comm hS hf (by omega) (by omega) (by omega)]
theorem tys1_length {v : Nat} {bs : List Bk} (hv : v < 16) : (tys1 v bs).length ≤ 105 := by rw [tys1, List.length_map]; exact prA_length v hv
theorem typ_length (v : Nat) (bs : List Bk) (p : Nat × Nat) : (typ v bs p).length ≤ v := by unfold typ; rw [descI_length]; exact cycLens_len _ _ _ _
theorem cntL_perm {l m ts : List (List Int)} (h : l.Perm m) : cntL ts l = cntL ts m := by
  unfold cntL
  refine List.map_congr_left fun t _ => ?_
  rw [h.count_eq]
theorem once_perm {l m : List (List Int)} (h : l.Perm m) : onceL l = onceL m := once_uniq (onceL_asc l) fun x => mem_onceL.trans h.mem_iff

noncomputable def rTys (p : Int) (bs : List Bk) : List (List Int) × List Int × Int :=
  if sysB p bs then (if fullB p bs then (onceL (tys1 p.toNat bs), cntL (onceL (tys1 p.toNat bs)) (tys1 p.toNat bs), 0) else ([], [], 5)) else ([], [], 1)

end Go.Proofs.Ytakkmkinfeddeaa
end

section
/- The kinds of elements that are sorted. No statement of the seat is proved here. -/
set_option linter.all false
namespace Go.Ab
open Go.Sort

instance : Inhabited Bk := ⟨⟨0, 0, 0⟩⟩
theorem Bk.cells_len (x : Bk) : x.cells.length = 3 := rfl
theorem Bk.cells_one (x : Bk) : x.cells.all Value.oneCell' = true := by simp [Bk.cells, Value.oneCell']

def cellsP (x : Int × Int) : List Value := [.int .i64 x.1, .int .i64 x.2]
def valP (x : Int × Int) : Value := .agg #[.int .i64 x.1, .int .i64 x.2]
theorem cellsP_len (x : Int × Int) : (cellsP x).length = 2 := rfl
theorem cellsP_one (x : Int × Int) : (cellsP x).all Value.oneCell' = true := by simp [cellsP, Value.oneCell']

def cellsI (x : Int) : List Value := [.int .i64 x]
def valI (x : Int) : Value := .int .i64 x
theorem cellsI_len (x : Int) : (cellsI x).length = 1 := rfl
theorem cellsI_one (x : Int) : (cellsI x).all Value.oneCell' = true := by simp [cellsI, Value.oneCell']

/-- A list of numbers by its place. -/
structure Row where
  id : Nat
  o : Nat
  xs : List Int
instance : Inhabited Row := ⟨⟨0, 0, []⟩⟩
def Row.val (r : Row) : Value := lv 1 r.id r.o r.xs.length
def Row.cells (r : Row) : List Value := [r.val]
theorem Row.cells_len (x : Row) : x.cells.length = 1 := rfl
theorem Row.cells_one (x : Row) : x.cells.all Value.oneCell' = true := by simp [Row.cells, Row.val, Value.oneCell']

end Go.Ab
end

section
/- Sorting by a function: insertion sort. -/
set_option linter.all false
set_option maxRecDepth 20000
set_option maxHeartbeats 4000000
namespace Go.Proofs.Ytakkmkinfeddeaa
open Go.Ab Go.Sort

theorem insI_ok {H : Heap} {id a b n : Nat} {d : Array Int} {lt : Int → Int → Bool} {g : FuncId} {fs cs : List Value} {Q : Int → Prop} (hA : Arr cellsI H id d) (hn : d.size = n) (hl : n ≤ 1048576) (hab : a ≤ b) (hb : b ≤ n) (hQ : QA Q d)
    (hC : Cmp Try.prog valI lt g fs cs Q id H) (Post : Value → Heap → Prop) (h : ∀ H', Same (fun k => k = id) H H' → Arr cellsI H' id (insertionSort lt d a b) → Post (.tuple #[]) H') :
    ACalls Try.prog 219 [lv 1 id 0 n, .int .i64 a, .int .i64 b, .func (.func g) fs.toArray cs.toArray] H Post := by
  refine acalls_vc (rs := []) Try.func219 rfl rfl Try.ntmps219 rfl rfl ?_
  have w0 : IntKind.i64.wrap ((a : Int) + 1) = (a : Int) + 1 := i64w (by omega) (by omega)
  simp (maxSteps := 1000000) [go_sem, w0]
  refine AWp.loopVc (St := Nat × Array Int) (fun s => [(0, lv 1 id 0 n), (1, .int .i64 a), (2, .int .i64 b), (3, .func (.func g) fs.toArray cs.toArray), (8, .int .i64 s.1)])
    (fun s H' => a + 1 ≤ s.1 ∧ s.1 ≤ n + 1 ∧ s.2.size = n ∧ QA Q s.2 ∧ Same (fun k => k = id) H H' ∧ Arr cellsI H' id s.2 ∧ insOuter lt a b s.1 s.2 = insertionSort lt d a b) (fun s => n + 1 - s.1) (a + 1, d) ?_ ?_ ?_
  · simp [upF, Fr.get, Up.refl]
  · exact ⟨Nat.le_refl _, by simp only; omega, hn, hQ, Same.refl _ _, hA, rfl⟩
  · rintro K ⟨i, d1⟩ H' ⟨hai, hin, hsz, hQ1, hS, hA1, hO⟩ hK
    simp only at hai hin hsz hQ1 hS hA1 hO
    rw [insOuter] at hO
    by_cases hlt : i < b
    · rw [if_pos hlt] at hO
      have hw_i : IntKind.i64.wrap ((i : Int) + 1) = (i : Int) + 1 := i64w (by omega) (by omega)
      simp (maxSteps := 1000000) [go_sem, hlt]
      refine AWp.loopVc (St := Nat × Array Int) (fun s => [(0, lv 1 id 0 n), (1, .int .i64 a), (2, .int .i64 b), (3, .func (.func g) fs.toArray cs.toArray), (8, .int .i64 i), (9, .int .i64 s.1)])
        (fun s H2 => a ≤ s.1 ∧ s.1 ≤ i ∧ s.2.size = n ∧ QA Q s.2 ∧ Same (fun k => k = id) H H2 ∧ Arr cellsI H2 id s.2 ∧ insInner lt a s.1 s.2 = insInner lt a i d1) (fun s => s.1) (i, d1) ?_ ?_ ?_
      · simp [upF, Fr.get, Up.refl]
      · exact ⟨by simp only; omega, Nat.le_refl _, hsz, hQ1, hS, hA1, rfl⟩
      · rintro K2 ⟨j, d2⟩ H2 ⟨haj, hji, hsz2, hQ2, hS2, hA2, hI⟩ hK2
        simp only at haj hji hsz2 hQ2 hS2 hA2 hI
        by_cases hja : a < j
        · obtain ⟨r, rfl⟩ : ∃ r, j = r + 1 := ⟨j - 1, by omega⟩
          have hr1 : r + 1 < d2.size := by omega
          have hr0 : r < d2.size := by omega
          have c1 := hA2.load cellsI_len hr1
          have c0 := hA2.load cellsI_len hr0
          have q1 := hQ2 _ hr1
          have q0 := hQ2 _ hr0
          rw [insInner] at hI
          obtain ⟨x, hx⟩ : ∃ x, x = d2[r + 1]! := ⟨_, rfl⟩
          obtain ⟨y, hy⟩ : ∃ y, y = d2[r]! := ⟨_, rfl⟩
          rw [← hx] at c1 q1 hI
          rw [← hy] at c0 q0 hI
          have e1 : decide (r + 1 > a) = true := decide_eq_true hja
          rw [e1, Bool.true_and] at hI
          simp only [cellsI, Nat.mul_one, Row.val] at c1 c0
          have n1 : r + 1 < n := by omega
          have n0 : r < n := by omega
          have m1 : (r : Int) + 1 < n := by omega
          have m0 : (r : Int) < n := by omega
          have z1 : (0 : Int) ≤ (r : Int) + 1 := by omega
          have hwr : IntKind.i64.wrap (r : Int) = (r : Int) := i64w (by omega) (by omega)
          have ja : (a : Int) < (r : Int) + 1 := by omega
          refine AWp.draw mixed [(0, false), (1, false), (2, false), (3, false), (4, false), (5, false), (6, false), (7, false), (8, false), (9, false), (10, false), (11, false), (12, false), (13, false), (14, false), (15, false), (16, false)] (by kernel_rfl) ?_
          simp (maxSteps := 1000000) [go_sem, hja, ja, c1, c0, n1, n0, m1, m0, z1, hwr]
          refine hC H2 x y _ hS2 q1 q0 ?_
          intro H3 c hp3 hc
          have hS3 := hS2.via (Same.of_prefix (S := fun _ => False) hp3) (fun _ _ h => h.elim)
          have hA3 := hA2.pre hp3
          cases hxy : lt x y with
          | false =>
            rw [hxy] at hc hI
            have hc0 : ¬ c < 0 := by simpa using hc
            simp (maxSteps := 1000000) [go_sem, hc, hc0, hw_i]
            exact hK (i + 1, d2) _ _ (by simp only; omega) (by simp [upF, Fr.get, Up.refl]) ⟨by simp only; omega, by simp only; omega, hsz2, hQ2, hS3, hA3, by simp only; rw [← hO, ← hI]; simp⟩
          | true =>
            rw [hxy] at hc hI
            have hc0 : c < 0 := by simpa using hc
            have c1 := hA3.load cellsI_len hr1
            have c0 := hA3.load cellsI_len hr0
            obtain ⟨H4, H5, s1, s0, hA5, hS5, hl5⟩ := hA3.swap cellsI_len cellsI_one hr1 hr0
            rw [← hx] at c1 s0
            rw [← hy] at c0 s1
            simp only [cellsI, Nat.mul_one, Row.val] at c1 c0 s1 s0
            simp (maxSteps := 1000000) [go_sem, hc, hc0]
            refine AWp.draw mixed [(0, false), (1, false), (2, false), (3, false), (4, false), (5, false), (6, false), (7, false), (8, false), (9, false), (10, false), (11, false), (12, false), (13, false), (14, false), (15, false), (16, false), (17, false)] (by kernel_rfl) ?_
            simp (maxSteps := 1000000) [go_sem, c1, c0, n1, n0, m1, m0, z1, hwr, s1, s0]
            exact hK2 (r, swp d2 (r + 1) r) _ _ (by simp only; omega) (by simp [upF, Fr.get, Up.refl]) ⟨by simp only; omega, by simp only; omega, by rw [size_swp]; exact hsz2, hQ2.swp hr1 hr0, hS3.trans hS5, hA5, by simp only; rw [← hI]; simp⟩
        · have hja' : j = a := by omega
          subst hja'
          have e : insInner lt j j d2 = d2 := by
            cases j with
            | zero => rfl
            | succ r => rw [insInner]; simp
          refine AWp.draw mixed [(0, false), (1, false), (2, false), (3, false), (4, false), (5, false), (6, false), (7, false), (8, false), (9, false), (10, false), (11, false), (12, false), (13, false), (14, false), (15, false), (16, false)] (by kernel_rfl) ?_
          simp (maxSteps := 1000000) [go_sem, undef, hw_i]
          exact hK (i + 1, d2) _ _ (by simp only; omega) (by simp [upF, Fr.get, Up.refl]) ⟨by simp only; omega, by simp only; omega, hsz2, hQ2, hS2, hA2, by simp only; rw [← hO, ← hI, e]⟩
    · rw [if_neg hlt] at hO
      simp (maxSteps := 1000000) [go_sem, hlt]
      exact h H' hS (hO ▸ hA1)

end Go.Proofs.Ytakkmkinfeddeaa
end

section
/- The sort's plain functions, one step each. No statement of the seat is proved here. -/
set_option linter.all false
namespace Go.Ab
open Go.Sort
variable {α : Type} [Inhabited α] {lt : α → α → Bool}

theorem sift_end {hi first root ch : Nat} {d : Array α} (h : ch = 2 * root + 1) (hh : hi ≤ ch) : siftDown lt hi first root d = d := by
  subst h; rw [siftDown]; exact dif_pos hh
theorem sift_step {hi first root ch c2 fr fc fc2 : Nat} {d : Array α} (h : ch = 2 * root + 1) (h2 : c2 = ch + 1) (e1 : fr = first + root) (e2 : fc = first + ch) (e3 : fc2 = first + c2) (hh : ¬ hi ≤ ch) :
    siftDown lt hi first root d = if decide (c2 < hi) && lt d[fc]! d[fc2]! then (if lt d[fr]! d[fc2]! then siftDown lt hi first c2 (swp d fr fc2) else d)
      else (if lt d[fr]! d[fc]! then siftDown lt hi first ch (swp d fr fc) else d) := by
  subst h; subst h2; subst e1; subst e2; subst e3
  have a1 : 2 * root + 1 + 1 = 2 * root + 2 := rfl
  have a2 : first + (2 * root + 1) + 1 = first + (2 * root + 2) := rfl
  rw [siftDown, dif_neg hh, a1, a2]
  by_cases hc : 2 * root + 2 < hi
  · have hd : decide (2 * root + 2 < hi) = true := decide_eq_true hc
    simp only [hd, Bool.true_and, dif_pos hc]
    cases hl : lt d[first + (2 * root + 1)]! d[first + (2 * root + 2)]! with
    | true =>
      have e : (2 * root + 2 < hi ∧ True) := ⟨hc, trivial⟩
      cases hm : lt d[first + root]! d[first + (2 * root + 2)]! <;> simp [hl, hm, hc]
    | false =>
      cases hm : lt d[first + root]! d[first + (2 * root + 1)]! <;> simp [hl, hm, hc]
  · have hd : decide (2 * root + 2 < hi) = false := decide_eq_false hc
    simp only [hd, Bool.false_and]
    cases hm : lt d[first + root]! d[first + (2 * root + 1)]! <;> simp [hm, hc]

theorem sift_size (hi first root : Nat) (d : Array α) : (siftDown lt hi first root d).size = d.size := by
  fun_induction siftDown lt hi first root d <;> simp_all [size_swp]
theorem sift_QA {Q : α → Prop} {hi first root : Nat} {d : Array α} (hs : first + hi ≤ d.size) (h : QA Q d) : QA Q (siftDown lt hi first root d) := by
  fun_induction siftDown lt hi first root d with
  | case1 => exact h
  | case2 => exact h
  | case3 root d h1 h2 h3 h4 ih =>
    refine ih (by rw [size_swp]; exact hs) (h.swp (by omega) (by omega))
  | case4 => exact h
  | case5 => exact h
  | case6 root d h1 h2 h3 ih => exact ih (by rw [size_swp]; exact hs) (h.swp (by omega) (by omega))

theorem scanUp_stop {p : α → Bool} {d : Array α} {j i : Nat} (h : j < i ∨ p d[i]! = false) : scanUp p d j i = i := by
  rw [scanUp, if_neg]
  rintro hc
  rw [Bool.and_eq_true, decide_eq_true_eq] at hc
  rcases h with h | h
  · omega
  · rw [h] at hc; cases hc.2
theorem scanUp_go {p : α → Bool} {d : Array α} {j i : Nat} (h : i ≤ j) (h' : p d[i]! = true) : scanUp p d j i = scanUp p d j (i + 1) := by
  rw [scanUp, if_pos]; simp [h, h']
theorem scanDown_stop {p : α → Bool} {d : Array α} {i j : Nat} (h : j < i ∨ p d[j]! = false) : scanDown p d i j = j := by
  cases j with
  | zero => rfl
  | succ r =>
    rw [scanDown, if_neg]
    rintro hc
    rw [Bool.and_eq_true, decide_eq_true_eq] at hc
    rcases h with h | h
    · omega
    · rw [h] at hc; cases hc.2
theorem scanDown_go {p : α → Bool} {d : Array α} {i r : Nat} (h : i ≤ r + 1) (h' : p d[r + 1]! = true) : scanDown p d i (r + 1) = scanDown p d i r := by
  rw [scanDown, if_pos]; simp [h, h']
theorem scanSorted_stop {d : Array α} {b i : Nat} (h : b ≤ i ∨ lt d[i]! d[i - 1]! = true) : scanSorted lt d b i = i := by
  rw [scanSorted, if_neg]
  rintro hc
  rw [Bool.and_eq_true, decide_eq_true_eq] at hc
  rcases h with h | h
  · omega
  · rw [h] at hc; cases hc.2
theorem scanSorted_go {d : Array α} {b i : Nat} (h : i < b) (h' : lt d[i]! d[i - 1]! = false) : scanSorted lt d b i = scanSorted lt d b (i + 1) := by
  rw [scanSorted, if_pos]; simp [h, h']
theorem scanSorted_bd {d : Array α} {b i : Nat} (h : i ≤ b) : i ≤ scanSorted lt d b i ∧ scanSorted lt d b i ≤ b := by
  fun_induction scanSorted lt d b i with
  | case1 i hc ih =>
    rw [Bool.and_eq_true, decide_eq_true_eq] at hc
    have := ih (by omega); omega
  | case2 i hc => omega
theorem shiftDown_stop {j : Nat} {d : Array α} (h : lt d[j + 1]! d[j]! = false) : shiftDown lt (j + 1) d = d := by rw [shiftDown, h]; rfl
theorem shiftDown_go {j : Nat} {d : Array α} (h : lt d[j + 1]! d[j]! = true) : shiftDown lt (j + 1) d = shiftDown lt j (swp d (j + 1) j) := by rw [shiftDown, h]; rfl
theorem shiftUp_end {b j : Nat} {d : Array α} (h : b ≤ j) : shiftUp lt b j d = d := by rw [shiftUp, if_neg (by omega)]
theorem shiftUp_stop {b j : Nat} {d : Array α} (hj : j < b) (h : lt d[j]! d[j - 1]! = false) : shiftUp lt b j d = d := by rw [shiftUp, if_pos hj, h]; rfl
theorem shiftUp_go {b j : Nat} {d : Array α} (hj : j < b) (h : lt d[j]! d[j - 1]! = true) : shiftUp lt b j d = shiftUp lt b (j + 1) (swp d j (j - 1)) := by rw [shiftUp, if_pos hj, h]; rfl
theorem shiftDown_size : ∀ (j : Nat) (d : Array α), (shiftDown lt j d).size = d.size
  | 0, d => rfl
  | j + 1, d => by
    cases h : lt d[j + 1]! d[j]! with
    | true => rw [shiftDown_go h, shiftDown_size j, size_swp]
    | false => rw [shiftDown_stop h]
theorem shiftDown_QA {Q : α → Prop} : ∀ {j : Nat} {d : Array α}, j < d.size → QA Q d → QA Q (shiftDown lt j d)
  | 0, d, _, h => h
  | j + 1, d, hj, h => by
    cases hl : lt d[j + 1]! d[j]! with
    | true => rw [shiftDown_go hl]; exact shiftDown_QA (by rw [size_swp]; omega) (h.swp hj (by omega))
    | false => rw [shiftDown_stop hl]; exact h
theorem shiftUp_size (b j : Nat) (d : Array α) : (shiftUp lt b j d).size = d.size := by
  fun_induction shiftUp lt b j d <;> simp_all [size_swp]
theorem shiftUp_QA {Q : α → Prop} {b j : Nat} {d : Array α} (hb : b ≤ d.size) (h : QA Q d) : QA Q (shiftUp lt b j d) := by
  fun_induction shiftUp lt b j d with
  | case1 => exact h
  | case2 j d h1 h2 ih => exact ih (by rw [size_swp]; exact hb) (h.swp (by omega) (by omega))
  | case3 => exact h

theorem QA_perm {Q : α → Prop} {a b : Nat} {d d' : Array α} (hb : b ≤ d.size) (hp : PermIn a b d d') (h : QA Q d) : QA Q d' := by
  intro k hk
  rw [hp.1] at hk
  by_cases hin : a ≤ k ∧ k < b
  · exact permIn_all d d' a b Q hb hp (fun i _ h2 => h i (by omega)) k hin.1 hin.2
  · rw [hp.2.1 k (by omega)]; exact h k hk

theorem perm_list {n : Nat} {d d' : Array α} (hn : d.size = n) (h : PermIn 0 n d d') : d'.toList.Perm d.toList := by
  have h3 := h.2.2
  rw [← hn, Array.extract_size] at h3
  rw [← h.1, Array.extract_size] at h3
  exact h3
theorem sorted_list {n : Nat} {d : Array α} (hn : d.size = n) (h : SortedIn lt 0 n d) : d.toList.Pairwise fun x y => lt y x = false := by
  rw [List.pairwise_iff_getElem]
  intro i j hi hj hij
  have hi' : i < d.size := by simpa using hi
  have hj' : j < d.size := by simpa using hj
  have := h i j (Nat.zero_le _) hij (by omega)
  rw [getElem!_pos d j hj', getElem!_pos d i hi'] at this
  simpa using this

theorem reverse_stop {i j : Nat} {d : Array α} (h : ¬ i < j) : reverseLoop i j d = d := by rw [reverseLoop, if_neg h]
theorem reverse_go {i j : Nat} {d : Array α} (h : i < j) : reverseLoop i j d = reverseLoop (i + 1) (j - 1) (swp d i j) := by rw [reverseLoop, if_pos h]

end Go.Ab
end
