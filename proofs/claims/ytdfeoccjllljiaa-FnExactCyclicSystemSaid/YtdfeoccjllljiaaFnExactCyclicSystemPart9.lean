/- Part 9 of what the proof of the law FnExactCyclicSystem rests on: contracts of functions of the program, for every argument that each names; no statement of the seat is proved here. -/
import Derived.Test.YtdfeoccjllljiaaFnExactCyclicSystemPart8

section
/- The same with blocks from L on that are this region's own: they may be changed in between. It holds for every program. -/
set_option linter.all false
namespace Go.Ab
open Go.RowKit (Below)

section
variable {P : Program} {N : Nat} {ops : Array Oper} {L : Nat} {K : Fr → Heap → Prop} {fs : List Nat}

def vTX (P : Program) (N : Nat) (ops : Array Oper) (L : Nat) (K : Fr → Heap → Prop) : Tree → Fr → Heap → Prop
  | .nil, fr, H => K fr H
  | .one i fl t, fr, H => match ops[i]? with
    | none => False
    | some o => match isR o.op with
      | true => offL L o.op fr ∧ vstep P N ops o (vTX P N ops L K t) fr H
      | false => vstep P N ops o (eKX L fl H (vTX P N ops L K t)) fr H
  | .two i fl t f t', fr, H => match ops[i]?, ops[f]? with
    | some o, some o' => vstep P N ops o (eKX L fl H (vTX P N ops L K t)) fr H ∧ vstep P N ops o' (eKX L true H (vTX P N ops L K t')) fr H
    | _, _ => False
/-! The words of such a tree, for simp. -/

def vTXK (P : Program) (N : Nat) (ops : Array Oper) (L : Nat) (K : Fr → Heap → Prop) (t : Tree) (fr : Fr) (H : Heap) : Prop := vTX P N ops L K t fr H
def eTXK (P : Program) (N : Nat) (ops : Array Oper) (L : Nat) (K : Fr → Heap → Prop) (t : Tree) (fl : Bool) (H : Heap) (fr : Fr) (H' : Heap) : Prop :=
  match fl with
  | true => andK (KeepL L H H') (vTX P N ops L K t fr H')
  | false => vTX P N ops L K t fr H'
def vTXo (P : Program) (N : Nat) (ops : Array Oper) (L : Nat) (K : Fr → Heap → Prop) (t : Tree) (fl : Bool) (fr : Fr) (H : Heap) (o : Oper) : Prop :=
  match isR o.op with
  | true => andK (offB L o.op fr) (vstep P N ops o (vTXK P N ops L K t) fr H)
  | false => vstep P N ops o (eTXK P N ops L K t fl H) fr H
def vTXe (P : Program) (N : Nat) (ops : Array Oper) (L : Nat) (K : Fr → Heap → Prop) (t : Tree) (fl : Bool) (fr : Fr) (H : Heap) (o : Oper) : Prop := vstep P N ops o (eTXK P N ops L K t fl H) fr H

theorem vTX_nil (K : Fr → Heap → Prop) (fr : Fr) (H : Heap) : vTX P N ops L K .nil fr H = K fr H := rfl
theorem eTXK_eq (K : Fr → Heap → Prop) (t : Tree) (fl : Bool) (H : Heap) : eKX L fl H (vTX P N ops L K t) = eTXK P N ops L K t fl H := by
  funext f h
  cases fl <;> rfl
theorem vTX_one (K : Fr → Heap → Prop) (i : Nat) (fl : Bool) (t : Tree) (fr : Fr) (H : Heap) : vTX P N ops L K (.one i fl t) fr H = bindO ops[i]? (vTXo P N ops L K t fl fr H) := by
  simp only [vTX]
  cases ops[i]? with
  | none => simp [bindO]
  | some o =>
    simp only [bindO_some, vTXo]
    cases isR o.op with
    | true => rw [offB_iff]; rfl
    | false => simp only [eTXK_eq]
attribute [go_sem] vTXK eTXK vTXo vTXe vTX_nil vTX_one

end
end Go.Ab
end

section
/- DoubleSystem: the tested program's side (printed by gendbl.py). -/
set_option linter.all false
set_option maxRecDepth 20000
set_option maxHeartbeats 8000000
namespace Go.Ab

theorem Bl.same {e : Nat} {H H' H'' : Heap} {id n k : Nat} {cs : List Value} (h : Bl e H H' id cs n) (hs : Same (fun j => j = k) H' H'') (hk : H.length ≤ k) (hne : id ≠ k) : Bl e H H'' id cs n :=
  ⟨((Same.of_prefix h.1).trans hs).prefix (by intro j hj e; omega), h.2.1.keep hs hne, h.2.2⟩
theorem Bl.pushS {e : Nat} {H H' : Heap} {id n : Nat} {cs xs : List Value} (h : Bl e H H' id cs n) (he : 0 < e) (hx : xs.length = e) :
    cellsAt (H' ++ [⟨xs, true, true⟩]) H'.length 0 e = some xs ∧ ∃ H3, appendH (H' ++ [⟨xs, true, true⟩]) e (lv e id 0 n) 1 xs = some (lv e (H'.length + 1) 0 (n + 1), H3) ∧ Bl e H H3 (H'.length + 1) (cs ++ xs) (n + 1) ∧ Same (fun j => j = id) H' H3 := by
  obtain ⟨h1, H3, h2, h3, h4, h5⟩ := h.2.1.push he hx
  refine ⟨h1, H3, h2, ⟨((Same.of_prefix h.1).trans h4).prefix (by have := h.2.2; omega), h3, ?_⟩, h4⟩
  have := h.1.length_le
  omega

end Go.Ab
namespace Go.Proofs.Ytdfeoccjllljiaa
open Go.Ab Go.Sort

end Go.Proofs.Ytdfeoccjllljiaa
end

section
/- A region's end told once; a cell made early and filled late. It holds for every program. -/
set_option linter.all false
namespace Go.Ab

theorem AWp.regCut {P : Program} {N : Nat} {H : Heap} {fr : Fr} {Q : Exit → Fr → Heap → Prop} {St : Type} {c : Code} (N' : St → Fr) (E : St → Heap → Prop)
    (hx : ∀ Q' : Exit → Fr → Heap → Prop, (∀ (s : St) (fr' : Fr) (H' : Heap), upF H' (N' s ++ fr) fr' → E s H' → Q' .normal fr' H') → AWp P N c Q' fr H)
    (hy : ∀ (s : St) (H' : Heap), E s H' → Q .normal (N' s ++ fr) H') : AWp P N c Q fr H := by
  let Q1 : Exit → Fr → Heap → Prop := fun e f h => match e with
    | .normal => ∃ s, upF h (N' s ++ fr) f ∧ E s h
    | _ => False
  refine AWp.weak (Q := Q1) ?_ (hx Q1 fun s f h h1 h2 => ⟨s, h1, h2⟩)
  intro e f h hq
  cases e with
  | normal => obtain ⟨s, h1, h2⟩ := hq; exact ⟨_, h1, hy s h h2⟩
  | _ => exact hq.elim

theorem boxLate {Hz Hn : Heap} {id : Nat} {zs cs : List Value} (hz : Hz[id]? = some ⟨zs, true, true⟩) (hp : Hz <+: Hn) (hl : zs.length = cs.length) (ho : cs.all Value.oneCell' = true) :
    storeAt Hn id 0 cs = some (Hn.set id ⟨cs, true, true⟩) ∧ Holds (Hn.set id ⟨cs, true, true⟩) id cs ∧ Same (fun j => j = id) Hn (Hn.set id ⟨cs, true, true⟩) ∧ (Hn.set id ⟨cs, true, true⟩).length = Hn.length := by
  have hb := Same.get (S := fun _ => False) (Same.of_prefix hp) hz (fun h => h)
  refine ⟨?_, ⟨true, List.getElem?_set_self (List.getElem?_eq_some_iff.1 hb).1⟩, same_set, by simp⟩
  rw [storeAt_of hb rfl rfl (by simp [hl]) ho]
  congr 3
  simp [over, hl]

end Go.Ab
end

section
/- Blocks turned round: impl.turnedBlocks. -/
set_option linter.all false
set_option maxRecDepth 20000
set_option maxHeartbeats 8000000
namespace Go.Proofs.Ytdfeoccjllljiaa
open Go.Ab Go.Sort

noncomputable def addB (acc : List Bk) (b : Bk) : List Bk := if memB acc b then acc else acc ++ [b]
def turn (v : Nat) (b : Bk) (i : Nat) : Bk := blk ((b.a + i).tmod v) ((b.b + i).tmod v) ((b.c + i).tmod v)
noncomputable def turnK (v : Nat) (acc : List Bk) (b : Bk) (k : Nat) : List Bk := (List.range k).foldl (fun acc i => addB acc (turn v b i)) acc
noncomputable def turnL (v : Nat) (acc fam : List Bk) : List Bk := fam.foldl (fun acc b => turnK v acc b v) acc

theorem addB_len (acc : List Bk) (b : Bk) : (addB acc b).length ≤ acc.length + 1 := by unfold addB; split <;> simp
theorem turnK_succ (v : Nat) (acc : List Bk) (b : Bk) (k : Nat) : turnK v acc b (k + 1) = addB (turnK v acc b k) (turn v b k) := by
  simp [turnK, List.range_succ, List.foldl_append]
theorem turnK_zero (v : Nat) (acc : List Bk) (b : Bk) : turnK v acc b 0 = acc := rfl
theorem turnK_len (v : Nat) (acc : List Bk) (b : Bk) (k : Nat) : (turnK v acc b k).length ≤ acc.length + k := by
  induction k with
  | zero => simp [turnK_zero]
  | succ k ih => rw [turnK_succ]; have := addB_len (turnK v acc b k) (turn v b k); omega
theorem turnL_snoc (v : Nat) (acc fam : List Bk) (b : Bk) : turnL v acc (fam ++ [b]) = turnK v (turnL v acc fam) b v := by
  simp [turnL, List.foldl_append]
theorem turnL_len (v : Nat) (acc fam : List Bk) : (turnL v acc fam).length ≤ acc.length + fam.length * v := by
  induction fam generalizing acc with
  | nil => simp [turnL]
  | cons b fam ih =>
    have h1 := ih (turnK v acc b v)
    have h2 := turnK_len v acc b v
    have e : turnL v acc (b :: fam) = turnL v (turnK v acc b v) fam := rfl
    have e2 : (fam.length + 1) * v = fam.length * v + v := Nat.succ_mul _ _
    rw [e, List.length_cons]; omega
def small (b : Bk) : Prop := (0 ≤ b.a ∧ b.a ≤ 900) ∧ (0 ≤ b.b ∧ b.b ≤ 900) ∧ (0 ≤ b.c ∧ b.c ≤ 900)
theorem tmod_in {x : Int} {v : Nat} (hx : 0 ≤ x) (hv : 1 ≤ v ∧ v ≤ 15) : 0 ≤ x.tmod v ∧ x.tmod v ≤ 1000 := by
  have h1 := Int.tmod_nonneg (v : Int) hx
  have h2 := Int.tmod_lt_of_pos x (show (0 : Int) < v by omega)
  omega

theorem turnedBlocks_ok {H : Heap} {u : Value} {v : Nat} {fam : List Bk} (hv : 1 ≤ v ∧ v ≤ 15) (hu : BlocksAt H u fam) (hl : fam.length ≤ 100) (hg : ∀ b ∈ fam, small b) (Post : Value → Heap → Prop)
    (h : ∀ H' w, H <+: H' → BlocksIn H.length H'.length H' w (sortB (turnL v [] fam)) → Post (sysV v w) H') :
    ACalls Try.prog 113 [.int .i64 v, u] H Post := by
  obtain ⟨i, o, rfl, h1, h2⟩ := hu
  refine ACalls.res ?_
  refine acalls_vc (rs := [.cell 4 38]) Try.func113 rfl rfl Try.ntmps113 rfl rfl ?_
  simp (maxSteps := 1000000) [go_sem]
  have hp0 : H <+: H ++ [⟨[.int .i64 0, .slice none 0 0], true, true⟩] := List.prefix_append _ _
  have hb0 : (H ++ [(⟨[.int .i64 0, .slice none 0 0], true, true⟩ : Blk)])[H.length]? = some ⟨[.int .i64 0, .slice none 0 0], true, true⟩ := by simp
  have hlen0 : (H ++ [(⟨[.int .i64 0, .slice none 0 0], true, true⟩ : Blk)]).length = H.length + 1 := by simp
  generalize H ++ [(⟨[.int .i64 0, .slice none 0 0], true, true⟩ : Blk)] = H0 at hp0 hb0 hlen0 ⊢
  have hv0 : (v : Int) ≠ 0 := by omega
  have hv00 : v ≠ 0 := by omega
  refine AWp.addGhost ?_
  have hbl0 := Bl.ghost 3 H0
  generalize H0 ++ [(⟨[], false, false⟩ : Blk)] = HG at hbl0 ⊢
  refine AWp.loopVc (St := Nat × Nat × List Bk) (fun s => [(0, .int .i64 v), (4, .pointer (some ⟨H.length, 0, none⟩)), (5, lv 3 s.2.1 0 s.2.2.length), (10, lv 3 i o fam.length), (11, .int .i64 fam.length), (12, .int .i64 s.1)])
    (fun s H' => s.1 ≤ fam.length ∧ s.2.2 = turnL v [] (fam.take s.1) ∧ Bl 3 H0 H' s.2.1 (tri s.2.2) s.2.2.length) (fun s => fam.length - s.1) (0, H0.length, []) ?_ ?_ ?_
  · simp [upF, Fr.get, Up.refl, Up.nil]
  · exact ⟨by simp, by simp [turnL], by simpa [tri] using hbl0⟩
  · rintro K ⟨s, id, acc⟩ H' ⟨hs, hacc, hbl⟩ hK
    simp only at hs hacc hbl
    have hlacc : acc.length ≤ 1500 := by
      have := turnL_len v [] (fam.take s)
      have hm : (fam.take s).length * v ≤ 100 * 15 := Nat.mul_le_mul (by rw [List.length_take]; omega) hv.2
      rw [← hacc, List.length_nil] at this
      omega
    by_cases hlt : s < fam.length
    · have hbs : fam[s]? = some fam[s] := List.getElem?_eq_getElem hlt
      have c1 := (h1.pre (hp0.trans hbl.1)).bk hbs
      have hgb := hg fam[s] (List.getElem_mem hlt)
      simp only [Bk.cells] at c1
      have hw_s : IntKind.i64.wrap ((s : Int) + 1) = (s : Int) + 1 := i64w (by omega) (by omega)
      obtain ⟨b, hb⟩ : ∃ b, fam[s] = b := ⟨_, rfl⟩
      rw [hb] at c1 hbs hgb
      obtain ⟨⟨ga1, ga2⟩, ⟨gb1, gb2⟩, ⟨gc1, gc2⟩⟩ := hgb
      simp (maxSteps := 1000000) [go_sem, hlt, c1]
      have hpb : H' <+: H' ++ [⟨[.int .i64 b.a, .int .i64 b.b, .int .i64 b.c], true, true⟩] := List.prefix_append _ _
      have hx0 := Holds.last H' [.int .i64 b.a, .int .i64 b.b, .int .i64 b.c]
      have hbl1 := hbl.pre hpb
      obtain ⟨bid, hbid⟩ : ∃ bid, H'.length = bid := ⟨_, rfl⟩
      have hne1 : id ≠ bid := by have := hbl.2.1.lt; omega
      rw [hbid] at hx0 ⊢
      generalize H' ++ [(⟨[.int .i64 b.a, .int .i64 b.b, .int .i64 b.c], true, true⟩ : Blk)] = H1 at *
      refine AWp.loopVc (St := Nat × Nat × List Bk) (fun t => [(0, .int .i64 v), (4, .pointer (some ⟨H.length, 0, none⟩)), (5, lv 3 t.2.1 0 t.2.2.length), (7, .pointer (some ⟨bid, 0, none⟩)), (10, lv 3 i o fam.length), (11, .int .i64 fam.length), (12, .int .i64 s), (16, .int .i64 v), (17, .int .i64 t.1)])
        (fun t H2 => t.1 ≤ v ∧ t.2.2 = turnK v acc b t.1 ∧ (t.2.1 ≠ bid ∧ Holds H2 bid [.int .i64 b.a, .int .i64 b.b, .int .i64 b.c]) ∧ Bl 3 H0 H2 t.2.1 (tri t.2.2) t.2.2.length) (fun t => v - t.1) (0, id, acc) ?_ ?_ ?_
      · simp [upF, Fr.get, Up.refl]
      · exact ⟨by simp, by simp [turnK_zero], ⟨hne1, hx0⟩, hbl1⟩
      · rintro K2 ⟨t, id2, acc2⟩ H2 ⟨ht, hacc2, ⟨hne2, hxb⟩, hbl2⟩ hK2
        simp only at ht hacc2 hne2 hxb hbl2
        have hl2 : acc2.length ≤ 1515 := by
          have := turnK_len v acc b t
          rw [← hacc2] at this
          omega
        by_cases htv : t < v
        · have hw_t : IntKind.i64.wrap ((t : Int) + 1) = (t : Int) + 1 := i64w (by omega) (by omega)
          obtain ⟨e0, e1, e2, e3⟩ := hxb.bk
          have wa : IntKind.i64.wrap (b.a + t) = b.a + t := i64w (by omega) (by omega)
          have wb : IntKind.i64.wrap (b.b + t) = b.b + t := i64w (by omega) (by omega)
          have wc : IntKind.i64.wrap (b.c + t) = b.c + t := i64w (by omega) (by omega)
          obtain ⟨c, hc⟩ : ∃ c, blk ((b.a + t).tmod v) ((b.b + t).tmod v) ((b.c + t).tmod v) = c := ⟨_, rfl⟩
          have hct : turn v b t = c := hc
          simp (maxSteps := 1000000) [go_sem, htv]
          refine AWp.regCut (St := Nat) (fun z => [(9, .pointer (some ⟨z, 0, none⟩))]) (fun z H3 => H2 <+: H3 ∧ Holds H3 z c.cells) ?_ ?_
          · intro Q' hQ'
            refine AWp.drawF mixed [19] [(0, false), (1, false), (2, false), (3, false), (4, false), (5, false), (6, false), (7, false), (8, false), (9, false), (10, false), (11, false), (12, false), (13, false), (14, false), (15, false), (16, false), (17, false), (18, false), (19, true), (20, false)] (.one 0 false (.one 1 false (.one 2 false (.one 3 false (.one 4 false (.one 5 false (.one 6 false (.one 7 false (.one 8 false (.one 9 false (.one 10 false (.one 11 false (.one 12 false (.one 13 false (.one 14 false (.one 15 false (.one 16 false (.one 17 false (.two 18 false (.one 19 true (.one 20 false .nil)) 19 (.one 18 false (.one 20 false .nil))))))))))))))))))))) (by kernel_rfl) ?_
            simp (maxSteps := 1000000) [go_sem, e1, e2, e3, wa, wb, wc, hv0, hv00]
            refine vT_two ?_ ?_
            · simp (maxSteps := 1000000) [go_sem]
              refine blockOf_ok _ ?_
              intro H3 hp3
              rw [hc]
              simp (maxSteps := 1000000) [go_sem, Bk.val]
              refine hQ' H3.length _ _ (by simp [upF, Fr.get, Up.refl]) ⟨hp3.trans (List.prefix_append _ _), Holds.last _ _⟩
            · simp (maxSteps := 1000000) [go_sem, e1, e2, e3, wa, wb, wc, hv0, hv00]
              have hpz : H2 <+: H2 ++ [⟨[.int .i64 0, .int .i64 0, .int .i64 0], true, true⟩] := List.prefix_append _ _
              have hzz : (H2 ++ [(⟨[.int .i64 0, .int .i64 0, .int .i64 0], true, true⟩ : Blk)])[H2.length]? = some ⟨[.int .i64 0, .int .i64 0, .int .i64 0], true, true⟩ := by simp
              generalize H2 ++ [(⟨[.int .i64 0, .int .i64 0, .int .i64 0], true, true⟩ : Blk)] = HZ at hpz hzz ⊢
              refine blockOf_ok _ ?_
              intro H3 hp3
              rw [hc]
              obtain ⟨k1, k2, k3, k4⟩ := boxLate (cs := c.cells) hzz hp3 rfl rfl
              simp only [Bk.cells] at k1
              simp (maxSteps := 1000000) [go_sem, Bk.val, k1]
              refine hQ' H2.length _ _ (by simp [upF, Fr.get, Up.refl]) ⟨?_, k2⟩
              exact ((Same.of_prefix (hpz.trans hp3)).trans k3).prefix (by rintro j hj rfl; omega)
          · rintro z H3 ⟨hp3, hz⟩
            obtain ⟨z0, z1, z2, z3⟩ := hz.bk
            have hbl3 := hbl2.pre hp3
            have hown : BlocksAt H3 (lv 3 id2 0 acc2.length) acc2 := (OwnBlocks.of_ol hbl3.2.1 (by omega)).read
            have hacc3 : turnK v acc b (t + 1) = addB acc2 c := by rw [turnK_succ, hct, ← hacc2]
            simp (maxSteps := 1000000) [go_sem, z0]
            refine slicesContainsB_ok (b := c) hown _ ?_
            intro H4 hp4
            have hbl4 := hbl3.pre hp4
            obtain ⟨z0, z1, z2, z3⟩ := (hz.pre hp4).bk
            cases hm : memB acc2 c with
            | true =>
              simp (maxSteps := 1000000) [go_sem, hw_t]
              refine hK2 (t + 1, id2, acc2) _ _ (by simp only; omega) (by simp [upF, Fr.get, Up.refl]) ⟨by simp only; omega, ?_, ⟨hne2, hxb.pre (hp3.trans hp4)⟩, hbl4⟩
              simp [hacc3, addB, hm]
            | false =>
              obtain ⟨hsrc, H5, hap, hbl5, hs5⟩ := hbl4.pushS (xs := c.cells) (by omega) rfl
              simp only [Bk.cells] at hsrc hap hbl5
              have hblt : bid < H2.length := by obtain ⟨_, hb⟩ := hxb; exact (List.getElem?_eq_some_iff.1 hb).1
              have hll3 := hp3.length_le
              have hll4 := hp4.length_le
              simp (maxSteps := 1000000) [go_sem, hw_t, z0, hsrc, hap]
              refine andK_intro (by omega) (hK2 (t + 1, H4.length + 1, acc2 ++ [c]) _ _ (by simp only; omega) (by simp [upF, Fr.get, Up.refl]) ⟨by simp only; omega, by simp [hacc3, addB, hm], ?_, ?_⟩)
              · exact ⟨by simp only; omega, (hxb.pre (hp3.trans hp4)).keepS hs5 (fun e => hne2 e.symm)⟩
              · simp only [List.length_append, List.length_singleton, tri_append, tri_one, Bk.cells]
                exact hbl5
        · have : t = v := by omega
          subst this
          simp (maxSteps := 1000000) [go_sem, hw_s]
          refine hK (s + 1, id2, acc2) _ _ (by simp only; omega) (by simp [upF, Fr.get, Up.refl]) ⟨by simp only; omega, ?_, hbl2⟩
          simp only [List.take_succ_eq_append_getElem hlt, turnL_snoc, hb, ← hacc]
          exact hacc2
    · have : s = fam.length := by omega
      subst this
      rw [List.take_length] at hacc
      have hown : BlocksIn H0.length H'.length H' (lv 3 id 0 acc.length) acc := OwnBlocks.inn (OwnBlocks.of_ol hbl.2.1 (by omega)) hbl.2.2
      simp (maxSteps := 1000000) [go_sem]
      refine implSystem_ok hown.read (by omega) _ ?_
      intro H2 w hp2 hw
      obtain ⟨q1, q2, q3, q4⟩ := put2 (cs := [.int .i64 v, w]) hp0 (Nat.le_refl _) hb0 rfl (hbl.1.trans hp2) rfl (by simp [one_int, hw.one])
      have hll := hbl.1.length_le
      rw [hacc] at hw
      have fin := h _ w q3 (by rw [List.length_set]; exact (hw.keep q4 (fun j hj e => by have := hj.1; omega)).wider (by omega))
      simp (maxSteps := 1000000) [go_sem, sysV, q1, q2]
      exact ⟨_, Up.refl _ _, fin⟩

end Go.Proofs.Ytdfeoccjllljiaa
end

section
/- One list out of a list of lists. -/
set_option linter.all false
set_option maxRecDepth 20000
namespace Go.Proofs.Ytdfeoccjllljiaa
open Go.Ab

theorem row_at {H : Heap} {u : Value} {xss : List (List Int)} {k : Nat} (h : IntssAt H u xss) (hk : k < xss.length) : ∃ i o, u = lv 1 i o xss.length ∧ ∀ {H' : Heap}, H <+: H' → ∃ i' o', cellsAt H' i (o + k) 1 = some [lv 1 i' o' xss[k].length] ∧ IntsAt H' (lv 1 i' o' xss[k].length) xss[k] := by
  obtain ⟨i, o, vs, h1, h2, h3, h4, h5⟩ := h
  refine ⟨i, o, h1, fun hp => ?_⟩
  have hv : vs[k]? = some (vs[k]'(by omega)) := List.getElem?_eq_getElem (by omega)
  obtain ⟨i', o', e1, e2, e3⟩ := h4 k _ xss[k] hv (List.getElem?_eq_getElem hk)
  have c := (h3.pre hp).cell hv
  rw [e1] at c
  exact ⟨i', o', c, i', o', rfl, e2.pre hp, e3⟩


end Go.Proofs.Ytdfeoccjllljiaa
end

section
/- Squares: the specification's side. -/
set_option linter.all false
set_option maxRecDepth 20000
set_option maxHeartbeats 8000000
namespace Go.Proofs.Ytdfeoccjllljiaa
open Go.Ab Go.Sort

theorem pow_i64 {n : Nat} (h : n < 60) : IntKind.i64.wrap ((2 : Int) ^ n) = ((2 ^ n : Nat) : Int) := by
  have hm2 : 2 ^ n < 2 ^ 62 := Nat.pow_lt_pow_right (by omega) (by omega)
  have e : ((2 : Int) ^ n) = ((2 ^ n : Nat) : Int) := by rw [Int.natCast_pow]; rfl
  rw [e]
  obtain ⟨T, hT⟩ : ∃ T, 2 ^ n = T := ⟨_, rfl⟩
  rw [hT] at hm2 ⊢
  exact i64w (by omega) (by omega)

end Go.Proofs.Ytdfeoccjllljiaa
end

section
/- SquareKinds: both sides. -/
set_option linter.all false
set_option maxRecDepth 20000
set_option maxHeartbeats 8000000
namespace Go.Proofs.Ytdfeoccjllljiaa
open Go.Ab Go.Sort

def bitB (b : Bool) : Int := if b then 1 else 0
theorem specOne_ok {H : Heap} {b : Bool} (Post : Value → Heap → Prop) (h : Post (.int .i64 (bitB b)) H) : ACalls Try.prog 99 [.bool b] H Post := by
  refine acalls_vc (rs := [.tmp 2]) Try.func99 rfl rfl Try.ntmps99 rfl rfl ?_
  cases b <;> (simp (maxSteps := 1000000) [go_sem]; exact h)
end Go.Proofs.Ytdfeoccjllljiaa
end

section
/- All types of a system: order, each once, how often. Plain Lean. -/
set_option linter.all false
set_option maxRecDepth 20000
namespace Go.Proofs.Ytdfeoccjllljiaa
open Go.Ab Go.Sort

/- The two points may change places. -/
theorem _root_.Go.Ab.Turn.symm {f g : Nat → Nat} {S : Nat → Prop} (h : Turn f g S) : Turn g f S := ⟨h.gS, h.fS, h.gg, h.ff, h.gne, h.fne⟩
/- How lists are ordered. -/
def ltL (x y : List Int) : Bool := decide (lexC x y < 0)
theorem ltL_nil (y : List Int) : ltL [] y = !y.isEmpty := by cases y <;> simp [ltL, lexC]
theorem ltL_cons_nil (x : Int) (xs : List Int) : ltL (x :: xs) [] = false := by simp [ltL, lexC]
theorem ltL_cons (x y : Int) (xs ys : List Int) : ltL (x :: xs) (y :: ys) = (decide (x < y) || (decide (x = y) && ltL xs ys)) := by
  unfold ltL
  simp only [lexC]
  by_cases h1 : x < y
  · simp [h1]
  · by_cases h2 : y < x
    · simp [h1, h2]; omega
    · have : x = y := by omega
      subst this
      simp
theorem ltL_irrefl : ∀ x : List Int, ltL x x = false
  | [] => rfl
  | x :: xs => by rw [ltL_cons, ltL_irrefl xs]; simp
theorem ltL_trans : ∀ x y z : List Int, ltL x y = true → ltL y z = true → ltL x z = true
  | [], [], _, h1, _ => by simp [ltL_nil] at h1
  | [], _ :: _, [], _, h2 => by simp [ltL_cons_nil] at h2
  | [], _ :: _, _ :: _, _, _ => by simp [ltL_nil]
  | _ :: _, [], _, h1, _ => by simp [ltL_cons_nil] at h1
  | _ :: _, _ :: _, [], _, h2 => by simp [ltL_cons_nil] at h2
  | x :: xs, y :: ys, z :: zs, h1, h2 => by
    rw [ltL_cons] at *
    simp only [Bool.or_eq_true, Bool.and_eq_true, decide_eq_true_eq] at *
    have ih := ltL_trans xs ys zs
    rcases h1 with h1 | ⟨h1, h1'⟩ <;> rcases h2 with h2 | ⟨h2, h2'⟩
    · left; omega
    · left; omega
    · left; omega
    · right; exact ⟨by omega, ih h1' h2'⟩
theorem ltL_asymm {x y : List Int} (h : ltL x y = true) : ltL y x = false := by
  cases h2 : ltL y x with
  | false => rfl
  | true => have := ltL_trans _ _ _ h h2; rw [ltL_irrefl] at this; simp at this

/- Ascending lists, each element once. -/
def AscL (l : List (List Int)) : Prop := l.Pairwise (fun x y => ltL x y = true)
theorem AscL.uniq {l m : List (List Int)} (hl : AscL l) (hm : AscL m) (h : ∀ x, x ∈ l ↔ x ∈ m) : l = m := by
  have nd : ∀ {l : List (List Int)}, AscL l → l.Nodup := fun hl => List.Pairwise.imp (fun {a b} e => by rintro rfl; rw [ltL_irrefl] at e; simp at e) hl
  have hp := (List.perm_ext_iff_of_nodup (nd hl) (nd hm)).2 h
  refine hp.eq_of_pairwise ?_ hl hm
  intro x y _ _ h1 h2
  rw [ltL_asymm h1] at h2; simp at h2
/- The place where a list is put. -/
/- Runs of the same element. -/
/- All types of a system. -/
end Go.Proofs.Ytdfeoccjllljiaa
end

section
/- Lists compared: l03Less, l03Same, slices.Equal. -/
set_option linter.all false
set_option maxRecDepth 20000
set_option maxHeartbeats 8000000
namespace Go.Proofs.Ytdfeoccjllljiaa
open Go.Ab Go.Sort

theorem equalI_ok {H : Heap} {u w : Value} {l k : List Int} (hu : IntsAt H u l) (hw : IntsAt H w k) (Post : Value → Heap → Prop)
    (h : Post (.bool (decide (l = k))) H) : ACalls Try.prog 150 [u, w] H Post := by
  obtain ⟨i, o, rfl, h1, hl⟩ := hu
  obtain ⟨j, q, rfl, h2, hl'⟩ := hw
  refine acalls_vc (rs := [.tmp 4]) Try.func150 rfl rfl Try.ntmps150 rfl rfl ?_
  by_cases hnm : l.length = k.length
  · obtain ⟨n, hn⟩ : ∃ n, n = l.length := ⟨_, rfl⟩
    rw [← hnm, ← hn]
    simp (maxSteps := 1000000) [go_sem]
    refine AWp.loopVc (fun s : Nat => [(0, lv 1 i o n), (1, lv 1 j q n), (12, .int .i64 n), (13, .int .i64 s)]) (fun s H' => s ≤ n ∧ H' = H ∧ l.take s = k.take s) (fun s => n - s) 0 ?_ ?_ ?_
    · simp [upF, Fr.get, Up.refl]
    · exact ⟨by omega, rfl, by simp⟩
    · rintro K s H' ⟨hs, rfl, hf⟩ hK
      by_cases hlt : s < n
      · have c1 := h1.cell (k := s) (v := .int .i64 (l[s]'(by omega))) (by simp [ints_get, show s < l.length by omega])
        have c2 := h2.cell (k := s) (v := .int .i64 (k[s]'(by omega))) (by simp [ints_get, show s < k.length by omega])
        have t1 := List.take_succ_eq_append_getElem (show s < l.length by omega)
        have t2 := List.take_succ_eq_append_getElem (show s < k.length by omega)
        have hne : l[s]'(by omega) ≠ k[s]'(by omega) → decide (l = k) = false := by
          intro hne
          rw [decide_eq_false_iff_not]
          intro e; subst e; exact hne rfl
        generalize l[s]'(by omega) = x at *
        generalize k[s]'(by omega) = y at *
        have hw_s : IntKind.i64.wrap ((s : Int) + 1) = (s : Int) + 1 := i64w (by omega) (by omega)
        simp (maxSteps := 1000000) [go_sem, hlt]
        refine AWp.draw mixed [(0, false), (1, false), (2, false), (3, false), (4, false), (5, false), (6, false), (7, false), (8, false)] (by kernel_rfl) ?_
        simp (maxSteps := 1000000) [go_sem, hlt, c1, c2, hw_s]
        refine condK_intro (fun hh => ?_) (fun hh => ?_)
        · have : x ≠ y := by rintro rfl; simp at hh
          rw [hne this] at h
          exact h
        · have hxy : x = y := by simpa using hh
          refine hK (s + 1) _ _ (by omega) (by simp [upF, Fr.get, Up.refl]) ⟨by omega, rfl, ?_⟩
          rw [t1, t2, hf, hxy]
      · have : s = n := by omega
        subst this
        have e : l = k := by
          rw [List.take_of_length_le (by omega), List.take_of_length_le (by omega)] at hf
          exact hf
        have e' : decide (l = k) = true := decide_eq_true e
        rw [e'] at h
        simp (maxSteps := 1000000) [go_sem]
        exact h
  · have hnm' : ((l.length : Int) != (k.length : Int)) = true := by simp; omega
    have e : decide (l = k) = false := by
      rw [decide_eq_false_iff_not]
      intro e; subst e; omega
    rw [e] at h
    simp (maxSteps := 1000000) [go_sem, hnm, hnm']
    exact h

end Go.Proofs.Ytdfeoccjllljiaa
end

section
/- Difference families: triples. -/
set_option linter.all false
set_option maxRecDepth 20000
set_option maxHeartbeats 8000000
namespace Go.Proofs.Ytdfeoccjllljiaa
open Go.Ab Go.Sort

def tripS (v : Int) : List Int → Bool
  | [a, b, c] => decide (1 ≤ a) && decide (a < b) && decide (b < c) && decide (c ≤ (v - 1) / 2) && (decide (a + b = c) || decide (a + b + c = v))
  | _ => false
def tripI (v : Int) : List Int → Bool
  | [a, b, c] => decide (1 ≤ a) && decide (a < b) && decide (b < c) && decide (c < v) && (decide (a + b = c) || decide (a + b + c = v))
  | _ => false
theorem len3 {t : List Int} (h : t.length = 3) : ∃ a b c, t = [a, b, c] := by
  match t, h with
  | [a, b, c], _ => exact ⟨a, b, c, rfl⟩
theorem tripS_len {v : Int} {t : List Int} (h : t.length ≠ 3) : tripS v t = false := by
  unfold tripS; split
  · simp at h
  · rfl
theorem tripI_len {v : Int} {t : List Int} (h : t.length ≠ 3) : tripI v t = false := by
  unfold tripI; split
  · simp at h
  · rfl

theorem l02Triple_ok {H : Heap} {u : Value} {v : Int} {t : List Int} (hv : 3 ≤ v ∧ v ≤ 15) (hu : IntsAt H u t) (Post : Value → Heap → Prop) (h : Post (.bool (tripS v t)) H) :
    ACalls Try.prog 147 [.int .i64 v, u] H Post := by
  obtain ⟨i, o, rfl, h1, hl⟩ := hu
  have wv : IntKind.i64.wrap (v - 1) = v - 1 := i64w (by omega) (by omega)
  have hd : (v - 1).tdiv 2 = (v - 1) / 2 := Int.tdiv_eq_ediv_of_nonneg (by omega)
  have wh : IntKind.i64.wrap ((v - 1) / 2) = (v - 1) / 2 := i64w (by omega) (by omega)
  refine acalls_vc (rs := [.tmp 4]) Try.func147 rfl rfl Try.ntmps147 rfl rfl ?_
  simp (maxSteps := 1000000) [go_sem]
  refine AWp.draw mixed [(0, false), (1, false), (2, false), (3, false), (4, false), (5, false), (6, false), (7, false), (8, false), (9, false), (10, false), (11, false), (12, false), (13, false), (14, false), (15, false), (16, false), (17, false), (18, false), (19, false), (20, false), (21, false), (22, false), (23, false), (24, false), (25, false), (26, false), (27, false), (28, false), (29, false), (30, false), (31, false), (32, false), (33, false), (34, false), (35, false), (36, false), (37, false), (38, false), (39, false), (40, false), (41, false), (42, false), (43, false), (44, false), (45, false), (46, false), (47, false), (48, false), (49, false), (50, false), (51, false), (52, false), (53, false), (54, false), (55, false), (56, false), (57, false), (58, false), (59, false), (60, false), (61, false), (62, false), (63, false), (64, false)] (by kernel_rfl) ?_
  by_cases hn : t.length = 3
  · obtain ⟨a, b, c, rfl⟩ := len3 hn
    have l0 : cellsAt H i o 1 = some [.int .i64 a] := by simpa using h1.cell (k := 0) (v := .int .i64 a) (by simp [ints])
    have l1 := h1.cell (k := 1) (v := .int .i64 b) (by simp [ints])
    have l2 := h1.cell (k := 2) (v := .int .i64 c) (by simp [ints])
    by_cases c1 : 1 ≤ a
    · by_cases c2 : a < b
      · by_cases c3 : b < c
        · by_cases c4 : c ≤ (v - 1) / 2
          · have w1 : IntKind.i64.wrap (a + b) = a + b := i64w (by omega) (by omega)
            have w2 : IntKind.i64.wrap (a + b + c) = a + b + c := i64w (by omega) (by omega)
            by_cases c5 : a + b = c
            · have c5' : (a + b == c) = true := beq_iff_eq.2 c5
              simp (maxSteps := 1000000) [go_sem, undef, l0, l1, l2, c1, c2, c3, c4, c5', wv, hd, wh, w1, w2]
              simpa [tripS, c1, c2, c3, c4, c5] using h
            · have c5' : (a + b == c) = false := beq_eq_false_iff_ne.2 c5
              simp (maxSteps := 1000000) [go_sem, undef, l0, l1, l2, c1, c2, c3, c4, c5', wv, hd, wh, w1, w2]
              rw [show (a + b + c == v) = decide (a + b + c = v) from rfl]
              simpa [tripS, c1, c2, c3, c4, c5] using h
          · simp (maxSteps := 1000000) [go_sem, undef, l0, l1, l2, c1, c2, c3, c4, wv, hd, wh]
            simpa [tripS, c1, c2, c3, c4] using h
        · simp (maxSteps := 1000000) [go_sem, undef, l0, l1, l2, c1, c2, c3]
          simpa [tripS, c1, c2, c3] using h
      · simp (maxSteps := 1000000) [go_sem, undef, l0, l1, l2, c1, c2]
        simpa [tripS, c1, c2] using h
    · simp (maxSteps := 1000000) [go_sem, undef, l0, l1, l2, c1]
      simpa [tripS, c1] using h
  · rw [tripS_len hn] at h
    obtain ⟨n, hnn⟩ : ∃ n, t.length = n := ⟨_, rfl⟩
    rw [hnn] at hn ⊢
    have hni : ((n : Int) == 3) = false := beq_eq_false_iff_ne.2 (by omega)
    simp (maxSteps := 1000000) [go_sem, undef, hni]
    exact h

theorem isTriple_ok {H : Heap} {u : Value} {v : Int} {t : List Int} (hv : 3 ≤ v ∧ v ≤ 15) (hu : IntsAt H u t) (Post : Value → Heap → Prop) (h : Post (.bool (tripI v t)) H) :
    ACalls Try.prog 148 [.int .i64 v, u] H Post := by
  have hu' := hu
  obtain ⟨i, o, rfl, h1, hl⟩ := hu
  refine acalls_vc (rs := [.tmp 4]) Try.func148 rfl rfl Try.ntmps148 rfl rfl ?_
  simp (maxSteps := 1000000) [go_sem]
  refine AWp.draw mixed [(0, false), (1, false), (2, false), (3, false), (4, false), (5, false), (6, false), (7, false), (8, false), (9, false), (10, false), (11, false), (12, false), (13, false), (14, false), (15, false), (16, false), (17, false), (18, false), (19, false), (20, false), (21, false), (22, false), (23, false), (24, false), (25, false), (26, false), (27, false), (28, false), (29, false), (30, false), (31, false), (32, false), (33, false), (34, false), (35, false), (36, false), (37, false), (38, false), (39, false), (40, false), (41, false), (42, false)] (by kernel_rfl) ?_
  by_cases hn : t.length = 3
  · have hn' := hn
    obtain ⟨a, b, c, rfl⟩ := len3 hn
    have l0 : cellsAt H i o 1 = some [.int .i64 a] := by simpa using h1.cell (k := 0) (v := .int .i64 a) (by simp [ints])
    have l1 := h1.cell (k := 1) (v := .int .i64 b) (by simp [ints])
    have l2 := h1.cell (k := 2) (v := .int .i64 c) (by simp [ints])
    simp (maxSteps := 1000000) [go_sem, undef, l0, l1, l2]
    refine rises_ok (n := v) hu' (by omega) (by omega) _ ?_
    intro r hr
    by_cases hR : Rises v [a, b, c]
    · have hg := good_iff.1 ((rises_block v ⟨a, b, c⟩).1 hR)
      simp only at hg
      obtain rfl : r = true := hr.2 hR
      by_cases c1 : 1 ≤ a
      · have w1 : IntKind.i64.wrap (a + b) = a + b := i64w (by omega) (by omega)
        have w2 : IntKind.i64.wrap (a + b + c) = a + b + c := i64w (by omega) (by omega)
        have c2 : a < b := by omega
        have c3 : b < c := by omega
        have c4 : c < v := by omega
        by_cases c5 : a + b = c
        · have c5' : (a + b == c) = true := beq_iff_eq.2 c5
          simp (maxSteps := 1000000) [go_sem, undef, l0, l1, l2, c1, c5', w1, w2]
          simpa [tripI, c1, c2, c3, c4, c5] using h
        · have c5' : (a + b == c) = false := beq_eq_false_iff_ne.2 c5
          simp (maxSteps := 1000000) [go_sem, undef, l0, l1, l2, c1, c5', w1, w2]
          rw [show (a + b + c == v) = decide (a + b + c = v) from rfl]
          simpa [tripI, c1, c2, c3, c4, c5] using h
      · simp (maxSteps := 1000000) [go_sem, undef, l0, l1, l2, c1]
        simpa [tripI, c1] using h
    · obtain rfl : r = false := by cases r with | false => rfl | true => exact absurd (hr.1 rfl) hR
      have e : tripI v [a, b, c] = false := by
        cases ht : tripI v [a, b, c] with
        | false => rfl
        | true =>
          simp only [tripI, Bool.and_eq_true, decide_eq_true_eq] at ht
          exact absurd ((rises_block v ⟨a, b, c⟩).2 (good_iff.2 (by simp only; omega))) hR
      rw [e] at h
      simp (maxSteps := 1000000) [go_sem, undef, l0, l1, l2]
      exact h
  · rw [tripI_len hn] at h
    obtain ⟨n, hnn⟩ : ∃ n, t.length = n := ⟨_, rfl⟩
    rw [hnn] at hn ⊢
    have hni : ((n : Int) == 3) = false := beq_eq_false_iff_ne.2 (by omega)
    simp (maxSteps := 1000000) [go_sem, undef, hni]
    exact h

end Go.Proofs.Ytdfeoccjllljiaa
end

section
/- Difference families: there is one for each number. Plain. -/
set_option linter.all false
set_option maxRecDepth 20000
set_option maxHeartbeats 8000000
namespace Go.Proofs.Ytdfeoccjllljiaa
open Go.Ab Go.Sort

def NumB (v : Int) : Prop := v = 7 ∨ v = 13 ∨ v = 15
def preF (v : Int) : List Int := if v = 15 then [5] else []
def famOf (v : Int) : List (List Int) := if v = 7 then [[1, 2, 3]] else if v = 13 then [[1, 3, 4], [2, 5, 6]] else [[1, 3, 4], [2, 6, 7]]
def diffL (v : Int) : List Int := if v = 7 then [1, 2, 3] else if v = 13 then [1, 2, 3, 4, 5, 6] else [1, 2, 3, 4, 6, 7]
def hd (t : List Int) : Int := t.headD 0
structure IsFam (v : Int) (xs : List (List Int)) : Prop where
  trip : ∀ t ∈ xs, tripS v t = true
  ord : ∀ (i : Nat) (x y : List Int), xs[i]? = some x → xs[i + 1]? = some y → hd x < hd y
  nod : (preF v ++ xs.flatten).Nodup
  cnt : (3 * (xs.length : Int)) = (v - 1) / 2 - (if v = 15 then 1 else 0)
structure IsFamI (v : Int) (xs : List (List Int)) : Prop where
  trip : ∀ t ∈ xs, tripI v t = true
  ord : ∀ (i : Nat) (x y : List Int), xs[i]? = some x → xs[i + 1]? = some y → lexC x y < 0
  perm : xs.flatten.Perm (diffL v)

def L8 : List Int := [0, 1, 2, 3, 4, 5, 6, 7]
theorem fam7 : ∀ a ∈ L8, ∀ b ∈ L8, ∀ c ∈ L8, tripS 7 [a, b, c] = true → [[a, b, c]] = famOf 7 := by decide +kernel
theorem fam13 : ∀ a ∈ L8, ∀ b ∈ L8, ∀ c ∈ L8, tripS 13 [a, b, c] = true → ∀ d ∈ L8, ∀ e ∈ L8, ∀ f ∈ L8, tripS 13 [d, e, f] = true → a < d → [a, b, c, d, e, f].Nodup → [[a, b, c], [d, e, f]] = famOf 13 := by decide +kernel
theorem fam15 : ∀ a ∈ L8, ∀ b ∈ L8, ∀ c ∈ L8, tripS 15 [a, b, c] = true → ∀ d ∈ L8, ∀ e ∈ L8, ∀ f ∈ L8, tripS 15 [d, e, f] = true → a < d → [5, a, b, c, d, e, f].Nodup → [[a, b, c], [d, e, f]] = famOf 15 := by decide +kernel

theorem mem_L8 {x : Int} (h : 0 ≤ x ∧ x ≤ 7) : x ∈ L8 := by
  have : x = 0 ∨ x = 1 ∨ x = 2 ∨ x = 3 ∨ x = 4 ∨ x = 5 ∨ x = 6 ∨ x = 7 := by omega
  simpa [L8] using this
theorem tripS_iff {v a b c : Int} : tripS v [a, b, c] = true ↔ 1 ≤ a ∧ a < b ∧ b < c ∧ c ≤ (v - 1) / 2 ∧ (a + b = c ∨ a + b + c = v) := by
  simp only [tripS, Bool.and_eq_true, Bool.or_eq_true, decide_eq_true_eq, and_assoc]
theorem tripI_iff {v a b c : Int} : tripI v [a, b, c] = true ↔ 1 ≤ a ∧ a < b ∧ b < c ∧ c < v ∧ (a + b = c ∨ a + b + c = v) := by
  simp only [tripI, Bool.and_eq_true, Bool.or_eq_true, decide_eq_true_eq, and_assoc]
theorem tripS_three {v : Int} {t : List Int} (h : tripS v t = true) : ∃ a b c, t = [a, b, c] :=
  len3 (Classical.byContradiction fun e => by rw [tripS_len e] at h; cases h)
theorem tripI_three {v : Int} {t : List Int} (h : tripI v t = true) : ∃ a b c, t = [a, b, c] :=
  len3 (Classical.byContradiction fun e => by rw [tripI_len e] at h; cases h)

theorem fam_to {v : Int} {xs : List (List Int)} (hv : NumB v) (h : IsFam v xs) : xs = famOf v := by
  have hc := h.cnt
  have bd : ∀ {a b c : Int}, tripS v [a, b, c] = true → a ∈ L8 ∧ b ∈ L8 ∧ c ∈ L8 := by
    intro a b c ht
    have := tripS_iff.1 ht
    exact ⟨mem_L8 (by unfold NumB at hv; omega), mem_L8 (by unfold NumB at hv; omega), mem_L8 (by unfold NumB at hv; omega)⟩
  rcases hv with rfl | rfl | rfl
  · have hl : xs.length = 1 := by simp at hc; omega
    match xs, hl, h with
    | [t], _, h =>
      have h1 := h.trip t (by simp)
      obtain ⟨a, b, c, rfl⟩ := tripS_three h1
      obtain ⟨m1, m2, m3⟩ := bd h1
      exact fam7 a m1 b m2 c m3 h1
  · have hl : xs.length = 2 := by simp at hc; omega
    match xs, hl, h with
    | [t, u], _, h =>
      have h1 := h.trip t (by simp)
      have h2 := h.trip u (by simp)
      obtain ⟨a, b, c, rfl⟩ := tripS_three h1
      obtain ⟨d, e, f, rfl⟩ := tripS_three h2
      obtain ⟨m1, m2, m3⟩ := bd h1
      obtain ⟨m4, m5, m6⟩ := bd h2
      exact fam13 a m1 b m2 c m3 h1 d m4 e m5 f m6 h2 (h.ord 0 _ _ rfl rfl) h.nod
  · have hl : xs.length = 2 := by simp at hc; omega
    match xs, hl, h with
    | [t, u], _, h =>
      have h1 := h.trip t (by simp)
      have h2 := h.trip u (by simp)
      obtain ⟨a, b, c, rfl⟩ := tripS_three h1
      obtain ⟨d, e, f, rfl⟩ := tripS_three h2
      obtain ⟨m1, m2, m3⟩ := bd h1
      obtain ⟨m4, m5, m6⟩ := bd h2
      exact fam15 a m1 b m2 c m3 h1 d m4 e m5 f m6 h2 (h.ord 0 _ _ rfl rfl) h.nod
theorem ord_one {R : List Int → List Int → Prop} (x0 : List Int) : ∀ (i : Nat) (x y : List Int), [x0][i]? = some x → [x0][i + 1]? = some y → R x y := by
  intro i x y _ h2; simp at h2
theorem ord_two {R : List Int → List Int → Prop} {x0 y0 : List Int} (h : R x0 y0) : ∀ (i : Nat) (x y : List Int), [x0, y0][i]? = some x → [x0, y0][i + 1]? = some y → R x y := by
  intro i x y h1 h2
  match i with
  | 0 => simp at h1 h2; subst h1; subst h2; exact h
  | i + 1 => simp at h2
theorem fam_is {v : Int} (hv : NumB v) : IsFam v (famOf v) := by
  rcases hv with rfl | rfl | rfl
  · exact ⟨by decide, ord_one _, by decide, by decide⟩
  · exact ⟨by decide, ord_two (by decide), by decide, by decide⟩
  · exact ⟨by decide, ord_two (by decide), by decide, by decide⟩
theorem famI_is {v : Int} (hv : NumB v) : IsFamI v (famOf v) := by
  rcases hv with rfl | rfl | rfl
  · exact ⟨by decide, ord_one _, by decide⟩
  · exact ⟨by decide, ord_two (by decide), by decide⟩
  · exact ⟨by decide, ord_two (by decide), by decide⟩
theorem diffL_in {v : Int} (hv : NumB v) {x : Int} (h : x ∈ diffL v) : x ≤ (v - 1) / 2 := by
  rcases hv with rfl | rfl | rfl <;> simp [diffL] at h <;> omega
theorem diffL_nod {v : Int} (hv : NumB v) : (preF v ++ diffL v).Nodup := by
  rcases hv with rfl | rfl | rfl <;> decide
theorem diffL_asc {v : Int} (hv : NumB v) : AscI (diffL v) := by
  rcases hv with rfl | rfl | rfl <;> (unfold AscI diffL; decide)
theorem diffL_len {v : Int} (hv : NumB v) : ((diffL v).length : Int) = (v - 1) / 2 - (if v = 15 then 1 else 0) := by
  rcases hv with rfl | rfl | rfl <;> decide
theorem flat3 {v : Int} : ∀ {xs : List (List Int)}, (∀ t ∈ xs, tripI v t = true) → xs.flatten.length = 3 * xs.length
  | [], _ => rfl
  | t :: xs, h => by
    obtain ⟨a, b, c, rfl⟩ := tripI_three (h t (by simp))
    rw [List.flatten_cons, List.length_append, flat3 (fun t ht => h t (by simp [ht]))]
    simp only [List.length_cons, List.length_nil]; omega
theorem famI_to {v : Int} {xs : List (List Int)} (hv : NumB v) (h : IsFamI v xs) : xs = famOf v := by
  refine fam_to hv ⟨?_, ?_, ?_, ?_⟩
  · intro t ht
    have h1 := h.trip t ht
    obtain ⟨a, b, c, rfl⟩ := tripI_three h1
    have h2 := tripI_iff.1 h1
    have hc : c ∈ xs.flatten := List.mem_flatten.2 ⟨_, ht, by simp⟩
    have := diffL_in hv (h.perm.mem_iff.1 hc)
    exact tripS_iff.2 ⟨h2.1, h2.2.1, h2.2.2.1, this, h2.2.2.2.2⟩
  · intro i x y hx hy
    have hlt := h.ord i x y hx hy
    have mx : x ∈ xs := List.mem_of_getElem? hx
    have my : y ∈ xs := List.mem_of_getElem? hy
    obtain ⟨a, b, c, rfl⟩ := tripI_three (h.trip x mx)
    obtain ⟨d, e, f, rfl⟩ := tripI_three (h.trip y my)
    have had : a ≤ d := by
      simp only [lexC] at hlt
      by_cases h1 : a < d
      · omega
      · by_cases h2 : d < a
        · rw [if_neg h1, if_pos h2] at hlt; omega
        · omega
    have hne : a ≠ d := by
      rintro rfl
      obtain ⟨hi, hxe⟩ := List.getElem?_eq_some_iff.1 hx
      obtain ⟨hi', hye⟩ := List.getElem?_eq_some_iff.1 hy
      have hd1 : xs.drop i = [a, b, c] :: [a, e, f] :: xs.drop (i + 2) := by
        rw [List.drop_eq_getElem_cons hi, hxe, List.drop_eq_getElem_cons hi', hye]
      have hn : xs.flatten.Nodup := h.perm.nodup_iff.2 (List.nodup_append.1 (diffL_nod hv)).2.1
      have e1 : xs.flatten = (xs.take i).flatten ++ ([a, b, c] ++ ([a, e, f] ++ (xs.drop (i + 2)).flatten)) := by
        conv => lhs; rw [← List.take_append_drop i xs, List.flatten_append, hd1]
        simp
      rw [e1] at hn
      have h2 := (List.nodup_append.1 hn).2.1
      simp at h2
    show a < d
    omega
  · have := h.perm.append_left (preF v)
    exact this.nodup_iff.2 (diffL_nod hv)
  · rw [← diffL_len hv, ← h.perm.length_eq, flat3 h.trip]; omega

end Go.Proofs.Ytdfeoccjllljiaa
end

section
/- slices.Grow and slices.Concat over numbers. -/
set_option linter.all false
set_option maxRecDepth 20000
set_option maxHeartbeats 8000000
namespace Go.Proofs.Ytdfeoccjllljiaa
open Go.Ab

theorem growI_ok {H : Heap} {n : Nat} (hn : n ≤ 1048576) (Post : Value → Heap → Prop) (h : ∀ H' v, H <+: H' → OE 1 H.length H' v [] 0 → Post v H') :
    ACalls Try.prog 180 [.slice none 0 0, .int .i64 n] H Post := by
  refine acalls_vc (rs := [.tmp 4]) Try.func180 rfl rfl Try.ntmps180 rfl rfl ?_
  have hw : IntKind.i64.wrap (n : Int) = n := i64w (by omega) (by omega)
  have hneg : decide ((n : Int) < 0) = false := by simp
  by_cases h0 : n = 0
  · subst h0
    simp (maxSteps := 1000000) [go_sem, i64w (n := 0)]
    exact h H _ (List.prefix_refl _) (OE.nil _ _ _)
  · have hpos : 0 < n := by omega
    have hw0 : IntKind.i64.wrap 0 = 0 := i64w (by omega) (by omega)
    simp (maxSteps := 1000000) [go_sem, hw, hw0, hneg, hpos, sliceV, boundV, lenV]
    refine andK_intro (by omega) ?_
    refine h _ _ (List.prefix_append _ _) ⟨by simp, .inr (.inr ⟨H.length, Nat.le_refl _, rfl, .inl ⟨rfl, .inr ?_⟩⟩)⟩
    simp [ownAt]

theorem concatI_ok {H : Heap} {oi oo : Nat} {vs : List Value} {bss : List (List Int)} (hat : At H oi oo vs) (hl : vs.length = bss.length) (hb : ∀ (k : Nat) (v : Value) (bs : List Int), vs[k]? = some v → bss[k]? = some bs → IntsAt H v bs)
    (hsz : bss.flatten.length ≤ 1048576) (hn : bss.length ≤ 1048576) (Post : Value → Heap → Prop) (h : ∀ H' w, H <+: H' → IntsIn H.length H'.length H' w bss.flatten → Post w H') :
    ACalls Try.prog 153 [lv 1 oi oo bss.length] H Post := by
  refine ACalls.res ?_
  refine acalls_vc (rs := [.tmp 2]) Try.func153 rfl rfl Try.ntmps153 rfl rfl ?_
  simp (maxSteps := 1000000) [go_sem]
  have hpart : ∀ s, (bss.take s).flatten.length ≤ bss.flatten.length := by
    intro s
    conv => rhs; rw [← List.take_append_drop s bss, List.flatten_append, List.length_append]
    omega
  have hsucc : ∀ {s : Nat} {bs : List Int}, bss[s]? = some bs → (bss.take (s + 1)).flatten = (bss.take s).flatten ++ bs := by
    intro s bs hx
    obtain ⟨hlt, rfl⟩ := List.getElem?_eq_some_iff.1 hx
    rw [List.take_succ_eq_append_getElem hlt, List.flatten_append]; simp
  refine AWp.loopVc (fun s : Nat => [(0, lv 1 oi oo bss.length), (3, .int .i64 (bss.take s).flatten.length), (9, lv 1 oi oo bss.length), (10, .int .i64 bss.length), (11, .int .i64 s)])
    (fun s H' => s ≤ bss.length ∧ H' = H) (fun s => bss.length - s) 0 ?_ ?_ ?_
  · simp [upF, Fr.get, Up.refl]
  · simp
  · rintro K s H' ⟨hs, rfl⟩ hK
    by_cases hlt : s < bss.length
    · have hx : bss[s]? = some bss[s] := List.getElem?_eq_getElem hlt
      have hv : vs[s]? = some (vs[s]'(by omega)) := List.getElem?_eq_getElem _
      have c1 := hat.cell hv
      obtain ⟨i, o, he, h1, h2⟩ := hb s _ _ hv hx
      rw [he] at c1
      have hw_s : IntKind.i64.wrap ((s : Int) + 1) = (s : Int) + 1 := i64w (by omega) (by omega)
      have hsn := hsucc hx
      have h3 := hpart (s + 1)
      rw [hsn, List.length_append] at h3
      obtain ⟨T, hT⟩ : ∃ T, T = (bss.take s).flatten.length := ⟨_, rfl⟩
      rw [← hT] at h3
      have hw2 : IntKind.i64.wrap ((T : Int) + (bss[s].length : Int)) = ((T + bss[s].length : Nat) : Int) := by rw [i64w (by omega) (by omega)]; omega
      have hneg : decide (((T + bss[s].length : Nat) : Int) < 0) = false := by simp only [decide_eq_false_iff_not]; omega
      rw [← hT]
      simp (maxSteps := 1000000) only [Int.natCast_add] at hw2 hneg
      simp (maxSteps := 1000000) [go_sem, hlt, c1, hw_s, hw2, hneg]
      refine hK (s + 1) _ _ (by omega) ?_ ⟨by omega, rfl⟩
      have e : (((bss.take (s + 1)).flatten.length : Nat) : Int) = (T : Int) + (bss[s].length : Int) := by rw [hsn, List.length_append, hT]; omega
      simp only [upF, Fr.get]
      refine ⟨⟨_, rfl, Up.refl _ _⟩, ⟨_, rfl, ?_⟩, ⟨_, rfl, Up.refl _ _⟩, ⟨_, rfl, Up.refl _ _⟩, ⟨_, rfl, Up.refl _ _⟩, trivial⟩
      rw [e]; exact Up.refl _ _
    · have : s = bss.length := by omega
      subst this
      simp (maxSteps := 1000000) [go_sem, -List.length_flatten]
      refine growI_ok hsz _ ?_
      intro H1 v0 hp1 he1
      simp (maxSteps := 1000000) [go_sem]
      refine AWp.loopVc (St := Nat × Value) (fun s => [(6, s.2), (25, lv 1 oi oo bss.length), (26, .int .i64 bss.length), (27, .int .i64 s.1)])
        (fun s H2 => s.1 ≤ bss.length ∧ H' <+: H2 ∧ OE 1 H'.length H2 s.2 (ints (bss.take s.1).flatten) (bss.take s.1).flatten.length) (fun s => bss.length - s.1) (0, v0) ?_ ?_ ?_
      · simp [upF, Fr.get, Up.refl]
      · exact ⟨by simp, hp1, by simpa [ints] using he1⟩
      · rintro K2 ⟨s, v⟩ H2 ⟨hs2, hp2, he2⟩ hK2
        simp only at hs2 he2
        by_cases hlt2 : s < bss.length
        · have hx : bss[s]? = some bss[s] := List.getElem?_eq_getElem hlt2
          have hv : vs[s]? = some (vs[s]'(by omega)) := List.getElem?_eq_getElem _
          have c1 := (hat.pre hp2).cell hv
          obtain ⟨i, o, he, h1, h2⟩ := hb s _ _ hv hx
          rw [he] at c1
          have hw_s : IntKind.i64.wrap ((s : Int) + 1) = (s : Int) + 1 := i64w (by omega) (by omega)
          have hsn := hsucc hx
          have h3 := hpart (s + 1)
          rw [hsn, List.length_append] at h3
          have hsrc := (h1.pre hp2).src (e := 1) (n := bss[s].length) (s := some 1) (by rw [ints_length]; omega) (by omega) bss[s].length
          simp only [srcCells, Nat.mul_one] at hsrc
          obtain ⟨v3, H3, hap, he3, hk3, hl3⟩ := he2.append (m := bss[s].length) (news := ints bss[s]) (by omega) hp2.length_le (by rw [ints_length]; omega)
          obtain ⟨a2, rfl⟩ := he2.shape
          generalize hT : (bss.take s).flatten.length = T at *
          generalize hm : (bss[s]).length = m at c1 hsrc hap h3 h2
          simp (maxSteps := 1000000) [go_sem, hlt2, c1, hw_s, hsrc, hap]
          refine andK_intro (by omega) (hK2 (s + 1, v3) _ _ (by simp only; omega) (by simp [upF, Fr.get, Up.refl]) ⟨by simp only; omega, KeepL.prefix hp2 (Nat.le_refl _) hk3 hl3, ?_⟩)
          simp only [hsn]
          rw [← ints_append, List.length_append, hT, hm]
          rw [hm] at he3
          exact he3
        · have : s = bss.length := by omega
          subst this
          simp (maxSteps := 1000000) [go_sem]
          rw [List.take_length] at he2
          obtain ⟨w, hup, hw⟩ := he2.ints (by omega)
          exact ⟨w, hup, h _ w hp2 hw⟩

end Go.Proofs.Ytdfeoccjllljiaa
end

section
/- Difference families: the implementation's side. -/
set_option linter.all false
set_option maxRecDepth 20000
set_option maxHeartbeats 8000000
namespace Go.Proofs.Ytdfeoccjllljiaa
open Go.Ab Go.Sort

def numB (v : Int) : Bool := decide (v = 7) || decide (v = 13) || decide (v = 15)
theorem numB_iff {v : Int} : numB v = true ↔ NumB v := by simp [numB, NumB, or_assoc]
theorem isCyclic_ok {H : Heap} {v : Int} (Post : Value → Heap → Prop) (h : Post (.bool (numB v)) H) : ACalls Try.prog 104 [.int .i64 v] H Post := by
  refine acalls_vc (rs := [.tmp 2]) Try.func104 rfl rfl Try.ntmps104 rfl rfl ?_
  by_cases c1 : v = 7
  · subst c1
    simp (maxSteps := 1000000) [go_sem, undef]; exact h
  by_cases c2 : v = 13
  · subst c2
    simp (maxSteps := 1000000) [go_sem, undef]; exact h
  have e1 : (v == 7) = false := beq_eq_false_iff_ne.2 c1
  have e2 : (v == 13) = false := beq_eq_false_iff_ne.2 c2
  have e3 : (v == 15) = decide (v = 15) := rfl
  have hn : numB v = decide (v = 15) := by simp [numB, c1, c2]
  rw [hn] at h
  simp (maxSteps := 1000000) [go_sem, undef, e1, e2]
  rw [e3]; exact h

def dfK (v : Int) (k : Nat) : List Int := ((upTo 1 k).filter fun n => decide (v ≠ 15 ∨ n ≠ 5)).map fun n : Nat => (n : Int)
theorem dfK_succ {v : Int} {k : Nat} (h : 1 ≤ k) : dfK v (k + 1) = dfK v k ++ (if v ≠ 15 ∨ k ≠ 5 then [(k : Int)] else []) := by
  unfold dfK
  rw [upTo_succ h, List.filter_append, List.map_append]
  congr 1
  by_cases hc : v ≠ 15 ∨ k ≠ 5
  · rw [if_pos hc]; simp [hc]
  · rw [if_neg hc]; simp [hc]
theorem dfK_len (v : Int) (k : Nat) : (dfK v k).length ≤ k := by
  unfold dfK; rw [List.length_map]
  refine Nat.le_trans (List.length_filter_le _ _) ?_
  rw [upTo_length]; omega

theorem differences_ok {H : Heap} {v : Int} (hv : NumB v) (Post : Value → Heap → Prop) (h : ∀ H' w, H <+: H' → IntsIn H.length H'.length H' w (diffL v) → Post w H') : ACalls Try.prog 109 [.int .i64 v] H Post := by
  refine ACalls.res ?_
  refine acalls_vc (rs := [.tmp 2]) Try.func109 rfl rfl Try.ntmps109 rfl rfl ?_
  simp (maxSteps := 1000000) [go_sem]
  refine AWp.addGhost ?_
  have hbl0 := Bl.ghost 1 H
  generalize H ++ [(⟨[], false, false⟩ : Blk)] = HG at hbl0 ⊢
  obtain ⟨m, hm, hm7, hd⟩ : ∃ m : Nat, (v - 1) / 2 = m ∧ m ≤ 7 ∧ dfK v (m + 1) = diffL v := by
    rcases hv with rfl | rfl | rfl
    · exact ⟨3, rfl, by omega, by decide⟩
    · exact ⟨6, rfl, by omega, by decide⟩
    · exact ⟨7, rfl, by omega, by decide⟩
  have hvb : 7 ≤ v ∧ v ≤ 15 := by unfold NumB at hv; omega
  have wv : IntKind.i64.wrap (v - 1) = v - 1 := i64w (by omega) (by omega)
  have hq : (v - 1).tdiv 2 = m := by rw [Int.tdiv_eq_ediv_of_nonneg (by omega), hm]
  have wh : IntKind.i64.wrap (m : Int) = m := i64w (by omega) (by omega)
  refine AWp.loopVc (St := Nat × Nat × List Int) (fun s => [(0, .int .i64 v), (3, lv 1 s.2.1 0 s.2.2.length), (4, .int .i64 s.1)])
    (fun s H' => 1 ≤ s.1 ∧ s.1 ≤ m + 1 ∧ s.2.2 = dfK v s.1 ∧ Bl 1 H H' s.2.1 (ints s.2.2) s.2.2.length) (fun s => m + 1 - s.1) (1, H.length, []) ?_ ?_ ?_
  · simp [upF, Fr.get, Up.refl, Up.nil]
  · exact ⟨by simp, by simp, by simp [dfK, upTo_self], by simpa [ints] using hbl0⟩
  · rintro K ⟨s, id, acc⟩ H' ⟨h1, hs, hacc, hbl⟩ hK
    simp only at h1 hs hacc hbl
    have hla : acc.length ≤ 10 := by rw [hacc]; have := dfK_len v s; omega
    by_cases hlt : s ≤ m
    · have hw_s : IntKind.i64.wrap ((s : Int) + 1) = (s : Int) + 1 := i64w (by omega) (by omega)
      have hsn := dfK_succ (v := v) (k := s) h1
      rw [← hacc] at hsn
      have hlti : (s : Int) ≤ m := by omega
      obtain ⟨hsrc, H5, hap, hbl5⟩ := hbl.push (xs := ints [(s : Int)]) (by omega) (by simp [ints])
      simp only [ints, List.map_cons, List.map_nil] at hsrc hap
      have yes : (v ≠ 15 ∨ s ≠ 5) → ∀ fr', upF H5 [(0, .int .i64 v), (3, lv 1 (H'.length + 1) 0 (acc.length + 1)), (4, .int .i64 (s + 1))] fr' → K fr' H5 := fun hc fr' hf =>
        hK (s + 1, H'.length + 1, acc ++ [(s : Int)]) _ _ (by simp only; omega) (by simpa using hf) ⟨by simp only; omega, by simp only; omega, by simp only [hsn]; rw [if_pos hc], by
          rw [ints_append] at hbl5; simpa using hbl5⟩
      by_cases c15 : v = 15
      · have b15 : (v != 15) = false := by simp [c15]
        by_cases c5 : s = 5
        · have no : ∀ fr', upF H' [(0, .int .i64 v), (3, lv 1 id 0 acc.length), (4, .int .i64 (s + 1))] fr' → K fr' H' := fun fr' hf =>
            hK (s + 1, id, acc) _ _ (by simp only; omega) (by simpa using hf) ⟨by simp only; omega, by simp only; omega, by simp only [hsn]; rw [if_neg (by omega)]; simp, hbl⟩
          have b5 : ((s : Int) != 5) = false := by simp; omega
          simp (maxSteps := 1000000) [go_sem, undef, wv, hq, wh, hlt, hlti, b15, b5, hw_s]
          exact no _ (by simp [upF, Fr.get, Up.refl])
        · have b5 : ((s : Int) != 5) = true := by simp; omega
          simp (maxSteps := 1000000) [go_sem, undef, wv, hq, wh, hlt, hlti, b15, b5, hw_s, hsrc, hap]
          exact andK_intro (by omega) (yes (.inr c5) _ (by simp [upF, Fr.get, Up.refl]))
      · have b15 : (v != 15) = true := by simp [c15]
        simp (maxSteps := 1000000) [go_sem, undef, wv, hq, wh, hlt, hlti, b15, hw_s, hsrc, hap]
        exact andK_intro (by omega) (yes (.inl c15) _ (by simp [upF, Fr.get, Up.refl]))
    · have : s = m + 1 := by omega
      subst this
      have hge : ¬ ((m : Int) + 1 ≤ m) := by omega
      simp (maxSteps := 1000000) [go_sem, wv, hq, wh, hge]
      refine ⟨_, Up.refl _ _, h H' _ hbl.1 ?_⟩
      rw [← hd, ← hacc]
      exact OwnInts.inn (OwnInts.of_ol hbl.2.1 (by omega)) hbl.2.2

theorem isFamily_ok {H : Heap} {u : Value} {v : Int} {xs : List (List Int)} (hv : NumB v) (hu : IntssAt H u xs) (hl : xs.length + xs.flatten.length ≤ 1048576) (Post : Value → Heap → Prop) (h : ∀ H', H <+: H' → Post (.bool (decide (xs = famOf v))) H') :
    ACalls Try.prog 105 [.int .i64 v, u] H Post := by
  obtain ⟨i, o, rfl⟩ : ∃ i o, u = lv 1 i o xs.length := by obtain ⟨i, o, _, e, _⟩ := hu; exact ⟨i, o, e⟩
  have hvb : 7 ≤ v ∧ v ≤ 15 := by unfold NumB at hv; omega
  have no : ¬ IsFamI v xs → ∀ H', H <+: H' → Post (.bool false) H' := by
    intro hn H' hp
    have := h H' hp
    rwa [decide_eq_false (fun e : xs = famOf v => hn (by rw [e]; exact famI_is hv))] at this
  refine acalls_vc (rs := [.tmp 4]) Try.func105 rfl rfl Try.ntmps105 rfl rfl ?_
  simp (maxSteps := 1000000) [go_sem]
  refine AWp.loopVc (fun s : Nat => [(0, .int .i64 v), (1, lv 1 i o xs.length), (7, lv 1 i o xs.length), (8, .int .i64 xs.length), (9, .int .i64 s)])
    (fun s H' => s ≤ xs.length ∧ H <+: H' ∧ (∀ t ∈ xs.take s, tripI v t = true) ∧ ∀ (j : Nat) (x y : List Int), j + 1 < s → xs[j]? = some x → xs[j + 1]? = some y → lexC x y < 0) (fun s => xs.length - s) 0 ?_ ?_ ?_
  · simp [upF, Fr.get, Up.refl]
  · exact ⟨by omega, List.prefix_refl _, by simp, fun j x y hj => by omega⟩
  · rintro K s H' ⟨hs, hp, htr, hor⟩ hK
    by_cases hlt : s < xs.length
    · have hx : xs[s]? = some xs[s] := List.getElem?_eq_getElem hlt
      have hmem : xs[s] ∈ xs := List.getElem_mem hlt
      obtain ⟨i0, o0, ee, row⟩ := row_at hu hlt
      cases ee
      obtain ⟨i', o', c1, hrow⟩ := row hp
      have hw_s : IntKind.i64.wrap ((s : Int) + 1) = (s : Int) + 1 := i64w (by omega) (by omega)
      have tsn := List.take_succ_eq_append_getElem hlt
      obtain ⟨t, ht⟩ : ∃ t, xs[s] = t := ⟨_, rfl⟩
      rw [ht] at c1 hrow hx hmem tsn
      simp (maxSteps := 1000000) [go_sem, hlt, c1]
      refine isTriple_ok (by omega) hrow _ ?_
      cases htI : tripI v t with
      | false =>
        simp (maxSteps := 1000000) [go_sem, undef]
        exact no (fun hh => by have := hh.trip t hmem; rw [htI] at this; cases this) _ hp
      | true =>
        have htr' : ∀ r ∈ xs.take (s + 1), tripI v r = true := by
          intro r hr
          rw [tsn, List.mem_append, List.mem_singleton] at hr
          rcases hr with hr | rfl
          · exact htr r hr
          · exact htI
        by_cases hs0 : s = 0
        · subst hs0
          have w1 : IntKind.i64.wrap 1 = 1 := i64w (by omega) (by omega)
          simp (maxSteps := 1000000) [go_sem, undef, hlt, w1]
          exact hK 1 _ _ (by omega) (by simp [upF, Fr.get, Up.refl]) ⟨by omega, hp, htr', fun j x y hj => by omega⟩
        · obtain ⟨s', rfl⟩ : ∃ s', s = s' + 1 := ⟨s - 1, by omega⟩
          obtain ⟨_, _, ee, row'⟩ := row_at hu (show s' < xs.length by omega)
          cases ee
          obtain ⟨i2, o2, c2, hrow2⟩ := row' hp
          have hx' : xs[s']? = some (xs[s']'(by omega)) := List.getElem?_eq_getElem (by omega)
          obtain ⟨t', ht'⟩ : ∃ t', xs[s']'(by omega) = t' := ⟨_, rfl⟩
          rw [ht'] at c2 hrow2 hx'
          have wm : IntKind.i64.wrap ((s' : Int) + 1 - 1) = s' := i64w (by omega) (by omega) |>.trans (by omega)
          have wm' : IntKind.i64.wrap (s' : Int) = s' := i64w (by omega) (by omega)
          have hpos : (0 : Int) < (s' : Int) + 1 := by omega
          have hlt' : s' < xs.length := by omega
          have ww : IntKind.i64.wrap ((s' : Int) + 1 + 1) = (s' : Int) + 2 := i64w (by omega) (by omega) |>.trans (by omega)
          simp (maxSteps := 1000000) [go_sem, undef, hlt, hpos, wm, wm', hlt', c2]
          refine slicesCompare_ok hrow2 hrow _ ?_
          by_cases hc : lexC t' t < 0
          · have hc' : ¬ (0 ≤ lexC t' t) := by omega
            simp (maxSteps := 1000000) [go_sem, undef, hc', hw_s]
            refine hK (s' + 2) _ _ (by omega) (by simp [upF, Fr.get, Up.refl, ww]) ⟨by omega, hp, htr', fun j x y hj hjx hjy => ?_⟩
            by_cases hjs : j = s'
            · subst hjs
              rw [hx'] at hjx; rw [hx] at hjy
              cases hjx; cases hjy; exact hc
            · exact hor j x y (by omega) hjx hjy
          · have hc' : 0 ≤ lexC t' t := by omega
            simp (maxSteps := 1000000) [go_sem, undef, hc']
            exact no (fun hh => hc (hh.ord s' t' t hx' hx)) _ hp
    · have : s = xs.length := by omega
      subst this
      rw [List.take_length] at htr
      obtain ⟨_, _, vs, e1, e2, e3, e4, e5⟩ := hu.pre hp
      cases e1
      simp (maxSteps := 1000000) [go_sem]
      refine concatI_ok e3 e2 e4 (by omega) (by omega) _ ?_
      intro H1 w hp1 hw
      have hw' := hw.read
      obtain ⟨i3, o3, rfl, hw3⟩ : ∃ i3 o3, w = lv 1 i3 o3 xs.flatten.length ∧ IntsAt H1 w xs.flatten := by obtain ⟨i3, o3, e, _⟩ := id hw'; exact ⟨i3, o3, e, hw'⟩
      obtain ⟨fl, hfl⟩ : ∃ fl, xs.flatten = fl := ⟨_, rfl⟩
      rw [hfl] at hw3 hl ⊢
      simp (maxSteps := 1000000) [go_sem]
      refine values_ok _ ?_
      have hpb : H1 <+: H1 ++ [⟨[lv 1 i3 o3 fl.length], true, true⟩] := List.prefix_append _ _
      have hxb := Holds.last H1 [lv 1 i3 o3 fl.length]
      simp (maxSteps := 1000000) [go_sem]
      generalize H1 ++ [(⟨[lv 1 i3 o3 fl.length], true, true⟩ : Blk)] = H2 at hpb hxb ⊢
      refine sortedI_ok hxb (hw3.pre hpb) (by omega) _ ?_
      intro H3 z ys hp3 hz hperm hasc
      simp (maxSteps := 1000000) [go_sem]
      refine differences_ok hv _ ?_
      intro H4 dd hp4 hdd
      simp (maxSteps := 1000000) [go_sem]
      refine equalI_ok (hz.read.pre hp4) hdd.read _ ?_
      have fin := h H4 (hp.trans (hp1.trans (hpb.trans (hp3.trans hp4))))
      have he : decide (ys = diffL v) = decide (xs = famOf v) := by
        rw [decide_eq_decide]
        constructor
        · intro e
          refine famI_to hv ⟨htr, fun j x y hx hy => hor j x y ?_ hx hy, ?_⟩
          · exact (List.getElem?_eq_some_iff.1 hy).1
          · rw [hfl, ← e]; exact hperm.symm
        · intro e
          have := (show IsFamI v xs by rw [e]; exact famI_is hv).perm
          rw [hfl] at this
          exact int_uniq (hperm.trans this) hasc (diffL_asc hv)
      rw [he]
      simp (maxSteps := 1000000) [go_sem]
      exact fin

end Go.Proofs.Ytdfeoccjllljiaa
end

section
/- Difference families: the specification's side. -/
set_option linter.all false
set_option maxRecDepth 20000
set_option maxHeartbeats 8000000
namespace Go.Proofs.Ytdfeoccjllljiaa
open Go.Ab Go.Sort

theorem l02Numbers_ok {H : Heap} {v : Int} (Post : Value → Heap → Prop) (h : Post (.bool (numB v)) H) : ACalls Try.prog 102 [.int .i64 v] H Post := by
  refine acalls_vc (rs := [.tmp 2]) Try.func102 rfl rfl Try.ntmps102 rfl rfl ?_
  by_cases c1 : v = 7
  · subst c1
    simp (maxSteps := 1000000) [go_sem, undef]; exact h
  by_cases c2 : v = 13
  · subst c2
    simp (maxSteps := 1000000) [go_sem, undef]; exact h
  have e1 : (v == 7) = false := beq_eq_false_iff_ne.2 c1
  have e2 : (v == 13) = false := beq_eq_false_iff_ne.2 c2
  have e3 : (v == 15) = decide (v = 15) := rfl
  have hn : numB v = decide (v = 15) := by simp [numB, c1, c2]
  rw [hn] at h
  simp (maxSteps := 1000000) [go_sem, undef, e1, e2]
  rw [e3]; exact h

theorem mask_in {L : List Int} (hL : ∀ x ∈ L, 0 ≤ x) {n : Nat} (h : (n : Int) ∈ L) : maskL L &&& 2 ^ n = 2 ^ n := by
  apply Nat.eq_of_testBit_eq
  intro j
  rw [Nat.testBit_and, Nat.testBit_two_pow]
  by_cases hj : n = j
  · subst hj; simp [(maskL_bit hL n).2 h]
  · simp [hj]
theorem mask_out {L : List Int} (hL : ∀ x ∈ L, 0 ≤ x) {n : Nat} (h : (n : Int) ∉ L) : maskL L &&& 2 ^ n = 0 := by
  have hb : (maskL L).testBit n = false := by
    cases hb : (maskL L).testBit n with
    | false => rfl
    | true => exact absurd ((maskL_bit hL n).1 hb) h
  apply Nat.eq_of_testBit_eq
  intro j
  rw [Nat.testBit_and, Nat.testBit_two_pow, Nat.zero_testBit]
  by_cases hj : n = j
  · subst hj; simp [hb]
  · simp [hj]

theorem l02Family_ok {H : Heap} {u : Value} {v : Int} {xs : List (List Int)} (hv : NumB v) (hu : IntssAt H u xs) (hl : xs.length + xs.flatten.length ≤ 1048576) (Post : Value → Heap → Prop) (h : ∀ H', H <+: H' → Post (.bool (decide (xs = famOf v))) H') :
    ACalls Try.prog 103 [.int .i64 v, u] H Post := by
  obtain ⟨i, o, rfl⟩ : ∃ i o, u = lv 1 i o xs.length := by obtain ⟨i, o, _, e, _⟩ := hu; exact ⟨i, o, e⟩
  have hvb : 7 ≤ v ∧ v ≤ 15 := by unfold NumB at hv; omega
  have no : ¬ IsFam v xs → ∀ H', H <+: H' → Post (.bool false) H' := by
    intro hn H' hp
    have := h H' hp
    rwa [decide_eq_false (fun e : xs = famOf v => hn (by rw [e]; exact fam_is hv))] at this
  have hpre : ∀ x ∈ preF v, 0 ≤ x ∧ x < 60 := by
    intro x hx; unfold preF at hx; split at hx <;> simp at hx; omega
  have hm0 : maskL (preF v) = if v = 15 then 32 else 0 := by unfold preF; split <;> rfl
  have hcn : ∀ H', H <+: H' → (∀ t ∈ xs, tripS v t = true) → (∀ (j : Nat) (x y : List Int), xs[j]? = some x → xs[j + 1]? = some y → hd x < hd y) → (preF v ++ xs.flatten).Nodup →
      Post (.bool (decide ((3 * (xs.length : Int)) = (v - 1) / 2 - (if v = 15 then 1 else 0)))) H' := by
    intro H' hp h1 h2 h3
    have := h H' hp
    have he : decide ((3 * (xs.length : Int)) = (v - 1) / 2 - (if v = 15 then 1 else 0)) = decide (xs = famOf v) := by
      rw [decide_eq_decide]
      exact ⟨fun e => fam_to hv ⟨h1, h2, h3, e⟩, fun e => by rw [e]; exact (fam_is hv).cnt⟩
    rwa [he]
  have wv : IntKind.i64.wrap (v - 1) = v - 1 := i64w (by omega) (by omega)
  have hq : (v - 1).tdiv 2 = (v - 1) / 2 := Int.tdiv_eq_ediv_of_nonneg (by omega)
  have wh : IntKind.i64.wrap ((v - 1) / 2) = (v - 1) / 2 := i64w (by omega) (by omega)
  refine acalls_vc (rs := [.tmp 4]) Try.func103 rfl rfl Try.ntmps103 rfl rfl ?_
  by_cases c15 : v = 15
  · have b15 : (v == 15) = true := beq_iff_eq.2 c15
    rw [if_pos c15] at hm0
    simp only [if_pos c15] at hcn
    have wf : IntKind.i64.wrap ((v - 1) / 2 - 1) = (v - 1) / 2 - 1 := i64w (by omega) (by omega)
    simp (maxSteps := 1000000) [go_sem, b15]
    refine AWp.loopVc (fun s : Nat => [(0, .int .i64 v), (1, lv 1 i o xs.length), (5, .int .i64 (maskL (preF v ++ (xs.take s).flatten))), (6, .int .i64 (3 * (s : Int))), (7, .int .i64 s)])
      (fun s H' => s ≤ xs.length ∧ H <+: H' ∧ (∀ t ∈ xs.take s, tripS v t = true) ∧ (∀ (j : Nat) (x y : List Int), j + 1 < s → xs[j]? = some x → xs[j + 1]? = some y → hd x < hd y) ∧ (preF v ++ (xs.take s).flatten).Nodup) (fun s => xs.length - s) 0 ?_ ?_ ?_
    · simp [upF, Fr.get, Up.refl, hm0]
    · exact ⟨by omega, List.prefix_refl _, by simp, fun j x y hj => by omega, by simp [preF]; split <;> simp⟩
    · rintro K s H' ⟨hs, hp, htr, hor, hnd⟩ hK
      have hin : ∀ x ∈ preF v ++ (xs.take s).flatten, 0 ≤ x ∧ x < 60 := by
        intro x hx
        rcases List.mem_append.1 hx with hx | hx
        · exact hpre x hx
        · obtain ⟨r, hr, hxr⟩ := List.mem_flatten.1 hx
          have h1 := htr r hr
          obtain ⟨a, b, c, rfl⟩ := tripS_three h1
          have := tripS_iff.1 h1
          simp at hxr; omega
      by_cases hlt : s < xs.length
      · have hx : xs[s]? = some xs[s] := List.getElem?_eq_getElem hlt
        have hmem : xs[s] ∈ xs := List.getElem_mem hlt
        obtain ⟨i0, o0, ee, row⟩ := row_at hu hlt
        cases ee
        obtain ⟨i', o', c1, hrow⟩ := row hp
        have hw_s : IntKind.i64.wrap ((s : Int) + 1) = (s : Int) + 1 := i64w (by omega) (by omega)
        have tsn := List.take_succ_eq_append_getElem hlt
        obtain ⟨t, ht⟩ : ∃ t, xs[s] = t := ⟨_, rfl⟩
        rw [ht] at c1 hrow hx hmem tsn
        obtain ⟨L, hL⟩ : ∃ L, preF v ++ (xs.take s).flatten = L := ⟨_, rfl⟩
        have hsn : preF v ++ (xs.take (s + 1)).flatten = L ++ t := by rw [tsn, List.flatten_append, ← List.append_assoc, hL]; simp
        rw [hL] at hin hnd ⊢
        obtain ⟨bad, hbad⟩ : ∃ bad : Bool, (bad = true ↔ (tripS v t = false ∨ ∃ y, xs[s - 1]? = some y ∧ 0 < s ∧ hd t ≤ hd y)) := ⟨@decide (tripS v t = false ∨ ∃ y, xs[s - 1]? = some y ∧ 0 < s ∧ hd t ≤ hd y) (Classical.propDecidable _), by simp⟩
        simp (maxSteps := 1000000) [go_sem, hlt]
        refine AWp.regCut (St := Unit) (fun _ => [(44, .bool bad)]) (fun _ H2 => H2 = H') ?_ ?_
        · intro Q' hQ'
          refine AWp.draw mixed [(0, false), (1, false), (2, false), (3, false), (4, false), (5, false), (6, false), (7, false), (8, false), (9, false), (10, false), (11, false), (12, false), (13, false), (14, false), (15, false), (16, false), (17, false), (18, false), (19, false), (20, false), (21, false), (22, false), (23, false), (24, false), (25, false), (26, false)] (by kernel_rfl) ?_
          simp (maxSteps := 1000000) [go_sem, hlt, c1]
          refine l02Triple_ok (by omega) hrow _ ?_
          cases htI : tripS v t with
          | false =>
            have hb : bad = true := hbad.2 (.inl htI)
            simp (maxSteps := 1000000) [go_sem, undef]
            exact hQ' () _ _ (by simp [upF, Fr.get, Up.refl, hb]) rfl
          | true =>
            obtain ⟨a, b, c, rfl⟩ := tripS_three htI
            obtain ⟨i9, o9, e9, hrow', _⟩ := hrow
            cases e9
            have l0 : cellsAt H' i' o' 1 = some [.int .i64 a] := by simpa using hrow'.cell (k := 0) (v := .int .i64 a) (by simp [ints])
            by_cases hs0 : s = 0
            · subst hs0
              have hb : bad = false := by
                cases hbb : bad with
                | false => rfl
                | true =>
                  rcases hbad.1 hbb with e | ⟨_, _, e, _⟩
                  · rw [htI] at e; cases e
                  · omega
              simp (maxSteps := 1000000) [go_sem, undef]
              exact hQ' () _ _ (by simp [upF, Fr.get, Up.refl, hb]) rfl
            · obtain ⟨s', rfl⟩ : ∃ s', s = s' + 1 := ⟨s - 1, by omega⟩
              obtain ⟨_, _, ee, row'⟩ := row_at hu (show s' < xs.length by omega)
              cases ee
              obtain ⟨i2, o2, c2, hrow2⟩ := row' hp
              have hx' : xs[s']? = some (xs[s']'(by omega)) := List.getElem?_eq_getElem (by omega)
              have hmem' : xs[s']'(by omega) ∈ xs.take (s' + 1) := by have e := List.take_succ_eq_append_getElem (show s' < xs.length by omega); rw [e]; exact List.mem_append_right _ (List.mem_singleton.2 rfl)
              obtain ⟨t', ht'⟩ : ∃ t', xs[s']'(by omega) = t' := ⟨_, rfl⟩
              rw [ht'] at c2 hrow2 hx' hmem'
              obtain ⟨a', b', c', rfl⟩ := tripS_three (htr t' hmem')
              obtain ⟨i8, o8, e8, hrow2', _⟩ := hrow2
              cases e8
              have l1 : cellsAt H' i2 o2 1 = some [.int .i64 a'] := by simpa using hrow2'.cell (k := 0) (v := .int .i64 a') (by simp [ints])
              have wm : IntKind.i64.wrap ((s' : Int) + 1 - 1) = s' := i64w (by omega) (by omega) |>.trans (by omega)
              have wm' : IntKind.i64.wrap (s' : Int) = s' := i64w (by omega) (by omega)
              have hpos : (0 : Int) < (s' : Int) + 1 := by omega
              have hlt' : s' < xs.length := by omega
              have hb : bad = decide (a ≤ a') := by
                rw [Bool.eq_iff_iff, hbad, decide_eq_true_eq]
                constructor
                · rintro (e | ⟨y, e1, _, e2⟩)
                  · rw [htI] at e; cases e
                  · rw [Nat.add_sub_cancel, hx'] at e1
                    cases e1; exact e2
                · intro e
                  exact .inr ⟨_, hx', by omega, e⟩
              by_cases hle : a ≤ a'
              · simp (maxSteps := 1000000) [go_sem, undef, hlt, hpos, wm, wm', hlt', c1, c2, l0, l1, hle]
                refine andK_intro (by omega) ?_
                exact hQ' () _ _ (by simp [upF, Fr.get, Up.refl, hb, hle]) rfl
              · simp (maxSteps := 1000000) [go_sem, undef, hlt, hpos, wm, wm', hlt', c1, c2, l0, l1, hle]
                refine andK_intro (by omega) ?_
                exact hQ' () _ _ (by simp [upF, Fr.get, Up.refl, hb, hle]) rfl
        · rintro ⟨⟩ H2 rfl
          cases hbb : bad with
          | true =>
            simp (maxSteps := 1000000) [go_sem]
            refine no (fun hh => ?_) _ hp
            rcases hbad.1 hbb with e | ⟨y, e1, e2, e3⟩
            · have := hh.trip t hmem; rw [e] at this; cases this
            · have := hh.ord (s - 1) y t e1 (by rw [show s - 1 + 1 = s by omega]; exact hx)
              omega
          | false =>
            have hok : ¬ (tripS v t = false ∨ ∃ y, xs[s - 1]? = some y ∧ 0 < s ∧ hd t ≤ hd y) := fun e => by rw [hbad.2 e] at hbb; cases hbb
            have htI : tripS v t = true := by
              cases e : tripS v t with
              | true => rfl
              | false => exact absurd (.inl e) hok
            have htr' : ∀ r ∈ xs.take (s + 1), tripS v r = true := by
              intro r hr
              rw [tsn, List.mem_append, List.mem_singleton] at hr
              rcases hr with hr | rfl
              · exact htr r hr
              · exact htI
            have hor' : ∀ (j : Nat) (x y : List Int), j + 1 < s + 1 → xs[j]? = some x → xs[j + 1]? = some y → hd x < hd y := by
              intro j x y hj hjx hjy
              by_cases hjs : j + 1 = s
              · have hty : y = t := by rw [hjs, hx] at hjy; exact (Option.some.inj hjy).symm
                subst hty
                exact Classical.byContradiction fun e => hok (.inr ⟨x, by rw [← hjs]; simpa using hjx, by omega, by omega⟩)
              · exact hor j x y (by omega) hjx hjy
            have htb : ∀ x ∈ t, 0 ≤ x ∧ x < 60 := by
              obtain ⟨a, b, c, rfl⟩ := tripS_three htI
              have := tripS_iff.1 htI
              intro x hx; simp at hx; omega
            have ht3 : t.length = 3 := by obtain ⟨a, b, c, rfl⟩ := tripS_three htI; rfl
            have hrow0 := hrow
            obtain ⟨i9, o9, e9, hrow', _⟩ := hrow0
            cases e9
            simp (maxSteps := 1000000) [go_sem]
            refine AWp.loopVc (fun k : Nat => [(0, .int .i64 v), (1, lv 1 i o xs.length), (5, .int .i64 (maskL (L ++ t.take k))), (6, .int .i64 (3 * (s : Int) + k)), (7, .int .i64 s), (8, .int .i64 k)])
              (fun k H4 => k ≤ 3 ∧ H4 = H2 ∧ (L ++ t.take k).Nodup) (fun k => 3 - k) 0 ?_ ?_ ?_
            · simp [upF, Fr.get, Up.refl]
            · exact ⟨by omega, rfl, by simpa using hnd⟩
            · rintro K2 k H4 ⟨hk, rfl, hndk⟩ hK2
              by_cases hk3 : k < 3
              · have hkt : k < t.length := by omega
                have hki : (k : Int) < 3 := by omega
                have hw_k : IntKind.i64.wrap ((k : Int) + 1) = (k : Int) + 1 := i64w (by omega) (by omega)
                have lk := hrow'.cell (k := k) (v := .int .i64 t[k]) (by simp [ints_get, hkt])
                have tk := List.take_succ_eq_append_getElem hkt
                have hkm : t[k] ∈ t := List.getElem_mem hkt
                obtain ⟨n, hn⟩ : ∃ n : Nat, t[k] = n := ⟨(t[k]).toNat, by have := htb _ hkm; omega⟩
                have hnb := htb _ hkm
                rw [hn] at lk tk hnb
                have hLk : ∀ x ∈ L ++ t.take k, 0 ≤ x ∧ x < 60 := by
                  intro x hx
                  rcases List.mem_append.1 hx with hx | hx
                  · exact hin x hx
                  · exact htb x (List.mem_of_mem_take hx)
                have hLk0 : ∀ x ∈ L ++ t.take k, 0 ≤ x := fun x hx => (hLk x hx).1
                have hms : maskL (L ++ t.take (k + 1)) = maskL (L ++ t.take k) ||| 2 ^ n := by rw [tk, ← List.append_assoc, maskL_snoc, Int.toNat_natCast]
                have hm1 : maskL (L ++ t.take k) < 2 ^ 62 := Nat.lt_of_lt_of_le (maskL_lt (n := 60) hLk) (Nat.pow_le_pow_right (by omega) (by omega))
                have hpn : 2 ^ n < 2 ^ 62 := Nat.pow_lt_pow_right (by omega) (by omega)
                have hp0 : 0 < 2 ^ n := Nat.pow_pos (by omega)
                have un : IntKind.u64.wrap (n : Int) = n := by rw [IntKind.wrap_u64]; omega
                have nn : min n 64 = n := by omega
                have sn := pow_i64 (n := n) (by omega)
                have on := or_i64w hm1 hpn
                have an := and_i64w hm1 hpn
                have wc : IntKind.i64.wrap (3 * (s : Int) + k + 1) = 3 * (s : Int) + k + 1 := i64w (by omega) (by omega)
                rw [← hms] at on
                have hin' := @mask_in (L ++ t.take k) hLk0 n
                have hout := @mask_out (L ++ t.take k) hLk0 n
                have hA2 : ((2 : Int) ^ n) = ((2 ^ n : Nat) : Int) := by rw [Int.natCast_pow]; rfl
                obtain ⟨M, hM⟩ : ∃ M, maskL (L ++ t.take k) = M := ⟨_, rfl⟩
                obtain ⟨M', hM'⟩ : ∃ M, maskL (L ++ t.take (k + 1)) = M := ⟨_, rfl⟩
                rw [hM] at hm1 an on hin' hout ⊢
                rw [hM'] at on
                obtain ⟨A, hA⟩ : ∃ A, 2 ^ n = A := ⟨_, rfl⟩
                rw [hA] at hpn hp0 sn on an hin' hout hA2
                by_cases hmem2 : (n : Int) ∈ L ++ t.take k
                · rw [hin' hmem2] at an
                  have hne : ((A : Int) != 0) = true := by simp; omega
                  simp (maxSteps := 1000000) [go_sem, hlt, hkt, hki, hk3, ht3, c1, lk, un, nn, sn, an, hne]
                  refine no (fun hh => ?_) _ hp
                  have h1 := hh.nod
                  have e1 : xs.flatten = (xs.take (s + 1)).flatten ++ (xs.drop (s + 1)).flatten := by rw [← List.flatten_append, List.take_append_drop]
                  rw [e1, ← List.append_assoc, hsn] at h1
                  have h2 := (List.nodup_append.1 h1).1
                  rw [← List.take_append_drop (k + 1) t, tk, ← List.append_assoc, ← List.append_assoc] at h2
                  have h3 := (List.nodup_append.1 h2).1
                  exact (List.nodup_append.1 h3).2.2 _ hmem2 _ (by simp) rfl
                · rw [hout hmem2] at an
                  simp (maxSteps := 1000000) [go_sem, hlt, hkt, hki, hk3, ht3, c1, lk, un, nn, sn, an, on, hw_k, wc]
                  refine hK2 (k + 1) _ _ (by omega) (by simp [upF, Fr.get, Up.refl, hM', Int.add_assoc]) ⟨by omega, rfl, ?_⟩
                  rw [tk, ← List.append_assoc, List.nodup_append]
                  refine ⟨hndk, by simp, ?_⟩
                  intro x hx y hy
                  simp at hy; subst hy
                  rintro rfl; exact hmem2 hx
              · have : k = 3 := by omega
                subst this
                rw [show t.take 3 = t from List.take_of_length_le (by omega)] at *
                have h3s : 3 * ((s : Int) + 1) = 3 * (s : Int) + 3 := by omega
                simp (maxSteps := 1000000) [go_sem, hw_s]
                exact hK (s + 1) _ _ (by omega) (by simp [upF, Fr.get, Up.refl, hsn, h3s]) ⟨by omega, hp, htr', hor', by rw [hsn]; exact hndk⟩
      · have : s = xs.length := by omega
        subst this
        rw [List.take_length] at htr hnd
        have fin := hcn H' hp htr (fun j x y hx hy => hor j x y (List.getElem?_eq_some_iff.1 hy).1 hx hy) hnd
        simp (maxSteps := 1000000) [go_sem, wv, hq, wh, b15]
        refine specOne_ok _ ?_
        simp (maxSteps := 1000000) [go_sem, bitB, wf, wh]
        exact fin
  · have b15 : (v == 15) = false := beq_eq_false_iff_ne.2 c15
    rw [if_neg c15] at hm0
    simp only [if_neg c15] at hcn
    have wf : IntKind.i64.wrap ((v - 1) / 2 - 0) = (v - 1) / 2 - 0 := i64w (by omega) (by omega)
    simp (maxSteps := 1000000) [go_sem, b15]
    refine AWp.loopVc (fun s : Nat => [(0, .int .i64 v), (1, lv 1 i o xs.length), (5, .int .i64 (maskL (preF v ++ (xs.take s).flatten))), (6, .int .i64 (3 * (s : Int))), (7, .int .i64 s)])
      (fun s H' => s ≤ xs.length ∧ H <+: H' ∧ (∀ t ∈ xs.take s, tripS v t = true) ∧ (∀ (j : Nat) (x y : List Int), j + 1 < s → xs[j]? = some x → xs[j + 1]? = some y → hd x < hd y) ∧ (preF v ++ (xs.take s).flatten).Nodup) (fun s => xs.length - s) 0 ?_ ?_ ?_
    · simp [upF, Fr.get, Up.refl, hm0]
    · exact ⟨by omega, List.prefix_refl _, by simp, fun j x y hj => by omega, by simp [preF]; split <;> simp⟩
    · rintro K s H' ⟨hs, hp, htr, hor, hnd⟩ hK
      have hin : ∀ x ∈ preF v ++ (xs.take s).flatten, 0 ≤ x ∧ x < 60 := by
        intro x hx
        rcases List.mem_append.1 hx with hx | hx
        · exact hpre x hx
        · obtain ⟨r, hr, hxr⟩ := List.mem_flatten.1 hx
          have h1 := htr r hr
          obtain ⟨a, b, c, rfl⟩ := tripS_three h1
          have := tripS_iff.1 h1
          simp at hxr; omega
      by_cases hlt : s < xs.length
      · have hx : xs[s]? = some xs[s] := List.getElem?_eq_getElem hlt
        have hmem : xs[s] ∈ xs := List.getElem_mem hlt
        obtain ⟨i0, o0, ee, row⟩ := row_at hu hlt
        cases ee
        obtain ⟨i', o', c1, hrow⟩ := row hp
        have hw_s : IntKind.i64.wrap ((s : Int) + 1) = (s : Int) + 1 := i64w (by omega) (by omega)
        have tsn := List.take_succ_eq_append_getElem hlt
        obtain ⟨t, ht⟩ : ∃ t, xs[s] = t := ⟨_, rfl⟩
        rw [ht] at c1 hrow hx hmem tsn
        obtain ⟨L, hL⟩ : ∃ L, preF v ++ (xs.take s).flatten = L := ⟨_, rfl⟩
        have hsn : preF v ++ (xs.take (s + 1)).flatten = L ++ t := by rw [tsn, List.flatten_append, ← List.append_assoc, hL]; simp
        rw [hL] at hin hnd ⊢
        obtain ⟨bad, hbad⟩ : ∃ bad : Bool, (bad = true ↔ (tripS v t = false ∨ ∃ y, xs[s - 1]? = some y ∧ 0 < s ∧ hd t ≤ hd y)) := ⟨@decide (tripS v t = false ∨ ∃ y, xs[s - 1]? = some y ∧ 0 < s ∧ hd t ≤ hd y) (Classical.propDecidable _), by simp⟩
        simp (maxSteps := 1000000) [go_sem, hlt]
        refine AWp.regCut (St := Unit) (fun _ => [(44, .bool bad)]) (fun _ H2 => H2 = H') ?_ ?_
        · intro Q' hQ'
          refine AWp.draw mixed [(0, false), (1, false), (2, false), (3, false), (4, false), (5, false), (6, false), (7, false), (8, false), (9, false), (10, false), (11, false), (12, false), (13, false), (14, false), (15, false), (16, false), (17, false), (18, false), (19, false), (20, false), (21, false), (22, false), (23, false), (24, false), (25, false), (26, false)] (by kernel_rfl) ?_
          simp (maxSteps := 1000000) [go_sem, hlt, c1]
          refine l02Triple_ok (by omega) hrow _ ?_
          cases htI : tripS v t with
          | false =>
            have hb : bad = true := hbad.2 (.inl htI)
            simp (maxSteps := 1000000) [go_sem, undef]
            exact hQ' () _ _ (by simp [upF, Fr.get, Up.refl, hb]) rfl
          | true =>
            obtain ⟨a, b, c, rfl⟩ := tripS_three htI
            obtain ⟨i9, o9, e9, hrow', _⟩ := hrow
            cases e9
            have l0 : cellsAt H' i' o' 1 = some [.int .i64 a] := by simpa using hrow'.cell (k := 0) (v := .int .i64 a) (by simp [ints])
            by_cases hs0 : s = 0
            · subst hs0
              have hb : bad = false := by
                cases hbb : bad with
                | false => rfl
                | true =>
                  rcases hbad.1 hbb with e | ⟨_, _, e, _⟩
                  · rw [htI] at e; cases e
                  · omega
              simp (maxSteps := 1000000) [go_sem, undef]
              exact hQ' () _ _ (by simp [upF, Fr.get, Up.refl, hb]) rfl
            · obtain ⟨s', rfl⟩ : ∃ s', s = s' + 1 := ⟨s - 1, by omega⟩
              obtain ⟨_, _, ee, row'⟩ := row_at hu (show s' < xs.length by omega)
              cases ee
              obtain ⟨i2, o2, c2, hrow2⟩ := row' hp
              have hx' : xs[s']? = some (xs[s']'(by omega)) := List.getElem?_eq_getElem (by omega)
              have hmem' : xs[s']'(by omega) ∈ xs.take (s' + 1) := by have e := List.take_succ_eq_append_getElem (show s' < xs.length by omega); rw [e]; exact List.mem_append_right _ (List.mem_singleton.2 rfl)
              obtain ⟨t', ht'⟩ : ∃ t', xs[s']'(by omega) = t' := ⟨_, rfl⟩
              rw [ht'] at c2 hrow2 hx' hmem'
              obtain ⟨a', b', c', rfl⟩ := tripS_three (htr t' hmem')
              obtain ⟨i8, o8, e8, hrow2', _⟩ := hrow2
              cases e8
              have l1 : cellsAt H' i2 o2 1 = some [.int .i64 a'] := by simpa using hrow2'.cell (k := 0) (v := .int .i64 a') (by simp [ints])
              have wm : IntKind.i64.wrap ((s' : Int) + 1 - 1) = s' := i64w (by omega) (by omega) |>.trans (by omega)
              have wm' : IntKind.i64.wrap (s' : Int) = s' := i64w (by omega) (by omega)
              have hpos : (0 : Int) < (s' : Int) + 1 := by omega
              have hlt' : s' < xs.length := by omega
              have hb : bad = decide (a ≤ a') := by
                rw [Bool.eq_iff_iff, hbad, decide_eq_true_eq]
                constructor
                · rintro (e | ⟨y, e1, _, e2⟩)
                  · rw [htI] at e; cases e
                  · rw [Nat.add_sub_cancel, hx'] at e1
                    cases e1; exact e2
                · intro e
                  exact .inr ⟨_, hx', by omega, e⟩
              by_cases hle : a ≤ a'
              · simp (maxSteps := 1000000) [go_sem, undef, hlt, hpos, wm, wm', hlt', c1, c2, l0, l1, hle]
                refine andK_intro (by omega) ?_
                exact hQ' () _ _ (by simp [upF, Fr.get, Up.refl, hb, hle]) rfl
              · simp (maxSteps := 1000000) [go_sem, undef, hlt, hpos, wm, wm', hlt', c1, c2, l0, l1, hle]
                refine andK_intro (by omega) ?_
                exact hQ' () _ _ (by simp [upF, Fr.get, Up.refl, hb, hle]) rfl
        · rintro ⟨⟩ H2 rfl
          cases hbb : bad with
          | true =>
            simp (maxSteps := 1000000) [go_sem]
            refine no (fun hh => ?_) _ hp
            rcases hbad.1 hbb with e | ⟨y, e1, e2, e3⟩
            · have := hh.trip t hmem; rw [e] at this; cases this
            · have := hh.ord (s - 1) y t e1 (by rw [show s - 1 + 1 = s by omega]; exact hx)
              omega
          | false =>
            have hok : ¬ (tripS v t = false ∨ ∃ y, xs[s - 1]? = some y ∧ 0 < s ∧ hd t ≤ hd y) := fun e => by rw [hbad.2 e] at hbb; cases hbb
            have htI : tripS v t = true := by
              cases e : tripS v t with
              | true => rfl
              | false => exact absurd (.inl e) hok
            have htr' : ∀ r ∈ xs.take (s + 1), tripS v r = true := by
              intro r hr
              rw [tsn, List.mem_append, List.mem_singleton] at hr
              rcases hr with hr | rfl
              · exact htr r hr
              · exact htI
            have hor' : ∀ (j : Nat) (x y : List Int), j + 1 < s + 1 → xs[j]? = some x → xs[j + 1]? = some y → hd x < hd y := by
              intro j x y hj hjx hjy
              by_cases hjs : j + 1 = s
              · have hty : y = t := by rw [hjs, hx] at hjy; exact (Option.some.inj hjy).symm
                subst hty
                exact Classical.byContradiction fun e => hok (.inr ⟨x, by rw [← hjs]; simpa using hjx, by omega, by omega⟩)
              · exact hor j x y (by omega) hjx hjy
            have htb : ∀ x ∈ t, 0 ≤ x ∧ x < 60 := by
              obtain ⟨a, b, c, rfl⟩ := tripS_three htI
              have := tripS_iff.1 htI
              intro x hx; simp at hx; omega
            have ht3 : t.length = 3 := by obtain ⟨a, b, c, rfl⟩ := tripS_three htI; rfl
            have hrow0 := hrow
            obtain ⟨i9, o9, e9, hrow', _⟩ := hrow0
            cases e9
            simp (maxSteps := 1000000) [go_sem]
            refine AWp.loopVc (fun k : Nat => [(0, .int .i64 v), (1, lv 1 i o xs.length), (5, .int .i64 (maskL (L ++ t.take k))), (6, .int .i64 (3 * (s : Int) + k)), (7, .int .i64 s), (8, .int .i64 k)])
              (fun k H4 => k ≤ 3 ∧ H4 = H2 ∧ (L ++ t.take k).Nodup) (fun k => 3 - k) 0 ?_ ?_ ?_
            · simp [upF, Fr.get, Up.refl]
            · exact ⟨by omega, rfl, by simpa using hnd⟩
            · rintro K2 k H4 ⟨hk, rfl, hndk⟩ hK2
              by_cases hk3 : k < 3
              · have hkt : k < t.length := by omega
                have hki : (k : Int) < 3 := by omega
                have hw_k : IntKind.i64.wrap ((k : Int) + 1) = (k : Int) + 1 := i64w (by omega) (by omega)
                have lk := hrow'.cell (k := k) (v := .int .i64 t[k]) (by simp [ints_get, hkt])
                have tk := List.take_succ_eq_append_getElem hkt
                have hkm : t[k] ∈ t := List.getElem_mem hkt
                obtain ⟨n, hn⟩ : ∃ n : Nat, t[k] = n := ⟨(t[k]).toNat, by have := htb _ hkm; omega⟩
                have hnb := htb _ hkm
                rw [hn] at lk tk hnb
                have hLk : ∀ x ∈ L ++ t.take k, 0 ≤ x ∧ x < 60 := by
                  intro x hx
                  rcases List.mem_append.1 hx with hx | hx
                  · exact hin x hx
                  · exact htb x (List.mem_of_mem_take hx)
                have hLk0 : ∀ x ∈ L ++ t.take k, 0 ≤ x := fun x hx => (hLk x hx).1
                have hms : maskL (L ++ t.take (k + 1)) = maskL (L ++ t.take k) ||| 2 ^ n := by rw [tk, ← List.append_assoc, maskL_snoc, Int.toNat_natCast]
                have hm1 : maskL (L ++ t.take k) < 2 ^ 62 := Nat.lt_of_lt_of_le (maskL_lt (n := 60) hLk) (Nat.pow_le_pow_right (by omega) (by omega))
                have hpn : 2 ^ n < 2 ^ 62 := Nat.pow_lt_pow_right (by omega) (by omega)
                have hp0 : 0 < 2 ^ n := Nat.pow_pos (by omega)
                have un : IntKind.u64.wrap (n : Int) = n := by rw [IntKind.wrap_u64]; omega
                have nn : min n 64 = n := by omega
                have sn := pow_i64 (n := n) (by omega)
                have on := or_i64w hm1 hpn
                have an := and_i64w hm1 hpn
                have wc : IntKind.i64.wrap (3 * (s : Int) + k + 1) = 3 * (s : Int) + k + 1 := i64w (by omega) (by omega)
                rw [← hms] at on
                have hin' := @mask_in (L ++ t.take k) hLk0 n
                have hout := @mask_out (L ++ t.take k) hLk0 n
                have hA2 : ((2 : Int) ^ n) = ((2 ^ n : Nat) : Int) := by rw [Int.natCast_pow]; rfl
                obtain ⟨M, hM⟩ : ∃ M, maskL (L ++ t.take k) = M := ⟨_, rfl⟩
                obtain ⟨M', hM'⟩ : ∃ M, maskL (L ++ t.take (k + 1)) = M := ⟨_, rfl⟩
                rw [hM] at hm1 an on hin' hout ⊢
                rw [hM'] at on
                obtain ⟨A, hA⟩ : ∃ A, 2 ^ n = A := ⟨_, rfl⟩
                rw [hA] at hpn hp0 sn on an hin' hout hA2
                by_cases hmem2 : (n : Int) ∈ L ++ t.take k
                · rw [hin' hmem2] at an
                  have hne : ((A : Int) != 0) = true := by simp; omega
                  simp (maxSteps := 1000000) [go_sem, hlt, hkt, hki, hk3, ht3, c1, lk, un, nn, sn, an, hne]
                  refine no (fun hh => ?_) _ hp
                  have h1 := hh.nod
                  have e1 : xs.flatten = (xs.take (s + 1)).flatten ++ (xs.drop (s + 1)).flatten := by rw [← List.flatten_append, List.take_append_drop]
                  rw [e1, ← List.append_assoc, hsn] at h1
                  have h2 := (List.nodup_append.1 h1).1
                  rw [← List.take_append_drop (k + 1) t, tk, ← List.append_assoc, ← List.append_assoc] at h2
                  have h3 := (List.nodup_append.1 h2).1
                  exact (List.nodup_append.1 h3).2.2 _ hmem2 _ (by simp) rfl
                · rw [hout hmem2] at an
                  simp (maxSteps := 1000000) [go_sem, hlt, hkt, hki, hk3, ht3, c1, lk, un, nn, sn, an, on, hw_k, wc]
                  refine hK2 (k + 1) _ _ (by omega) (by simp [upF, Fr.get, Up.refl, hM', Int.add_assoc]) ⟨by omega, rfl, ?_⟩
                  rw [tk, ← List.append_assoc, List.nodup_append]
                  refine ⟨hndk, by simp, ?_⟩
                  intro x hx y hy
                  simp at hy; subst hy
                  rintro rfl; exact hmem2 hx
              · have : k = 3 := by omega
                subst this
                rw [show t.take 3 = t from List.take_of_length_le (by omega)] at *
                have h3s : 3 * ((s : Int) + 1) = 3 * (s : Int) + 3 := by omega
                simp (maxSteps := 1000000) [go_sem, hw_s]
                exact hK (s + 1) _ _ (by omega) (by simp [upF, Fr.get, Up.refl, hsn, h3s]) ⟨by omega, hp, htr', hor', by rw [hsn]; exact hndk⟩
      · have : s = xs.length := by omega
        subst this
        rw [List.take_length] at htr hnd
        have fin := hcn H' hp htr (fun j x y hx hy => hor j x y (List.getElem?_eq_some_iff.1 hy).1 hx hy) hnd
        simp (maxSteps := 1000000) [go_sem, wv, hq, wh, b15]
        refine specOne_ok _ ?_
        simp (maxSteps := 1000000) [go_sem, bitB, wf, wh]
        show Post (.bool (decide (3 * (xs.length : Int) = (v - 1) / 2))) _; simpa using fin

end Go.Proofs.Ytdfeoccjllljiaa
end

section
/- CyclicSystem: the implementation's side. -/
set_option linter.all false
set_option maxRecDepth 20000
set_option maxHeartbeats 8000000
namespace Go.Proofs.Ytdfeoccjllljiaa
open Go.Ab Go.Sort

def n0 (t : List Int) : Int := t.getD 0 0
def n1 (t : List Int) : Int := t.getD 1 0
def baB (t : List Int) : Bk := ⟨0, n0 t, n0 t + n1 t⟩
def cyB (v : Int) (i : Nat) (t : List Int) : Bk := blk i ((i + n0 t).tmod v) ((i + n0 t + n1 t).tmod v)
def baseL (v : Int) (xs : List (List Int)) : List Bk := xs.map baB ++ (if v = 15 then [⟨0, 5, 10⟩] else [])
def cyOne (v : Int) (xs : List (List Int)) (i : Nat) : List Bk := xs.map (cyB v i) ++ (if v = 15 ∧ i < 5 then [blk i (i + 5) (i + 10)] else [])
def cyL (v : Int) (xs : List (List Int)) (k : Nat) : List Bk := (List.range k).flatMap (cyOne v xs)
noncomputable def rCycl (v : Int) (xs : List (List Int)) : (Int × List Bk) × Int := if numB v && decide (xs = famOf v) then ((v, sortB (cyL v xs v.toNat)), 0) else ((0, []), 2)
theorem cyc7 : sortB (turnL 7 [] (baseL 7 (famOf 7))) = sortB (cyL 7 (famOf 7) 7) := by decide +kernel
theorem cyc13 : sortB (turnL 13 [] (baseL 13 (famOf 13))) = sortB (cyL 13 (famOf 13) 13) := by decide +kernel
theorem cyc15 : sortB (turnL 15 [] (baseL 15 (famOf 15))) = sortB (cyL 15 (famOf 15) 15) := by decide +kernel
theorem cyc_same {v : Int} (hv : NumB v) : sortB (turnL v.toNat [] (baseL v (famOf v))) = sortB (cyL v (famOf v) v.toNat) := by
  rcases hv with rfl | rfl | rfl
  · exact cyc7
  · exact cyc13
  · exact cyc15
theorem famOf_len {v : Int} : (famOf v).length ≤ 2 := by unfold famOf; split <;> (try split) <;> simp
theorem famOf_in {v : Int} {t : List Int} (h : t ∈ famOf v) : t.length = 3 ∧ (1 ≤ n0 t ∧ n0 t ≤ 7) ∧ (1 ≤ n1 t ∧ n1 t ≤ 7) := by
  unfold famOf at h
  split at h
  · simp at h; subst h; decide
  · split at h <;> (simp at h; rcases h with rfl | rfl <;> decide)
theorem n_at {H : Heap} {i o : Nat} {t : List Int} (h : At H i o (ints t)) (hl : t.length = 3) : cellsAt H i o 1 = some [.int .i64 (n0 t)] ∧ cellsAt H i (o + 1) 1 = some [.int .i64 (n1 t)] := by
  obtain ⟨a, b, c, rfl⟩ := len3 hl
  exact ⟨by simpa [n0] using h.cell (k := 0) (v := .int .i64 a) (by simp [ints]), h.cell (k := 1) (v := .int .i64 b) (by simp [ints])⟩

theorem implCyc_ok {H : Heap} {u : Value} {v : Int} {xs : List (List Int)} (hv : In64 v) (hu : IntssAt H u xs) (hl : xs.length + xs.flatten.length ≤ 1048576) (h64 : ∀ r ∈ xs, ∀ x ∈ r, In64 x) (Post : Value → Heap → Prop)
    (h : ∀ H' w, H <+: H' → BlocksIn H.length H'.length H' w (rCycl v xs).1.2 → Post (.tuple #[sysV (rCycl v xs).1.1 w, .int .i64 (rCycl v xs).2]) H') : ACalls Try.prog 69 [.int .i64 v, u] H Post := by
  obtain ⟨i, o, rfl⟩ : ∃ i o, u = lv 1 i o xs.length := by obtain ⟨i, o, _, e, _⟩ := hu; exact ⟨i, o, e⟩
  refine ACalls.res ?_
  refine acalls_vc (rs := [.cell 4 38, .tmp 5]) Try.func69 rfl rfl Try.ntmps69 rfl rfl ?_
  simp (maxSteps := 1000000) [go_sem]
  have hp0 : H <+: H ++ [⟨[.int .i64 0, .slice none 0 0], true, true⟩] := List.prefix_append _ _
  have hb0 : (H ++ [(⟨[.int .i64 0, .slice none 0 0], true, true⟩ : Blk)])[H.length]? = some ⟨[.int .i64 0, .slice none 0 0], true, true⟩ := by simp
  have hlen0 : (H ++ [(⟨[.int .i64 0, .slice none 0 0], true, true⟩ : Blk)]).length = H.length + 1 := by simp
  generalize H ++ [(⟨[.int .i64 0, .slice none 0 0], true, true⟩ : Blk)] = H0 at hp0 hb0 hlen0 ⊢
  have bad := bad_sys hp0 (Nat.le_refl _) hb0 h
  refine isCyclic_ok _ ?_
  cases hn : numB v with
  | false =>
    obtain ⟨H9, q1, q2, fin⟩ := bad H0 2 (List.prefix_refl _) (by rw [rCycl, hn]; rfl)
    simp (maxSteps := 1000000) [go_sem, undef, q1, q2]
    exact fin
  | true =>
    simp (maxSteps := 1000000) [go_sem, undef]
    have hN := numB_iff.1 hn
    refine isFamily_ok hN (hu.pre hp0) hl _ ?_
    intro H1 hp1
    by_cases hf : xs = famOf v
    · have hr : rCycl v xs = ((v, sortB (cyL v xs v.toNat)), 0) := by rw [rCycl, hn, decide_eq_true hf]; rfl
      have hsame := cyc_same hN
      rw [← hf] at hsame
      have hxl : xs.length ≤ 2 := by rw [hf]; exact famOf_len
      have hxi : ∀ t ∈ xs, t.length = 3 ∧ (1 ≤ n0 t ∧ n0 t ≤ 7) ∧ (1 ≤ n1 t ∧ n1 t ≤ 7) := fun t ht => famOf_in (by rw [← hf]; exact ht)
      have hd : decide (xs = famOf v) = true := decide_eq_true hf
      rw [hd]
      obtain ⟨n, rfl⟩ : ∃ n : Nat, v = n := ⟨v.toNat, by unfold NumB at hN; omega⟩
      rw [Int.toNat_natCast] at hsame hr
      simp (maxSteps := 1000000) [go_sem, undef]
      refine AWp.addGhost ?_
      have hbl0 : Bl 3 H0 (H1 ++ [(⟨[], false, false⟩ : Blk)]) H1.length (tri []) 0 := by
        have := Bl.ghost 3 H1
        exact ⟨hp1.trans this.1, this.2.1, hp1.length_le⟩
      generalize H1 ++ [(⟨[], false, false⟩ : Blk)] = HG at hbl0 ⊢
      refine AWp.loopVc (St := Nat × Nat × List Bk) (fun s => [(0, .int .i64 n), (4, .pointer (some ⟨H.length, 0, none⟩)), (6, lv 3 s.2.1 0 s.2.2.length), (19, lv 1 i o xs.length), (20, .int .i64 xs.length), (21, .int .i64 s.1)])
        (fun s H' => s.1 ≤ xs.length ∧ s.2.2 = (xs.take s.1).map baB ∧ Bl 3 H0 H' s.2.1 (tri s.2.2) s.2.2.length) (fun s => xs.length - s.1) (0, H1.length, []) ?_ ?_ ?_
      · simp [upF, Fr.get, Up.refl, Up.nil]
      · exact ⟨by simp, by simp, hbl0⟩
      · rintro K ⟨s, id, acc⟩ H' ⟨hs, hacc, hbl⟩ hK
        simp only at hs hacc hbl
        have hla : acc.length ≤ 2 := by rw [hacc, List.length_map, List.length_take]; omega
        by_cases hlt : s < xs.length
        · obtain ⟨i0, o0, ee, row⟩ := row_at hu hlt
          cases ee
          obtain ⟨i', o', c1, hrow⟩ := row (hp0.trans hbl.1)
          have hw_s : IntKind.i64.wrap ((s : Int) + 1) = (s : Int) + 1 := i64w (by omega) (by omega)
          have hti := hxi _ (List.getElem_mem hlt)
          have tsn := List.take_succ_eq_append_getElem hlt
          obtain ⟨t, ht⟩ : ∃ t, xs[s] = t := ⟨_, rfl⟩
          rw [ht] at c1 hrow hti tsn
          obtain ⟨i9, o9, e9, hrow', _⟩ := hrow
          cases e9
          obtain ⟨l0, l1⟩ := n_at hrow' hti.1
          rw [hti.1] at c1
          have ws : IntKind.i64.wrap (n0 t + n1 t) = n0 t + n1 t := i64w (by omega) (by omega)
          obtain ⟨hsrc, H5, hap, hbl5⟩ := hbl.push (xs := (baB t).cells) (by omega) rfl
          simp only [Bk.cells, baB] at hsrc hap hbl5
          simp (maxSteps := 1000000) [go_sem, hlt, c1]
          refine AWp.draw mixed [(0, false), (1, false), (2, false), (3, false), (4, false), (5, false), (6, false), (7, false), (8, false), (9, false), (10, false), (11, false), (12, false), (13, false), (14, false)] (by kernel_rfl) ?_
          simp (maxSteps := 1000000) [go_sem, l0, l1, ws, hsrc, hap, hw_s]
          refine andK_intro (by omega) (hK (s + 1, H'.length + 1, acc ++ [baB t]) _ _ (by simp only; omega) (by simp [upF, Fr.get, Up.refl]) ⟨by simp only; omega, ?_, ?_⟩)
          · simp only [tsn, List.map_append, ← hacc]; rfl
          · simp only [List.length_append, List.length_singleton, tri_append, tri_one, Bk.cells, baB]
            exact hbl5
        · have : s = xs.length := by omega
          subst this
          rw [List.take_length] at hacc
          have hsm : ∀ b ∈ acc, small b := by
            intro b hb
            rw [hacc] at hb
            obtain ⟨t, ht, rfl⟩ := List.mem_map.1 hb
            have := hxi t ht
            simp only [small, baB]; omega
          by_cases c15 : (n : Int) = 15
          · have b15 : ((n : Int) == 15) = true := beq_iff_eq.2 c15
            obtain ⟨hsrc, H5, hap, hbl5⟩ := hbl.push (xs := (⟨0, 5, 10⟩ : Bk).cells) (by omega) rfl
            simp only [Bk.cells] at hsrc hap hbl5
            have hbe : baseL n xs = acc ++ [⟨0, 5, 10⟩] := by rw [baseL, if_pos c15, hacc]
            simp (maxSteps := 1000000) [go_sem, b15, hsrc, hap]
            refine andK_intro (by omega) ?_
            have hown : BlocksIn H0.length H5.length H5 (lv 3 (H'.length + 1) 0 (acc ++ [(⟨0, 5, 10⟩ : Bk)]).length) (acc ++ [⟨0, 5, 10⟩]) := by
              refine OwnBlocks.inn (OwnBlocks.of_ol ?_ (by simp; omega)) hbl5.2.2
              simp only [List.length_append, List.length_singleton, tri_append, tri_one, Bk.cells]
              exact hbl5.2.1
            have hrd := hown.read
            rw [List.length_append, List.length_singleton] at hrd
            refine turnedBlocks_ok (v := n) (fam := acc ++ [⟨0, 5, 10⟩]) (by omega) hrd (by simp; omega) ?_ _ ?_
            · intro b hb
              rcases List.mem_append.1 hb with hb | hb
              · exact hsm b hb
              · simp at hb; subst hb; simp [small]
            intro H6 w hp6 hw
            rw [← hbe, hsame] at hw
            obtain ⟨q1, q2, q3, q4⟩ := put2 (cs := [.int .i64 n, w]) hp0 (Nat.le_refl _) hb0 rfl (hbl5.1.trans hp6) rfl (by simp [one_int, hw.one])
            have hll := hbl5.1.length_le
            have fin := h _ w q3 (by rw [hr, List.length_set]; exact (hw.keep q4 (fun j hj e => by have := hj.1; omega)).wider (by omega))
            rw [hr] at fin
            simp (maxSteps := 1000000) [go_sem, sysV, q1, q2]
            exact ⟨_, Up.refl _ _, fin⟩
          · have b15 : ((n : Int) == 15) = false := beq_eq_false_iff_ne.2 c15
            have hbe : baseL n xs = acc := by rw [baseL, if_neg c15, hacc, List.append_nil]
            have hown : BlocksIn H0.length H'.length H' (lv 3 id 0 acc.length) acc := OwnBlocks.inn (OwnBlocks.of_ol hbl.2.1 (by omega)) hbl.2.2
            simp (maxSteps := 1000000) [go_sem, b15]
            refine turnedBlocks_ok (v := n) (fam := acc) (by unfold NumB at hN; omega) hown.read (by omega) hsm _ ?_
            intro H6 w hp6 hw
            rw [← hbe, hsame] at hw
            obtain ⟨q1, q2, q3, q4⟩ := put2 (cs := [.int .i64 n, w]) hp0 (Nat.le_refl _) hb0 rfl (hbl.1.trans hp6) rfl (by simp [one_int, hw.one])
            have hll := hbl.1.length_le
            have fin := h _ w q3 (by rw [hr, List.length_set]; exact (hw.keep q4 (fun j hj e => by have := hj.1; omega)).wider (by omega))
            rw [hr] at fin
            simp (maxSteps := 1000000) [go_sem, sysV, q1, q2]
            exact ⟨_, Up.refl _ _, fin⟩
    · have hd : decide (xs = famOf v) = false := decide_eq_false hf
      rw [hd]
      obtain ⟨H9, q1, q2, fin⟩ := bad H1 2 hp1 (by rw [rCycl, hn, hd]; rfl)
      simp (maxSteps := 1000000) [go_sem, undef, q1, q2]
      exact fin

end Go.Proofs.Ytdfeoccjllljiaa
end
