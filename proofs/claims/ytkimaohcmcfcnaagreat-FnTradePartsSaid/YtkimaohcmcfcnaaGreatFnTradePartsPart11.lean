/- Part 11 of what the proof of the law FnTradeParts rests on: contracts of functions of the program, for every argument that each names; no statement of the seat is proved here. -/
import Derived.Test.YtkimaohcmcfcnaaGreatFnTradePartsPart10

set_option linter.all false
set_option maxRecDepth 20000
set_option maxHeartbeats 8000000
section
namespace Go.Proofs.YtkimaohcmcfcnaaGreat
open Go.Ab

def goodL (p : Int) (bs : List Bk) : Bool := decide (3 <= p) && decide (p <= 15) && decide (bs.length <= 35) && bs.all (good p)
theorem goodL_drawn {p : Int} {bs : List Bk} (h : goodL p bs = true) : Drawn p bs /\ bs.length <= 35 := by
  simp only [goodL, Bool.and_eq_true, decide_eq_true_eq, List.all_eq_true] at h
  exact ⟨⟨⟨h.1.1.1, h.1.1.2⟩, by have := h.1.2; omega, h.2⟩, h.1.2⟩
def names6 : List (List UInt8) := [nmSingle, nmFano, nmAffine, nmCyclic13, nmCyclic15, nmProj15]
theorem named_good : ∀ s ∈ names6, goodL (rNamed s).1.1 (rNamed s).1.2 = true := by
  intro s hs
  simp only [names6, List.mem_cons, List.not_mem_nil, or_false] at hs
  rcases hs with rfl | rfl | rfl | rfl | rfl | rfl <;> decide +kernel

def strs6 : List ByteArray := [⟨#[115, 105, 110, 103, 108, 101]⟩, ⟨#[102, 97, 110, 111]⟩, ⟨#[97, 102, 102, 105, 110, 101]⟩, ⟨#[99, 121, 99, 108, 105, 99, 49, 51]⟩, ⟨#[99, 121, 99, 108, 105, 99, 49, 53]⟩, ⟨#[112, 114, 111, 106, 101, 99, 116, 105, 118, 101, 49, 53]⟩]
theorem strs6_in : ∀ s ∈ strs6, s.toList ∈ names6 := by
  intro s hs
  simp only [strs6, List.mem_cons, List.not_mem_nil, or_false] at hs
  rcases hs with rfl | rfl | rfl | rfl | rfl | rfl <;> decide +kernel
theorem BIn.past {lo k : Nat} {H H' : Heap} {u : Value} {bs : List Bk} {cs : List Value} (h : BIn lo H u bs) (hb : H[k]? = some ⟨cs, true, true⟩) (hn : NoInts cs) (hs : Same (fun j => j = k) H H') : BIn lo H' u bs := by
  obtain ⟨b, id, ⟨h1, h2, h3⟩, h4⟩ := h
  refine ⟨b, id, ⟨h1, ?_, h3⟩, h4⟩
  rcases h2 with h2 | h2
  · exact .inl h2
  · cases bs with
    | nil => exact .inl rfl
    | cons x bs =>
      refine .inr (hs.get h2 (fun e => ?_))
      subst e
      rw [h2] at hb
      cases hb
      exact hn 0 x.a x.b (by simp [tri, Bk.cells]) (by simp [tri, Bk.cells])
theorem noInts_sys {p : Int} {u : Value} {bs : List Bk} {H : Heap} {lo : Nat} (h : BIn lo H u bs) : NoInts [.int .i64 p, u] := by
  obtain ⟨_, id, ⟨rfl, _, _⟩, _⟩ := h
  intro o x y h0 h1
  match o, h0, h1 with
  | 0, h0, h1 => simp at h1
  | 1, h0, h1 => simp at h0
  | o + 2, h0, h1 => simp at h0
theorem noInts_zero {p : Int} : NoInts [.int .i64 p, .slice none 0 0] := by
  intro o x y h0 h1
  match o, h0, h1 with
  | 0, h0, h1 => simp at h1
  | 1, h0, h1 => simp at h0
  | o + 2, h0, h1 => simp at h0
def strC (l : List ByteArray) : List Value := l.map .string

theorem l01Names_ok {H : Heap} (Post : Value -> Heap -> Prop) (h : ∀ H', H <+: H' -> H'[H.length]? = some ⟨strC strs6, true, true⟩ -> Post (.slice (some ⟨H.length, 0, none⟩) 6 6) H') : ACalls Tryz.prog 67 [] H Post := by
  refine acalls_vc (rs := [.tmp 0]) Tryz.func67 rfl rfl Tryz.ntmps67 rfl rfl ?_
  simp (maxSteps := 1000000) [go_sem]
  exact h _ (List.prefix_append _ _) (by simp [strC, strs6])

theorem drawFull_ok {L s : Nat} {H : Heap} (hs : Src L s H) (Post : Value -> Heap -> Prop)
    (h : ∀ (H' : Heap) (p : Nat) (w : Value) (bs : List Bk), Same (fun j => j = s) H H' -> Src L s H' -> BIn H.length H' w bs -> Drawn p bs -> bs.length <= 43 -> Post (sysV p w) H') :
    ACalls Tryz.prog 46 [.pointer (some ⟨s, 0, none⟩)] H Post := by
  have hslt := hs.lt
  refine acalls_vc (rs := [.cell 2 60]) Tryz.func46 rfl rfl Tryz.ntmps46 rfl rfl ?_
  simp (maxSteps := 1000000) [go_sem]
  have hp0 : H <+: H ++ [⟨[.int .i64 0, .slice none 0 0], true, true⟩] := List.prefix_append _ _
  have hr0 : (H ++ [(⟨[.int .i64 0, .slice none 0 0], true, true⟩ : Blk)])[H.length]? = some ⟨[.int .i64 0, .slice none 0 0], true, true⟩ := by simp
  have hl0 : (H ++ [(⟨[.int .i64 0, .slice none 0 0], true, true⟩ : Blk)]).length = H.length + 1 := by simp
  generalize H ++ [(⟨[.int .i64 0, .slice none 0 0], true, true⟩ : Blk)] = H0 at hp0 hr0 hl0 ⊢
  refine l01Names_ok _ ?_
  intro H1 hp1 hn1
  have hlen1 := hp1.length_le
  have hln1 := (List.getElem?_eq_some_iff.1 hn1).1
  simp (maxSteps := 1000000) [go_sem]
  have hp2 : H1 <+: H1 ++ [⟨[.int .i64 3, .int .i64 6], true, true⟩] := List.prefix_append _ _
  have hi2 : (H1 ++ [(⟨[.int .i64 3, .int .i64 6], true, true⟩ : Blk)])[H1.length]? = some ⟨ints [3, 6], true, true⟩ := by simp [ints]
  generalize H1 ++ [(⟨[.int .i64 3, .int .i64 6], true, true⟩ : Blk)] = H2 at hp2 hi2 ⊢
  have hp02 := (hp0.trans hp1).trans hp2
  refine pick_ok (hs.pre hp02) (xs := [3, 6]) hi2 (by omega) (by simp) (by simp) _ ?_
  intro H3 m hs3 hl3 hS3 hm
  have hm6 : m <= 6 := by simp at hm; omega
  simp (maxSteps := 1000000) [go_sem]
  refine next_ok hS3 _ ?_
  intro H4 q hs4 hl4 hS4 hq0 hq1
  obtain ⟨q, rfl⟩ : ∃ n : Nat, q = n := ⟨q.toNat, by omega⟩
  have hq : q < 6 := by omega
  have hn4 := hs4.get (hs3.get (pget hp2 hn1) (by omega)) (by omega)
  have lq : cellsAt H4 H0.length q 1 = some [.string (strs6[q]'hq)] := Holds.cell ⟨true, hn4⟩ (by simp only [strC, List.getElem?_map, List.getElem?_eq_getElem (show q < strs6.length from hq), Option.map_some]; rfl)
  have hgd := named_good _ (strs6_in _ (List.getElem_mem (l := strs6) hq))
  generalize strs6[q]'hq = str at lq hgd
  simp (maxSteps := 1000000) [go_sem, hq, lq]
  refine andK_intro (by omega) ?_
  refine l01Named_ok _ ?_
  intro H5 w hp5 hw5
  obtain ⟨hdr, hlb⟩ := goodL_drawn hgd
  generalize (rNamed str.toList).1.2 = bs at *
  generalize (rNamed str.toList).1.1 = pp at *
  have hpp := hdr.pts
  obtain ⟨p, rfl⟩ : ∃ n : Nat, pp = n := ⟨pp.toNat, by omega⟩
  have onew := hw5.one
  have hle45 := hp5.length_le
  have hr4 := hs4.get (hs3.get (pget (hp1.trans hp2) hr0) (by omega)) (by omega)
  have hp6 : H5 <+: H5 ++ [⟨[.int .i64 p, w], true, true⟩] := List.prefix_append _ _
  have hx6 : (H5 ++ [(⟨[.int .i64 p, w], true, true⟩ : Blk)])[H5.length]? = some ⟨[.int .i64 p, w], true, true⟩ := by simp
  have hl6 : (H5 ++ [(⟨[.int .i64 p, w], true, true⟩ : Blk)]).length = H5.length + 1 := by simp
  simp (maxSteps := 1000000) [go_sem, sysV, onew]
  generalize H5 ++ [(⟨[.int .i64 p, w], true, true⟩ : Blk)] = H6 at hp6 hx6 hl6 ⊢
  have hr6 := pget (hp5.trans hp6) hr4
  have hw6 := hw5.pre hp6
  have hS6 := hS4.pre (hp5.trans hp6)
  have hsm6 : Same (fun j => j = s) H H6 := (((Same.of_prefix hp02).trans hs3).trans hs4).trans (Same.of_prefix (hp5.trans hp6))
  have hle06 := hp02.length_le
  have hle2 := hp2.length_le
  obtain ⟨a0, a1, a2, a3⟩ := sys_cells hx6 onew
  refine AWp.drawS (fun i => i ≠ s /\ i < H6.length) mixed [(0, false), (1, false), (2, false), (3, false), (4, true), (5, false), (6, false)] (by kernel_rfl) ?_
  simp (maxSteps := 1000000) [go_sem, a0, a1]
  refine andK_intro ⟨by omega, by omega⟩ ?_
  try refine andK_intro ⟨by omega, by omega⟩ ?_
  refine drawOrder_ok hS6 (by omega) _ ?_
  intro H7 ow ord hs7 hS7 hI7 hO7
  have hk7 : KeepS (fun i => i ≠ s /\ i < H6.length) H6 H7 := fun i hi => hs7.2 i hi.2 hi.1
  simp (maxSteps := 1000000) [go_sem]
  refine andK_intro hk7 ?_
  have hw7 := hw6.keep hs7 (by rintro j ⟨e1, e2⟩ e; omega)
  try simp (maxSteps := 1000000) [go_sem]
  refine l01RenamedG_ok hw7.read hI7.read hpp (by omega) hdr.good hO7 _ ?_
  intro H8 z hp8 hz
  have hx8 := Same.get (S := fun _ => False) (Same.of_prefix hp8) (hs7.get hx6 (by omega)) (fun e => e)
  have hr8 := Same.get (S := fun _ => False) (Same.of_prefix hp8) (hs7.get hr6 (by omega)) (fun e => e)
  obtain ⟨b0, b1, b2, b3⟩ := sys_cells hx8 onew
  have b3' := b3 p z hz.one
  have hs9 : Same (fun j => j = H5.length) H8 (H8.set H5.length ⟨[.int .i64 p, z], true, true⟩) := same_set2
  have hx9 : (H8.set H5.length ⟨[.int .i64 p, z], true, true⟩)[H5.length]? = some ⟨[.int .i64 p, z], true, true⟩ := List.getElem?_set_self (List.getElem?_eq_some_iff.1 hx8).1
  have hsm8 := (hsm6.trans hs7).trans (Same.of_prefix hp8)
  have hle7 := hs7.1
  have hle8 := hp8.length_le
  have hz9 : BIn H.length (H8.set H5.length ⟨[.int .i64 p, z], true, true⟩) z (sortB (bs.map (renB ord))) := ⟨_, (hz.keep hs9 (by rintro j ⟨e1, e2⟩ e; omega)).wider (by omega)⟩
  have hd9 : Drawn p (sortB (bs.map (renB ord))) := ⟨hpp, by rw [sortB_len, List.length_map]; omega, fun x hx => by
    obtain ⟨y, hy, rfl⟩ := List.mem_map.1 ((sortB_perm _ _ rfl).mem_iff.1 hx)
    exact ren_good hO7 (hdr.good y hy)⟩
  have hl9 : (sortB (bs.map (renB ord))).length <= 35 := by rw [sortB_len, List.length_map]; omega
  have hr9 := hs9.get hr8 (by omega)
  have hS9 := (hS7.pre hp8).keep hs9 (fun j e => ⟨by have := hs.1; omega, by omega⟩)
  have hsm9 := sameUp hsm8 hs9 (fun j e => by omega)
  simp (maxSteps := 1000000) [go_sem, sysV, b3']
  generalize H8.set H5.length ⟨[.int .i64 p, z], true, true⟩ = H9 at *
  generalize sortB (bs.map (renB ord)) = cs at *
  refine next_ok hS9 _ ?_
  intro H10 k hs10 hl10 hS10 hk0 hk1
  obtain ⟨k, rfl⟩ : ∃ n : Nat, k = n := ⟨k.toNat, by omega⟩
  simp (maxSteps := 1000000) [go_sem]
  refine AWp.loopVc (St := Nat × Value × List Bk) (fun q => [(0, .pointer (some ⟨s, 0, none⟩)), (2, .pointer (some ⟨H.length, 0, none⟩)), (4, .pointer (some ⟨H5.length, 0, none⟩)), (6, .int .i64 q.1)])
    (fun q H' => q.1 <= 2 /\ q.2.2.length + 4 * q.1 <= 43 /\ H'[H5.length]? = some ⟨[.int .i64 p, q.2.1], true, true⟩ /\ H'[H.length]? = some ⟨[.int .i64 0, .slice none 0 0], true, true⟩ /\ BIn H.length H' q.2.1 q.2.2 /\ Drawn p q.2.2 /\ Same (fun j => j = s) H H' /\ Src L s H') (fun q => q.1) (k, z, cs) ?_ ?_ ?_
  · simp [upF, Fr.get, Up.refl]
  · exact ⟨by simp only; omega, by simp only; omega, hs10.get hx9 (by omega), hs10.get hr9 (by omega), hz9.keep hs10 (fun j hj e => by omega), hd9, hsm9.trans hs10, hS10⟩
  · rintro K ⟨k, u, es⟩ H11 ⟨hk, hkl, hx, hr, hu, hd, hsm, hS⟩ hK
    simp only at hk hkl hx hu hd
    obtain ⟨c0, c1, c2, c3⟩ := sys_cells hx hu.one
    have hle11 := hsm.1
    by_cases hk0 : 0 < k
    · have wk : IntKind.i64.wrap ((k : Int) - 1) = ((k - 1 : Nat) : Int) := by rw [i64w (by omega) (by omega)]; omega
      simp (maxSteps := 1000000) [go_sem, hk0, c0]
      refine switched_ok hS hu hslt hsm.1 hd (by omega) _ ?_
      intro H12 v fs hs12 hS12 hv hdv hlv
      have hx12 := hs12.get hx (by omega)
      have hr12 := hs12.get hr (by omega)
      obtain ⟨e0, e1, e2, e3⟩ := sys_cells hx12 hu.one
      have e3' := e3 p v hv.one
      have hs13 : Same (fun j => j = H5.length) H12 (H12.set H5.length ⟨[.int .i64 p, v], true, true⟩) := same_set2
      have hx13 : (H12.set H5.length ⟨[.int .i64 p, v], true, true⟩)[H5.length]? = some ⟨[.int .i64 p, v], true, true⟩ := List.getElem?_set_self (List.getElem?_eq_some_iff.1 hx12).1
      simp (maxSteps := 1000000) [go_sem, sysV, e3', wk]
      refine hK (k - 1, v, fs) _ _ (by simp only; omega) (by simp [upF, Fr.get, Up.refl]) ⟨by simp only; omega, by simp only; omega, hx13, hs13.get hr12 (by omega), ?_, hdv, sameUp (hsm.trans hs12) hs13 (fun j e => by omega), hS12.keep hs13 (fun j e => ⟨by have := hs.1; omega, by omega⟩)⟩
      exact hv.past hx12 (noInts_sys hu) hs13
    · have : k = 0 := by omega
      subst this
      obtain ⟨r0, r1, r2, r3⟩ := sys_cells hr rfl
      have r3' := r3 p u hu.one
      have hs12 : Same (fun j => j = H.length) H11 (H11.set H.length ⟨[.int .i64 p, u], true, true⟩) := same_set2
      have hr12 : (H11.set H.length ⟨[.int .i64 p, u], true, true⟩)[H.length]? = some ⟨[.int .i64 p, u], true, true⟩ := List.getElem?_set_self (List.getElem?_eq_some_iff.1 hr).1
      have fin := h (H11.set H.length ⟨[.int .i64 p, u], true, true⟩) p u es (sameUp hsm hs12 (fun j e => by omega)) (hS.keep hs12 (fun j e => ⟨by have := hs.1; omega, by omega⟩)) ?_ hd (by omega)
      · generalize H11.set H.length ⟨[.int .i64 p, u], true, true⟩ = H12 at *
        obtain ⟨y0, y1, y2, y3⟩ := sys_cells hr12 hu.one
        simp (maxSteps := 1000000) [go_sem, c0, r3', y0]
        exact fin
      · exact hu.past hr noInts_zero hs12

end Go.Proofs.YtkimaohcmcfcnaaGreat
end

section
namespace Go.Ab
open Go.RowKit (Below)

section
variable {P : Program} {N : Nat} {ops : Array Oper} {L : Nat -> Prop} {K : Fr -> Heap -> Prop} {fs : List Nat}

def vGS (P : Program) (N : Nat) (ops : Array Oper) (L : Nat -> Prop) (K : Fr -> Heap -> Prop) : TreeG -> Fr -> Heap -> Prop
  | .nil, fr, H => K fr H
  | .one i fl t, fr, H => match ops[i]? with
    | none => False
    | some o => match isR o.op with
      | true => offS L o.op fr /\ vstep P N ops o (vGS P N ops L K t) fr H
      | false => vstep P N ops o (eKS L fl H (vGS P N ops L K t)) fr H
  | .alt f t' t, fr, H => match ops[f]? with
    | some o' => vstep P N ops o' (eKS L true H (vGS P N ops L K t')) fr H /\ vGS P N ops L K t fr H
    | none => False
theorem vGS_vFS : ∀ (t : TreeG) (cov : List Nat) (n : Nat) (l : List (Nat × Bool)) (fr : Fr) (H : Heap), l.length <= n -> treeGOK ops fs t cov l = true -> vGS P N ops L K t fr H ->
    (∀ x l' m, l = x :: l' -> n = m + 1 -> ∀ f ∈ cov, ∃ o', ops[f]? = some o' /\ isR o'.op = false /\ vstep P N ops o' (eKS L true H (vFS P N ops L fs K m (x :: l'.filter fun y => y.1 != f))) fr H) -> vFS P N ops L fs K n l fr H := by
  intro t
  induction t with
  | nil =>
    intro cov n l fr H hn hok h _
    cases l with
    | nil => cases n <;> exact h
    | cons x l => simp [treeGOK] at hok
  | one i fl t ih =>
    intro cov n l fr H hn hok h hcov
    cases l with
    | nil => simp [treeGOK] at hok
    | cons x l =>
      obtain ⟨j, fl'⟩ := x
      simp only [treeGOK, Bool.and_eq_true, beq_iff_eq] at hok
      obtain ⟨⟨⟨rfl, rfl⟩, hfl⟩, hok⟩ := hok
      cases n with
      | zero => simp at hn
      | succ n =>
        simp only [List.length_cons] at hn
        simp only [vGS] at h
        simp only [vFS]
        cases ho : ops[i]? with
        | none => simp [ho] at h
        | some o =>
          simp only [ho] at h hfl ⊢
          cases hR : isR o.op with
          | true => simp only [hR] at h ⊢; exact ⟨h.1, vstep_weak h.2 fun f h hk => ih [] n l f h (by omega) hok hk (fun _ _ _ _ _ f hf => by cases hf)⟩
          | false =>
            simp only [hR, Bool.false_or, List.all_eq_true] at h hfl ⊢
            refine ⟨vstep_weak h fun f h' hk => ?_, fun f hf hm => ?_⟩
            · cases fl with
              | true => exact ⟨hk.1, ih [] n l f h' (by omega) hok hk.2 (fun _ _ _ _ _ f hf => by cases hf)⟩
              | false => exact ih [] n l f h' (by omega) hok hk (fun _ _ _ _ _ f hf => by cases hf)
            · have := hfl f hf
              simp only [Bool.or_eq_true, Bool.not_eq_true', List.contains_eq_mem, decide_eq_false_iff_not, decide_eq_true_eq] at this
              exact hcov (i, fl) l n rfl rfl f (this.resolve_right fun e => e hm)
  | alt f t' t ih' ih =>
    intro cov n l fr H hn hok h hcov
    cases l with
    | nil => simp [treeGOK] at hok
    | cons x l =>
      obtain ⟨j, fl'⟩ := x
      simp only [treeGOK, Bool.and_eq_true, decide_eq_true_eq] at hok
      obtain ⟨⟨⟨hE, hlt⟩, hok'⟩, hok⟩ := hok
      simp only [vGS] at h
      cases ho' : ops[f]? with
      | none => simp [ho'] at h
      | some o' =>
        simp only [ho', Bool.not_eq_true'] at h hE
        refine ih (f :: cov) n ((j, fl') :: l) fr H hn hok h.2 ?_
        rintro x l' m he hm g hg
        cases he
        rcases List.mem_cons.1 hg with rfl | hg
        · refine ⟨o', ho', hE, vstep_weak h.1 fun q h' hk => ⟨hk.1, ih' [] m _ q h' ?_ hok' hk.2 (fun _ _ _ _ _ f hf => by cases hf)⟩⟩
          simp only [List.length_cons] at hn ⊢
          omega
        · exact hcov (j, fl') l m rfl hm g hg

theorem AWp.drawGS (L : Nat -> Prop) {id : Nat} {fr : Fr} {H : Heap} {Q : Exit -> Fr -> Heap -> Prop} (hm : P.follows .mixedOrders = true) (fs : List Nat) (canon : List (Nat × Bool)) (t : TreeG) (hok : (drawOKF ops fs canon && treeGOK ops fs t [] canon) = true) (h : vGS P N ops L (Q .normal) t fr H) : AWp P N (.region id ops true) Q fr H := by
  intro B w0 ρ w a hR hF
  simp only [drawOKF, Bool.and_eq_true, decide_eq_true_eq, List.all_eq_true, List.mem_range, List.contains_iff_mem, List.mem_map] at hok
  obtain ⟨⟨⟨⟨⟨h1, h2⟩, h3⟩, h4⟩, h5⟩, h6⟩ := hok
  refine wp_region_any hm ?_
  let K : Fr -> Heap -> Prop := fun f h => ∃ g, feq g f /\ Q .normal g h
  have hK : Closed K := fun f g h hfg ⟨k, hk, hq⟩ => ⟨k, hk.trans hfg, hq⟩
  have hv : vFS P N ops L fs K ops.size canon fr H := by
    refine vGS_vFS t [] ops.size canon fr H (by omega) h6 ?_ (fun _ _ _ _ _ f hf => by cases hf)
    have weak : ∀ (t : TreeG) (fr : Fr) (H : Heap), vGS P N ops L (Q .normal) t fr H -> vGS P N ops L K t fr H := by
      intro t
      induction t with
      | nil => exact fun fr H h => ⟨fr, feq.rfl' _, h⟩
      | one i fl t ih =>
        intro fr H h
        simp only [vGS] at h ⊢
        split at h
        · exact h
        · rename_i o ho
          cases hR : isR o.op with
          | true => simp only [hR] at h ⊢; exact ⟨h.1, vstep_weak h.2 ih⟩
          | false =>
            simp only [hR] at h ⊢
            refine vstep_weak h ?_
            intro f h' hk
            cases fl with
            | true => exact ⟨hk.1, ih _ _ hk.2⟩
            | false => exact ih _ _ hk
      | alt f t' t ih' ih =>
        intro fr H h
        simp only [vGS] at h ⊢
        split at h
        · exact ⟨vstep_weak h.1 fun f h' hk => ⟨hk.1, ih' _ _ hk.2⟩, ih _ _ h.2⟩
        · exact h
    exact weak t fr H h
  have hgt : ∀ i, i < ops.size -> (Array.replicate ops.size false).getD i true = false := by
    intro i hi
    simp [Array.getD_eq_getD_getElem?, hi]
  refine drawFS_any (B := B) (w0 := w0) hK h2 ops.size (Array.replicate ops.size false) canon fr H ρ w.drew a (by simp) h3 h1 ?_ ?_ ?_ hv hR.drew hF ?_
  · intro x hx
    exact ⟨h4 x hx, hgt x.1 (h4 x hx)⟩
  · intro i hi _
    obtain ⟨x, hx, rfl⟩ := h5 i hi
    exact ⟨x, hx, rfl⟩
  · intro j o hj hl
    rw [Array.getD_eq_getD_getElem?, Array.getElem?_replicate] at hl
    split at hl <;> simp at hl
  · rintro ρ' fr' H' a' w' hp ⟨g, hg, hq⟩ hR' hF'
    exact ⟨ρ', g, H', hp, hR', hF'.feq hg.symm, hq⟩

def vGSK (P : Program) (N : Nat) (ops : Array Oper) (L : Nat -> Prop) (K : Fr -> Heap -> Prop) (t : TreeG) (fr : Fr) (H : Heap) : Prop := vGS P N ops L K t fr H
def eGSK (P : Program) (N : Nat) (ops : Array Oper) (L : Nat -> Prop) (K : Fr -> Heap -> Prop) (t : TreeG) (fl : Bool) (H : Heap) (fr : Fr) (H' : Heap) : Prop :=
  match fl with
  | true => andK (KeepS L H H') (vGS P N ops L K t fr H')
  | false => vGS P N ops L K t fr H'
def vGSo (P : Program) (N : Nat) (ops : Array Oper) (L : Nat -> Prop) (K : Fr -> Heap -> Prop) (t : TreeG) (fl : Bool) (fr : Fr) (H : Heap) (o : Oper) : Prop :=
  match isR o.op with
  | true => andK (offBS L o.op fr) (vstep P N ops o (vGSK P N ops L K t) fr H)
  | false => vstep P N ops o (eGSK P N ops L K t fl H) fr H
def vGSe (P : Program) (N : Nat) (ops : Array Oper) (L : Nat -> Prop) (K : Fr -> Heap -> Prop) (t : TreeG) (fl : Bool) (fr : Fr) (H : Heap) (o : Oper) : Prop := vstep P N ops o (eGSK P N ops L K t fl H) fr H
theorem vGS_nil (K : Fr -> Heap -> Prop) (fr : Fr) (H : Heap) : vGS P N ops L K .nil fr H = K fr H := rfl
theorem eGSK_eq (K : Fr -> Heap -> Prop) (t : TreeG) (fl : Bool) (H : Heap) : eKS L fl H (vGS P N ops L K t) = eGSK P N ops L K t fl H := by
  funext f h
  cases fl <;> rfl
theorem vGS_one (K : Fr -> Heap -> Prop) (i : Nat) (fl : Bool) (t : TreeG) (fr : Fr) (H : Heap) : vGS P N ops L K (.one i fl t) fr H = bindO ops[i]? (vGSo P N ops L K t fl fr H) := by
  simp only [vGS]
  cases ops[i]? with
  | none => simp [bindO]
  | some o =>
    simp only [bindO_some, vGSo]
    cases isR o.op with
    | true => rw [offBS_iff]; rfl
    | false => simp only [eGSK_eq]
theorem vGS_alt {f : Nat} {t' t : TreeG} {K : Fr -> Heap -> Prop} {fr : Fr} {H : Heap} (h1 : bindO ops[f]? (vGSe P N ops L K t' true fr H)) (h2 : vGS P N ops L K t fr H) : vGS P N ops L K (.alt f t' t) fr H := by
  simp only [vGS]
  cases ho' : ops[f]? with
  | none => simp [ho', bindO] at h1
  | some o' =>
    simp only [ho', bindO_some, vGSe] at h1 ⊢
    exact ⟨by rw [eGSK_eq]; exact h1, h2⟩

attribute [go_sem] vGSK eGSK vGSo vGSe vGS_nil vGS_one

end
end Go.Ab
end

section
namespace Go.Proofs.YtkimaohcmcfcnaaGreat
open Go.Ab

theorem box_cells {H : Heap} {t : Nat} {a b c : Int} (h : H[t]? = some ⟨[.int .i64 a, .int .i64 b, .int .i64 c], true, true⟩) :
    cellsAt H t 0 3 = some [.int .i64 a, .int .i64 b, .int .i64 c] /\ cellsAt H t 0 1 = some [.int .i64 a] /\ cellsAt H t 1 1 = some [.int .i64 b] /\ cellsAt H t 2 1 = some [.int .i64 c] /\
      ∀ x y z : Int, storeAt H t 0 [.int .i64 x, .int .i64 y, .int .i64 z] = some (H.set t ⟨[.int .i64 x, .int .i64 y, .int .i64 z], true, true⟩) /\ (H.set t ⟨[.int .i64 x, .int .i64 y, .int .i64 z], true, true⟩)[t]? = some ⟨[.int .i64 x, .int .i64 y, .int .i64 z], true, true⟩ /\
        Same (fun j => j = t) H (H.set t ⟨[.int .i64 x, .int .i64 y, .int .i64 z], true, true⟩) := by
  obtain ⟨e0, e1, e2, e3⟩ := Holds.bk ⟨true, h⟩
  refine ⟨e0, e1, e2, e3, fun x y z => ?_⟩
  obtain ⟨z1, z2, z3, z4⟩ := boxLate (cs := [.int .i64 x, .int .i64 y, .int .i64 z]) h (List.prefix_refl _) rfl (by simp [one_int])
  exact ⟨z1, List.getElem?_set_self (List.getElem?_eq_some_iff.1 h).1, z3⟩
end Go.Proofs.YtkimaohcmcfcnaaGreat
end

section
namespace Go.Proofs.YtkimaohcmcfcnaaGreat
open Go.Ab

theorem box_oneP {H : Heap} {t : Nat} {a b c : Int} (h : H[t]? = some ⟨[.int .i64 a, .int .i64 b, .int .i64 c], true, true⟩) {k : Nat} (hk : k < 3) (x : Int) :
    ∃ H' : Heap, ∃ a' b' c' : Int, storeAt H t k [.int .i64 x] = some H' /\ H'[t]? = some ⟨[.int .i64 a', .int .i64 b', .int .i64 c'], true, true⟩ /\ Same (fun j => j = t) H H' /\ (∀ P : Int -> Prop, P a -> P b -> P c -> P x -> P a' /\ P b' /\ P c') := by
  have hl := (List.getElem?_eq_some_iff.1 h).1
  have st : storeAt H t k [.int .i64 x] = some (H.set t ⟨ints ([a, b, c].set k x), true, true⟩) := by
    rw [storeAt_of (h : H[t]? = some ⟨ints [a, b, c], true, true⟩) rfl rfl (by simp [ints]; omega) (by simp [one_int]), over_one (by simp [ints]; omega)]
    exact congrArg (fun l => some (H.set t ⟨l, true, true⟩)) (ints_set [a, b, c] k x)
  obtain rfl | rfl | rfl : k = 0 \/ k = 1 \/ k = 2 := by omega
  · exact ⟨_, x, b, c, st, List.getElem?_set_self hl, same_set2, fun _ _ h2 h3 h4 => ⟨h4, h2, h3⟩⟩
  · exact ⟨_, a, x, c, st, List.getElem?_set_self hl, same_set2, fun _ h1 _ h3 h4 => ⟨h1, h4, h3⟩⟩
  · exact ⟨_, a, b, x, st, List.getElem?_set_self hl, same_set2, fun _ h1 h2 _ h4 => ⟨h1, h2, h4⟩⟩

def Pt (x : Int) : Prop := 0 <= x /\ x < 15
theorem good_pt {v : Int} {b : Bk} (hv : v <= 15) (h : good v b = true) : Pt b.a /\ Pt b.b /\ Pt b.c := by
  have := good_iff.1 h
  exact ⟨⟨by omega, by omega⟩, ⟨by omega, by omega⟩, ⟨by omega, by omega⟩⟩

theorem exchanged_ok {H : Heap} {b : Bk} {p q : Int} (hb : Pt b.a /\ Pt b.b /\ Pt b.c) (hp : Pt p) (hq : Pt q) (Post : Value -> Heap -> Prop) (h : ∀ H' (c : Bk), H <+: H' -> Post c.val H') :
    ACalls Tryz.prog 84 [b.val, .int .i64 p, .int .i64 q] H Post := by
  refine acalls_vc (rs := [.cell 6 36]) Tryz.func84 rfl rfl Tryz.ntmps84 rfl rfl ?_
  simp (maxSteps := 1000000) [go_sem, Bk.val]
  have hp0 : H <+: H ++ [⟨[.int .i64 b.a, .int .i64 b.b, .int .i64 b.c], true, true⟩, ⟨[.int .i64 0, .int .i64 0, .int .i64 0], true, true⟩, ⟨[.int .i64 b.a, .int .i64 b.b, .int .i64 b.c], true, true⟩] := List.prefix_append _ _
  have hz0 : (H ++ [(⟨[.int .i64 b.a, .int .i64 b.b, .int .i64 b.c], true, true⟩ : Blk), ⟨[.int .i64 0, .int .i64 0, .int .i64 0], true, true⟩, ⟨[.int .i64 b.a, .int .i64 b.b, .int .i64 b.c], true, true⟩])[H.length + 1]? = some ⟨[.int .i64 0, .int .i64 0, .int .i64 0], true, true⟩ := by simp
  have hb0 : (H ++ [(⟨[.int .i64 b.a, .int .i64 b.b, .int .i64 b.c], true, true⟩ : Blk), ⟨[.int .i64 0, .int .i64 0, .int .i64 0], true, true⟩, ⟨[.int .i64 b.a, .int .i64 b.b, .int .i64 b.c], true, true⟩])[H.length + 2]? = some ⟨[.int .i64 b.a, .int .i64 b.b, .int .i64 b.c], true, true⟩ := by simp
  generalize H ++ [(⟨[.int .i64 b.a, .int .i64 b.b, .int .i64 b.c], true, true⟩ : Blk), ⟨[.int .i64 0, .int .i64 0, .int .i64 0], true, true⟩, ⟨[.int .i64 b.a, .int .i64 b.b, .int .i64 b.c], true, true⟩] = H0 at hp0 hb0 hz0 ⊢
  have hl0 := (List.getElem?_eq_some_iff.1 hb0).1
  refine AWp.loopVc (St := Nat × Int × Int × Int) (fun q' => [(1, .int .i64 p), (2, .int .i64 q), (6, .pointer (some ⟨H.length + 1, 0, none⟩)), (7, .slice (some ⟨H.length + 2, 0, none⟩) 3 3), (8, .int .i64 q'.1)])
    (fun s H' => s.1 <= 3 /\ H'[H.length + 2]? = some ⟨[.int .i64 s.2.1, .int .i64 s.2.2.1, .int .i64 s.2.2.2], true, true⟩ /\ Same (fun j => j = H.length + 2) H0 H' /\ Pt s.2.1 /\ Pt s.2.2.1 /\ Pt s.2.2.2) (fun s => 3 - s.1) (0, b.a, b.b, b.c) ?_ ?_ ?_
  · simp [upF, Fr.get, Up.refl]
  · exact ⟨by simp, hb0, Same.refl _ _, hb.1, hb.2.1, hb.2.2⟩
  · rintro K ⟨i, a', b', c'⟩ H1 ⟨hi, hc, hs, g1, g2, g3⟩ hK
    simp only at hi hc g1 g2 g3
    obtain ⟨e0, e1, e2, e3, _⟩ := box_cells hc
    have hz1 := hs.get hz0 (by omega)
    by_cases hlt : i < 3
    · have hw_i : IntKind.i64.wrap ((i : Int) + 1) = (i : Int) + 1 := i64w (by omega) (by omega)
      obtain ⟨x, hx⟩ : ∃ x : Int, cellsAt H1 (H.length + 2) i 1 = some [.int .i64 x] := by
        obtain rfl | rfl | rfl : i = 0 \/ i = 1 \/ i = 2 := by omega
        · exact ⟨_, e1⟩
        · exact ⟨_, e2⟩
        · exact ⟨_, e3⟩
      obtain ⟨A, a1, b1, c1, st1, hA, hsA, gA⟩ := box_oneP hc hlt q
      obtain ⟨B, a2, b2, c2, st2, hB, hsB, gB⟩ := box_oneP hc hlt p
      obtain ⟨k1, k2, k3⟩ := gA Pt g1 g2 g3 hq
      obtain ⟨k4, k5, k6⟩ := gB Pt g1 g2 g3 hp
      have hlt' : (i : Int) < 3 := by omega
      simp (maxSteps := 1000000) [go_sem, hlt, hlt', hx]
      by_cases hxp : x = p
      · simp (maxSteps := 1000000) [go_sem, hxp, hlt, hlt', hx, st1, hw_i]
        exact hK (i + 1, a1, b1, c1) _ _ (by simp only; omega) (by simp [upF, Fr.get, Up.refl]) ⟨by simp only; omega, hA, hs.trans hsA, k1, k2, k3⟩
      · have bp : (x == p) = false := by simpa using hxp
        by_cases hxq : x = q
        · subst hxq
          simp (maxSteps := 1000000) [go_sem, bp, hlt, hlt', hx, st2, hw_i]
          exact hK (i + 1, a2, b2, c2) _ _ (by simp only; omega) (by simp [upF, Fr.get, Up.refl]) ⟨by simp only; omega, hB, hs.trans hsB, k4, k5, k6⟩
        · have bq : (x == q) = false := by simpa using hxq
          simp (maxSteps := 1000000) [go_sem, bp, bq, hlt, hlt', hx, hw_i]
          exact hK (i + 1, a', b', c') _ _ (by simp only; omega) (by simp [upF, Fr.get, Up.refl]) ⟨by simp only; omega, hc, hs, g1, g2, g3⟩
    · have hi3 : i = 3 := by omega
      subst hi3
      simp (maxSteps := 1000000) [go_sem]
      refine AWp.draw mixed [(0, false), (1, false), (2, false), (3, false), (4, false), (5, false), (6, false), (7, false), (8, false), (9, false), (10, false)] (by kernel_rfl) ?_
      simp (maxSteps := 1000000) [go_sem, e1, e2, e3]
      refine l01Block_ok ⟨g1.1, by have := g1.2; omega⟩ ⟨g2.1, by have := g2.2; omega⟩ ⟨g3.1, by have := g3.2; omega⟩ _ ?_
      intro H2 hp2
      obtain ⟨C, hC⟩ : ∃ C, blk a' b' c' = C := ⟨_, rfl⟩
      rw [hC]
      obtain ⟨_, _, _, _, gst⟩ := box_cells (pget hp2 hz1)
      obtain ⟨st, hN, hsN⟩ := gst C.a C.b C.c
      have fin := h (H2.set (H.length + 1) ⟨[.int .i64 C.a, .int .i64 C.b, .int .i64 C.c], true, true⟩) C (Same.prefix (S := fun j => H.length <= j) ((((Same.of_prefix hp0).trans (hs.mono fun j _ e => by omega)).trans (Same.of_prefix hp2)).trans (hsN.mono fun j _ e => by omega)) (fun j hj e => by omega))
      have c0 := (box_cells hN).1
      simp (maxSteps := 1000000) [go_sem, Bk.val, st, c0]
      exact fin

end Go.Proofs.YtkimaohcmcfcnaaGreat
end

section
namespace Go.Proofs.YtkimaohcmcfcnaaGreat
open Go.Ab

theorem trb_cells {H : Heap} {t : Nat} {p : Int} {u w : Value} (h : H[t]? = some ⟨[.int .i64 p, u, w], true, true⟩) :
    cellsAt H t 0 3 = some [.int .i64 p, u, w] /\ cellsAt H t 0 1 = some [.int .i64 p] /\ cellsAt H t 1 1 = some [u] /\ cellsAt H t 2 1 = some [w] /\
      ∀ (q : Int) (v x : Value), v.oneCell' = true -> x.oneCell' = true -> storeAt H t 0 [.int .i64 q, v, x] = some (H.set t ⟨[.int .i64 q, v, x], true, true⟩) /\ (H.set t ⟨[.int .i64 q, v, x], true, true⟩)[t]? = some ⟨[.int .i64 q, v, x], true, true⟩ /\
        Same (fun j => j = t) H (H.set t ⟨[.int .i64 q, v, x], true, true⟩) := by
  have hh : Holds H t [.int .i64 p, u, w] := ⟨true, h⟩
  refine ⟨by simpa using hh.cells (n := 3) (o := 0) (by simp), hh.cell rfl, hh.cell rfl, hh.cell rfl, fun q v x hv hx => ?_⟩
  obtain ⟨z1, z2, z3, z4⟩ := boxLate (cs := [.int .i64 q, v, x]) h (List.prefix_refl _) rfl (by simp [one_int, hv, hx])
  exact ⟨z1, List.getElem?_set_self (List.getElem?_eq_some_iff.1 h).1, z3⟩

theorem four_ok {H : Heap} {u : Value} {v : Nat} {bs : List Bk} (hv : v <= 15) (hu : BlocksAt H u bs) (hl : bs.length = 4) (hg : ∀ b ∈ bs, good v b = true) (Post : Value -> Heap -> Prop)
    (h0 : ∀ H', H <+: H' -> Post (.tuple #[.agg #[.int .i64 0, .slice none 0 0, .slice none 0 0], .bool false]) H')
    (h1 : ∀ H' a b o i, H <+: H' -> TradeIn H.length H'.length H' a b o i -> o.length = 4 -> i.length = 4 -> Post (.tuple #[tradeV v a b, .bool true]) H') :
    ACalls Tryz.prog 72 [.int .i64 v, u] H Post := by
  obtain ⟨fi, fo, rfl, f1, f2⟩ := hu
  refine acalls_vc (rs := [.cell 4 26, .tmp 5]) Tryz.func72 rfl rfl Tryz.ntmps72 rfl rfl ?_
  have hm : ∀ n, (madeCells #[Value.int .i64 0] n).toList = ints (List.replicate n 0) := by
    intro n
    rw [made_same (v := .int .i64 0) (by simp) (by intro i hi; simp at hi; subst hi; rfl)]
    simp [ints]
  simp (maxSteps := 1000000) [go_sem, hm]
  refine andK_intro ⟨by omega, by omega⟩ ?_
  have hp0 : H <+: H ++ [⟨[.int .i64 0, .slice none 0 0, .slice none 0 0], true, true⟩, ⟨ints (List.replicate v 0), true, true⟩, ⟨[], true, true⟩] := List.prefix_append _ _
  have hr0 : (H ++ [(⟨[.int .i64 0, .slice none 0 0, .slice none 0 0], true, true⟩ : Blk), ⟨ints (List.replicate v 0), true, true⟩, ⟨[], true, true⟩])[H.length]? = some ⟨[.int .i64 0, .slice none 0 0, .slice none 0 0], true, true⟩ := by simp
  have hc0 : (H ++ [(⟨[.int .i64 0, .slice none 0 0, .slice none 0 0], true, true⟩ : Blk), ⟨ints (List.replicate v 0), true, true⟩, ⟨[], true, true⟩])[H.length + 1]? = some ⟨ints (List.replicate v 0), true, true⟩ := by simp
  have he0 : (H ++ [(⟨[.int .i64 0, .slice none 0 0, .slice none 0 0], true, true⟩ : Blk), ⟨ints (List.replicate v 0), true, true⟩, ⟨[], true, true⟩])[H.length + 2]? = some ⟨[], true, true⟩ := by simp
  generalize H ++ [(⟨[.int .i64 0, .slice none 0 0, .slice none 0 0], true, true⟩ : Blk), ⟨ints (List.replicate v 0), true, true⟩, ⟨[], true, true⟩] = H0 at hp0 hr0 hc0 he0 ⊢
  have hl0 := (List.getElem?_eq_some_iff.1 he0).1
  have zero : ∀ HN : Heap, H <+: HN -> HN[H.length]? = some ⟨[.int .i64 0, .slice none 0 0, .slice none 0 0], true, true⟩ ->
      ∃ HZ, storeAt HN H.length 0 [.int .i64 0, .slice none 0 0, .slice none 0 0] = some HZ /\ cellsAt HZ H.length 0 3 = some [.int .i64 0, .slice none 0 0, .slice none 0 0] /\ Post (.tuple #[.agg #[.int .i64 0, .slice none 0 0, .slice none 0 0], .bool false]) HZ := by
    intro HN hp hr
    obtain ⟨_, _, _, _, g⟩ := trb_cells hr
    obtain ⟨s1, s2, s3⟩ := g 0 (.slice none 0 0) (.slice none 0 0) rfl rfl
    exact ⟨_, s1, (trb_cells s2).1, h0 _ (Same.prefix (S := fun j => j = H.length) ((Same.of_prefix hp).trans s3) (fun j hj e => by omega))⟩
  refine AWp.loopVc (St := Nat × List Int) (fun q => [(0, .int .i64 v), (1, lv 3 fi fo bs.length), (4, .pointer (some ⟨H.length, 0, none⟩)), (6, .slice (some ⟨H.length + 1, 0, none⟩) v v), (7, lv 1 (H.length + 2) 0 0), (8, .int .i64 q.1)])
    (fun q H' => q.1 <= 4 /\ q.2.length = v /\ H'[H.length + 1]? = some ⟨ints q.2, true, true⟩ /\ Same (fun j => j = H.length + 1) H0 H') (fun q => 4 - q.1) (0, List.replicate v 0) ?_ ?_ ?_
  · simp [upF, Fr.get, Up.refl, Up.ex0]
  · exact ⟨by simp, by simp, hc0, Same.refl _ _⟩
  rintro K ⟨i, cs⟩ H1 ⟨hi, hcl, hc1, hs1⟩ hK
  simp only at hi hcl hc1
  rcases Nat.lt_or_ge i 4 with hlt | hge
  · have hw_i : IntKind.i64.wrap ((i : Int) + 1) = (i : Int) + 1 := i64w (by omega) (by omega)
    have hlt' : (i : Int) < 4 := by omega
    simp (maxSteps := 1000000) [go_sem, hlt, hlt']
    refine AWp.loopVc (St := Nat × List Int) (fun q => [(0, .int .i64 v), (1, lv 3 fi fo bs.length), (4, .pointer (some ⟨H.length, 0, none⟩)), (6, .slice (some ⟨H.length + 1, 0, none⟩) v v), (7, lv 1 (H.length + 2) 0 0), (8, .int .i64 i), (9, .int .i64 q.1)])
      (fun q H' => q.1 <= 3 /\ q.2.length = v /\ H'[H.length + 1]? = some ⟨ints q.2, true, true⟩ /\ Same (fun j => j = H.length + 1) H0 H') (fun q => 3 - q.1) (0, cs) ?_ ?_ ?_
    · simp [upF, Fr.get, Up.refl]
    · exact ⟨by simp, hcl, hc1, hs1⟩
    rintro K2 ⟨k, ds⟩ H2 ⟨hk, hdl, hc2, hs2⟩ hK2
    simp only at hk hdl hc2
    rcases Nat.lt_or_ge k 3 with hkl | hkg
    · have hw_k : IntKind.i64.wrap ((k : Int) + 1) = (k : Int) + 1 := i64w (by omega) (by omega)
      have hkl' : (k : Int) < 3 := by omega
      have hb : bs[i]? = some bs[i] := List.getElem?_eq_getElem (by omega)
      have gb := good_iff.1 (hg _ (List.mem_of_getElem? hb))
      have hp2 : H <+: H2 := Same.prefix (S := fun j => j = H.length + 1) ((Same.of_prefix hp0).trans hs2) (fun j hj e => by omega)
      obtain ⟨x, hx, hxv⟩ : ∃ x : Nat, cellsAt H2 fi (fo + i * 3 + k) 1 = some [.int .i64 x] /\ x < v := by
        have f2' := f1.pre hp2
        obtain rfl | rfl | rfl : k = 0 \/ k = 1 \/ k = 2 := by omega
        · exact ⟨bs[i].a.toNat, by rw [f2'.num hb (j := 0) (v := .int .i64 bs[i].a) rfl]; congr; omega, by omega⟩
        · exact ⟨bs[i].b.toNat, by rw [f2'.num hb (j := 1) (v := .int .i64 bs[i].b) rfl]; congr; omega, by omega⟩
        · exact ⟨bs[i].c.toNat, by rw [f2'.num hb (j := 2) (v := .int .i64 bs[i].c) rfl]; congr; omega, by omega⟩
      have hil : i < bs.length := by omega
      have hxv' : (x : Int) < v := by omega
      have hxd : x < ds.length := by omega
      have c1 := Holds.cell (H := H2) (i := H.length + 1) (cs := ints ds) ⟨true, hc2⟩ (o := x) (v := .int .i64 ds[x]) (by rw [ints_get, List.getElem?_eq_getElem hxd]; rfl)
      have st : storeAt H2 (H.length + 1) x [.int .i64 (IntKind.i64.wrap (ds[x] + 1))] = some (H2.set (H.length + 1) ⟨ints (ds.set x (IntKind.i64.wrap (ds[x] + 1))), true, true⟩) := by
        rw [storeAt_of hc2 rfl rfl (by rw [ints_length, List.length_singleton]; omega) (by simp [one_int]), over_one (by rw [ints_length]; omega), ints_set]
      simp (maxSteps := 1000000) [go_sem, hkl, hkl', hil, hx, hxv, hxv', c1, st, hw_k]
      exact hK2 (k + 1, ds.set x (IntKind.i64.wrap (ds[x] + 1))) _ _ (by simp only; omega) (by simp [upF, Fr.get, Up.refl]) ⟨by simp only; omega, by rw [List.length_set]; exact hdl, List.getElem?_set_self (List.getElem?_eq_some_iff.1 hc2).1, hs2.trans same_set2⟩
    have hk3 : k = 3 := by omega
    subst hk3
    simp (maxSteps := 1000000) [go_sem, hw_i]
    exact hK (i + 1, ds) _ _ (by simp only; omega) (by simp [upF, Fr.get, Up.refl]) ⟨by simp only; omega, hdl, hc2, hs2⟩
  have hi4 : i = 4 := by omega
  subst hi4
  simp (maxSteps := 1000000) [go_sem]
  clear hK
  have hp1 : H <+: H1 := Same.prefix (S := fun j => j = H.length + 1) ((Same.of_prefix hp0).trans hs1) (fun j hj e => by omega)
  have hr1 := hs1.get hr0 (by omega)
  have he1 := hs1.get he0 (by omega)
  refine AWp.loopVc (St := Nat × Nat × List Int) (fun q => [(0, .int .i64 v), (1, lv 3 fi fo bs.length), (4, .pointer (some ⟨H.length, 0, none⟩)), (6, .slice (some ⟨H.length + 1, 0, none⟩) v v), (7, lv 1 q.2.1 0 q.2.2.length), (10, .int .i64 q.1)])
    (fun q H' => q.1 <= v /\ q.2.2.length <= q.1 /\ OL 1 H' q.2.1 (ints q.2.2) q.2.2.length /\ H.length + 2 <= q.2.1 /\ (∀ x ∈ q.2.2, Pt x) /\ H'[H.length + 1]? = some ⟨ints cs, true, true⟩ /\ H'[H.length]? = some ⟨[.int .i64 0, .slice none 0 0, .slice none 0 0], true, true⟩ /\ H <+: H') (fun q => v - q.1) (0, H.length + 2, []) ?_ ?_ ?_
  · simp [upF, Fr.get, Up.refl]
  · exact ⟨by simp, by simp, ⟨by simp [ints], .inr (by simpa [ints] using he1)⟩, Nat.le_refl _, by simp, hc1, hr1, hp1⟩
  rintro K ⟨q, id, ps⟩ H2 ⟨hq, hpl, hol, hid, hps, hc2, hr2, hp2⟩ hK
  simp only at hq hpl hol hid hps
  rcases Nat.lt_or_ge q v with hlt | hge
  · have hw_q : IntKind.i64.wrap ((q : Int) + 1) = (q : Int) + 1 := i64w (by omega) (by omega)
    have hlt' : (q : Int) < v := by omega
    have c1 := Holds.cell (H := H2) (i := H.length + 1) (cs := ints cs) ⟨true, hc2⟩ (o := q) (v := .int .i64 cs[q]) (by rw [ints_get, List.getElem?_eq_getElem (by omega)]; rfl)
    generalize cs[q] = cq at c1
    obtain ⟨hsrc, H3, hap, hol3, hs3, hl3⟩ := hol.push (xs := [.int .i64 (q : Int)]) (by omega) rfl
    have e : ints ps ++ [.int .i64 (q : Int)] = ints (ps ++ [(q : Int)]) := by simp [ints]
    rw [e] at hol3
    simp (maxSteps := 1000000) [go_sem, hlt, hlt', c1]
    refine condK_intro (fun _ => ?_) (fun _ => ?_)
    · simp (maxSteps := 1000000) [go_sem, hsrc, hap]
      refine andK_intro (by omega) ?_
      have c3 := cellsAt_at (H' := H3) (fun b hb => hs3.get hb (by omega)) c1
      have hr3 := hs3.get hr2 (by omega)
      have hp3 : H <+: H3 := Same.prefix (S := fun j => j = id) ((Same.of_prefix hp2).trans hs3) (fun j hj e => by omega)
      simp (maxSteps := 1000000) [go_sem, hlt, hlt', c3]
      refine condK_intro (fun _ => ?_) (fun _ => ?_)
      · obtain ⟨HZ, z1, z2, z3⟩ := zero H3 hp3 hr3
        simp (maxSteps := 1000000) [go_sem, z1, z2]
        exact z3
      · simp (maxSteps := 1000000) [go_sem, hw_q]
        refine hK (q + 1, H2.length + 1, ps ++ [(q : Int)]) _ _ (by simp only; omega) (by simp [upF, Fr.get, Up.refl]) ⟨by simp only; omega, by simp; omega, by simpa using hol3, by have := (List.getElem?_eq_some_iff.1 hc2).1; simp only; omega, fun x hx => ?_, hs3.get hc2 (by omega), hr3, hp3⟩
        rcases List.mem_append.1 hx with hx | hx
        · exact hps x hx
        · simp at hx; subst hx; exact ⟨by omega, by omega⟩
    · try simp (maxSteps := 1000000) [go_sem, hlt, hlt', c1]
      refine condK_intro (fun _ => ?_) (fun _ => ?_)
      · obtain ⟨HZ, z1, z2, z3⟩ := zero H2 hp2 hr2
        simp (maxSteps := 1000000) [go_sem, z1, z2]
        exact z3
      · simp (maxSteps := 1000000) [go_sem, hw_q]
        exact hK (q + 1, id, ps) _ _ (by simp only; omega) (by simp [upF, Fr.get, Up.refl]) ⟨by simp only; omega, by simp only; omega, hol, hid, hps, hc2, hr2, hp2⟩
  have hqv : q = v := by omega
  subst hqv
  rcases Decidable.em (ps.length ≠ 6) with h6 | h6
  · have b6 : ((ps.length : Int) != 6) = true := by simp; omega
    obtain ⟨HZ, z1, z2, z3⟩ := zero H2 hp2 hr2
    simp (maxSteps := 1000000) [go_sem, b6, z1, z2]
    exact z3
  have h6 := Classical.not_not.1 h6
  clear hK
  have hpat := OL.at hol
  have hpt : ∀ i (hi : i < 6), Pt (ps[i]'(by omega)) := fun i hi => hps _ (List.getElem_mem _)
  have cp : ∀ (H' : Heap), H2 <+: H' -> ∀ i (hi : i < 6), cellsAt H' id i 1 = some [.int .i64 (ps[i]'(by omega))] := fun H' hp' i hi => by
    have := (hpat.pre hp').cell (k := i) (v := .int .i64 (ps[i]'(by omega))) (by rw [ints_get, List.getElem?_eq_getElem (by omega)]; rfl)
    simpa using this
  have cp0 := cp H2 (List.prefix_refl _) 0 (by omega)
  have hf0 := hpt 0 (by omega)
  rw [h6]
  generalize ps[0]'(by omega) = first at cp0 hf0
  simp (maxSteps := 1000000) [go_sem, cp0]
  refine AWp.loopVc (St := Nat × Int) (fun s => [(0, .int .i64 q), (1, lv 3 fi fo bs.length), (4, .pointer (some ⟨H.length, 0, none⟩)), (7, lv 1 id 0 6), (11, .int .i64 first), (12, .int .i64 s.2), (13, .int .i64 s.1)])
    (fun s H' => 1 <= s.1 /\ s.1 <= 6 /\ H2 <+: H' /\ (s.2 = -1 \/ Pt s.2)) (fun s => 6 - s.1) (1, -1) ?_ ?_ ?_
  · simp [upF, Fr.get, Up.refl]
  · exact ⟨by simp, by simp, List.prefix_refl _, .inl rfl⟩
  rintro K ⟨i, last⟩ H3 ⟨hi1, hi6, hp3, hla⟩ hK
  simp only at hi1 hi6 hla
  rcases Nat.lt_or_ge i 6 with hlt | hge
  · have hw_i : IntKind.i64.wrap ((i : Int) + 1) = (i : Int) + 1 := i64w (by omega) (by omega)
    have hlt' : (i : Int) < 6 := by omega
    simp (maxSteps := 1000000) [go_sem, hlt, hlt']
    refine AWp.loopVc (St := Nat × Bool) (fun s => [(0, .int .i64 q), (1, lv 3 fi fo bs.length), (4, .pointer (some ⟨H.length, 0, none⟩)), (7, lv 1 id 0 6), (11, .int .i64 first), (12, .int .i64 last), (13, .int .i64 i), (14, .bool s.2), (15, .int .i64 s.1)])
      (fun s H' => s.1 <= 4 /\ H2 <+: H') (fun s => 4 - s.1) (0, true) ?_ ?_ ?_
    · simp [upF, Fr.get, Up.refl]
    · exact ⟨by simp, hp3⟩
    rintro K2 ⟨k, ap⟩ H4 ⟨hk, hp4⟩ hK2
    simp only at hk
    rcases Nat.lt_or_ge k 4 with hkl | hkg
    · have hw_k : IntKind.i64.wrap ((k : Int) + 1) = (k : Int) + 1 := i64w (by omega) (by omega)
      have hkl' : (k : Int) < 4 := by omega
      have hkb : k < bs.length := by omega
      have c1 := (f1.pre (hp2.trans hp4)).bk (List.getElem?_eq_getElem hkb)
      simp only [Bk.cells] at c1
      generalize bs[k] = M at c1
      simp (maxSteps := 1000000) [go_sem, hkl, hkl']
      cases ap with
      | false =>
        refine AWp.draw mixed [(0, false), (1, false), (2, false), (3, false), (4, false), (5, false), (6, false), (7, false), (8, false), (9, false), (10, false), (11, false), (12, false), (13, false), (14, false), (15, false), (16, false), (17, false), (18, false), (19, false), (20, false), (21, false)] (by kernel_rfl) ?_
        simp (maxSteps := 1000000) [go_sem, undef, hw_k]
        exact hK2 (k + 1, false) _ _ (by simp only; omega) (by simp [upF, Fr.get, Up.refl]) ⟨by simp only; omega, hp4⟩
      | true =>
        refine AWp.draw mixed [(0, false), (1, false), (2, false), (3, false), (4, false), (5, false), (6, false), (7, false), (8, false), (9, false), (10, false), (11, false), (12, false), (13, false), (14, false), (15, false), (16, false), (17, false), (18, false), (19, false), (20, false), (21, false)] (by kernel_rfl) ?_
        simp (maxSteps := 1000000) [go_sem, undef, hkb, c1]
        refine l01With_ok (b := M) (p := first) _ ?_
        intro H5 hp5
        cases hb1 : M.has first with
        | false =>
          simp (maxSteps := 1000000) [go_sem, undef, hw_k]
          exact hK2 (k + 1, true) _ _ (by simp only; omega) (by simp [upF, Fr.get, Up.refl]) ⟨by simp only; omega, hp4.trans hp5⟩
        | true =>
          have c2 := cellsAt_pre hp5 c1
          have c3 := cp H5 (hp4.trans hp5) i hlt
          simp (maxSteps := 1000000) [go_sem, undef, hkb, hlt, hlt', c2, c3]
          refine l01With_ok (b := M) (p := ps[i]'(by omega)) _ ?_
          intro H6 hp6
          simp (maxSteps := 1000000) [go_sem, undef, hw_k]
          exact hK2 (k + 1, !M.has (ps[i]'(by omega))) _ _ (by simp only; omega) (by simp [upF, Fr.get, Up.refl]) ⟨by simp only; omega, (hp4.trans hp5).trans hp6⟩
    have hk4 : k = 4 := by omega
    subst hk4
    have c3 := cp H4 hp4 i hlt
    cases ap with
    | false =>
      simp (maxSteps := 1000000) [go_sem, hw_i]
      exact hK (i + 1, last) _ _ (by simp only; omega) (by simp [upF, Fr.get, Up.refl]) ⟨by simp only; omega, by simp only; omega, hp4, hla⟩
    | true =>
      simp (maxSteps := 1000000) [go_sem, hlt, hlt', c3, hw_i]
      exact hK (i + 1, ps[i]'(by omega)) _ _ (by simp only; omega) (by simp [upF, Fr.get, Up.refl]) ⟨by simp only; omega, by simp only; omega, hp4, .inr (hpt i hlt)⟩
  have hi6' : i = 6 := by omega
  subst hi6'
  have hr3 := pget hp3 hr2
  clear hK
  by_cases hneg : last < 0
  · obtain ⟨HZ, z1, z2, z3⟩ := zero H3 (hp2.trans hp3) hr3
    simp (maxSteps := 1000000) [go_sem, hneg, z1, z2]
    exact z3
  have hla := hla.resolve_left (by omega)
  simp (maxSteps := 1000000) [go_sem, hneg]
  have hbl0 := Bl.nil 3 H3
  generalize H3 ++ [(⟨[], true, true⟩ : Blk)] = H4 at hbl0 ⊢
  refine AWp.loopVc (St := Nat × Nat × List Bk) (fun s => [(0, .int .i64 q), (1, lv 3 fi fo bs.length), (4, .pointer (some ⟨H.length, 0, none⟩)), (11, .int .i64 first), (12, .int .i64 last), (16, lv 3 s.2.1 0 s.2.2.length), (17, .int .i64 s.1)])
    (fun s H' => s.1 <= 4 /\ s.2.2.length = s.1 /\ Bl 3 H3 H' s.2.1 (tri s.2.2) s.2.2.length) (fun s => 4 - s.1) (0, H3.length, []) ?_ ?_ ?_
  · simp [upF, Fr.get, Up.refl, Up.ex0]
  · exact ⟨by simp, by simp, by simpa [tri] using hbl0⟩
  rintro K ⟨i, oid, L⟩ H5 ⟨hi, hL, hbl⟩ hK
  simp only at hi hL hbl
  rcases Nat.lt_or_ge i 4 with hlt | hge
  · have hw_i : IntKind.i64.wrap ((i : Int) + 1) = (i : Int) + 1 := i64w (by omega) (by omega)
    have hlt' : (i : Int) < 4 := by omega
    have hib : i < bs.length := by omega
    have c1 := (f1.pre ((hp2.trans hp3).trans hbl.1)).bk (List.getElem?_eq_getElem hib)
    have gi := hg _ (List.getElem_mem hib)
    simp only [Bk.cells] at c1
    generalize bs[i] = M at *
    simp (maxSteps := 1000000) [go_sem, hlt, hlt', hib, c1]
    refine exchanged_ok (b := M) (good_pt (by omega) gi) hf0 hla _ ?_
    intro H6 c hp6
    obtain ⟨hsrc, H7, hap, hbl7⟩ := (hbl.pre hp6).push (xs := c.cells) (by omega) rfl
    simp only [Bk.cells] at hsrc hap hbl7
    simp (maxSteps := 1000000) [go_sem, Bk.val, hsrc, hap, hw_i]
    refine andK_intro (by omega) (hK (i + 1, H6.length + 1, L ++ [c]) _ _ (by simp only; omega) (by simp [upF, Fr.get, Up.refl]) ⟨by simp only; omega, by simp; omega, ?_⟩)
    simp only [List.length_append, List.length_singleton, tri_append, tri_one, Bk.cells]
    exact hbl7
  have hi4 : i = 4 := by omega
  subst hi4
  simp (maxSteps := 1000000) [go_sem]
  have hown : BlocksIn H3.length H5.length H5 (lv 3 oid 0 L.length) L := OwnBlocks.inn (OwnBlocks.of_ol hbl.2.1 (by omega)) hbl.2.2
  refine l04Made_ok (BlocksAt.pre ((hp2.trans hp3).trans hbl.1) ⟨fi, fo, rfl, f1, f2⟩) hown.read (by omega) (by omega) _ ?_
  intro H6 a b hp6 hab
  obtain ⟨_, _, _, _, g⟩ := trb_cells (pget (hbl.1.trans hp6) hr3)
  have oneab : a.oneCell' = true /\ b.oneCell' = true := ⟨hab.read.1.one, hab.read.2.one⟩
  obtain ⟨s1, s2, s3⟩ := g q a b oneab.1 oneab.2
  have hle := ((hp2.trans hp3).trans hbl.1).length_le
  have c0 := (trb_cells s2).1
  have hl5 : H.length < H5.length := by have := hbl.1.length_le; have := (List.getElem?_eq_some_iff.1 hr3).1; omega
  have fin := h1 (H6.set H.length ⟨[.int .i64 q, a, b], true, true⟩) a b _ _ (Same.prefix (S := fun j => j = H.length) ((Same.of_prefix (((hp2.trans hp3).trans hbl.1).trans hp6)).trans s3) (fun j hj e => by omega)) (by rw [List.length_set]; exact (hab.keep s3 (fun j hj e => by have := hj.1; omega)).wider (by omega)) (by rw [sortB_len]; exact hl) (by rw [sortB_len]; exact hL)
  simp (maxSteps := 1000000) [go_sem, tradeV, s1, c0]
  exact fin

end Go.Proofs.YtkimaohcmcfcnaaGreat
end

section
namespace Go.Proofs.YtkimaohcmcfcnaaGreat
open Go.Ab Go.Sort

theorem BuildT.same {H0 H H' : Heap} {oid k : Nat} {rows : List Rw} (h : BuildT H0 H oid rows) (hs : Same (fun j => j = k) H H') (hk : H0.length <= k) (hne : k ≠ oid) (hr : ∀ r ∈ rows, k < r.lo) : BuildT H0 H' oid rows :=
  ⟨((Same.of_prefix h.pre).trans hs).prefix (by rintro j hj rfl; omega), h.ol.keep hs (fun e => hne e.symm), h.ge, fun r hm => by
    obtain ⟨a, b, c, d⟩ := h.spans r hm
    have := hr r hm
    exact ⟨a, Nat.le_trans b hs.1, c, d.keep hs (by rintro j ⟨e1, e2⟩ rfl; omega)⟩, h.asc⟩
theorem noInts3 (p : Int) (i n j m : Nat) (q q' : Nat) : NoInts [.int .i64 p, lv 3 i q n, lv 3 j q' m] := by
  intro o x y h0 h1
  match o, h0, h1 with
  | 0, h0, h1 => simp at h1
  | 1, h0, h1 => simp at h0
  | 2, h0, h1 => simp at h0
  | o + 3, h0, h1 => simp at h0

theorem specParts_ok {H : Heap} {u w : Value} {p : Int} {o i : List Bk} (ht : TradeAt H u w o i) (hl : o.length <= 1048576 /\ i.length <= 1048576) (Post : Value -> Heap -> Prop)
    (h : ∀ H' v, H <+: H' -> TrIn H.length H'.length H' v p (rParts p o i).1 -> Post (.tuple #[v, .int .i64 (rParts p o i).2]) H') : ACalls Tryz.prog 7 [tradeV p u w] H Post := by
  obtain ⟨ou, ow⟩ := ht.one
  refine ACalls.res ?_
  refine acalls_vc (rs := [.tmp 2, .tmp 3]) Tryz.func7 rfl rfl Tryz.ntmps7 rfl rfl ?_
  simp (maxSteps := 1000000) [go_sem, tradeV, ou, ow]
  have hp0 : H <+: H ++ [⟨[.int .i64 p, u, w], true, true⟩] := List.prefix_append _ _
  have hx0 := Holds.last H [.int .i64 p, u, w]
  have hbx0 : (H ++ [(⟨[.int .i64 p, u, w], true, true⟩ : Blk)])[H.length]? = some ⟨[.int .i64 p, u, w], true, true⟩ := by simp
  have hlen0 : (H ++ [(⟨[.int .i64 p, u, w], true, true⟩ : Blk)]).length = H.length + 1 := by simp
  generalize H ++ [(⟨[.int .i64 p, u, w], true, true⟩ : Blk)] = H0 at hp0 hx0 hbx0 hlen0 ⊢
  have bad : ∀ H' (c : Int), H <+: H' -> rParts p o i = ([], c) -> ∃ v', Up H' (.tuple #[.slice none 0 0, .int .i64 c]) v' /\ Post v' H' := by
    intro H' c hp hr
    refine ⟨_, Up.tuple (ys := #[lv 3 0 0 0, .int .i64 c]) ⟨Up.nil _ _ _ _, Up.refl _ _, trivial⟩, ?_⟩
    have := h H' (lv 3 0 0 0) hp (by rw [hr]; exact TrIn.nil _ _ _ _)
    rwa [hr] at this
  refine l04Is_ok (ht.1.pre hp0) (ht.2.pre hp0) hl.1 hl.2 _ ?_
  intro H1 hp1
  obtain ⟨d0, d1, d2, d3⟩ := (hx0.pre hp1).tr
  cases hs : tradeB p o i with
  | false =>
    simp (maxSteps := 1000000) [go_sem]
    exact bad H1 1 (hp0.trans hp1) (by rw [rParts, hs]; rfl)
  | true =>
    obtain ⟨hS1, hS2⟩ := tradeB_sys hs
    have hu1 := ht.1.pre (hp0.trans hp1)
    have hw1 := ht.2.pre (hp0.trans hp1)
    obtain ⟨j, q, rfl, h1, h2⟩ := hu1
    obtain ⟨j', q', rfl, h1', h2'⟩ := hw1
    by_cases hlen : o.length <= 12
    · have hlen' : ¬ ((12 : Int) < o.length) := by omega
      have hlen2 : ¬ (12 < o.length) := by omega
      have hr : rParts p o i = (partsF o.length o i, 0) := by rw [rParts, hs, if_pos rfl, if_pos hlen]
      have hl1 := hp1.length_le
      simp (maxSteps := 1000000) [go_sem, d1, d2, d3, hlen', hlen2]
      have hb0 : BuildT H (H1 ++ [(⟨[], true, true⟩ : Blk)]) H1.length [] := (BuildT.nil H1).lower (hp0.trans hp1)
      have hpg : H1 <+: H1 ++ [(⟨[], true, true⟩ : Blk)] := List.prefix_append _ _
      have hbx1 := pget (hp1.trans hpg) hbx0
      generalize H1 ++ [(⟨[], true, true⟩ : Blk)] = HG at hb0 hpg hbx1 ⊢
      refine AWp.loopVc (St := Nat × List Rw × (Nat × Nat × List Bk) × (Nat × Nat × List Bk) × Nat)
        (fun s => [(1, .pointer (some ⟨H.length, 0, none⟩)), (4, lv 3 s.1 0 s.2.1.length)])
        (fun s H' => BuildT H H' s.1 s.2.1 /\ (∀ r ∈ s.2.1, r.p = p /\ r.o.length <= 100 /\ r.i.length <= 100) /\ BlocksAt H' (lv 3 s.2.2.1.1 s.2.2.1.2.1 s.2.2.1.2.2.length) s.2.2.1.2.2 /\ BlocksAt H' (lv 3 s.2.2.2.1.1 s.2.2.2.1.2.1 s.2.2.2.1.2.2.length) s.2.2.2.1.2.2 /\
          IsSys p s.2.2.1.2.2 /\ IsSys p s.2.2.2.1.2.2 /\ s.2.1.length + s.2.2.1.2.2.length <= 12 /\ s.2.2.1.2.2.length <= s.2.2.2.2 /\ s.2.1.map Rw.t ++ partsF s.2.2.2.2 s.2.2.1.2.2 s.2.2.2.1.2.2 = partsF o.length o i /\
          H.length < s.1 /\ (∀ r ∈ s.2.1, H.length < r.lo) /\ H'[H.length]? = some ⟨[.int .i64 p, lv 3 s.2.2.1.1 s.2.2.1.2.1 s.2.2.1.2.2.length, lv 3 s.2.2.2.1.1 s.2.2.2.1.2.1 s.2.2.2.1.2.2.length], true, true⟩) (fun s => s.2.2.1.2.2.length)
        (H1.length, [], (j, q, o), (j', q', i), o.length) ?_ ?_ ?_
      · simp [upF, Fr.get, Up.refl, Up.ex0]
      · exact ⟨hb0, by simp, ⟨j, q, rfl, h1.pre hpg, h2⟩, ⟨j', q', rfl, h1'.pre hpg, h2'⟩, hS1, hS2, by simpa using hlen, Nat.le_refl _, by simp, by simp only; omega, by simp, hbx1⟩
      · rintro K ⟨oid, rows, ⟨ju, qu, o'⟩, ⟨jw, qw, i'⟩, fuel⟩ H' ⟨hb, hrw, hbu, hbw, hSo, hSi, hsum, hfu, heq, hoid, hlos, hbx⟩ hK
        simp only at hb hrw hbu hbw hSo hSi hsum hfu heq hoid hlos hbx
        have hxx : Holds H' H.length [.int .i64 p, lv 3 ju qu o'.length, lv 3 jw qw i'.length] := ⟨true, hbx⟩
        obtain ⟨d0, d1, d2, d3⟩ := hxx.tr
        by_cases hne : o' = []
        · subst hne
          rw [partsF_nil, List.append_nil] at heq
          have fin := h H' (lv 3 oid 0 rows.length) hb.pre (by
            rw [hr]; simp only; rw [<- heq]
            exact hb.inn (by omega) hrw)
          rw [hr] at fin
          simp (maxSteps := 1000000) [go_sem, d2]
          exact ⟨_, Up.refl _ _, fin⟩
        · have hpos : 0 < o'.length := List.length_pos_iff.2 hne
          have hposi : (0 : Int) < o'.length := by omega
          obtain ⟨f, rfl⟩ : ∃ f, fuel = f + 1 := ⟨fuel - 1, by omega⟩
          rw [partsF_succ hne] at heq
          obtain ⟨pn, ps1, ps2⟩ := partP_sub (i := i') hne
          have hlt := less_lt pn ps1
          have hi35 := hSi.2.1
          have hl2 := ps1.length_le
          have hl3 := ps2.length_le
          have hno := (less_sub o' (partP o' i').1).length_le
          have hnl := (less_sub i' (partP o' i').2).length_le
          have hSo' := sys_sub hSo (less_sub o' (partP o' i').1)
          have hSi' := sys_sub hSi (less_sub i' (partP o' i').2)
          have hsA := sub_sorted hSo ps1
          have hsB := sub_sorted hSi ps2
          have hsC := less_sort hSo (partP o' i').1
          have hsD := less_sort hSi (partP o' i').2
          simp (maxSteps := 1000000) [go_sem, d0, d2, hpos, hposi, hne]
          refine l04Part_ok (p := p) (q := p) hbu hbw hSo hSi (by omega) _ ?_
          intro H2 a b hp2 ha hbb
          have oa := ha.one
          have ob := hbb.one
          have hbx2 := pget hp2 hbx
          obtain ⟨⟨A, B⟩, hAB⟩ : ∃ r, partP o' i' = r := ⟨_, rfl⟩
          rw [hAB] at ha hbb heq ps1 ps2 pn hlt hl2 hl3 hno hnl hSo' hSi' hsA hsB hsC hsD
          simp only at ha hbb heq ps1 ps2 pn hlt hl2 hl3 hno hnl hSo' hSi' hsA hsB hsC hsD
          simp (maxSteps := 1000000) [go_sem, tradeV, oa, ob]
          have hpt : H2 <+: H2 ++ [⟨[.int .i64 p, a, b], true, true⟩] := List.prefix_append _ _
          have hy0 := Holds.last H2 [.int .i64 p, a, b]
          have hlt2 : (H2 ++ [(⟨[.int .i64 p, a, b], true, true⟩ : Blk)]).length = H2.length + 1 := by simp
          generalize H2 ++ [(⟨[.int .i64 p, a, b], true, true⟩ : Blk)] = HT at hpt hy0 hlt2 ⊢
          have hbxT := pget hpt hbx2
          have hxT : Holds HT H.length [.int .i64 p, lv 3 ju qu o'.length, lv 3 jw qw i'.length] := ⟨true, hbxT⟩
          obtain ⟨d0, d1, d2, d3⟩ := hxT.tr
          obtain ⟨e0, e1, e2, e3⟩ := hy0.tr
          have hbT := hb.keep (hp2.trans hpt)
          have hoT := hbT.ol.lt
          have hlo0 := hb.ol.lt
          have hle2 := hp2.length_le
          simp (maxSteps := 1000000) [go_sem, d1, e2, e3]
          refine l04Made_ok (ha.pre hpt) (hbb.pre hpt) (by omega) (by omega) _ ?_
          intro H4 ca cb hp4 hrow
          rw [hsA, hsB] at hrow
          obtain ⟨hsrc, H5, hap, hb5, hs5⟩ := hbT.push (r := ⟨p, ca, cb, HT.length, H4.length, A, B⟩) hp4 hrow (Nat.le_refl _) (Nat.le_refl _) hp4.length_le
          obtain ⟨mm, _, _, hca, hcb⟩ := id hrow
          obtain ⟨idc, ⟨rfl, _, _⟩, _⟩ := id hca
          obtain ⟨idd, ⟨rfl, _, _⟩, _⟩ := id hcb
          simp only [Rw.cells] at hsrc hap
          have hni := (hb.keep (hp2.trans (hpt.trans hp4))).noInts
          have hrl : rows.length <= 12 := by omega
          simp (maxSteps := 1000000) [go_sem, tradeV, hsrc, hap]
          refine andK_intro (by omega) ?_
          have hle4 := hp4.length_le
          have hbx5 := hs5.get (pget hp4 hbxT) (by omega)
          have hx5 : Holds H5 H.length [.int .i64 p, lv 3 ju qu o'.length, lv 3 jw qw i'.length] := ⟨true, hbx5⟩
          have hy5 : Holds H5 H2.length [.int .i64 p, a, b] := (hy0.pre hp4).keepS hs5 (by omega)
          have ha5 : BlocksAt H5 a A := BlocksAt.past (ha.pre (hpt.trans hp4)) hni hs5
          have hb5' : BlocksAt H5 b B := BlocksAt.past (hbb.pre (hpt.trans hp4)) hni hs5
          have ho5 : BlocksAt H5 (lv 3 ju qu o'.length) o' := BlocksAt.past (hbu.pre (hp2.trans (hpt.trans hp4))) hni hs5
          have hi5 : BlocksAt H5 (lv 3 jw qw i'.length) i' := BlocksAt.past (hbw.pre (hp2.trans (hpt.trans hp4))) hni hs5
          obtain ⟨d0, d1, d2, d3⟩ := hx5.tr
          obtain ⟨e0, e1, e2, e3⟩ := hy5.tr
          refine AWp.draw mixed [(0, false), (1, false), (2, false), (3, false), (4, false), (5, false), (7, false), (8, false), (9, false), (10, false), (6, true), (11, true), (12, false), (13, false)] (by kernel_rfl) ?_
          simp (maxSteps := 1000000) [go_sem, d1, d2, d3, e2, e3]
          refine l04Less_ok ho5 ha5 (by omega) _ ?_
          intro H6 v6 hp6 h6
          obtain ⟨d0, d1, d2, d3⟩ := (hx5.pre hp6).tr
          obtain ⟨e0, e1, e2, e3⟩ := (hy5.pre hp6).tr
          simp (maxSteps := 1000000) [go_sem, hp6, d1, d2, d3, e2, e3]
          refine l04Less_ok (hi5.pre hp6) (hb5'.pre hp6) (by omega) _ ?_
          intro H7 v7 hp7 h7
          obtain ⟨d0, d1, d2, d3⟩ := (hx5.pre (hp6.trans hp7)).tr
          simp (maxSteps := 1000000) [go_sem, hp7, d1, d2, d3]
          refine l04Made_ok (h6.pre hp7).read h7.read (by omega) (by omega) _ ?_
          intro H8 u8 w8 hp8 h8
          rw [hsC, hsD] at h8
          obtain ⟨m8, hm1, hm2, h8u, h8w⟩ := id h8
          obtain ⟨iu, ⟨rfl, _, _⟩, hspu⟩ := id h8u
          obtain ⟨iw, ⟨rfl, _, _⟩, hspw⟩ := id h8w
          have hp58 := hp6.trans (hp7.trans hp8)
          have hbx8 := pget hp58 hbx5
          obtain ⟨st, hld, hS9, hl9⟩ := boxLate (cs := [.int .i64 p, lv 3 iu 0 (lessB o' A).length, lv 3 iw 0 (lessB i' B).length]) hbx8 (List.prefix_refl _) rfl rfl
          have hb9 : (H8.set H.length ⟨[.int .i64 p, lv 3 iu 0 (lessB o' A).length, lv 3 iw 0 (lessB i' B).length], true, true⟩)[H.length]? = some ⟨[.int .i64 p, lv 3 iu 0 (lessB o' A).length, lv 3 iw 0 (lessB i' B).length], true, true⟩ := List.getElem?_set_self (List.getElem?_eq_some_iff.1 hbx8).1
          generalize H8.set H.length ⟨[.int .i64 p, lv 3 iu 0 (lessB o' A).length, lv 3 iw 0 (lessB i' B).length], true, true⟩ = H9 at st hld hS9 hl9 hb9
          simp (maxSteps := 1000000) [go_sem, tradeV, hp8, st]
          have hni8 : ∀ b : Blk, H8[H.length]? = some b -> b.live = true -> NoInts b.cells := by
            intro b hb' _
            rw [hbx8] at hb'; cases hb'
            exact noInts3 _ _ _ _ _ _ _
          have hlos' : ∀ r ∈ rows ++ [(⟨p, lv 3 idc 0 A.length, lv 3 idd 0 B.length, HT.length, H4.length, A, B⟩ : Rw)], H.length < r.lo := by
            intro r hr
            rcases List.mem_append.1 hr with hr | hr
            · exact hlos r hr
            · simp at hr; subst hr; simp only; omega
          refine hK (H4.length + 1, rows ++ [⟨p, lv 3 idc 0 A.length, lv 3 idd 0 B.length, HT.length, H4.length, A, B⟩], (iu, 0, lessB o' A), (iw, 0, lessB i' B), f) _ _ (by simp only; omega) (by simp [upF, Fr.get, Up.refl])
            ⟨(hb5.keep hp58).same hS9 (Nat.le_refl _) (by omega) hlos', ?_, BlocksAt.past h8u.read hni8 hS9, BlocksAt.past h8w.read hni8 hS9, hSo', hSi', by simp only [List.length_append, List.length_singleton]; omega, by simp only; omega, ?_, by simp only; omega, hlos', hb9⟩
          · intro r hr
            rcases List.mem_append.1 hr with hr | hr
            · exact hrw r hr
            · simp at hr; subst hr; exact ⟨rfl, by simp only; omega, by simp only; omega⟩
          · simp only [List.map_append, List.map_cons, List.map_nil, List.append_assoc]
            exact heq
    · have hlen' : ((12 : Int) < o.length) := by omega
      have hlen2 : (12 < o.length) := by omega
      simp (maxSteps := 1000000) [go_sem, d1, d2, d3, hlen', hlen2]
      exact bad H1 3 (hp0.trans hp1) (by rw [rParts, hs, if_pos rfl, if_neg hlen])

end Go.Proofs.YtkimaohcmcfcnaaGreat
end

section
namespace Go.Proofs.YtkimaohcmcfcnaaGreat
open Go.Ab

def TsIn (lo : Nat) (H : Heap) (v : Value) (rows : List Rw) : Prop :=
  ∃ id, v = lv 3 id 0 rows.length /\ (rows ≠ [] -> lo <= id /\ H[id]? = some ⟨cellsT rows, true, true⟩) /\ ∀ r ∈ rows, lo <= r.lo /\ TradeIn r.lo r.hi H r.u r.w r.o r.i /\ r.o.length = 4 /\ r.i.length = 4
def FourAt (v : Int) (H0 H : Heap) (q : Nat) (o : Option Rw) : Prop :=
  H0 <+: H /\ H0.length <= q /\ match o with
    | none => True
    | some r => H[q]? = some ⟨r.cells, true, true⟩ /\ r.o.length = 4 /\ r.i.length = 4 /\ TradeIn r.lo r.hi H r.u r.w r.o r.i /\ H0.length <= r.lo /\ r.hi <= H.length /\ r.lo <= r.hi

set_option maxRecDepth 200000 in
theorem pasch_ok {H : Heap} {u : Value} {p : Int} {bs : List Bk} (hu : BlocksAt H u bs) (hl : bs.length <= 1048576) (Post : Value -> Heap -> Prop)
    (h : ∀ (H' : Heap) (v : Value) (rows : List Rw) (e : Int), H <+: H' -> TsIn H.length H' v rows -> rows.length <= 1500625 -> Post (.tuple #[v, .int .i64 e]) H') :
    ACalls Tryz.prog 47 [sysV p u] H Post := by
  have ou := hu.one
  refine ACalls.res ?_
  refine acalls_vc (rs := [.tmp 2, .tmp 3]) Tryz.func47 rfl rfl Tryz.ntmps47 rfl rfl ?_
  simp (maxSteps := 1000000) [go_sem, sysV, ou]
  have hx0 := Holds.last H [.int .i64 p, u]
  have hp0 : H <+: H ++ [(⟨[.int .i64 p, u], true, true⟩ : Blk)] := List.prefix_append _ _
  have hl0 : (H ++ [(⟨[.int .i64 p, u], true, true⟩ : Blk)]).length = H.length + 1 := by simp
  generalize H ++ [(⟨[.int .i64 p, u], true, true⟩ : Blk)] = H0 at hx0 hp0 hl0 ⊢
  obtain ⟨d0, d1, d2⟩ := hx0.sys
  try simp (maxSteps := 1000000) [go_sem, d0]
  refine l01Is' (hu.pre hp0) hl _ ?_
  intro H1 hp1
  cases hs : sysB p bs with
  | false =>
    simp (maxSteps := 1000000) [go_sem]
    refine ⟨_, Up.tuple (ys := #[lv 3 0 0 0, .int .i64 1]) ⟨Up.nil _ _ _ _, Up.refl _ _, trivial⟩, ?_⟩
    exact h H1 (lv 3 0 0 0) [] 1 (hp0.trans hp1) ⟨0, rfl, fun hn => absurd rfl hn, by simp⟩ (by simp)
  | true =>
    have hS := sysB_of hs
    have hn35 := hS.2.1
    have hpp := hS.1
    have hgv := hS.good
    obtain ⟨v, rfl⟩ : ∃ n : Nat, p = n := ⟨p.toNat, by omega⟩
    obtain ⟨ui, uo, rfl, u1, u2⟩ := hu
    obtain ⟨e0, e1, e2⟩ := (hx0.pre hp1).sys
    simp (maxSteps := 1000000) [go_sem]
    refine AWp.draw mixed [(1, false), (2, false), (3, false), (0, true), (4, false), (5, false)] (by kernel_rfl) ?_
    simp (maxSteps := 1000000) [go_sem, e2]
    have hb0 := BuildT.nil H1
    generalize H1 ++ [(⟨[], true, true⟩ : Blk)] = H2 at hb0 ⊢
    have cu : ∀ H' : Heap, H1 <+: H' -> ∀ i (hi : i < bs.length), cellsAt H' ui (uo + i * 3) 3 = some [.int .i64 bs[i].a, .int .i64 bs[i].b, .int .i64 bs[i].c] := fun H' hp' i hi => by
      have := (u1.pre ((hp0.trans hp1).trans hp')).bk (List.getElem?_eq_getElem hi)
      simpa only [Bk.cells] using this
    have cx : ∀ H' : Heap, H1 <+: H' -> cellsAt H' H.length 0 1 = some [.int .i64 v] /\ cellsAt H' H.length 1 1 = some [lv 3 ui uo bs.length] := fun H' hp' => by
      obtain ⟨_, g1, g2⟩ := (hx0.pre (hp1.trans hp')).sys
      exact ⟨g1, g2⟩
    clear d0 d1 d2 e0 e1 e2 hx0
    refine AWp.loopVc (St := Nat × Nat × List Rw) (fun q => [(1, .pointer (some ⟨H.length, 0, none⟩)), (4, lv 3 q.2.1 0 q.2.2.length), (5, .int .i64 bs.length), (6, .int .i64 q.1)])
      (fun q H' => q.1 <= bs.length /\ q.2.2.length <= q.1 * 42875 /\ BuildT H1 H' q.2.1 q.2.2 /\ ∀ r ∈ q.2.2, r.o.length = 4 /\ r.i.length = 4) (fun q => bs.length - q.1) (0, H1.length, []) ?_ ?_ ?_
    · simp [upF, Fr.get, Up.refl, Up.ex0]
    · exact ⟨by simp, by simp, hb0, by simp⟩
    rintro K ⟨i, id, rows⟩ H3 ⟨hi, hrl, hb, hr4⟩ hK
    simp only at hi hrl hb hr4
    rcases Nat.lt_or_ge i bs.length with hil | hig
    · have hw_i : IntKind.i64.wrap ((i : Int) + 1) = (i : Int) + 1 := i64w (by omega) (by omega)
      simp (maxSteps := 1000000) [go_sem, hil, hw_i]
      refine AWp.loopVc (St := Nat × Nat × List Rw) (fun q => [(1, .pointer (some ⟨H.length, 0, none⟩)), (4, lv 3 q.2.1 0 q.2.2.length), (5, .int .i64 bs.length), (6, .int .i64 i), (7, .int .i64 q.1)])
        (fun q H' => i < q.1 /\ q.1 <= bs.length /\ q.2.2.length <= i * 42875 + q.1 * 1225 /\ BuildT H1 H' q.2.1 q.2.2 /\ ∀ r ∈ q.2.2, r.o.length = 4 /\ r.i.length = 4) (fun q => bs.length - q.1) (i + 1, id, rows) ?_ ?_ ?_
      · simp [upF, Fr.get, Up.refl]
      · refine ⟨by simp, hil, ?_, hb, hr4⟩
        show rows.length <= i * 42875 + (i + 1) * 1225
        omega
      clear hb hr4 hrl
      rintro K2 ⟨j, id, rows⟩ H4 ⟨hij, hj, hrl, hb, hr4⟩ hK2
      simp only at hij hj hrl hb hr4
      rcases Nat.lt_or_ge j bs.length with hjl | hjg
      · have hw_j : IntKind.i64.wrap ((j : Int) + 1) = (j : Int) + 1 := i64w (by omega) (by omega)
        obtain ⟨x1, x2⟩ := cx H4 hb.pre
        have c1 := cu H4 hb.pre i hil
        have c2 := cu H4 hb.pre j hjl
        simp (maxSteps := 1000000) [go_sem, hjl]
        refine AWp.draw mixed [(0, false), (1, false), (2, false), (3, false), (4, false), (5, false), (6, false), (7, false), (8, false), (9, false), (10, false), (11, false)] (by kernel_rfl) ?_
        simp (maxSteps := 1000000) [go_sem, hil, hjl, x2, c1, c2]
        refine l01Common_ok (b := bs[i]) (d := bs[j]) _ ?_
        intro H5 hp5
        have hb5 := hb.keep hp5
        by_cases hcm : common bs[i] bs[j] = 1
        · simp (maxSteps := 1000000) [go_sem, hcm, hw_j]
          refine AWp.loopVc (St := Nat × Nat × List Rw) (fun q => [(1, .pointer (some ⟨H.length, 0, none⟩)), (4, lv 3 q.2.1 0 q.2.2.length), (5, .int .i64 bs.length), (6, .int .i64 i), (7, .int .i64 j), (8, .int .i64 q.1)])
            (fun q H' => j < q.1 /\ q.1 <= bs.length /\ q.2.2.length <= i * 42875 + j * 1225 + q.1 * 35 /\ BuildT H1 H' q.2.1 q.2.2 /\ ∀ r ∈ q.2.2, r.o.length = 4 /\ r.i.length = 4) (fun q => bs.length - q.1) (j + 1, id, rows) ?_ ?_ ?_
          · simp [upF, Fr.get, Up.refl]
          · refine ⟨by simp, hjl, ?_, hb5, hr4⟩
            show rows.length <= i * 42875 + j * 1225 + (j + 1) * 35
            omega
          clear hb hb5 hr4 hrl c1 c2 x1 x2
          rintro K3 ⟨k, id, rows⟩ H6 ⟨hjk, hk, hrl, hb, hr4⟩ hK3
          simp only at hjk hk hrl hb hr4
          rcases Nat.lt_or_ge k bs.length with hkl | hkg
          · have hw_k : IntKind.i64.wrap ((k : Int) + 1) = (k : Int) + 1 := i64w (by omega) (by omega)
            obtain ⟨x1, x2⟩ := cx H6 hb.pre
            have c1 := cu H6 hb.pre i hil
            have c2 := cu H6 hb.pre k hkl
            have skip3 : ∀ (H' : Heap) fr', H6 <+: H' -> upF H' [(1, .pointer (some ⟨H.length, 0, none⟩)), (4, lv 3 id 0 rows.length), (5, .int .i64 bs.length), (6, .int .i64 i), (7, .int .i64 j), (8, .int .i64 ((k : Int) + 1))] fr' -> K3 fr' H' := fun H' fr' hp' hf => by
              refine hK3 (k + 1, id, rows) fr' H' (by simp only; omega) (by simpa using hf) ⟨by simp only; omega, hkl, ?_, hb.keep hp', hr4⟩
              show rows.length <= i * 42875 + j * 1225 + (k + 1) * 35
              omega
            simp (maxSteps := 1000000) [go_sem, hkl]
            refine AWp.draw mixed [(0, false), (1, false), (2, false), (3, false), (4, false), (5, false), (6, false), (7, false), (8, false), (9, false), (10, false), (11, false), (12, false), (13, false), (14, false), (15, false), (16, false), (17, false), (18, false), (19, false), (20, false), (21, false), (22, false), (23, false), (24, false), (25, false)] (by kernel_rfl) ?_
            simp (maxSteps := 1000000) [go_sem, undef, hil, hkl, x2, c1, c2]
            refine l01Common_ok (b := bs[i]) (d := bs[k]) _ ?_
            intro H7 hp7
            by_cases hc1 : common bs[i] bs[k] = 1
            · obtain ⟨y1, y2⟩ := cx H7 (hb.pre.trans hp7)
              have c3 := cu H7 (hb.pre.trans hp7) j hjl
              have c4 := cu H7 (hb.pre.trans hp7) k hkl
              simp (maxSteps := 1000000) [go_sem, undef, hc1, hjl, hkl, y2, c3, c4]
              refine l01Common_ok (b := bs[j]) (d := bs[k]) _ ?_
              intro H8 hp8
              by_cases hc2 : common bs[j] bs[k] = 1
              · simp (maxSteps := 1000000) [go_sem, undef, hc2, hw_k]
                have hb8 := (hb.keep hp7).keep hp8
                refine AWp.loopVc (St := Nat × Nat × List Rw) (fun q => [(1, .pointer (some ⟨H.length, 0, none⟩)), (4, lv 3 q.2.1 0 q.2.2.length), (5, .int .i64 bs.length), (6, .int .i64 i), (7, .int .i64 j), (8, .int .i64 k), (9, .int .i64 q.1)])
                  (fun q H' => k < q.1 /\ q.1 <= bs.length /\ q.2.2.length <= i * 42875 + j * 1225 + k * 35 + q.1 /\ BuildT H1 H' q.2.1 q.2.2 /\ ∀ r ∈ q.2.2, r.o.length = 4 /\ r.i.length = 4) (fun q => bs.length - q.1) (k + 1, id, rows) ?_ ?_ ?_
                · simp [upF, Fr.get, Up.refl]
                · refine ⟨by simp, hkl, ?_, hb8, hr4⟩
                  show rows.length <= i * 42875 + j * 1225 + k * 35 + (k + 1)
                  omega
                clear hb hb8 hr4 hrl c1 c2 c3 c4 x1 x2 y1 y2 skip3
                rintro K4 ⟨m, id, rows⟩ H9 ⟨hkm, hm, hrl, hb, hr4⟩ hK4
                simp only at hkm hm hrl hb hr4
                rcases Nat.lt_or_ge m bs.length with hml | hmg
                · have hw_m : IntKind.i64.wrap ((m : Int) + 1) = (m : Int) + 1 := i64w (by omega) (by omega)
                  obtain ⟨x1, x2⟩ := cx H9 hb.pre
                  have c1 := cu H9 hb.pre i hil
                  have c2 := cu H9 hb.pre j hjl
                  have c3 := cu H9 hb.pre k hkl
                  have c4 := cu H9 hb.pre m hml
                  have gi := hgv _ (List.getElem_mem hil)
                  have gj := hgv _ (List.getElem_mem hjl)
                  have gk := hgv _ (List.getElem_mem hkl)
                  have gm := hgv _ (List.getElem_mem hml)
                  generalize bs[i] = B1 at c1 gi
                  generalize bs[j] = B2 at c2 gj
                  generalize bs[k] = B3 at c3 gk
                  generalize bs[m] = B4 at c4 gm
                  have h4 : ∀ (J : Heap), J <+: J ++ [(⟨[.int .i64 B1.a, .int .i64 B1.b, .int .i64 B1.c, .int .i64 B2.a, .int .i64 B2.b, .int .i64 B2.c, .int .i64 B3.a, .int .i64 B3.b, .int .i64 B3.c, .int .i64 B4.a, .int .i64 B4.b, .int .i64 B4.c], true, true⟩ : Blk)] /\
                      (J ++ [(⟨[.int .i64 B1.a, .int .i64 B1.b, .int .i64 B1.c, .int .i64 B2.a, .int .i64 B2.b, .int .i64 B2.c, .int .i64 B3.a, .int .i64 B3.b, .int .i64 B3.c, .int .i64 B4.a, .int .i64 B4.b, .int .i64 B4.c], true, true⟩ : Blk)])[J.length]? = some ⟨tri [B1, B2, B3, B4], true, true⟩ := fun J => ⟨List.prefix_append _ _, by simp [tri, Bk.cells]⟩
                  have hg4 : ∀ b ∈ [B1, B2, B3, B4], good v b = true := by
                    intro b hb'
                    simp at hb'
                    rcases hb' with rfl | rfl | rfl | rfl <;> assumption
                  simp (maxSteps := 1000000) [go_sem, hml]
                  refine AWp.regCut (St := Nat × Option Rw) (fun q => [(10, .pointer (some ⟨q.1, 0, none⟩)), (11, .bool q.2.isSome)]) (fun q H' => FourAt v H9 H' q.1 q.2) ?_ ?_
                  · intro Q' hQ'
                    refine AWp.drawF mixed [27] [(0, false), (1, false), (2, false), (3, false), (4, false), (5, false), (6, false), (7, false), (8, false), (9, false), (10, false), (11, false), (12, false), (13, false), (14, false), (15, false), (16, false), (17, false), (18, false), (19, false), (20, false), (21, false), (22, true), (23, false), (24, false), (25, false), (26, false), (27, true), (28, false), (29, false)] (.one 0 false (.one 1 false (.one 2 false (.one 3 false (.one 4 false (.one 5 false (.one 6 false (.one 7 false (.one 8 false (.one 9 false (.one 10 false (.one 11 false (.one 12 false (.one 13 false (.one 14 false (.one 15 false (.one 16 false (.one 17 false (.one 18 false (.one 19 false (.one 20 false (.one 21 false (.two 22 true (.two 23 false (.one 24 false (.one 25 false (.one 26 false (.one 27 true (.one 28 false (.one 29 false .nil)))))) 27 (.one 23 false (.one 24 false (.one 25 false (.one 26 false (.one 28 false (.one 29 false .nil))))))) 27 (.one 22 true (.one 23 false (.one 24 false (.one 25 false (.one 26 false (.one 28 false (.one 29 false .nil)))))))))))))))))))))))))))))) (by kernel_rfl) ?_
                    simp (maxSteps := 1000000) [go_sem, hil, hjl, hkl, hml, x1, x2, c1, c2, c3, c4]
                    refine vT_two ?_ ?_
                    · obtain ⟨q1, q2⟩ := h4 H9
                      simp (maxSteps := 1000000) [go_sem]
                      generalize H9 ++ [(⟨[.int .i64 B1.a, .int .i64 B1.b, .int .i64 B1.c, .int .i64 B2.a, .int .i64 B2.b, .int .i64 B2.c, .int .i64 B3.a, .int .i64 B3.b, .int .i64 B3.c, .int .i64 B4.a, .int .i64 B4.b, .int .i64 B4.c], true, true⟩ : Blk)] = HF at q1 q2 ⊢
                      try refine andK_intro q1 ?_
                      refine vT_two ?_ ?_
                      · simp (maxSteps := 1000000) [go_sem]
                        refine ACalls.up (args' := [.int .i64 v, lv 3 H9.length 0 4]) ⟨Up.refl _ _, Up.ex (by omega) (.inr (by rw [cellsAt_of q2 rfl (by simp [tri, Bk.cells])]; rfl)), trivial⟩ ?_
                        refine four_ok (v := v) (bs := [B1, B2, B3, B4]) (by omega) ⟨H9.length, 0, rfl, Holds.at ⟨true, q2⟩, by simp⟩ rfl hg4 _ ?_ ?_
                        · intro HN hpN
                          simp (maxSteps := 1000000) [go_sem]
                          try refine andK_intro (by first | exact hpN | simp) ?_
                          try simp (maxSteps := 1000000) [go_sem]
                          exact hQ' (HN.length, none) _ _ (by simp [upF, Fr.get, Up.refl]) ⟨(q1.trans hpN).trans (List.prefix_append _ _), (q1.trans hpN).length_le, trivial⟩
                        · intro HN a b o i hpN hab hol hil4
                          have oneab : a.oneCell' = true /\ b.oneCell' = true := ⟨hab.read.1.one, hab.read.2.one⟩
                          simp (maxSteps := 1000000) [go_sem, tradeV, oneab.1, oneab.2]
                          try refine andK_intro (by first | exact hpN | simp) ?_
                          try simp (maxSteps := 1000000) [go_sem, oneab.1, oneab.2]
                          exact hQ' (HN.length, some ⟨v, a, b, HF.length, HN.length, o, i⟩) _ _ (by simp [upF, Fr.get, Up.refl]) ⟨(q1.trans hpN).trans (List.prefix_append _ _), (q1.trans hpN).length_le, by simp [Rw.cells], hol, hil4, hab.pre (List.prefix_append _ _), q1.length_le, by simp, hpN.length_le⟩
                      · have hqZ : HF ++ [(⟨[.int .i64 0, .slice none 0 0, .slice none 0 0], true, true⟩ : Blk)] <+: HF ++ [(⟨[.int .i64 0, .slice none 0 0, .slice none 0 0], true, true⟩ : Blk)] := List.prefix_refl _
                        have hpz : HF <+: HF ++ [(⟨[.int .i64 0, .slice none 0 0, .slice none 0 0], true, true⟩ : Blk)] := List.prefix_append _ _
                        have hzz : (HF ++ [(⟨[.int .i64 0, .slice none 0 0, .slice none 0 0], true, true⟩ : Blk)])[HF.length]? = some ⟨[.int .i64 0, .slice none 0 0, .slice none 0 0], true, true⟩ := by simp
                        simp (maxSteps := 1000000) [go_sem]
                        generalize HF ++ [(⟨[.int .i64 0, .slice none 0 0, .slice none 0 0], true, true⟩ : Blk)] = HZ at hqZ hpz hzz ⊢
                        have q2 := pget hpz q2
                        have q1z := q1.trans hpz
                        have hleF := q1.length_le
                        try refine andK_intro hpz ?_
                        try simp (maxSteps := 1000000) [go_sem]
                        refine ACalls.up (args' := [.int .i64 v, lv 3 H9.length 0 4]) ⟨Up.refl _ _, Up.ex (by omega) (.inr (by rw [cellsAt_of q2 rfl (by simp [tri, Bk.cells])]; rfl)), trivial⟩ ?_
                        refine four_ok (v := v) (bs := [B1, B2, B3, B4]) (by omega) ⟨H9.length, 0, rfl, Holds.at ⟨true, q2⟩, by simp⟩ rfl hg4 _ ?_ ?_
                        · intro HN hpN
                          obtain ⟨_, _, _, _, g⟩ := trb_cells (pget (hqZ.trans hpN) hzz)
                          obtain ⟨st, s2, s3⟩ := g 0 (.slice none 0 0) (.slice none 0 0) rfl rfl
                          simp (maxSteps := 1000000) [go_sem, st]
                          try refine andK_intro (by first | exact hpN | simp) ?_
                          try simp (maxSteps := 1000000) [go_sem, st]
                          exact hQ' (HF.length, none) _ _ (by simp [upF, Fr.get, Up.refl]) ⟨Same.prefix (S := fun j => H9.length <= j) ((Same.of_prefix (q1z.trans hpN)).trans (s3.mono fun j _ e => by omega)) (fun j hj e => by omega), by omega, trivial⟩
                        · intro HN a b o i hpN hab hol hil4
                          have oneab : a.oneCell' = true /\ b.oneCell' = true := ⟨hab.read.1.one, hab.read.2.one⟩
                          obtain ⟨_, _, _, _, g⟩ := trb_cells (pget (hqZ.trans hpN) hzz)
                          obtain ⟨st, s2, s3⟩ := g v a b oneab.1 oneab.2
                          have hleC := q1z.length_le
                          have hltZ := (List.getElem?_eq_some_iff.1 (pget hqZ hzz)).1
                          simp (maxSteps := 1000000) [go_sem, tradeV, st]
                          try refine andK_intro (by first | exact hpN | simp) ?_
                          try simp (maxSteps := 1000000) [go_sem, st]
                          exact hQ' (HF.length, some ⟨v, a, b, HZ.length, HN.length, o, i⟩) _ _ (by simp [upF, Fr.get, Up.refl]) ⟨Same.prefix (S := fun j => H9.length <= j) ((Same.of_prefix (q1z.trans hpN)).trans (s3.mono fun j _ e => by omega)) (fun j hj e => by omega), by omega, s2, hol, hil4, hab.keep s3 (fun j hj e => by have := hj.1; omega), by simp only; omega, by simp only; rw [List.length_set]; omega, by simp only; exact hpN.length_le⟩
                    · have q1z : H9 <+: H9 ++ [(⟨[.int .i64 0, .slice none 0 0, .slice none 0 0], true, true⟩ : Blk), ⟨[.int .i64 B1.a, .int .i64 B1.b, .int .i64 B1.c, .int .i64 B2.a, .int .i64 B2.b, .int .i64 B2.c, .int .i64 B3.a, .int .i64 B3.b, .int .i64 B3.c, .int .i64 B4.a, .int .i64 B4.b, .int .i64 B4.c], true, true⟩] := List.prefix_append _ _
                      have hzz : (H9 ++ [(⟨[.int .i64 0, .slice none 0 0, .slice none 0 0], true, true⟩ : Blk), ⟨[.int .i64 B1.a, .int .i64 B1.b, .int .i64 B1.c, .int .i64 B2.a, .int .i64 B2.b, .int .i64 B2.c, .int .i64 B3.a, .int .i64 B3.b, .int .i64 B3.c, .int .i64 B4.a, .int .i64 B4.b, .int .i64 B4.c], true, true⟩])[H9.length]? = some ⟨[.int .i64 0, .slice none 0 0, .slice none 0 0], true, true⟩ := by simp
                      have q2 : (H9 ++ [(⟨[.int .i64 0, .slice none 0 0, .slice none 0 0], true, true⟩ : Blk), ⟨[.int .i64 B1.a, .int .i64 B1.b, .int .i64 B1.c, .int .i64 B2.a, .int .i64 B2.b, .int .i64 B2.c, .int .i64 B3.a, .int .i64 B3.b, .int .i64 B3.c, .int .i64 B4.a, .int .i64 B4.b, .int .i64 B4.c], true, true⟩])[H9.length + 1]? = some ⟨tri [B1, B2, B3, B4], true, true⟩ := by simp [tri, Bk.cells]
                      simp (maxSteps := 1000000) [go_sem]
                      generalize H9 ++ [(⟨[.int .i64 0, .slice none 0 0, .slice none 0 0], true, true⟩ : Blk), ⟨[.int .i64 B1.a, .int .i64 B1.b, .int .i64 B1.c, .int .i64 B2.a, .int .i64 B2.b, .int .i64 B2.c, .int .i64 B3.a, .int .i64 B3.b, .int .i64 B3.c, .int .i64 B4.a, .int .i64 B4.b, .int .i64 B4.c], true, true⟩] = HF at q1z hzz q2 ⊢
                      have hqZ : HF <+: HF := List.prefix_refl _
                      refine ACalls.up (args' := [.int .i64 v, lv 3 (H9.length + 1) 0 4]) ⟨Up.refl _ _, Up.ex (by omega) (.inr (by rw [cellsAt_of q2 rfl (by simp [tri, Bk.cells])]; rfl)), trivial⟩ ?_
                      refine four_ok (v := v) (bs := [B1, B2, B3, B4]) (by omega) ⟨H9.length + 1, 0, rfl, Holds.at ⟨true, q2⟩, by simp⟩ rfl hg4 _ ?_ ?_
                      · intro HN hpN
                        obtain ⟨_, _, _, _, g⟩ := trb_cells (pget (hqZ.trans hpN) hzz)
                        obtain ⟨st, s2, s3⟩ := g 0 (.slice none 0 0) (.slice none 0 0) rfl rfl
                        simp (maxSteps := 1000000) [go_sem, st]
                        try refine andK_intro (by first | exact hpN | simp) ?_
                        try simp (maxSteps := 1000000) [go_sem, st]
                        exact hQ' (H9.length, none) _ _ (by simp [upF, Fr.get, Up.refl]) ⟨Same.prefix (S := fun j => H9.length <= j) ((Same.of_prefix (q1z.trans hpN)).trans (s3.mono fun j _ e => by omega)) (fun j hj e => by omega), by omega, trivial⟩
                      · intro HN a b o i hpN hab hol hil4
                        have oneab : a.oneCell' = true /\ b.oneCell' = true := ⟨hab.read.1.one, hab.read.2.one⟩
                        obtain ⟨_, _, _, _, g⟩ := trb_cells (pget (hqZ.trans hpN) hzz)
                        obtain ⟨st, s2, s3⟩ := g v a b oneab.1 oneab.2
                        have hleC := q1z.length_le
                        have hltZ := (List.getElem?_eq_some_iff.1 (pget hqZ hzz)).1
                        simp (maxSteps := 1000000) [go_sem, tradeV, st]
                        try refine andK_intro (by first | exact hpN | simp) ?_
                        try simp (maxSteps := 1000000) [go_sem, st]
                        exact hQ' (H9.length, some ⟨v, a, b, HF.length, HN.length, o, i⟩) _ _ (by simp [upF, Fr.get, Up.refl]) ⟨Same.prefix (S := fun j => H9.length <= j) ((Same.of_prefix (q1z.trans hpN)).trans (s3.mono fun j _ e => by omega)) (fun j hj e => by omega), by omega, s2, hol, hil4, hab.keep s3 (fun j hj e => by have := hj.1; omega), by simp only; omega, by simp only; rw [List.length_set]; omega, by simp only; exact hpN.length_le⟩
                  rintro ⟨q, o⟩ HA ⟨hpA, hqA, ho⟩
                  have hbA := hb.keep hpA
                  cases o with
                  | none =>
                    simp (maxSteps := 1000000) [go_sem, hw_m]
                    refine hK4 (m + 1, id, rows) _ _ (by simp only; omega) (by simp [upF, Fr.get, Up.refl]) ⟨by simp only; omega, hml, ?_, hbA, hr4⟩
                    show rows.length <= i * 42875 + j * 1225 + k * 35 + (m + 1)
                    omega
                  | some r =>
                    obtain ⟨g1, g2, g3, g4, g5, g6, g7⟩ := ho
                    obtain ⟨hsrc, HB, hap, hbB, hsB⟩ := hb.push (r := r) hpA g4 g5 g6 g7
                    have c0 := (trb_cells g1).1
                    simp only [Rw.cells] at hsrc hap
                    have ow1 := g4.read.1.one
                    have ow2 := g4.read.2.one
                    simp (maxSteps := 1000000) [go_sem, c0, hsrc, hap, hw_m, ow1, ow2]
                    refine andK_intro (by omega) (hK4 (m + 1, HA.length + 1, rows ++ [r]) _ _ (by simp only; omega) (by simp [upF, Fr.get, Up.refl]) ⟨by simp only; omega, hml, ?_, hbB, fun x hx => ?_⟩)
                    · show (rows ++ [r]).length <= i * 42875 + j * 1225 + k * 35 + (m + 1)
                      rw [List.length_append, List.length_singleton]
                      omega
                    · rcases List.mem_append.1 hx with hx | hx
                      · exact hr4 x hx
                      · simp at hx; subst hx; exact ⟨g2, g3⟩
                have hmn : m = bs.length := by omega
                subst hmn
                simp (maxSteps := 1000000) [go_sem, hw_k]
                refine hK3 (k + 1, id, rows) _ _ (by simp only; omega) (by simp [upF, Fr.get, Up.refl]) ⟨by simp only; omega, hkl, ?_, hb, hr4⟩
                show rows.length <= i * 42875 + j * 1225 + (k + 1) * 35
                omega
              · have hc2' : ((common bs[j] bs[k] : Int) != 1) = true := by simp; omega
                simp (maxSteps := 1000000) [go_sem, undef, hc2', hw_k]
                exact skip3 _ _ (hp7.trans hp8) (by simp [upF, Fr.get, Up.refl])
            · have hc1' : ((common bs[i] bs[k] : Int) != 1) = true := by simp; omega
              simp (maxSteps := 1000000) [go_sem, undef, hc1', hw_k]
              exact skip3 _ _ hp7 (by simp [upF, Fr.get, Up.refl])
          have hkn : k = bs.length := by omega
          subst hkn
          simp (maxSteps := 1000000) [go_sem, hw_j]
          refine hK2 (j + 1, id, rows) _ _ (by simp only; omega) (by simp [upF, Fr.get, Up.refl]) ⟨by simp only; omega, hjl, ?_, hb, hr4⟩
          show rows.length <= i * 42875 + (j + 1) * 1225
          omega
        · have hcm' : ((common bs[i] bs[j] : Int) != 1) = true := by simp; omega
          simp (maxSteps := 1000000) [go_sem, hcm', hw_j]
          refine hK2 (j + 1, id, rows) _ _ (by simp only; omega) (by simp [upF, Fr.get, Up.refl]) ⟨by simp only; omega, hjl, ?_, hb5, hr4⟩
          show rows.length <= i * 42875 + (j + 1) * 1225
          omega
      have hjn : j = bs.length := by omega
      subst hjn
      simp (maxSteps := 1000000) [go_sem, hw_i]
      exact hK (i + 1, id, rows) _ _ (by simp only; omega) (by simp [upF, Fr.get, Up.refl]) ⟨by simp only; omega, by simp only; omega, hb, hr4⟩
    have hin : i = bs.length := by omega
    subst hin
    simp (maxSteps := 1000000) [go_sem]
    refine ⟨_, Up.refl _ _, h H3 (lv 3 id 0 rows.length) rows 0 ((hp0.trans hp1).trans hb.pre) ⟨id, rfl, fun hn => ⟨by have := hb.ge; have := hp1.length_le; omega, ?_⟩, fun r hr => ?_⟩ (by omega)⟩
    · rcases hb.ol.2 with ⟨e, _⟩ | e
      · exact absurd (List.eq_nil_of_length_eq_zero e) hn
      · exact e
    · obtain ⟨g1, g2, g3, g4⟩ := hb.spans r hr
      exact ⟨by have := hp1.length_le; omega, g4, hr4 r hr⟩

end Go.Proofs.YtkimaohcmcfcnaaGreat
end

section
namespace Go.Proofs.YtkimaohcmcfcnaaGreat
open Go.Ab

theorem _root_.Go.Ab.OL.push2 {H : Heap} {id : Nat} {O : List Bk} (h : OL 3 H id (tri O) O.length) (x y : Bk) :
    cellsAt (H ++ [⟨[.int .i64 x.a, .int .i64 x.b, .int .i64 x.c, .int .i64 y.a, .int .i64 y.b, .int .i64 y.c], true, true⟩]) H.length 0 6 = some [.int .i64 x.a, .int .i64 x.b, .int .i64 x.c, .int .i64 y.a, .int .i64 y.b, .int .i64 y.c] /\
      ∃ H', appendH (H ++ [⟨[.int .i64 x.a, .int .i64 x.b, .int .i64 x.c, .int .i64 y.a, .int .i64 y.b, .int .i64 y.c], true, true⟩]) 3 (lv 3 id 0 O.length) 2 [.int .i64 x.a, .int .i64 x.b, .int .i64 x.c, .int .i64 y.a, .int .i64 y.b, .int .i64 y.c] = some (lv 3 (H.length + 1) 0 (O.length + 2), H') /\
        OL 3 H' (H.length + 1) (tri (O ++ [x, y])) (O.length + 2) /\ Same (fun j => j = id) H H' /\ H'.length = H.length + 2 := by
  have hid := h.lt
  have hk : OL 3 (H ++ [⟨[.int .i64 x.a, .int .i64 x.b, .int .i64 x.c, .int .i64 y.a, .int .i64 y.b, .int .i64 y.c], true, true⟩]) id (tri O) O.length := h.keep (S := fun _ => False) (Same.of_prefix (List.prefix_append _ _)) (fun hh => hh)
  obtain ⟨H', h1, h2, h3, h4⟩ := hk.append (by omega) (m := 2) (by omega) (news := [.int .i64 x.a, .int .i64 x.b, .int .i64 x.c, .int .i64 y.a, .int .i64 y.b, .int .i64 y.c]) rfl
  rw [List.length_append, List.length_singleton] at h1 h2 h4
  have hc := (Holds.last H [.int .i64 x.a, .int .i64 x.b, .int .i64 x.c, .int .i64 y.a, .int .i64 y.b, .int .i64 y.c]).cells (n := 6) (o := 0) (by simp)
  refine ⟨by simpa using hc, H', h1, ?_, (Same.of_prefix (List.prefix_append _ _)).trans h3, by omega⟩
  rw [tri_append]
  exact h2

theorem cycle_ok {H : Heap} {u : Value} {p a b q : Int} {bs : List Bk} (hu : BlocksAt H u bs) (hl : bs.length <= 1048576) (Post : Value -> Heap -> Prop)
    (h : ∀ (H' : Heap) (v w : Value) (r e : Int) (o i : List Bk), H <+: H' -> TradeIn H.length H'.length H' v w o i -> o.length <= 100 -> i.length <= 100 -> Post (.tuple #[tradeV r v w, .int .i64 e]) H') :
    ACalls Tryz.prog 50 [sysV p u, .int .i64 a, .int .i64 b, .int .i64 q] H Post := by
  have ou := hu.one
  refine ACalls.res ?_
  refine acalls_vc (rs := [.cell 8 26, .tmp 9]) Tryz.func50 rfl rfl Tryz.ntmps50 rfl rfl ?_
  simp (maxSteps := 1000000) [go_sem, sysV, ou]
  have hp0 : H <+: H ++ [(⟨[.int .i64 p, u], true, true⟩ : Blk), ⟨[.int .i64 0, .slice none 0 0, .slice none 0 0], true, true⟩, ⟨[.int .i64 a, .int .i64 b, .int .i64 q], true, true⟩] := List.prefix_append _ _
  have hx0 : Holds (H ++ [(⟨[.int .i64 p, u], true, true⟩ : Blk), ⟨[.int .i64 0, .slice none 0 0, .slice none 0 0], true, true⟩, ⟨[.int .i64 a, .int .i64 b, .int .i64 q], true, true⟩]) H.length [.int .i64 p, u] := ⟨true, by simp⟩
  have hr0 : (H ++ [(⟨[.int .i64 p, u], true, true⟩ : Blk), ⟨[.int .i64 0, .slice none 0 0, .slice none 0 0], true, true⟩, ⟨[.int .i64 a, .int .i64 b, .int .i64 q], true, true⟩])[H.length + 1]? = some ⟨[.int .i64 0, .slice none 0 0, .slice none 0 0], true, true⟩ := by simp
  have hi0 : (H ++ [(⟨[.int .i64 p, u], true, true⟩ : Blk), ⟨[.int .i64 0, .slice none 0 0, .slice none 0 0], true, true⟩, ⟨[.int .i64 a, .int .i64 b, .int .i64 q], true, true⟩])[H.length + 2]? = some ⟨ints [a, b, q], true, true⟩ := by simp [ints]
  generalize H ++ [(⟨[.int .i64 p, u], true, true⟩ : Blk), ⟨[.int .i64 0, .slice none 0 0, .slice none 0 0], true, true⟩, ⟨[.int .i64 a, .int .i64 b, .int .i64 q], true, true⟩] = H0 at hp0 hx0 hr0 hi0 ⊢
  have hl0 := (List.getElem?_eq_some_iff.1 hi0).1
  have bad : ∀ (HN : Heap) (e : Int), H0 <+: HN -> ∃ HZ, storeAt HN (H.length + 1) 0 [.int .i64 0, .slice none 0 0, .slice none 0 0] = some HZ /\ cellsAt HZ (H.length + 1) 0 3 = some [.int .i64 0, .slice none 0 0, .slice none 0 0] /\
      ∃ v', Up HZ (.tuple #[.agg #[.int .i64 0, .slice none 0 0, .slice none 0 0], .int .i64 e]) v' /\ Post v' HZ := by
    intro HN e hp
    obtain ⟨_, _, _, _, g⟩ := trb_cells (pget hp hr0)
    obtain ⟨s1, s2, s3⟩ := g 0 (.slice none 0 0) (.slice none 0 0) rfl rfl
    have hpz : H <+: HN.set (H.length + 1) ⟨[.int .i64 0, .slice none 0 0, .slice none 0 0], true, true⟩ := Same.prefix (S := fun j => j = H.length + 1) ((Same.of_prefix (hp0.trans hp)).trans s3) (fun j hj e => by omega)
    exact ⟨_, s1, (trb_cells s2).1, .tuple #[tradeV 0 (lv 3 0 0 0) (lv 3 0 0 0), .int .i64 e], Up.tuple ⟨Up.agg ⟨Up.refl _ _, Up.nil _ _ _ _, Up.nil _ _ _ _, trivial⟩, Up.refl _ _, trivial⟩, h _ _ _ _ _ [] [] hpz (TradeIn.nil hpz.length_le _) (by simp) (by simp)⟩
  obtain ⟨d0, d1, d2⟩ := hx0.sys
  try simp (maxSteps := 1000000) [go_sem, d0]
  refine ACalls.up (args' := [sysV p u, lv 1 (H.length + 2) 0 3]) ⟨Up.refl _ _, Up.ex (by omega) (.inr (by rw [cellsAt_of hi0 rfl (by simp [ints])]; rfl)), trivial⟩ ?_
  refine l01Points_ok (xs := [a, b, q]) (hu.pre hp0) hl ⟨H.length + 2, 0, rfl, Holds.at ⟨true, hi0⟩, by simp⟩ _ ?_
  intro H1 hp1
  obtain ⟨e0, e1, e2⟩ := (hx0.pre hp1).sys
  rcases Decidable.em (ptsCode p bs [a, b, q] ≠ 0) with hc | hc
  · obtain ⟨c, hcc⟩ : ∃ c, ptsCode p bs [a, b, q] = c := ⟨_, rfl⟩
    rw [hcc] at hc ⊢
    have hc0 : (c == 0) = false := by simpa using hc
    have hc1 : (c != 0) = true := by simpa using hc
    obtain ⟨HZ, z1, z2, z3⟩ := bad H1 c hp1
    simp (maxSteps := 1000000) [go_sem, undef, hc0, hc1, z1, z2]
    exact z3
  have hc := Classical.not_not.1 hc
  have two : ∀ (HN : Heap), H0 <+: HN -> ∃ HZ, storeAt HN (H.length + 1) 0 [.int .i64 0, .slice none 0 0, .slice none 0 0] = some HZ /\ cellsAt HZ (H.length + 1) 0 3 = some [.int .i64 0, .slice none 0 0, .slice none 0 0] /\
      ∃ v', Up HZ (.tuple #[.agg #[.int .i64 0, .slice none 0 0, .slice none 0 0], .int .i64 2]) v' /\ Post v' HZ := fun HN hp => bad HN 2 hp
  have hsa : sysB p bs = true /\ [a, b, q].all (inP p) = true := by
    unfold ptsCode at hc
    cases h1 : sysB p bs <;> rw [h1] at hc <;> simp at hc
    exact ⟨rfl, by simpa using hc⟩
  rw [hc]
  by_cases hab : a = b
  · obtain ⟨HZ, z1, z2, z3⟩ := two H1 hp1
    have t1 : (a == b) = true := by simpa using hab
    simp (maxSteps := 1000000) [go_sem, undef, t1, z1, z2]
    exact z3
  have f1 : (a == b) = false := by simpa using hab
  by_cases hqa : q = a
  · obtain ⟨HZ, z1, z2, z3⟩ := two H1 hp1
    have t1 : (q == a) = true := by simpa using hqa
    simp (maxSteps := 1000000) [go_sem, undef, f1, t1, z1, z2]
    exact z3
  have f2 : (q == a) = false := by simpa using hqa
  by_cases hqb : q = b
  · obtain ⟨HZ, z1, z2, z3⟩ := two H1 hp1
    have t1 : (q == b) = true := by simpa using hqb
    simp (maxSteps := 1000000) [go_sem, undef, f1, f2, t1, z1, z2]
    exact z3
  have f3 : (q == b) = false := by simpa using hqb
  have hS := sysB_of hsa.1
  simp (maxSteps := 1000000) [go_sem, undef, f1, f2, f3, e0]
  refine l01Third_ok (hu.pre (hp0.trans hp1)) hS.good15 _ ?_
  intro H2 hp2
  have hp12 := hp1.trans hp2
  by_cases hqt : q = third bs a b
  · obtain ⟨HZ, z1, z2, z3⟩ := two H2 hp12
    have t1 : (q == third bs a b) = true := by simpa using hqt
    simp (maxSteps := 1000000) [go_sem, undef, t1, z1, z2]
    exact z3
  have f4 : (q == third bs a b) = false := by simpa using hqt
  obtain ⟨e0, e1, e2⟩ := (hx0.pre hp12).sys
  simp (maxSteps := 1000000) [go_sem, undef, f4, e0]
  refine l01Full_ok (hu.pre (hp0.trans hp12)) hS.1 hl _ ?_
  intro H3 hp3
  have hp13 := hp12.trans hp3
  cases hfu : fullB p bs with
  | false =>
    obtain ⟨HZ, z1, z2, z3⟩ := bad H3 5 hp13
    simp (maxSteps := 1000000) [go_sem, undef, z1, z2]
    exact z3
  | true =>
    have hpp := hS.1
    obtain ⟨v, rfl⟩ : ∃ n : Nat, p = n := ⟨p.toNat, by omega⟩
    have hin := hsa.2
    simp only [List.all_cons, List.all_nil, Bool.and_true, Bool.and_eq_true, inP_iff] at hin
    obtain ⟨ha, hb, hq⟩ := hin
    obtain ⟨a, rfl⟩ : ∃ n : Nat, a = n := ⟨a.toNat, by omega⟩
    obtain ⟨b, rfl⟩ : ∃ n : Nat, b = n := ⟨b.toNat, by omega⟩
    obtain ⟨q, rfl⟩ : ∃ n : Nat, q = n := ⟨q.toNat, by omega⟩
    have hab' : a ≠ b := by omega
    have hT := turn_of hS hfu hab' (by omega) (by omega)
    have hthr := thr_spec hS hfu hab' (by omega) (by omega)
    have hqS : cycS v bs a b q := ⟨by omega, by omega, by omega, by omega⟩
    obtain ⟨N, hN2, hNe, hNv, hNq, hNd⟩ := alt_back hT hqS (v := v) (fun x hx => hx.1)
    have hSk := alt_S hT hqS
    simp (maxSteps := 1000000) [go_sem, undef]
    have hq1 : (H3 ++ [(⟨[], true, true⟩ : Blk), ⟨[], true, true⟩])[H3.length]? = some ⟨[], true, true⟩ := by simp
    have hq2 : (H3 ++ [(⟨[], true, true⟩ : Blk), ⟨[], true, true⟩])[H3.length + 1]? = some ⟨[], true, true⟩ := by simp
    have hp34 : H3 <+: H3 ++ [(⟨[], true, true⟩ : Blk), ⟨[], true, true⟩] := List.prefix_append _ _
    generalize H3 ++ [(⟨[], true, true⟩ : Blk), ⟨[], true, true⟩] = H4 at hq1 hq2 hp34 ⊢
    refine AWp.loopVc (St := Nat × Nat × Nat × List Bk × List Bk) (fun s => [(1, .int .i64 a), (2, .int .i64 b), (3, .int .i64 q), (4, .pointer (some ⟨H.length, 0, none⟩)), (8, .pointer (some ⟨H.length + 1, 0, none⟩)), (11, lv 3 s.2.1 0 s.2.2.2.1.length), (12, lv 3 s.2.2.1 0 s.2.2.2.2.length), (13, .int .i64 (alt (thr bs a) (thr bs b) q (2 * s.1)))])
      (fun s H' => 2 * s.1 < N /\ s.2.2.2.1.length = 2 * s.1 /\ s.2.2.2.2.length = 2 * s.1 /\ OL 3 H' s.2.1 (tri s.2.2.2.1) s.2.2.2.1.length /\ OL 3 H' s.2.2.1 (tri s.2.2.2.2) s.2.2.2.2.length /\ H3.length <= s.2.1 /\ H3.length <= s.2.2.1 /\ s.2.1 ≠ s.2.2.1 /\ H3 <+: H') (fun s => N - 2 * s.1) (0, H3.length, H3.length + 1, [], []) ?_ ?_ ?_
    · simp [upF, Fr.get, Up.refl, Up.ex0, alt]
    · refine ⟨by simp only; omega, rfl, rfl, ⟨by simp [tri], .inr (by simpa [tri] using hq1)⟩, ⟨by simp [tri], .inr (by simpa [tri] using hq2)⟩, Nat.le_refl _, by simp only; omega, by simp only; omega, hp34⟩
    rintro K ⟨k, oid, iid, O, I⟩ H5 ⟨hk, hO, hI, hoO, hoI, ho, hi, hne, hp35⟩ hK
    simp only at hk hO hI hoO hoI ho hi hne
    have hA := hSk (2 * k)
    have hB := hSk (2 * k + 1)
    have hC := hSk (2 * k + 2)
    have eB : alt (thr bs a) (thr bs b) q (2 * k + 1) = thr bs a (alt (thr bs a) (thr bs b) q (2 * k)) := by
      simp only [alt]; rw [if_pos (by omega)]
    have eC : alt (thr bs a) (thr bs b) q (2 * k + 2) = thr bs b (alt (thr bs a) (thr bs b) q (2 * k + 1)) := by
      rw [show 2 * k + 2 = (2 * k + 1) + 1 from rfl, alt]; rw [if_neg (by omega)]
    have sB := thr_spec hS hfu (Ne.symm hA.2.1) (show a < v by omega) hA.1
    have sC := thr_spec hS hfu (Ne.symm hB.2.2.1) (show b < v by omega) hB.1
    rw [<- eB] at sB
    rw [<- eC] at sC
    have hback : alt (thr bs a) (thr bs b) q (2 * k + 2) = q -> 2 * k + 2 = N := by
      intro e
      by_cases hlt : 2 * k + 2 < N
      · exact absurd e.symm (hNd 0 (2 * k + 2) (by omega) hlt)
      · omega
    have hmul : 2 * (k + 1) = 2 * k + 2 := by omega
    have hfin : 2 * k + 2 = N -> alt (thr bs a) (thr bs b) q (2 * k + 2) = q := fun e => by rw [e]; exact hNq
    rw [<- hmul] at hback hfin
    have eC' : alt (thr bs a) (thr bs b) q (2 * (k + 1)) = alt (thr bs a) (thr bs b) q (2 * k + 2) := by rw [hmul]
    rw [<- eC'] at sC hC
    generalize hAA : alt (thr bs a) (thr bs b) q (2 * k) = A at *
    generalize hBB : alt (thr bs a) (thr bs b) q (2 * k + 1) = B at *
    generalize hCC : alt (thr bs a) (thr bs b) q (2 * (k + 1)) = C at *
    have hp05 := hp13.trans hp35
    obtain ⟨e0, e1, e2⟩ := (hx0.pre hp05).sys
    have uat := hu.pre (hp0.trans hp05)
    simp (maxSteps := 1000000) [go_sem, undef, e0]
    refine l01Third_ok uat hS.good15 _ ?_
    rw [sB.1]
    intro H6 hp6
    obtain ⟨e0, e1, e2⟩ := (hx0.pre (hp05.trans hp6)).sys
    simp (maxSteps := 1000000) [go_sem, undef, e0]
    refine l01Third_ok (uat.pre hp6) hS.good15 _ ?_
    rw [sC.1]
    intro H7 hp7
    simp (maxSteps := 1000000) [go_sem, undef]
    have hA1 := hA.1
    have hB1 := hB.1
    have hC1 := hC.1
    refine l01Block_ok (a := (a : Int)) (b := (A : Int)) (c := (B : Int)) ⟨by omega, by omega⟩ ⟨by omega, by omega⟩ ⟨by omega, by omega⟩ _ ?_
    intro H8 hp8
    obtain ⟨X1, hX1⟩ : ∃ X, blk (a : Int) A B = X := ⟨_, rfl⟩
    rw [hX1]
    simp (maxSteps := 1000000) [go_sem, undef, Bk.val]
    refine l01Block_ok (a := (b : Int)) (b := (B : Int)) (c := (C : Int)) ⟨by omega, by omega⟩ ⟨by omega, by omega⟩ ⟨by omega, by omega⟩ _ ?_
    intro H9 hp9
    obtain ⟨X2, hX2⟩ : ∃ X, blk (b : Int) B C = X := ⟨_, rfl⟩
    rw [hX2]
    have hp59 := ((hp6.trans hp7).trans hp8).trans hp9
    obtain ⟨hsrc, H10, hap, hoO', hsO, hlO⟩ := (hoO.keep (S := fun _ => False) (Same.of_prefix hp59) (fun e => e)).push2 X1 X2
    simp (maxSteps := 1000000) [go_sem, undef, Bk.val, hsrc, hap]
    refine andK_intro (by omega) ?_
    try simp (maxSteps := 1000000) [go_sem, undef]
    have hle9 := hp59.length_le
    have hlt35 := hp35.length_le
    have hlI := hoI.lt
    have hlO0 := hoO.lt
    have hoI' := (hoI.keep (S := fun _ => False) (Same.of_prefix hp59) (fun e => e)).keep hsO (fun e => hne e.symm)
    refine l01Block_ok (a := (b : Int)) (b := (A : Int)) (c := (B : Int)) ⟨by omega, by omega⟩ ⟨by omega, by omega⟩ ⟨by omega, by omega⟩ _ ?_
    intro H11 hp11
    obtain ⟨Y1, hY1⟩ : ∃ X, blk (b : Int) A B = X := ⟨_, rfl⟩
    rw [hY1]
    simp (maxSteps := 1000000) [go_sem, undef, Bk.val]
    refine l01Block_ok (a := (a : Int)) (b := (B : Int)) (c := (C : Int)) ⟨by omega, by omega⟩ ⟨by omega, by omega⟩ ⟨by omega, by omega⟩ _ ?_
    intro H12 hp12b
    obtain ⟨Y2, hY2⟩ : ∃ X, blk (a : Int) B C = X := ⟨_, rfl⟩
    rw [hY2]
    have hp1012 := hp11.trans hp12b
    have hle12 := hp1012.length_le
    obtain ⟨hsrc2, H13, hap2, hoI2, hsI, hlI2⟩ := (hoI'.keep (S := fun _ => False) (Same.of_prefix hp1012) (fun e => e)).push2 Y1 Y2
    have hoO2 := (hoO'.keep (S := fun _ => False) (Same.of_prefix hp1012) (fun e => e)).keep hsI (fun e => by omega)
    have hp313 : H3 <+: H13 := Same.prefix (S := fun j => H3.length <= j) ((((Same.of_prefix (hp35.trans hp59)).trans (hsO.mono fun j _ e => by omega)).trans (Same.of_prefix hp1012)).trans (hsI.mono fun j _ e => by omega)) (fun j hj e => by omega)
    simp (maxSteps := 1000000) [go_sem, undef, Bk.val, hsrc2, hap2]
    refine andK_intro (by omega) ?_
    try simp (maxSteps := 1000000) [go_sem, undef]
    by_cases hCq : C = q
    · have hkN := hback hCq
      have t1 : ((C : Int) == q) = true := by simpa using congrArg (Nat.cast (R := Int)) hCq
      have hp013 := hp13.trans hp313
      obtain ⟨g0, g1, g2⟩ := (hx0.pre hp013).sys
      simp (maxSteps := 1000000) [go_sem, undef, t1, g1]
      have wO : BlocksIn H3.length H13.length H13 (lv 3 (H9.length + 1) 0 (O ++ [X1, X2]).length) (O ++ [X1, X2]) := OwnBlocks.inn (OwnBlocks.of_ol (by simpa using hoO2) (by simp; omega)) (by omega)
      have wI : BlocksIn H3.length H13.length H13 (lv 3 (H12.length + 1) 0 (I ++ [Y1, Y2]).length) (I ++ [Y1, Y2]) := OwnBlocks.inn (OwnBlocks.of_ol (by simpa using hoI2) (by simp; omega)) (by omega)
      have rO : BlocksAt H13 (lv 3 (H9.length + 1) 0 (O.length + 2)) (O ++ [X1, X2]) := by simpa using wO.read
      have rI : BlocksAt H13 (lv 3 (H12.length + 1) 0 (I.length + 2)) (I ++ [Y1, Y2]) := by simpa using wI.read
      refine l04Made_ok rO rI (by simp; omega) (by simp; omega) _ ?_
      intro H14 va vb hp14 hab2
      obtain ⟨_, _, _, _, g⟩ := trb_cells (pget (hp013.trans hp14) hr0)
      have oneab : va.oneCell' = true /\ vb.oneCell' = true := ⟨hab2.read.1.one, hab2.read.2.one⟩
      obtain ⟨s1, s2, s3⟩ := g v va vb oneab.1 oneab.2
      have c0 := (trb_cells s2).1
      have hle13 := hp013.length_le
      have fin := h (H14.set (H.length + 1) ⟨[.int .i64 v, va, vb], true, true⟩) va vb v 0 _ _ (Same.prefix (S := fun j => j = H.length + 1) ((Same.of_prefix ((hp0.trans hp013).trans hp14)).trans s3) (fun j hj e => by omega)) (by rw [List.length_set]; exact (hab2.keep s3 (fun j hj e => by have := hj.1; omega)).wider (by omega)) (by rw [sortB_len]; simp; omega) (by rw [sortB_len]; simp; omega)
      simp (maxSteps := 1000000) [go_sem, undef, tradeV, s1, c0]
      exact ⟨_, Up.refl _ _, fin⟩
    · have t1 : ((C : Int) == q) = false := by simp; omega
      simp (maxSteps := 1000000) [go_sem, undef, t1]
      have hnN : 2 * k + 2 ≠ N := fun e => hCq (hfin e)
      refine hK (k + 1, H9.length + 1, H12.length + 1, O ++ [X1, X2], I ++ [Y1, Y2]) _ _ (by simp only; omega) (by simp [upF, Fr.get, Up.refl, hCC]) ⟨by simp only; omega, by simp; omega, by simp; omega, by simpa using hoO2, by simpa using hoI2, by simp only; omega, by simp only; omega, by simp only; omega, hp313⟩

end Go.Proofs.YtkimaohcmcfcnaaGreat
end
