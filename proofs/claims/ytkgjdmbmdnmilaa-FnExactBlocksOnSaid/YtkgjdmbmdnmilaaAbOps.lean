/- What each operation of the model does to abstract values and blocks, and that it does so. No statement of the seat is proved here; it holds for every program. -/
import Derived.Test.YtkgjdmbmdnmilaaAbAppend
set_option linter.all false
namespace Go.Ab
open Go.RowKit (Below)

/-- A call of a function with a body, in abstract terms. -/
def ACalls (P : Program) (f : FuncId) (args : List Value) (H : Heap) (Post : Value → Heap → Prop) : Prop :=
  (∃ fn, P.funcs[f]? = some fn ∧ fn.body.isSome = true ∧ (fn.name == "runtime.NumGoroutine") = false) ∧
  ∀ (B : Nat) (w0 : World) (ρ : Rho) (w : World) (cargs : List Value), R B w0 ρ H w → VRs ρ args cargs →
    Calls P f cargs.toArray w fun e w' => ∃ ρ' H' v cv, e = .returned cv ∧ ρ <+: ρ' ∧ R B w0 ρ' H' w' ∧ VR ρ' v cv ∧ Post v H'

theorem ACalls.mono {P : Program} {f : FuncId} {args : List Value} {H : Heap} {Post Post' : Value → Heap → Prop} (h : ACalls P f args H Post) (hp : ∀ v H', Post v H' → Post' v H') : ACalls P f args H Post' :=
  ⟨h.1, fun B w0 ρ w cargs hR hv => (h.2 B w0 ρ w cargs hR hv).mono fun _ _ ⟨ρ', H', v, cv, h1, h2, h3, h4, h5⟩ => ⟨ρ', H', v, cv, h1, h2, h3, h4, hp v H' h5⟩⟩

def OpOK (P : Program) (N : Nat) (o : Oper) (fr : Fr) (H : Heap) (K : Fr → Heap → Prop) : Prop :=
  ∀ (B : Nat) (w0 : World) (ρ : Rho) (w : World) (a : Act) (K' : Act → World → Prop) (Q : Exit → Act → World → Prop), R B w0 ρ H w → FR N ρ fr a →
    (∀ (ρ' : Rho) (fr' : Fr) (H' : Heap) (a' : Act) (w' : World), ρ <+: ρ' → K fr' H' → R B w0 ρ' H' w' → FR N ρ' fr' a' → K' a' w') → o.wp P a w K' Q

theorem opOK_value {P : Program} {N : Nat} {o : Oper} {fr : Fr} {H : Heap} {K : Fr → Heap → Prop}
    (h : ∀ (B : Nat) (w0 : World) (ρ : Rho) (w : World) (a : Act), R B w0 ρ H w → FR N ρ fr a → ∃ cv w' ρ' H' v, (execOp a.eval o).run P w = .ok (.value cv) w' ∧ ρ <+: ρ' ∧ R B w0 ρ' H' w' ∧ VR ρ' v cv ∧ dstOK N o.dst ∧ K (fr.put o.dst v) H') :
    OpOK P N o fr H K := by
  intro B w0 ρ w a K' Q hR hF hK
  obtain ⟨cv, w', ρ', H', v, hr, hp, hR', hv, hd, hk⟩ := h B w0 ρ w a hR hF
  unfold Oper.wp
  rw [hr, Oper.upon_value]
  exact hK ρ' _ H' _ w' hp hk hR' ((hF.mono hp).put hd hv)

theorem opOK_same {P : Program} {N : Nat} {o : Oper} {fr : Fr} {H : Heap} {K : Fr → Heap → Prop}
    (h : ∀ (ρ : Rho) (w : World) (a : Act), FR N ρ fr a → ∃ cv v, (execOp a.eval o).run P w = .ok (.value cv) w ∧ VR ρ v cv ∧ dstOK N o.dst ∧ K (fr.put o.dst v) H) :
    OpOK P N o fr H K :=
  opOK_value fun _ _ ρ w a hR hF => let ⟨cv, v, h1, h2, h3, h4⟩ := h ρ w a hF; ⟨cv, w, ρ, H, v, h1, List.prefix_refl _, hR, h2, h3, h4⟩

theorem opOK_skip {P : Program} {N : Nat} {o : Oper} {fr : Fr} {H : Heap} {K : Fr → Heap → Prop}
    (h : ∀ (B : Nat) (w0 : World) (ρ : Rho) (w : World) (a : Act), R B w0 ρ H w → FR N ρ fr a → ∃ w' ρ' H', (execOp a.eval o).run P w = .ok .skip w' ∧ ρ <+: ρ' ∧ R B w0 ρ' H' w' ∧ dstOK N o.dst ∧ K (fr.put o.dst undef) H') :
    OpOK P N o fr H K := by
  intro B w0 ρ w a K' Q hR hF hK
  obtain ⟨w', ρ', H', hr, hp, hR', hd, hk⟩ := h B w0 ρ w a hR hF
  unfold Oper.wp
  rw [hr, Oper.upon_skip]
  exact hK ρ' _ H' _ w' hp hk hR' ((hF.mono hp).put hd (VR.closed (v := undef) rfl))

/-- The operands' values. -/
def evs (fr : Fr) : List Operand → Option (List Value)
  | [] => some []
  | x :: xs => match ev fr x, evs fr xs with
    | some v, some vs => some (v :: vs)
    | _, _ => none

theorem FR.evs {N : Nat} {ρ : Rho} {fr : Fr} {a : Act} (hf : FR N ρ fr a) : ∀ {xs : List Operand} {vs : List Value}, Ab.evs fr xs = some vs → VRs ρ vs (xs.map a.eval)
  | [], vs, h => by simp only [Ab.evs, Option.some.injEq] at h; subst h; exact VRs.nil _
  | x :: xs, vs, h => by
    simp only [Ab.evs] at h
    cases hx : Ab.ev fr x with
    | none => simp [hx] at h
    | some v =>
      cases hxs : Ab.evs fr xs with
      | none => simp [hx, hxs] at h
      | some us =>
        simp only [hx, hxs, Option.some.injEq] at h
        subst h
        exact VRs.cons (hf.ev hx) (hf.evs hxs)

section
variable {P : Program} {N : Nat} {o : Oper} {fr : Fr} {H : Heap} {K : Fr → Heap → Prop}

theorem ok_move {x : Operand} (ho : o.op = .move x ∨ o.op = .assign x) {v : Value} (hx : ev fr x = some v) (hd : dstOK N o.dst) (hk : K (fr.put o.dst v) H) : OpOK P N o fr H K :=
  opOK_same fun ρ w a hF => ⟨a.eval x, v, by rcases ho with h | h <;> simp [execOp, h], hF.ev hx, hd, hk⟩

theorem ok_pick {c x y : Operand} (ho : o.op = .pick c x y) {b : Bool} (hc : ev fr c = some (.bool b)) {v : Value} (hx : ev fr (if b then x else y) = some v) (hd : dstOK N o.dst) (hk : K (fr.put o.dst v) H) : OpOK P N o fr H K :=
  opOK_same fun ρ w a hF => by
    have hb := (hF.ev hc).bool_inv
    refine ⟨a.eval (if b then x else y), v, ?_, hF.ev hx, hd, hk⟩
    cases b <;> simp [execOp, ho, hb, asBool]

theorem ok_alloc {t : TypeId} (ho : o.op = .alloc t) {τ : TI} (ht : ti P t = some τ) (hc : τ.zero.cells.toList.all closed0 = true) (hd : dstOK N o.dst)
    (hk : K (fr.put o.dst (.pointer (some ⟨H.length, 0, none⟩))) (H ++ [⟨τ.zero.cells.toList, true, true⟩])) : OpOK P N o fr H K :=
  opOK_value fun B w0 ρ w a hR hF => by
    obtain ⟨i, hu, hi, hs, hb, hz, hzs⟩ := ti_inv ht
    refine ⟨.pointer (some ⟨w.heap.size, 0, none⟩), w.alloc (.cells τ.zero.cells t), _, _, _, ?_, List.prefix_append _ _, hR.alloc τ.zero.cells.toList τ.zero.cells t ?_, ?_, hd, hk⟩
    · simp [execOp, ho, Instr.alloc, zeroValue, typeInfo, hi, hz, newVar, newRow]
    · intro k v hv
      have hcv := List.all_eq_true.1 hc v (List.mem_of_getElem? hv)
      refine ⟨by cases v <;> first | rfl | simp [closed0] at hcv, v, by simpa using hv, VR.closed0 hcv⟩
    · exact .ptr H.length 0 ⟨w.heap.size, 0, τ.zero.cells.size⟩ (by rw [← hR.len]; simp)

theorem ok_box {t : TypeId} {x : Operand} (ho : o.op = .box t x) {v : Value} (hx : ev fr x = some v) (hc : v.cells.toList.all Value.oneCell' = true) (hd : dstOK N o.dst)
    (hk : K (fr.put o.dst (.pointer (some ⟨H.length, 0, none⟩))) (H ++ [⟨v.cells.toList, true, true⟩])) : OpOK P N o fr H K :=
  opOK_value fun B w0 ρ w a hR hF => by
    have hv := hF.ev hx
    have hcs := hv.cells
    refine ⟨.pointer (some ⟨w.heap.size, 0, none⟩), w.alloc (.cells (a.eval x).cells t), _, _, _, ?_, List.prefix_append _ _, hR.alloc v.cells.toList (a.eval x).cells t ?_, ?_, hd, hk⟩
    · simp [execOp, ho, Instr.box, newVar, newRow]
    · intro k u hu
      refine ⟨List.all_eq_true.1 hc u (List.mem_of_getElem? hu), ?_⟩
      have hlt : k < (a.eval x).cells.toList.length := by rw [← hcs.1]; exact (List.getElem?_eq_some_iff.1 hu).1
      exact ⟨(a.eval x).cells.toList[k], by simp [List.getElem?_eq_getElem (by simpa using hlt : k < (a.eval x).cells.size)], hcs.2 k u _ hu (List.getElem?_eq_getElem hlt)⟩
    · exact .ptr H.length 0 ⟨w.heap.size, 0, (a.eval x).cells.size⟩ (by rw [← hR.len]; simp)

/-- Is a type's variable of several cells? -/
def aggT : TypeDesc → Bool
  | .struct _ | .array _ _ => true
  | _ => false

theorem run_isAgg {t : TypeId} {d : TypeDesc} (hu : P.underlying t = some d) (w : World) : (isAgg t).run P w = .ok (aggT d) w := by
  unfold isAgg
  rw [Sem.run_bind, run_underlying hu w]
  cases d <;> simp [aggT]

theorem R.loadVar {B : Nat} {w0 : World} {ρ : Rho} {w : World} (hR : R B w0 ρ H w) {t : TypeId} {τ : TI} (ht : ti P t = some τ) {i off : Nat} {cs : List Value} (hc : Ab.cellsAt H i off τ.size = some cs)
    {l : Loc} (hl : ρ[i]? = some l) {v : Value} (hv : if aggT τ.desc then v = .agg cs.toArray else cs = [v]) :
    ∃ cv, (loadVar t ⟨l.blk, l.off + off, none⟩).run P w = .ok cv w ∧ VR ρ v cv := by
  obtain ⟨ii, hu, hi, hs, hb, hz, hzs⟩ := ti_inv ht
  obtain ⟨l', ds, hl', hlen, hr, h1, hcell⟩ := hR.cellsAt hc
  rw [hl] at hl'; cases hl'
  have hla := run_isAgg hu w
  by_cases hag : aggT τ.desc = true
  · rw [if_pos hag] at hv
    subst hv
    have hll := run_loadCells_list (P := P) w ⟨l.blk, l.off + off, none⟩ ds (fun j v hj => by rw [add_zero_addr]; exact hcell j v hj)
    refine ⟨.agg ds.toArray, ?_, VR.agg_of (by simpa using hr)⟩
    have e : ds.length = τ.size := by rw [← hr.1]; exact hlen
    rw [e] at hll
    unfold Go.loadVar
    simp [hla, hag, sizeOf, typeInfo, hi, hs, hll]
  · rw [if_neg hag] at hv
    subst hv
    have hlen1 : ds.length = 1 := by rw [← hr.1]; rfl
    obtain ⟨d, rfl⟩ : ∃ d, ds = [d] := List.length_eq_one_iff.1 hlen1
    have hd := hcell 0 d rfl
    refine ⟨d, ?_, hr.head⟩
    unfold Go.loadVar
    simp only [Nat.add_zero] at hd
    simp [hla, hag, hd]

theorem ok_load {t : TypeId} {x : Operand} (ho : o.op = .load t x) {τ : TI} (ht : ti P t = some τ) {i off : Nat} (hx : ev fr x = some (.pointer (some ⟨i, off, none⟩)))
    {cs : List Value} (hc : cellsAt H i off τ.size = some cs) {v : Value} (hv : if aggT τ.desc then v = .agg cs.toArray else cs = [v]) (hd : dstOK N o.dst) (hk : K (fr.put o.dst v) H) : OpOK P N o fr H K :=
  opOK_value fun B w0 ρ w a hR hF => by
    obtain ⟨l, hl, he⟩ := (hF.ev hx).ptr_inv
    obtain ⟨cv, hrun, hvr⟩ := hR.loadVar ht hc hl hv
    exact ⟨cv, w, ρ, H, v, by simp [execOp, ho, Instr.loadAt, Instr.sureAddr, he, hrun], List.prefix_refl _, hR, hvr, hd, hk⟩

theorem R.storeVar {B : Nat} {w0 : World} {ρ : Rho} {w : World} (hR : R B w0 ρ H w) {H' : Heap} {i off : Nat} {v cv : Value} (hv : VR ρ v cv) (hst : storeAt H i off v.cells.toList = some H')
    {l : Loc} (hl : ρ[i]? = some l) : ∃ w', (storeCells ⟨l.blk, l.off + off, none⟩ cv.cells.toList).run P w = .ok () w' ∧ R B w0 ρ H' w' := by
  obtain ⟨b, hb, hbl, hbo, hlen, hone, rfl⟩ := storeAt_inv hst
  obtain ⟨cur, el, fz, hg, hsz, hcell, ho⟩ := hR.blk i b l hb hl hbl
  obtain ⟨hBl, rfl⟩ := ho hbo
  have hcs := hv.cells
  have h1 : ∀ u ∈ cv.cells.toList, u.oneCell' = true := by
    intro u hu
    obtain ⟨k, hk⟩ := List.getElem?_of_mem hu
    have hlt : k < v.cells.toList.length := by rw [hcs.1]; exact (List.getElem?_eq_some_iff.1 hk).1
    have := hcs.2 k _ u (List.getElem?_eq_getElem hlt) hk
    rw [← this.oneCell]
    exact List.all_eq_true.1 hone _ (List.getElem_mem hlt)
  by_cases hz : v.cells.toList.length = 0
  · have e1 : v.cells.toList = [] := List.eq_nil_of_length_eq_zero hz
    have e2 : cv.cells.toList = [] := List.eq_nil_of_length_eq_zero (by rw [← hcs.1]; exact hz)
    refine ⟨w, by rw [e2]; rfl, ?_⟩
    have e3 : H.set i { b with cells := over b.cells off v.cells.toList } = H := by
      rw [e1]
      have : over b.cells off [] = b.cells := by simp [over]
      rw [this]
      apply List.ext_getElem?
      intro k
      rw [List.getElem?_set]
      by_cases hk : i = k
      · subst hk; rw [if_pos rfl, hb, if_pos (List.getElem?_eq_some_iff.1 hb).1]
      · rw [if_neg hk]
    rw [e3]; exact hR
  have hfit : l.off + off + cv.cells.toList.length ≤ cur.size := by
    rw [← hcs.1]
    obtain ⟨_, c, hc, _⟩ := hcell (off + v.cells.toList.length - 1) _ (List.getElem?_eq_getElem (by omega))
    have := (Array.getElem?_eq_some_iff.1 hc).1
    omega
  have hst := run_storeCells_at P l.blk (l.off + off) el cv.cells.toList 0 cur w hg (by simpa using hfit) h1
  simp only [Nat.add_zero] at hst
  refine ⟨_, hst, ?_⟩
  have e : (cur.toList.take (l.off + off) ++ cv.cells.toList ++ cur.toList.drop (l.off + off + cv.cells.toList.length)).toArray = (over cur.toList (l.off + off) cv.cells.toList).toArray := rfl
  rw [e]
  refine hR.setRow hb hl hbl hbo (over b.cells off v.cells.toList) _ el cur hg (by simp [over_length (cs := cur.toList) (o := l.off + off) (vs := cv.cells.toList) (by simpa using hfit)]) ?_
  intro k u hk
  rw [over_get hlen] at hk
  simp only [List.getElem?_toArray]
  rw [over_get (by simpa using hfit)]
  by_cases c1 : k < off
  · rw [if_pos c1] at hk
    rw [if_pos (by omega)]
    obtain ⟨h3, cu, h4, h5⟩ := hcell k u hk
    exact ⟨h3, cu, by simpa using h4, h5⟩
  · rw [if_neg c1] at hk
    by_cases c2 : k < off + v.cells.toList.length
    · rw [if_pos c2] at hk
      rw [if_neg (by omega), if_pos (by rw [← hcs.1]; omega)]
      have hlt : k - off < cv.cells.toList.length := by rw [← hcs.1]; omega
      refine ⟨List.all_eq_true.1 hone u (List.mem_of_getElem? hk), cv.cells.toList[k - off], ?_, hcs.2 _ _ _ hk (List.getElem?_eq_getElem hlt)⟩
      rw [show l.off + k - (l.off + off) = k - off by omega]
      exact List.getElem?_eq_getElem hlt
    · rw [if_neg c2] at hk
      rw [if_neg (by omega), if_neg (by rw [← hcs.1]; omega)]
      obtain ⟨h3, cu, h4, h5⟩ := hcell k u hk
      exact ⟨h3, cu, by simpa using h4, h5⟩

end
end Go.Ab
