/- More operations of the model in abstract terms: build, make, the builtins, calls. No statement of the seat is proved here; it holds for every program. -/
import Derived.Test.YtkgjdmbmdnmilaaAbOps3
set_option linter.all false
namespace Go.Ab
open Go.RowKit (Below)

/-! Structs, arrays and slices that are written out. -/

theorem fill_step (off : Nat) (ds : List Value) : ∀ (k : Nat) (cells : Array Value), off + k + ds.length ≤ cells.size →
    (((ds.zipIdx k).foldl (fun cs (p : Value × Nat) => cs.setIfInBounds (off + p.2) p.1) cells).toList = over cells.toList (off + k) ds ∧
      ((ds.zipIdx k).foldl (fun cs (p : Value × Nat) => cs.setIfInBounds (off + p.2) p.1) cells).size = cells.size) := by
  induction ds with
  | nil => intro k cells h; simp [over]
  | cons d ds ih =>
    intro k cells h
    simp only [List.zipIdx_cons, List.foldl_cons]
    have h' : off + (k + 1) + ds.length ≤ (cells.setIfInBounds (off + k) d).size := by simp at h ⊢; omega
    obtain ⟨h1, h2⟩ := ih (k + 1) (cells.setIfInBounds (off + k) d) h'
    refine ⟨?_, by rw [h2]; simp⟩
    rw [h1, Array.toList_setIfInBounds]
    apply List.ext_getElem?
    intro j
    have hl : cells.toList.length = cells.size := by simp
    rw [over_get (by simp at h ⊢; omega), over_get (by simp at h ⊢; omega)]
    rw [List.getElem?_set]
    simp only [List.length_cons] at h ⊢
    by_cases c1 : j < off + k
    · rw [if_pos (by omega), if_pos c1, if_neg (by omega)]
    · by_cases c2 : j = off + k
      · subst c2
        rw [if_pos (by omega), if_pos rfl, if_neg c1, if_pos (by omega)]
        rw [if_pos (by omega)]; simp
      · rw [if_neg c1]
        by_cases c3 : j < off + (k + 1) + ds.length
        · rw [if_neg (by omega), if_pos c3, if_pos (by omega)]
          rw [show j - (off + k) = (j - (off + (k + 1))) + 1 by omega]; rfl
        · rw [if_neg (by omega), if_neg c3, if_neg (by omega), if_neg (by omega)]

theorem VRs.over {ρ : Rho} {cs ds vs us : List Value} {o : Nat} (h : VRs ρ cs ds) (h' : VRs ρ vs us) (hl : o + vs.length ≤ cs.length) : VRs ρ (Ab.over cs o vs) (Ab.over ds o us) := by
  have hl' : o + us.length ≤ ds.length := by rw [← h'.1, ← h.1]; exact hl
  refine ⟨by rw [over_length hl, over_length hl', h.1], fun i v w hv hw => ?_⟩
  rw [over_get hl] at hv
  rw [over_get hl', ← h'.1] at hw
  by_cases c1 : i < o
  · rw [if_pos c1] at hv hw; exact h.2 i v w hv hw
  · rw [if_neg c1] at hv hw
    by_cases c2 : i < o + vs.length
    · rw [if_pos c2] at hv hw; exact h'.2 _ v w hv hw
    · rw [if_neg c2] at hv hw; exact h.2 i v w hv hw

theorem fill_rel {ρ : Rho} (place : Nat → Option (Nat × Nat)) : ∀ (ps qs : List (Nat × Value)) (cells ds : Array Value) (out : Array Value), ps.length = qs.length →
    (∀ (i : Nat) (p q : Nat × Value), ps[i]? = some p → qs[i]? = some q → p.1 = q.1 ∧ VR ρ p.2 q.2) → VRs ρ cells.toList ds.toList → Instr.fill place cells ps = some out →
    ∃ out', Instr.fill place ds qs = some out' ∧ VRs ρ out.toList out'.toList
  | [], [], cells, ds, out, _, _, hr, h => by simp only [Instr.fill, Option.some.injEq] at h; subst h; exact ⟨ds, rfl, hr⟩
  | (i, v) :: ps, (j, u) :: qs, cells, ds, out, hl, hp, hr, h => by
    obtain ⟨e, hvu⟩ := hp 0 (i, v) (j, u) rfl rfl
    simp only at e hvu
    subst e
    simp only [Instr.fill] at h ⊢
    cases hpl : place i with
    | none => simp [hpl] at h
    | some os =>
      obtain ⟨off, size⟩ := os
      simp only [hpl] at h ⊢
      have hsz : v.cells.size = u.cells.size := by simpa using hvu.cells.1
      have hcs : cells.size = ds.size := by simpa using hr.1
      split at h
      · cases h
      · rename_i hc
        rw [← hsz, ← hcs, if_neg hc]
        simp only [Bool.or_eq_true, decide_eq_true_eq, not_or] at hc
        refine fill_rel place ps qs _ _ out (by simpa using hl) (fun k p q h1 h2 => hp (k + 1) p q (by simpa using h1) (by simpa using h2)) ?_ h
        obtain ⟨e1, _⟩ := fill_step off v.cells.toList 0 cells (by simp; omega)
        obtain ⟨e2, _⟩ := fill_step off u.cells.toList 0 ds (by simp; omega)
        have f1 : (v.cells.zipIdx.foldl (fun cs (x : Value × Nat) => match x with | (c, j) => cs.setIfInBounds (off + j) c) cells).toList = over cells.toList off v.cells.toList := by
          rw [← Array.foldl_toList, Array.toList_zipIdx]; simpa using e1
        have f2 : (u.cells.zipIdx.foldl (fun cs (x : Value × Nat) => match x with | (c, j) => cs.setIfInBounds (off + j) c) ds).toList = over ds.toList off u.cells.toList := by
          rw [← Array.foldl_toList, Array.toList_zipIdx]; simpa using e2
        rw [f1, f2]
        exact hr.over hvu.cells (by simp; omega)
  | [], q :: qs, _, _, _, hl, _, _, _ => by simp at hl
  | p :: ps, [], _, _, _, hl, _, _, _ => by simp at hl

/-- The parts of a literal. -/
def evParts (fr : Fr) : List (Nat × Operand) → Option (List (Nat × Value))
  | [] => some []
  | (i, x) :: xs => match ev fr x, evParts fr xs with
    | some v, some vs => some ((i, v) :: vs)
    | _, _ => none

theorem FR.evParts {N : Nat} {ρ : Rho} {fr : Fr} {a : Act} (hf : FR N ρ fr a) : ∀ {xs : List (Nat × Operand)} {ps : List (Nat × Value)}, Ab.evParts fr xs = some ps →
    ps.length = (xs.map fun (i, x) => (i, a.eval x)).length ∧ ∀ (i : Nat) (p q : Nat × Value), ps[i]? = some p → (xs.map fun (i, x) => (i, a.eval x))[i]? = some q → p.1 = q.1 ∧ VR ρ p.2 q.2
  | [], ps, h => by simp only [Ab.evParts, Option.some.injEq] at h; subst h; exact ⟨rfl, by simp⟩
  | (i, x) :: xs, ps, h => by
    simp only [Ab.evParts] at h
    cases hx : Ab.ev fr x with
    | none => simp [hx] at h
    | some v =>
      cases hxs : Ab.evParts fr xs with
      | none => simp [hx, hxs] at h
      | some us =>
        simp only [hx, hxs, Option.some.injEq] at h
        subst h
        obtain ⟨h1, h2⟩ := hf.evParts hxs
        refine ⟨by simpa using h1, fun k p q hp hq => ?_⟩
        cases k with
        | zero => simp at hp hq; subst hp; subst hq; exact ⟨rfl, hf.ev hx⟩
        | succ k => simp only [List.getElem?_cons_succ, List.map_cons] at hp hq; exact h2 k p q hp hq

section
variable {P : Program} {N : Nat} {o : Oper} {fr : Fr} {H : Heap} {K : Fr → Heap → Prop}

/-- The zero value of a type stands for itself. -/
def zeroOK (P : Program) (t : TypeId) : Bool := match P.info? t with
  | some i => match i.zero with
    | some z => z.cells.toList.all closed0
    | none => false
  | none => false

theorem built_rel {ρ : Rho} {t : TypeId} {ps qs : List (Nat × Value)} {cells : Array Value} (h : P.built t ps = some cells) (hz : zeroOK P t = true) (hl : ps.length = qs.length)
    (hp : ∀ (i : Nat) (p q : Nat × Value), ps[i]? = some p → qs[i]? = some q → p.1 = q.1 ∧ VR ρ p.2 q.2) : ∃ cells', P.built t qs = some cells' ∧ VRs ρ cells.toList cells'.toList := by
  unfold Program.built at h ⊢
  unfold zeroOK at hz
  cases hit : P.info? t with
  | none => simp [hit] at h
  | some it =>
    cases hu : P.underlying t with
    | none => simp [hit, hu] at h
    | some d =>
      cases hzr : it.zero with
      | none => cases d <;> simp [hit, hu, hzr] at h
      | some z =>
        simp only [hit, hzr] at hz
        have hzz : VRs ρ z.cells.toList z.cells.toList := VRs.closed hz
        cases d <;> try (simp [hit, hu] at h; done)
        case array n e =>
          cases hie : P.info? e with
          | none => simp [hit, hu, hzr, hie] at h
          | some ie =>
            simp only [hit, hu, hzr, hie] at h ⊢
            exact fill_rel _ ps qs _ _ _ hl hp hzz h
        case struct fields =>
          cases hpp : fields.toList.mapM (fun f => (P.info? f.type).map fun i => (f.offset, i.size)) with
          | none => simp [hit, hu, hzr, hpp] at h
          | some places =>
            simp only [hit, hu, hzr, hpp] at h ⊢
            exact fill_rel _ ps qs _ _ _ hl hp hzz h

theorem ok_build {t : TypeId} {parts : Array (Nat × Operand)} (ho : o.op = .build t parts) {ps : List (Nat × Value)} (hp : evParts fr parts.toList = some ps) (hz : zeroOK P t = true) {cells : Array Value} (hb : P.built t ps = some cells)
    (hd : dstOK N o.dst) (hk : K (fr.put o.dst (.agg cells)) H) : OpOK P N o fr H K :=
  opOK_same fun ρ w a hF => by
    obtain ⟨h1, h2⟩ := hF.evParts hp
    obtain ⟨cells', hb', hr⟩ := built_rel (ρ := ρ) hb hz h1 h2
    refine ⟨.agg cells', _, ?_, VR.agg_of hr, hd, hk⟩
    have := run_build (P := P) w t (parts.map fun (i, x) => (i, a.eval x)) cells' (by simpa using hb')
    simp [execOp, ho, this]

/-- The cells of a slice that is written out. -/
def builtSl (P : Program) (te : TypeId) (len : Nat) (ps : List (Nat × Value)) : Option (Array Value) :=
  match ti P te with
  | some τ => if len * τ.size ≤ 16777216 then Instr.fill (fun i => some (i * τ.size, τ.size)) (madeCells τ.zero.cells (len * τ.size)) ps else none
  | none => none

theorem made_closed {z : Array Value} (hz : z.toList.all closed0 = true) {n : Nat} (h0 : n = 0 ∨ 0 < z.size) : (madeCells z n).toList.all closed0 = true := by
  rw [List.all_eq_true] at hz ⊢
  intro v hv
  simp only [madeCells, Array.toList_map, List.mem_map] at hv
  obtain ⟨k, hk, rfl⟩ := hv
  have hpos : 0 < z.size := by
    rcases h0 with h0 | h0
    · subst h0; simp at hk
    · exact h0
  have hlt : k % z.size < z.size := Nat.mod_lt _ hpos
  apply hz
  rw [getElem!_pos z _ hlt]
  simp

theorem ok_buildSlice {t : TypeId} {len : Nat} {parts : Array (Nat × Operand)} (ho : o.op = .buildSlice t len parts) {te : TypeId} (ht : P.underlying t = some (.slice te)) (hz : zeroOK P te = true) {τ : TI} (hte : ti P te = some τ) (h0 : 0 < τ.size) {ps : List (Nat × Value)} (hp : evParts fr parts.toList = some ps) {cells : Array Value} (hb : builtSl P te len ps = some cells)
    (h1 : cells.toList.all Value.oneCell' = true) (hd : dstOK N o.dst) (hk : K (fr.put o.dst (.slice (some ⟨H.length, 0, none⟩) len len)) (H ++ [⟨cells.toList, true, true⟩])) : OpOK P N o fr H K :=
  opOK_value fun B w0 ρ w a hR hF => by
    obtain ⟨ii, hu, hi, hsz, hby, hzr, hzs⟩ := ti_inv hte
    obtain ⟨h2, h3⟩ := hF.evParts hp
    unfold builtSl at hb
    simp only [hte] at hb
    split at hb
    · rename_i hle
      have hzz : VRs ρ (madeCells τ.zero.cells (len * τ.size)).toList (madeCells τ.zero.cells (len * τ.size)).toList := by
        refine VRs.closed (made_closed ?_ (.inr (by rw [hzs]; exact h0)))
        unfold zeroOK at hz
        simpa [hi, hzr] using hz
      obtain ⟨cells', hb', hr⟩ := fill_rel _ ps _ _ _ _ h2 h3 hzz hb
      refine ⟨.slice (some ⟨w.heap.size, 0, none⟩) len len, w.alloc (.cells cells' te), _, _, _, ?_, List.prefix_append _ _, hR.alloc cells.toList cells' te ?_, ?_, hd, hk⟩
      · have e : ¬ (16777216 < len * τ.size) := by omega
        by_cases hn : len * τ.size = 0
        · have hb2 := hb'
          rw [hn] at hb2
          simp only [madeCells, Array.range_zero', List.map_toArray, List.map_nil, Array.map_empty] at hb2
          simp [execOp, ho, Instr.buildSlice, run_underlying' ht, sizeOf, typeInfo, hi, hsz, hn, newRow, Array.range_zero', hb2]
        · simp only [madeCells] at hb'
          simp [execOp, ho, Instr.buildSlice, run_underlying' ht, sizeOf, typeInfo, zeroValue, hi, hzr, hsz, e, hn, newRow, hb']
      · intro k v hv
        refine ⟨List.all_eq_true.1 h1 v (List.mem_of_getElem? hv), ?_⟩
        have hlt : k < cells'.toList.length := by rw [← hr.1]; exact (List.getElem?_eq_some_iff.1 hv).1
        exact ⟨cells'.toList[k], by simp [List.getElem?_eq_getElem (by simpa using hlt : k < cells'.size)], hr.2 k v _ hv (List.getElem?_eq_getElem hlt)⟩
      · exact .sliceEx H.length 0 len ⟨w.heap.size, 0, cells'.size⟩ (by rw [← hR.len]; simp)
    · cases hb

theorem ok_makeSlice {t : TypeId} {x y : Operand} (ho : o.op = .makeSlice t x y) {te : TypeId} (ht : P.underlying t = some (.slice te)) (hz : zeroOK P te = true) {τ : TI} (hte : ti P te = some τ) (h0 : 0 < τ.size) {k k' : IntKind} {n : Int} (hx : ev fr x = some (.int k n)) (hy : ev fr y = some (.int k' n))
    (hn : 0 ≤ n) (hb : (τ.bytes : Int) * n ≤ 281474976710656) (h63 : n ≤ 9223372036854775807) (hd : dstOK N o.dst)
    (hk : K (fr.put o.dst (.slice (some ⟨H.length, 0, none⟩) n.toNat n.toNat)) (H ++ [⟨(madeCells τ.zero.cells (n.toNat * τ.size)).toList, true, true⟩])) : OpOK P N o fr H K :=
  opOK_value fun B w0 ρ w a hR hF => by
    obtain ⟨ii, hu, hi, hsz, hby, hzr, hzs⟩ := ti_inv hte
    have hr := run_make (P := P) w t te ii τ.zero ht hi hzr k k' n n hn (Int.le_refl _) (by rw [hby]; exact hb) h63
    rw [hsz] at hr
    have hcl : (madeCells τ.zero.cells (n.toNat * τ.size)).toList.all closed0 = true := by
      refine made_closed ?_ (.inr (by rw [hzs]; exact h0))
      unfold zeroOK at hz
      simpa [hi, hzr] using hz
    refine ⟨.slice (some ⟨w.heap.size, 0, none⟩) n.toNat n.toNat, w.alloc (.cells (madeCells τ.zero.cells (n.toNat * τ.size)) te), _, _, _, by simp only [execOp, ho, (hF.ev hx).int_inv, (hF.ev hy).int_inv, Sem.run_bind, hr, Result.andThen_ok, Sem.run_pure], List.prefix_append _ _, hR.alloc (madeCells τ.zero.cells (n.toNat * τ.size)).toList (madeCells τ.zero.cells (n.toNat * τ.size)) te ?_, ?_, hd, hk⟩
    · intro j v hv
      have hc := List.all_eq_true.1 hcl v (List.mem_of_getElem? hv)
      exact ⟨by cases v <;> first | rfl | simp [closed0] at hc, v, by simpa using hv, VR.closed0 hc⟩
    · exact .sliceEx H.length 0 n.toNat ⟨w.heap.size, 0, (madeCells τ.zero.cells (n.toNat * τ.size)).size⟩ (by rw [← hR.len]; simp)

/-- b[:], of an array behind a pointer. -/
theorem ok_sliceArr {t : TypeId} {x : Operand} (ho : o.op = .slice t x none none none) {n : Nat} {te : TypeId} (ht : P.underlying t = some (.array n te)) (hn : n ≠ 0) {τ : TI} (hte : ti P te = some τ) {i off : Nat} (hx : ev fr x = some (.pointer (some ⟨i, off, none⟩)))
    (hd : dstOK N o.dst) (hk : K (fr.put o.dst (.slice (some ⟨i, off, none⟩) n n)) H) : OpOK P N o fr H K :=
  opOK_same fun ρ w a hF => by
    obtain ⟨l, hl, he⟩ := (hF.ev hx).ptr_inv
    obtain ⟨ii, hu, hi, hsz, hby, hzr, hzs⟩ := ti_inv hte
    refine ⟨.slice (some ⟨l.blk, l.off + off, none⟩) n n, _, ?_, .sliceEx _ _ _ _ hl, hd, hk⟩
    simp [execOp, ho, he, Instr.sliceAt, run_underlying' ht, Instr.sureAddr, Instr.sliceBounds, sizeOf, typeInfo, hi, add_zero_addr]

theorem run_equalIn_slNil (w : World) {ty te : TypeId} (ht : P.underlying ty = some (.slice te)) (a : Option Addr) (n c d : Nat) : (Op.equalIn (d + 1) ty (.slice a n c) (.slice none 0 0)).run P w = .ok a.isNone w := by
  cases a <;> simp [Op.equalIn, run_underlying' ht]

/-- Whether a slice is nil can be told of it. -/
def nilOK : Option Addr → Nat → Bool
  | some ⟨_, _, some _⟩, n => n != 0
  | _, _ => true

theorem ok_eqlNil {ty ty' : TypeId} {x y : Operand} {op : BinOp} (ho : o.op = .binOp op ty x y ty') {te : TypeId} (ht : P.underlying ty = some (.slice te)) {a : Option Addr} {n c : Nat} (hx : ev fr x = some (.slice a n c)) (hz : nilOK a n = true) (hy : ev fr y = some (.slice none 0 0))
    (hd : dstOK N o.dst) (hk : (op = .eql ∧ K (fr.put o.dst (.bool a.isNone)) H) ∨ (op = .neq ∧ K (fr.put o.dst (.bool (!a.isNone))) H)) : OpOK P N o fr H K :=
  opOK_same fun ρ w ac hF => by
    have hv := hF.ev hx
    have hyv : ac.eval y = .slice none 0 0 := by
      have := hF.ev hy
      generalize ac.eval y = cy at this
      cases this; rfl
    have hex : ∃ a' n' c', ac.eval x = .slice a' n' c' ∧ a'.isNone = a.isNone := by
      generalize ac.eval x = cx at hv
      cases hv with
      | sliceNil => exact ⟨_, _, _, rfl, rfl⟩
      | sliceEx => exact ⟨_, _, _, rfl, rfl⟩
      | sliceUnk => exact ⟨_, _, _, rfl, rfl⟩
      | sliceZero => simp [nilOK] at hz
    obtain ⟨a', n', c', he, hn⟩ := hex
    have hg := run_eqGuard_plain (P := P) w op ty x y (.slice a' n' c') (.slice none 0 0) rfl
    have heq : (Op.equal ty (.slice a' n' c') (.slice none 0 0)).run P w = .ok a'.isNone w := run_equalIn_slNil w ht a' n' c' 9999
    rcases hk with ⟨rfl, hk⟩ | ⟨rfl, hk⟩
    · exact ⟨_, _, by simp [execOp, ho, he, hyv, hg, binOp, heq, hn], .bool _, hd, hk⟩
    · exact ⟨_, _, by simp [execOp, ho, he, hyv, hg, binOp, heq, hn], .bool _, hd, hk⟩

end
end Go.Ab
