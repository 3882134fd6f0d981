/- Part 1 of what the proof of the law FnExactParseSystem rests on: contracts of functions of the program, for every argument that each names; no statement of the seat is proved here. -/
import Derived.WideLaws
import Derived.Test.YtkimaohcmcfcnaaDoorFnExactParseSystemPart0

set_option linter.all false
set_option maxRecDepth 20000
set_option maxHeartbeats 8000000
section
namespace Go.Ab
open Go.RowKit (Below)

/-! Structs, arrays and slices that are written out. -/

theorem fill_step (off : Nat) (ds : List Value) : ∀ (k : Nat) (cells : Array Value), off + k + ds.length <= cells.size ->
    (((ds.zipIdx k).foldl (fun cs (p : Value × Nat) => cs.setIfInBounds (off + p.2) p.1) cells).toList = over cells.toList (off + k) ds /\
      ((ds.zipIdx k).foldl (fun cs (p : Value × Nat) => cs.setIfInBounds (off + p.2) p.1) cells).size = cells.size) := by
  induction ds with
  | nil => intro k cells h; simp [over]
  | cons d ds ih =>
    intro k cells h
    simp only [List.zipIdx_cons, List.foldl_cons]
    have h' : off + (k + 1) + ds.length <= (cells.setIfInBounds (off + k) d).size := by simp at h ⊢; omega
    obtain ⟨h1, h2⟩ := ih (k + 1) (cells.setIfInBounds (off + k) d) h'
    refine ⟨?_, by rw [h2]; simp⟩
    rw [h1, Array.toList_setIfInBounds]
    apply List.ext_getElem?
    intro j
    have hl : cells.toList.length = cells.size := by simp
    rw [over_get (by simp at h ⊢; omega), over_get (by simp at h ⊢; omega)]
    rw [List.getElem?_set]
    simp only [List.length_cons] at h ⊢
    by_cases c1 : j < off + k
    · rw [if_pos (by omega), if_pos c1, if_neg (by omega)]
    · by_cases c2 : j = off + k
      · subst c2
        rw [if_pos (by omega), if_pos rfl, if_neg c1, if_pos (by omega)]
        rw [if_pos (by omega)]; simp
      · rw [if_neg c1]
        by_cases c3 : j < off + (k + 1) + ds.length
        · rw [if_neg (by omega), if_pos c3, if_pos (by omega)]
          rw [show j - (off + k) = (j - (off + (k + 1))) + 1 by omega]; rfl
        · rw [if_neg (by omega), if_neg c3, if_neg (by omega), if_neg (by omega)]

theorem VRs.over {ρ : Rho} {cs ds vs us : List Value} {o : Nat} (h : VRs ρ cs ds) (h' : VRs ρ vs us) (hl : o + vs.length <= cs.length) : VRs ρ (Ab.over cs o vs) (Ab.over ds o us) := by
  have hl' : o + us.length <= ds.length := by rw [<- h'.1, <- h.1]; exact hl
  refine ⟨by rw [over_length hl, over_length hl', h.1], fun i v w hv hw => ?_⟩
  rw [over_get hl] at hv
  rw [over_get hl', <- h'.1] at hw
  by_cases c1 : i < o
  · rw [if_pos c1] at hv hw; exact h.2 i v w hv hw
  · rw [if_neg c1] at hv hw
    by_cases c2 : i < o + vs.length
    · rw [if_pos c2] at hv hw; exact h'.2 _ v w hv hw
    · rw [if_neg c2] at hv hw; exact h.2 i v w hv hw

theorem fill_rel {ρ : Rho} (place : Nat -> Option (Nat × Nat)) : ∀ (ps qs : List (Nat × Value)) (cells ds : Array Value) (out : Array Value), ps.length = qs.length ->
    (∀ (i : Nat) (p q : Nat × Value), ps[i]? = some p -> qs[i]? = some q -> p.1 = q.1 /\ VR ρ p.2 q.2) -> VRs ρ cells.toList ds.toList -> Instr.fill place cells ps = some out ->
    ∃ out', Instr.fill place ds qs = some out' /\ VRs ρ out.toList out'.toList
  | [], [], cells, ds, out, _, _, hr, h => by simp only [Instr.fill, Option.some.injEq] at h; subst h; exact ⟨ds, rfl, hr⟩
  | (i, v) :: ps, (j, u) :: qs, cells, ds, out, hl, hp, hr, h => by
    obtain ⟨e, hvu⟩ := hp 0 (i, v) (j, u) rfl rfl
    simp only at e hvu
    subst e
    simp only [Instr.fill] at h ⊢
    cases hpl : place i with
    | none => simp [hpl] at h
    | some os =>
      obtain ⟨off, size⟩ := os
      simp only [hpl] at h ⊢
      have hsz : v.cells.size = u.cells.size := by simpa using hvu.cells.1
      have hcs : cells.size = ds.size := by simpa using hr.1
      split at h
      · cases h
      · rename_i hc
        rw [<- hsz, <- hcs, if_neg hc]
        simp only [Bool.or_eq_true, decide_eq_true_eq, not_or] at hc
        refine fill_rel place ps qs _ _ out (by simpa using hl) (fun k p q h1 h2 => hp (k + 1) p q (by simpa using h1) (by simpa using h2)) ?_ h
        obtain ⟨e1, _⟩ := fill_step off v.cells.toList 0 cells (by simp; omega)
        obtain ⟨e2, _⟩ := fill_step off u.cells.toList 0 ds (by simp; omega)
        have f1 : (v.cells.zipIdx.foldl (fun cs (x : Value × Nat) => match x with | (c, j) => cs.setIfInBounds (off + j) c) cells).toList = over cells.toList off v.cells.toList := by
          rw [<- Array.foldl_toList, Array.toList_zipIdx]; simpa using e1
        have f2 : (u.cells.zipIdx.foldl (fun cs (x : Value × Nat) => match x with | (c, j) => cs.setIfInBounds (off + j) c) ds).toList = over ds.toList off u.cells.toList := by
          rw [<- Array.foldl_toList, Array.toList_zipIdx]; simpa using e2
        rw [f1, f2]
        exact hr.over hvu.cells (by simp; omega)
  | [], q :: qs, _, _, _, hl, _, _, _ => by simp at hl
  | p :: ps, [], _, _, _, hl, _, _, _ => by simp at hl

def evParts (fr : Fr) : List (Nat × Operand) -> Option (List (Nat × Value))
  | [] => some []
  | (i, x) :: xs => match ev fr x, evParts fr xs with
    | some v, some vs => some ((i, v) :: vs)
    | _, _ => none

theorem FR.evParts {N : Nat} {ρ : Rho} {fr : Fr} {a : Act} (hf : FR N ρ fr a) : ∀ {xs : List (Nat × Operand)} {ps : List (Nat × Value)}, Ab.evParts fr xs = some ps ->
    ps.length = (xs.map fun (i, x) => (i, a.eval x)).length /\ ∀ (i : Nat) (p q : Nat × Value), ps[i]? = some p -> (xs.map fun (i, x) => (i, a.eval x))[i]? = some q -> p.1 = q.1 /\ VR ρ p.2 q.2
  | [], ps, h => by simp only [Ab.evParts, Option.some.injEq] at h; subst h; exact ⟨rfl, by simp⟩
  | (i, x) :: xs, ps, h => by
    simp only [Ab.evParts] at h
    cases hx : Ab.ev fr x with
    | none => simp [hx] at h
    | some v =>
      cases hxs : Ab.evParts fr xs with
      | none => simp [hx, hxs] at h
      | some us =>
        simp only [hx, hxs, Option.some.injEq] at h
        subst h
        obtain ⟨h1, h2⟩ := hf.evParts hxs
        refine ⟨by simpa using h1, fun k p q hp hq => ?_⟩
        cases k with
        | zero => simp at hp hq; subst hp; subst hq; exact ⟨rfl, hf.ev hx⟩
        | succ k => simp only [List.getElem?_cons_succ, List.map_cons] at hp hq; exact h2 k p q hp hq

section
variable {P : Program} {N : Nat} {o : Oper} {fr : Fr} {H : Heap} {K : Fr -> Heap -> Prop}

def zeroOK (P : Program) (t : TypeId) : Bool := match P.info? t with
  | some i => match i.zero with
    | some z => z.cells.toList.all closed0
    | none => false
  | none => false

theorem built_rel {ρ : Rho} {t : TypeId} {ps qs : List (Nat × Value)} {cells : Array Value} (h : P.built t ps = some cells) (hz : zeroOK P t = true) (hl : ps.length = qs.length)
    (hp : ∀ (i : Nat) (p q : Nat × Value), ps[i]? = some p -> qs[i]? = some q -> p.1 = q.1 /\ VR ρ p.2 q.2) : ∃ cells', P.built t qs = some cells' /\ VRs ρ cells.toList cells'.toList := by
  unfold Program.built at h ⊢
  unfold zeroOK at hz
  cases hit : P.info? t with
  | none => simp [hit] at h
  | some it =>
    cases hu : P.underlying t with
    | none => simp [hit, hu] at h
    | some d =>
      cases hzr : it.zero with
      | none => cases d <;> simp [hit, hu, hzr] at h
      | some z =>
        simp only [hit, hzr] at hz
        have hzz : VRs ρ z.cells.toList z.cells.toList := VRs.closed hz
        cases d <;> try (simp [hit, hu] at h; done)
        case array n e =>
          cases hie : P.info? e with
          | none => simp [hit, hu, hzr, hie] at h
          | some ie =>
            simp only [hit, hu, hzr, hie] at h ⊢
            exact fill_rel _ ps qs _ _ _ hl hp hzz h
        case struct fields =>
          cases hpp : fields.toList.mapM (fun f => (P.info? f.type).map fun i => (f.offset, i.size)) with
          | none => simp [hit, hu, hzr, hpp] at h
          | some places =>
            simp only [hit, hu, hzr, hpp] at h ⊢
            exact fill_rel _ ps qs _ _ _ hl hp hzz h

theorem ok_build {t : TypeId} {parts : Array (Nat × Operand)} (ho : o.op = .build t parts) {ps : List (Nat × Value)} (hp : evParts fr parts.toList = some ps) (hz : zeroOK P t = true) {cells : Array Value} (hb : P.built t ps = some cells)
    (hd : dstOK N o.dst) (hk : K (fr.put o.dst (.agg cells)) H) : OpOK P N o fr H K :=
  opOK_same fun ρ w a hF => by
    obtain ⟨h1, h2⟩ := hF.evParts hp
    obtain ⟨cells', hb', hr⟩ := built_rel (ρ := ρ) hb hz h1 h2
    refine ⟨.agg cells', _, ?_, VR.agg_of hr, hd, hk⟩
    have := run_build (P := P) w t (parts.map fun (i, x) => (i, a.eval x)) cells' (by simpa using hb')
    simp [execOp, ho, this]

def builtSl (P : Program) (te : TypeId) (len : Nat) (ps : List (Nat × Value)) : Option (Array Value) :=
  match ti P te with
  | some τ => if len * τ.size <= 16777216 then Instr.fill (fun i => some (i * τ.size, τ.size)) (madeCells τ.zero.cells (len * τ.size)) ps else none
  | none => none

theorem made_closed {z : Array Value} (hz : z.toList.all closed0 = true) {n : Nat} (h0 : n = 0 \/ 0 < z.size) : (madeCells z n).toList.all closed0 = true := by
  rw [List.all_eq_true] at hz ⊢
  intro v hv
  simp only [madeCells, Array.toList_map, List.mem_map] at hv
  obtain ⟨k, hk, rfl⟩ := hv
  have hpos : 0 < z.size := by
    rcases h0 with h0 | h0
    · subst h0; simp at hk
    · exact h0
  have hlt : k % z.size < z.size := Nat.mod_lt _ hpos
  apply hz
  rw [getElem!_pos z _ hlt]
  simp

theorem ok_buildSlice {t : TypeId} {len : Nat} {parts : Array (Nat × Operand)} (ho : o.op = .buildSlice t len parts) {te : TypeId} (ht : P.underlying t = some (.slice te)) (hz : zeroOK P te = true) {τ : TI} (hte : ti P te = some τ) (h0 : 0 < τ.size) {ps : List (Nat × Value)} (hp : evParts fr parts.toList = some ps) {cells : Array Value} (hb : builtSl P te len ps = some cells)
    (h1 : cells.toList.all Value.oneCell' = true) (hd : dstOK N o.dst) (hk : K (fr.put o.dst (.slice (some ⟨H.length, 0, none⟩) len len)) (H ++ [⟨cells.toList, true, true⟩])) : OpOK P N o fr H K :=
  opOK_value fun B w0 ρ w a hR hF => by
    obtain ⟨ii, hu, hi, hsz, hby, hzr, hzs⟩ := ti_inv hte
    obtain ⟨h2, h3⟩ := hF.evParts hp
    unfold builtSl at hb
    simp only [hte] at hb
    split at hb
    · rename_i hle
      have hzz : VRs ρ (madeCells τ.zero.cells (len * τ.size)).toList (madeCells τ.zero.cells (len * τ.size)).toList := by
        refine VRs.closed (made_closed ?_ (.inr (by rw [hzs]; exact h0)))
        unfold zeroOK at hz
        simpa [hi, hzr] using hz
      obtain ⟨cells', hb', hr⟩ := fill_rel _ ps _ _ _ _ h2 h3 hzz hb
      refine ⟨.slice (some ⟨w.heap.size, 0, none⟩) len len, w.alloc (.cells cells' te), _, _, _, ?_, List.prefix_append _ _, hR.alloc cells.toList cells' te ?_, ?_, hd, hk⟩
      · have e : ¬ (16777216 < len * τ.size) := by omega
        by_cases hn : len * τ.size = 0
        · have hb2 := hb'
          rw [hn] at hb2
          simp only [madeCells, Array.range_zero', List.map_toArray, List.map_nil, Array.map_empty] at hb2
          simp [execOp, ho, Instr.buildSlice, run_underlying' ht, sizeOf, typeInfo, hi, hsz, hn, newRow, Array.range_zero', hb2]
        · simp only [madeCells] at hb'
          simp [execOp, ho, Instr.buildSlice, run_underlying' ht, sizeOf, typeInfo, zeroValue, hi, hzr, hsz, e, hn, newRow, hb']
      · intro k v hv
        refine ⟨List.all_eq_true.1 h1 v (List.mem_of_getElem? hv), ?_⟩
        have hlt : k < cells'.toList.length := by rw [<- hr.1]; exact (List.getElem?_eq_some_iff.1 hv).1
        exact ⟨cells'.toList[k], by simp [List.getElem?_eq_getElem (by simpa using hlt : k < cells'.size)], hr.2 k v _ hv (List.getElem?_eq_getElem hlt)⟩
      · exact .sliceEx H.length 0 len ⟨w.heap.size, 0, cells'.size⟩ (by rw [<- hR.len]; simp)
    · cases hb

theorem ok_makeSlice {t : TypeId} {x y : Operand} (ho : o.op = .makeSlice t x y) {te : TypeId} (ht : P.underlying t = some (.slice te)) (hz : zeroOK P te = true) {τ : TI} (hte : ti P te = some τ) (h0 : 0 < τ.size) {k k' : IntKind} {n : Int} (hx : ev fr x = some (.int k n)) (hy : ev fr y = some (.int k' n))
    (hn : 0 <= n) (hb : (τ.bytes : Int) * n <= 281474976710656) (h63 : n <= 9223372036854775807) (hd : dstOK N o.dst)
    (hk : K (fr.put o.dst (.slice (some ⟨H.length, 0, none⟩) n.toNat n.toNat)) (H ++ [⟨(madeCells τ.zero.cells (n.toNat * τ.size)).toList, true, true⟩])) : OpOK P N o fr H K :=
  opOK_value fun B w0 ρ w a hR hF => by
    obtain ⟨ii, hu, hi, hsz, hby, hzr, hzs⟩ := ti_inv hte
    have hr := run_make (P := P) w t te ii τ.zero ht hi hzr k k' n n hn (Int.le_refl _) (by rw [hby]; exact hb) h63
    rw [hsz] at hr
    have hcl : (madeCells τ.zero.cells (n.toNat * τ.size)).toList.all closed0 = true := by
      refine made_closed ?_ (.inr (by rw [hzs]; exact h0))
      unfold zeroOK at hz
      simpa [hi, hzr] using hz
    refine ⟨.slice (some ⟨w.heap.size, 0, none⟩) n.toNat n.toNat, w.alloc (.cells (madeCells τ.zero.cells (n.toNat * τ.size)) te), _, _, _, by simp only [execOp, ho, (hF.ev hx).int_inv, (hF.ev hy).int_inv, Sem.run_bind, hr, Result.andThen_ok, Sem.run_pure], List.prefix_append _ _, hR.alloc (madeCells τ.zero.cells (n.toNat * τ.size)).toList (madeCells τ.zero.cells (n.toNat * τ.size)) te ?_, ?_, hd, hk⟩
    · intro j v hv
      have hc := List.all_eq_true.1 hcl v (List.mem_of_getElem? hv)
      exact ⟨by cases v <;> first | rfl | simp [closed0] at hc, v, by simpa using hv, VR.closed0 hc⟩
    · exact .sliceEx H.length 0 n.toNat ⟨w.heap.size, 0, (madeCells τ.zero.cells (n.toNat * τ.size)).size⟩ (by rw [<- hR.len]; simp)

theorem ok_sliceArr {t : TypeId} {x : Operand} (ho : o.op = .slice t x none none none) {n : Nat} {te : TypeId} (ht : P.underlying t = some (.array n te)) (hn : n ≠ 0) {τ : TI} (hte : ti P te = some τ) {i off : Nat} (hx : ev fr x = some (.pointer (some ⟨i, off, none⟩)))
    (hd : dstOK N o.dst) (hk : K (fr.put o.dst (.slice (some ⟨i, off, none⟩) n n)) H) : OpOK P N o fr H K :=
  opOK_same fun ρ w a hF => by
    obtain ⟨l, hl, he⟩ := (hF.ev hx).ptr_inv
    obtain ⟨ii, hu, hi, hsz, hby, hzr, hzs⟩ := ti_inv hte
    refine ⟨.slice (some ⟨l.blk, l.off + off, none⟩) n n, _, ?_, .sliceEx _ _ _ _ hl, hd, hk⟩
    simp [execOp, ho, he, Instr.sliceAt, run_underlying' ht, Instr.sureAddr, Instr.sliceBounds, sizeOf, typeInfo, hi, add_zero_addr]

theorem run_equalIn_slNil (w : World) {ty te : TypeId} (ht : P.underlying ty = some (.slice te)) (a : Option Addr) (n c d : Nat) : (Op.equalIn (d + 1) ty (.slice a n c) (.slice none 0 0)).run P w = .ok a.isNone w := by
  cases a <;> simp [Op.equalIn, run_underlying' ht]

def nilOK : Option Addr -> Nat -> Bool
  | some ⟨_, _, some _⟩, n => n != 0
  | _, _ => true

theorem ok_eqlNil {ty ty' : TypeId} {x y : Operand} {op : BinOp} (ho : o.op = .binOp op ty x y ty') {te : TypeId} (ht : P.underlying ty = some (.slice te)) {a : Option Addr} {n c : Nat} (hx : ev fr x = some (.slice a n c)) (hz : nilOK a n = true) (hy : ev fr y = some (.slice none 0 0))
    (hd : dstOK N o.dst) (hk : (op = .eql /\ K (fr.put o.dst (.bool a.isNone)) H) \/ (op = .neq /\ K (fr.put o.dst (.bool (!a.isNone))) H)) : OpOK P N o fr H K :=
  opOK_same fun ρ w ac hF => by
    have hv := hF.ev hx
    have hyv : ac.eval y = .slice none 0 0 := by
      have := hF.ev hy
      generalize ac.eval y = cy at this
      cases this; rfl
    have hex : ∃ a' n' c', ac.eval x = .slice a' n' c' /\ a'.isNone = a.isNone := by
      generalize ac.eval x = cx at hv
      cases hv with
      | sliceNil => exact ⟨_, _, _, rfl, rfl⟩
      | sliceEx => exact ⟨_, _, _, rfl, rfl⟩
      | sliceUnk => exact ⟨_, _, _, rfl, rfl⟩
      | sliceZero => simp [nilOK] at hz
    obtain ⟨a', n', c', he, hn⟩ := hex
    have hg := run_eqGuard_plain (P := P) w op ty x y (.slice a' n' c') (.slice none 0 0) rfl
    have heq : (Op.equal ty (.slice a' n' c') (.slice none 0 0)).run P w = .ok a'.isNone w := run_equalIn_slNil w ht a' n' c' 9999
    rcases hk with ⟨rfl, hk⟩ | ⟨rfl, hk⟩
    · exact ⟨_, _, by simp [execOp, ho, he, hyv, hg, binOp, heq, hn], .bool _, hd, hk⟩
    · exact ⟨_, _, by simp [execOp, ho, he, hyv, hg, binOp, heq, hn], .bool _, hd, hk⟩

theorem constEval {y : Operand} {v : Value} (hc : ∃ u, y = .const u) (hy : ev fr y = some v) {ac : Act} : ac.eval y = v := by
  obtain ⟨u, rfl⟩ := hc
  simp only [ev] at hy
  split at hy
  · cases hy; rfl
  · cases hy

theorem ok_ifNil {ty ty' : TypeId} {x y : Operand} {op : BinOp} (ho : o.op = .binOp op ty x y ty') {ms : Array (String × TypeId)} (ht : P.underlying ty = some (.interface ms)) {vx : Value} (hx : ev fr x = some vx) (hy : ev fr y = some .nilIface) (hc : ∃ u, y = .const u)
    {b : Bool} (hb : ((∃ t v, vx = .iface t v) /\ b = false) \/ (vx = .nilIface /\ b = true)) (hd : dstOK N o.dst) (hk : (op = .eql /\ K (fr.put o.dst (.bool b)) H) \/ (op = .neq /\ K (fr.put o.dst (.bool (!b))) H)) : OpOK P N o fr H K :=
  opOK_same fun ρ w ac hF => by
    have hyv : ac.eval y = .nilIface := constEval hc hy
    have hm : P.underlying ty = some (.interface (P.methodsAt ty)) := by simp [Program.methodsAt, ht]
    have hv := hF.ev hx
    rcases hb with ⟨⟨t, v, rfl⟩, rfl⟩ | ⟨rfl, rfl⟩
    · obtain ⟨u, he⟩ : ∃ u, ac.eval x = .iface t u := by
        generalize ac.eval x = cx at hv
        cases hv with
        | iface t v w h => exact ⟨_, rfl⟩
      have hg := run_eqGuard_plain (P := P) w op ty x y (.iface t u) .nilIface rfl
      rcases hk with ⟨rfl, hk⟩ | ⟨rfl, hk⟩
      · exact ⟨_, _, by simp [execOp, ho, he, hyv, hg, run_eql_held_nil w ty t u hm], .bool _, hd, hk⟩
      · exact ⟨_, _, by simp [execOp, ho, he, hyv, hg, run_neq_held_nil w ty t u hm], .bool _, hd, hk⟩
    · have he : ac.eval x = .nilIface := by
        generalize ac.eval x = cx at hv
        cases hv; rfl
      have hg : (eqGuard op ty x y .nilIface .nilIface).run P w = .ok () w := by
        obtain ⟨u, rfl⟩ := hc
        cases op <;> simp [eqGuard]
      rcases hk with ⟨rfl, hk⟩ | ⟨rfl, hk⟩
      · exact ⟨_, _, by simp [execOp, ho, he, hyv, hg, run_eql_nil_nil w ty hm], .bool _, hd, hk⟩
      · exact ⟨_, _, by simp [execOp, ho, he, hyv, hg, run_neq_nil_nil w ty hm], .bool _, hd, hk⟩

end
end Go.Ab
end

section
namespace Go.Ab
open Go.RowKit (Below)

section
variable {P : Program} {N : Nat} {o : Oper} {fr : Fr} {H : Heap} {K : Fr -> Heap -> Prop}

theorem ok_lenSl {t : TypeId} {x : Operand} (ho : o.op = .call { callee := .builtin .len, args := #[x], argTypes := #[t] }) {te : TypeId} (ht : P.underlying t = some (.slice te)) {a : Option Addr} {n c : Nat} (hx : ev fr x = some (.slice a n c))
    (hd : dstOK N o.dst) (hk : K (fr.put o.dst (.int .i64 n)) H) : OpOK P N o fr H K :=
  opOK_same fun ρ w ac hF => by
    have hv := hF.ev hx
    have hex : ∃ a' c', ac.eval x = .slice a' n c' := by
      generalize ac.eval x = cx at hv
      cases hv with
      | sliceNil => exact ⟨_, _, rfl⟩
      | sliceEx => exact ⟨_, _, rfl⟩
      | sliceUnk => exact ⟨_, _, rfl⟩
      | sliceZero => exact ⟨_, _, rfl⟩
    obtain ⟨a', c', he⟩ := hex
    exact ⟨_, _, by simp [execOp, ho, resolve, invoke, builtin, he, Builtin.len_, run_underlying' ht, goInt], .int _ _, hd, hk⟩

theorem ok_lenStr {t : TypeId} {x : Operand} (ho : o.op = .call { callee := .builtin .len, args := #[x], argTypes := #[t] }) (ht : P.underlying t = some .string) {s : ByteArray} (hx : ev fr x = some (.string s))
    (hd : dstOK N o.dst) (hk : K (fr.put o.dst (.int .i64 s.size)) H) : OpOK P N o fr H K :=
  opOK_same fun ρ w ac hF =>
    ⟨_, _, by simp [execOp, ho, resolve, invoke, builtin, (hF.ev hx).string_inv, Builtin.len_, run_underlying' ht, goInt], .int _ _, hd, hk⟩

theorem ok_capSl {t : TypeId} {x : Operand} (ho : o.op = .call { callee := .builtin .cap, args := #[x], argTypes := #[t] }) {te : TypeId} (ht : P.underlying t = some (.slice te)) (hx : ev fr x = some (.slice none 0 0))
    (hd : dstOK N o.dst) (hk : K (fr.put o.dst (.int .i64 0)) H) : OpOK P N o fr H K :=
  opOK_same fun ρ w ac hF => by
    have he : ac.eval x = .slice none 0 0 := by
      have := hF.ev hx
      generalize ac.eval x = cx at this
      cases this; rfl
    exact ⟨_, _, by simp [execOp, ho, resolve, invoke, builtin, he, Builtin.cap_, run_underlying' ht, goInt], .int _ _, hd, hk⟩

theorem ok_min2 {ts : Array TypeId} {x y : Operand} (ho : o.op = .call { callee := .builtin .min, args := #[x, y], argTypes := ts }) {k k' : IntKind} {a b : Int} (hx : ev fr x = some (.int k a)) (hy : ev fr y = some (.int k' b))
    (hd : dstOK N o.dst) (hk : K (fr.put o.dst (.int k (if b < a then b else a))) H) : OpOK P N o fr H K :=
  opOK_same fun ρ w ac hF =>
    ⟨_, _, by simp [execOp, ho, resolve, invoke, builtin, (hF.ev hx).int_inv, (hF.ev hy).int_inv, run_min_int2], .int _ _, hd, hk⟩

theorem ok_max2 {ts : Array TypeId} {x y : Operand} (ho : o.op = .call { callee := .builtin .max, args := #[x, y], argTypes := ts }) {k k' : IntKind} {a b : Int} (hx : ev fr x = some (.int k a)) (hy : ev fr y = some (.int k' b))
    (hd : dstOK N o.dst) (hk : K (fr.put o.dst (.int k (if a < b then b else a))) H) : OpOK P N o fr H K :=
  opOK_same fun ρ w ac hF =>
    ⟨_, _, by simp [execOp, ho, resolve, invoke, builtin, (hF.ev hx).int_inv, (hF.ev hy).int_inv, run_max_int2], .int _ _, hd, hk⟩

theorem ok_min3 {ts : Array TypeId} {x y z : Operand} (ho : o.op = .call { callee := .builtin .min, args := #[x, y, z], argTypes := ts }) {k k' k'' : IntKind} {a b c : Int} (hx : ev fr x = some (.int k a)) (hy : ev fr y = some (.int k' b)) (hz : ev fr z = some (.int k'' c))
    (hd : dstOK N o.dst) (hk : K (fr.put o.dst (.int k (if c < (if b < a then b else a) then c else (if b < a then b else a)))) H) : OpOK P N o fr H K :=
  opOK_same fun ρ w ac hF =>
    ⟨_, _, by simp [execOp, ho, resolve, invoke, builtin, (hF.ev hx).int_inv, (hF.ev hy).int_inv, (hF.ev hz).int_inv, Builtin.min_, Builtin.min2], .int _ _, hd, hk⟩

theorem ok_max3 {ts : Array TypeId} {x y z : Operand} (ho : o.op = .call { callee := .builtin .max, args := #[x, y, z], argTypes := ts }) {k k' k'' : IntKind} {a b c : Int} (hx : ev fr x = some (.int k a)) (hy : ev fr y = some (.int k' b)) (hz : ev fr z = some (.int k'' c))
    (hd : dstOK N o.dst) (hk : K (fr.put o.dst (.int k (if (if a < b then b else a) < c then c else (if a < b then b else a)))) H) : OpOK P N o fr H K :=
  opOK_same fun ρ w ac hF =>
    ⟨_, _, by simp [execOp, ho, resolve, invoke, builtin, (hF.ev hx).int_inv, (hF.ev hy).int_inv, (hF.ev hz).int_inv, Builtin.max_, Builtin.max2], .int _ _, hd, hk⟩

def srcCells (H : Heap) (e : Nat) : Value -> Option (List Value)
  | .slice none 0 0 => some []
  | .slice (some ⟨i, o, _⟩) n _ => if n = 0 then some [] else cellsAt H i o (n * e)
  | _ => none

theorem R.src {B : Nat} {w0 : World} {ρ : Rho} {w : World} (hR : R B w0 ρ H w) {e : Nat} {v cv : Value} {cs : List Value} (hc : srcCells H e v = some cs) (hv : VR ρ v cv) :
    ∃ ax cc ds, cv = .slice ax (lenV v) cc /\ ds.length = lenV v * e /\ VRs ρ cs ds /\ (∀ u ∈ ds, u.oneCell' = true) /\ (0 < lenV v -> ∃ a, ax = some a /\ ∀ (j : Nat) (u : Value), ds[j]? = some u -> w.cell? (a.add j) = some u) := by
  have zero : ∀ (ax : Option Addr) (cc : Nat), ∃ (ax' : Option Addr) (cc' : Nat) (ds : List Value), Value.slice ax 0 cc = .slice ax' 0 cc' /\ ds.length = 0 * e /\ VRs ρ [] ds /\ (∀ u ∈ ds, u.oneCell' = true) /\ (0 < 0 -> ∃ a, ax' = some a /\ ∀ (j : Nat) (u : Value), ds[j]? = some u -> w.cell? (a.add j) = some u) :=
    fun ax cc => ⟨ax, cc, [], rfl, by simp, VRs.nil _, by simp, by omega⟩
  cases hv with
  | sliceNil => simp only [srcCells, Option.some.injEq] at hc; subst hc; exact zero none 0
  | sliceEx i o n l hl =>
    simp only [srcCells] at hc
    split at hc
    · rename_i h0; subst h0; cases hc; exact zero _ _
    · rename_i h0
      obtain ⟨l', ds, hl', hlen, hr, h1, hcell⟩ := hR.cellsAt hc
      rw [hl] at hl'; cases hl'
      exact ⟨_, _, ds, rfl, by rw [<- hr.1]; exact hlen, hr, h1, fun _ => ⟨_, rfl, fun j u hj => by rw [add_zero_addr]; exact hcell j u hj⟩⟩
  | sliceZero i o e' a => simp [srcCells] at hc; subst hc; exact zero _ _
  | sliceUnk i o e' n o' c l hl h2 h3 h4 =>
    simp only [srcCells] at hc
    split at hc
    · rename_i h0; subst h0; cases hc; exact zero _ _
    · rename_i h0
      obtain ⟨l', ds, hl', hlen, hr, h1, hcell⟩ := hR.cellsAt hc
      rw [hl] at hl'; cases hl'
      have e2 : o' = l.off + o := by rcases h2 with h2 | h2; exact h2; exact absurd h2.1 h0
      subst e2
      exact ⟨_, _, ds, rfl, by rw [<- hr.1]; exact hlen, hr, h1, fun _ => ⟨_, rfl, fun j u hj => by rw [add_zero_addr]; exact hcell j u hj⟩⟩
  | _ => simp [srcCells] at hc

theorem ok_append {t : TypeId} {x y : Operand} (ho : o.op = .call { callee := .builtin .append, args := #[x, y], argTypes := #[t, t] }) {te : TypeId} (ht : P.underlying t = some (.slice te)) {τ : TI} (hte : ti P te = some τ)
    {s v : Value} (hx : ev fr x = some s) (hy : ev fr y = some v) {news : List Value} (hs : srcCells H τ.size v = some news) (hb : (lenV s + lenV v) * τ.bytes <= 140737488355328) (hb' : lenV s + lenV v <= 140737488355328)
    {v' : Value} {H' : Heap} (hap : appendH H τ.size s (lenV v) news = some (v', H')) (hd : dstOK N o.dst) (hk : K (fr.put o.dst v') H') : OpOK P N o fr H K :=
  opOK_value fun B w0 ρ w a hR hF => by
    obtain ⟨ax, cc, ds, he, hdl, hdr, hd1, hdc⟩ := hR.src hs (hF.ev hy)
    obtain ⟨cv, w', ρ', hr, hp, hR', hv⟩ := hR.append (t := t) (ty := o.type) ht hte hap (hF.ev hx) he hdl hdr hd1 hdc (fun a' k c e => by subst e; exact ⟨hb, hb'⟩)
    exact ⟨cv, w', ρ', H', v', by simp only [execOp, ho, resolve, invoke, builtin, Sem.run_bind, Sem.run_pure, Result.andThen_ok, List.map_toArray, List.map_cons, List.map_nil, hr], hp, hR', hv, hd, hk⟩

theorem ok_appendMake {t t' : TypeId} {x y : Operand} (ho : o.op = .call { callee := .builtin .append, args := #[x, y], argTypes := #[t, t'] }) {te : TypeId} (ht : P.underlying t = some (.slice te)) {k' : IntKind} (ht' : P.underlying t' = some (.int k')) {τ : TI} (hte : ti P te = some τ) (hz : zeroOK P te = true) (h0 : 0 < τ.size)
    (hx : ev fr x = some (.slice none 0 0)) {k : IntKind} {n : Nat} (hy : ev fr y = some (.int k n)) (hn : 0 < n) (hb : n * τ.bytes <= 140737488355328) (hb' : n <= 140737488355328) (hby0 : τ.bytes ≠ 0)
    (hd : dstOK N o.dst) (hk : K (fr.put o.dst (.slice (some ⟨H.length, 0, some τ.size⟩) n n)) (H ++ [⟨(Builtin.zeroCells τ.zero.cells n).toList, true, true⟩])) : OpOK P N o fr H K :=
  opOK_value fun B w0 ρ w a hR hF => by
    obtain ⟨ii, hu, hi, hsz, hby, hzr, hzs⟩ := ti_inv hte
    have hxe : a.eval x = .slice none 0 0 := by
      have := hF.ev hx
      generalize a.eval x = cx at this
      cases this; rfl
    have hye := (hF.ev hy).int_inv
    have hw : IntKind.i64.wrap (n : Int) = n := by rw [IntKind.wrap_i64]; omega
    have e1 : ¬ ((n : Int) < 0) := by omega
    have e2 : ¬ (281474976710656 < (n : Int) * (τ.bytes : Int)) := by
      have h := Int.ofNat_le.2 hb
      rw [Int.natCast_mul] at h
      omega
    have e3 : ¬ (n = 0) := by omega
    have e5 : ¬ (281474976710656 < Builtin.nextslicecap n 0 * τ.bytes) := by rw [nextslicecap_zero hn]; omega
    have e6 : ¬ (n = 0 \/ τ.size = 0) := by omega
    have e8 : ¬ (n * τ.size = 0) := by intro h; rcases Nat.mul_eq_zero.1 h with h | h <;> omega
    have e7 : ¬ (9223372036854775807 < (n : Int)) := by omega
    have hcl : (Builtin.zeroCells τ.zero.cells n).toList.all closed0 = true := by
      have : Builtin.zeroCells τ.zero.cells n = madeCells τ.zero.cells (n * τ.zero.cells.size) := rfl
      rw [this]
      refine made_closed ?_ (.inr (by rw [hzs]; exact h0))
      unfold zeroOK at hz
      simpa [hi, hzr] using hz
    have hge := grownCap_ge w n 0 te
    refine ⟨.slice (some ⟨w.heap.size, 0, none⟩) n (grownCap w n 0 te), w.drew.alloc (.cells (Builtin.zeroCells τ.zero.cells n ++ Builtin.zeroCells τ.zero.cells (grownCap w n 0 te - n)) te), _, _, _, ?_, List.prefix_append _ _,
      hR.drew.alloc (Builtin.zeroCells τ.zero.cells n).toList (Builtin.zeroCells τ.zero.cells n ++ Builtin.zeroCells τ.zero.cells (grownCap w n 0 te - n)) te ?_, ?_, hd, hk⟩
    · simp [execOp, ho, resolve, invoke, builtin, hxe, hye, Builtin.append_, run_underlying' ht, run_underlying' ht', sizeOf, typeInfo, hi, zeroValue, hzr, hsz, hby, asInt, asIntOf, hw, e1, e2, e3, e5, e6, e7, e8, hby0, Question.forced, Builtin.firstCells, newRow, grownCap]
    · intro j v hv
      have hc := List.all_eq_true.1 hcl v (List.mem_of_getElem? hv)
      refine ⟨by cases v <;> first | rfl | simp [closed0] at hc, v, ?_, VR.closed0 hc⟩
      have hlt : j < (Builtin.zeroCells τ.zero.cells n).size := by simpa using (List.getElem?_eq_some_iff.1 hv).1
      rw [Array.getElem?_append_left hlt]
      simpa using hv
    · refine .sliceUnk _ _ _ _ _ _ (⟨w.drew.heap.size, 0, (Builtin.zeroCells τ.zero.cells n ++ Builtin.zeroCells τ.zero.cells (grownCap w n 0 te - n)).size⟩ : Loc) ?_ (.inl (by simp)) hge ?_
      · rw [List.getElem?_append_right (by rw [hR.len]; exact Nat.le_refl _), hR.len]; simp
      · simp only [Array.size_append, size_zeroCells, hzs]
        rw [<- Nat.add_mul]
        have : n + (grownCap w n 0 te - n) = grownCap w n 0 te := by omega
        rw [this]; omega

theorem ok_clear {t : TypeId} {x : Operand} (ho : o.op = .call { callee := .builtin .clear, args := #[x], argTypes := #[t] }) {te : TypeId} (ht : P.underlying t = some (.slice te)) {τ : TI} (hte : ti P te = some τ) (hz : zeroOK P te = true) (h0 : 0 < τ.size)
    {a : Option Addr} {n c : Nat} (hx : ev fr x = some (.slice a n c)) {H' : Heap} (hst : if n = 0 then H' = H else ∃ i off sp, a = some ⟨i, off, sp⟩ /\ storeAt H i off (Builtin.zeroCells τ.zero.cells n).toList = some H')
    (hd : dstOK N o.dst) (hk : K (fr.put o.dst (.tuple #[])) H') : OpOK P N o fr H K :=
  opOK_value fun B w0 ρ w ac hR hF => by
    obtain ⟨ii, hu, hi, hsz, hby, hzr, hzs⟩ := ti_inv hte
    have hv := hF.ev hx
    by_cases hn : n = 0
    · subst hn
      rw [if_pos rfl] at hst
      subst hst
      have hex : ∃ a' c', ac.eval x = .slice a' 0 c' := by
        generalize ac.eval x = cx at hv
        cases hv with
        | sliceNil => exact ⟨_, _, rfl⟩
        | sliceEx => exact ⟨_, _, rfl⟩
        | sliceUnk => exact ⟨_, _, rfl⟩
        | sliceZero => exact ⟨_, _, rfl⟩
      obtain ⟨a', c', he⟩ := hex
      refine ⟨.tuple #[], w, ρ, H', _, ?_, List.prefix_refl _, hR, VR.tuple_of (VRs.nil _), hd, hk⟩
      cases a' <;> simp [execOp, ho, resolve, invoke, builtin, he, Builtin.clear_, run_underlying' ht]
    · rw [if_neg hn] at hst
      obtain ⟨i, off, sp, rfl, hst⟩ := hst
      have hcl : (Builtin.zeroCells τ.zero.cells n).toList.all closed0 = true := by
        have : Builtin.zeroCells τ.zero.cells n = madeCells τ.zero.cells (n * τ.zero.cells.size) := rfl
        rw [this]
        refine made_closed ?_ (.inr (by rw [hzs]; exact h0))
        unfold zeroOK at hz
        simpa [hi, hzr] using hz
      have hex : ∃ (l : Loc) (c' : Nat), ρ[i]? = some l /\ ac.eval x = .slice (some ⟨l.blk, l.off + off, none⟩) n c' := by
        generalize ac.eval x = cx at hv
        cases hv with
        | sliceEx _ _ _ l hl => exact ⟨l, n, hl, rfl⟩
        | sliceUnk _ _ e _ o' c' l hl h2 h3 h4 =>
          have : o' = l.off + off := by rcases h2 with h2 | h2; exact h2; exact absurd h2.1 hn
          subst this
          exact ⟨l, c', hl, rfl⟩
        | sliceZero => exact absurd rfl hn
      obtain ⟨l, c', hl, he⟩ := hex
      have hvr : VR ρ (.agg (Builtin.zeroCells τ.zero.cells n)) (.agg (Builtin.zeroCells τ.zero.cells n)) := VR.agg_of (VRs.closed hcl)
      obtain ⟨w', hrun, hR'⟩ := hR.storeVar (P := P) hvr hst hl
      refine ⟨.tuple #[], w', ρ, H', _, ?_, List.prefix_refl _, hR', VR.tuple_of (VRs.nil _), hd, hk⟩
      have hrun' : (storeCells ⟨l.blk, l.off + off, none⟩ (Builtin.zeroCells τ.zero.cells n).toList).run P w = .ok () w' := hrun
      obtain ⟨m, rfl⟩ : ∃ m, n = m + 1 := ⟨n - 1, by omega⟩
      simp [execOp, ho, resolve, invoke, builtin, he, Builtin.clear_, run_underlying' ht, zeroValue, typeInfo, hi, hzr, hrun']

def bytesOf : List Value -> Option (List UInt8)
  | [] => some []
  | .int .u8 n :: vs => (bytesOf vs).map (UInt8.ofNat n.toNat :: ·)
  | _ :: _ => none

theorem bytesOf_rel {ρ : Rho} : ∀ {vs ws : List Value} {bs : List UInt8}, bytesOf vs = some bs -> VRs ρ vs ws -> bytesOf ws = some bs
  | [], ws, bs, h, hr => by rw [hr.nil_inv]; exact h
  | v :: vs, ws, bs, h, hr => by
    obtain ⟨u, us, rfl, h1, h2⟩ := hr.cons_inv
    cases v with
    | int k n =>
      cases k <;> try (simp [bytesOf] at h; done)
      case u8 =>
        simp only [bytesOf] at h
        cases hb : bytesOf vs with
        | none => simp [hb] at h
        | some cs =>
          rw [h1.int_inv]
          simp only [bytesOf, bytesOf_rel hb h2]
          simpa [hb] using h
    | _ => simp [bytesOf] at h

theorem run_forIn_bytes (w : World) (f : Value -> ByteArray -> Sem (ForInStep ByteArray)) (hf : ∀ n r, f (.int .u8 n) r = pure (ForInStep.yield (r.push (UInt8.ofNat n.toNat)))) : ∀ (vs : List Value) (bs : List UInt8) (s : ByteArray), bytesOf vs = some bs ->
    (forIn vs s f).run P w = .ok ⟨s.data ++ bs.toArray⟩ w
  | [], bs, s, h => by simp [bytesOf] at h; subst h; simp
  | v :: vs, bs, s, h => by
    cases v with
    | int k n =>
      cases k <;> try (simp [bytesOf] at h; done)
      case u8 =>
        simp only [bytesOf] at h
        cases hb : bytesOf vs with
        | none => simp [hb] at h
        | some cs =>
          simp [hb] at h
          subst h
          have ih := run_forIn_bytes w f hf vs cs (s.push (UInt8.ofNat n.toNat)) hb
          simp only [List.forIn_cons, hf, Sem.run_bind, Sem.run_pure, Result.andThen_ok]
          rw [ih]
          congr 1
          simp [ByteArray.push]
    | _ => simp [bytesOf] at h

theorem ok_bytesToString {s t : TypeId} {x : Operand} (ho : o.op = .convert s t x) {te : TypeId} (hs : P.underlying s = some (.slice te)) (ht : P.underlying t = some .string) (hte : P.underlying te = some (.int .u8)) {v : Value} (hx : ev fr x = some v)
    {cs : List Value} (hc : srcCells H 1 v = some cs) {bs : List UInt8} (hb : bytesOf cs = some bs) (hd : dstOK N o.dst) (hk : K (fr.put o.dst (.string ⟨bs.toArray⟩)) H) : OpOK P N o fr H K :=
  opOK_value fun B w0 ρ w a hR hF => by
    obtain ⟨ax, cc, ds, he, hdl, hdr, hd1, hdc⟩ := hR.src hc (hF.ev hx)
    have hbd := bytesOf_rel hb hdr
    refine ⟨.string ⟨bs.toArray⟩, w, ρ, H, _, ?_, List.prefix_refl _, hR, .string _, hd, hk⟩
    cases ax with
    | none =>
      have h0 : lenV v = 0 := by
        rcases Nat.eq_zero_or_pos (lenV v) with h | h
        · exact h
        · obtain ⟨_, h2, _⟩ := hdc h; cases h2
      have : ds = [] := List.eq_nil_of_length_eq_zero (by rw [hdl, h0])
      subst this
      simp [bytesOf] at hbd
      subst hbd
      simp only [execOp, ho, convert, he, Sem.run_bind, run_underlying' hs, run_underlying' ht, Result.andThen_ok, run_underlying' hte, Conv.bytesToString, Sem.run_pure]
      rfl
    | some ad =>
      have hl := run_loadCells_list (P := P) w ad ds (fun j u hj => by
        rcases Nat.eq_zero_or_pos (lenV v) with h | h
        · have : ds = [] := List.eq_nil_of_length_eq_zero (by rw [hdl, h])
          subst this; simp at hj
        · obtain ⟨_, h2, h3⟩ := hdc h; cases h2; exact h3 j u hj)
      have hlen : lenV v = ds.length := by rw [hdl]; simp
      rw [hlen] at he
      have hce : (⟨ByteArray.empty.data ++ bs.toArray⟩ : ByteArray) = ⟨bs.toArray⟩ := by show (⟨(#[] : Array UInt8) ++ bs.toArray⟩ : ByteArray) = _; rw [Array.empty_append]
      simp only [execOp, ho, convert, he, Sem.run_bind, run_underlying' hs, run_underlying' ht, Result.andThen_ok, run_underlying' hte, Conv.bytesToString, hl]
      simp only [<- Array.forIn_toList]
      rw [run_forIn_bytes (P := P) w _ (fun n r => rfl) ds bs .empty hbd, hce]
      rfl

theorem ok_call {x : Operand} {args : Array Operand} {ts : Array TypeId} (ho : o.op = .call { callee := .value x, args := args, argTypes := ts }) {g : FuncId} {first captured : Array Value} (hx : ev fr x = some (.func (.func g) first captured))
    {vs : List Value} (ha : evs fr args.toList = some vs) (hd : dstOK N o.dst) (hk : ACalls P g (first.toList ++ vs ++ captured.toList) H (fun v H' => K (fr.put o.dst v) H')) : OpOK P N o fr H K := by
  intro B w0 ρ w a K' Q hR hF hK
  obtain ⟨⟨fn, hfn, hbody, hname⟩, hcalls⟩ := hk
  obtain ⟨az', bs', he, hr1, hr2⟩ := (hF.ev hx).func_inv
  have hr := hF.evs ha
  have hcall := hcalls B w0 ρ w (az'.toList ++ args.toList.map a.eval ++ bs'.toList) hR ((hr1.append hr).append hr2)
  unfold Oper.wp
  have hb : fn.body.isNone = false := by cases h : fn.body <;> simp [h] at hbody ⊢
  have hname' : ¬ (fn.name = "runtime.NumGoroutine") := by simpa using hname
  have hb' : ¬ (fn.body = none) := by intro h; simp [h] at hb
  have hrun : (execOp a.eval o).run P w = .ok (.enter g (az'.toList ++ args.toList.map a.eval ++ bs'.toList).toArray) w := by
    simp [execOp, ho, resolve, Deferred.ofValue, he, invoke, callFunc, hfn, hname', hb']
  rw [hrun, Oper.upon_enter]
  refine hcall.mono ?_
  rintro e w' ⟨ρ', H', v, cv, rfl, hp, hR', hv, hkk⟩
  exact hK ρ' _ H' _ w' hp hkk hR' ((hF.mono hp).put hd hv)

end
end Go.Ab
end

section
namespace Go.Ab
open Go.RowKit (Below)

def dstB (N : Nat) : Option Tmp -> Bool
  | none => true
  | some d => Nat.blt d N

theorem dstB_ok {N : Nat} {d : Option Tmp} (h : dstB N d = true) : dstOK N d := by
  cases d with
  | none => trivial
  | some d => simpa [dstB, dstOK, Nat.blt_eq] using h

def setK (N : Nat) (o : Oper) (fr : Fr) (H : Heap) (K : Fr -> Heap -> Prop) (v : Value) : Prop := andK (dstB N o.dst = true) (K (fr.put o.dst v) H)

theorem setK_inv {N : Nat} {o : Oper} {fr : Fr} {H : Heap} {K : Fr -> Heap -> Prop} {v : Value} (h : setK N o fr H K v) : dstOK N o.dst /\ K (fr.put o.dst v) H := ⟨dstB_ok h.1, h.2⟩

def loadV (d : TypeDesc) (cs : List Value) : Option Value :=
  if aggT d = true then some (.agg cs.toArray) else match cs with
    | [v] => some v
    | _ => none

theorem loadV_inv {d : TypeDesc} {cs : List Value} {v : Value} (h : loadV d cs = some v) : if aggT d = true then v = .agg cs.toArray else cs = [v] := by
  unfold loadV at h
  split
  · rename_i hd; rw [if_pos hd] at h; cases h; rfl
  · rename_i hd; rw [if_neg hd] at h; split at h <;> cases h; rfl

def ofC (P : Program) (N : Nat) (o : Oper) (fr : Fr) (H : Heap) (K : Fr -> Heap -> Prop)  (v : Value) : Prop :=
  setK N o fr H K v
def pickC (P : Program) (N : Nat) (o : Oper) (fr : Fr) (H : Heap) (K : Fr -> Heap -> Prop) (x : Operand) (y : Operand) (v : Value) : Prop :=
  match v with
  | .bool b => bindO (ev fr (bif b then x else y)) (ofC P N o fr H K)
  | _ => False
def allocC (P : Program) (N : Nat) (o : Oper) (fr : Fr) (H : Heap) (K : Fr -> Heap -> Prop)  (τ : TI) : Prop :=
  andK (τ.zero.cells.toList.all closed0 = true) (setK N o fr (H ++ [⟨τ.zero.cells.toList, true, true⟩]) K (.pointer (some ⟨H.length, 0, none⟩)))
def boxC (P : Program) (N : Nat) (o : Oper) (fr : Fr) (H : Heap) (K : Fr -> Heap -> Prop)  (v : Value) : Prop :=
  andK (v.cells.toList.all Value.oneCell' = true) (setK N o fr (H ++ [⟨v.cells.toList, true, true⟩]) K (.pointer (some ⟨H.length, 0, none⟩)))
def loadC3 (P : Program) (N : Nat) (o : Oper) (fr : Fr) (H : Heap) (K : Fr -> Heap -> Prop) (τ : TI) (cs : List Value) : Prop :=
  bindO (loadV τ.desc cs) (ofC P N o fr H K)
def loadC2 (P : Program) (N : Nat) (o : Oper) (fr : Fr) (H : Heap) (K : Fr -> Heap -> Prop) (i : Nat) (off : Nat) (τ : TI) : Prop :=
  bindO (cellsAt H i off τ.size) (loadC3 P N o fr H K τ)
def loadC (P : Program) (N : Nat) (o : Oper) (fr : Fr) (H : Heap) (K : Fr -> Heap -> Prop) (t : TypeId) (p : Value) : Prop :=
  match p with
  | .pointer (some ⟨i, off, none⟩) => bindO (ti P t) (loadC2 P N o fr H K i off)
  | _ => False
def heapC (P : Program) (N : Nat) (o : Oper) (fr : Fr) (H : Heap) (K : Fr -> Heap -> Prop)  (H' : Heap) : Prop :=
  setK N o fr H' K undef
def storeC3 (P : Program) (N : Nat) (o : Oper) (fr : Fr) (H : Heap) (K : Fr -> Heap -> Prop) (i : Nat) (off : Nat) (v : Value) (τ : TI) : Prop :=
  andK (v.cells.size = τ.size) (bindO (storeAt H i off v.cells.toList) (heapC P N o fr H K))
def storeC2 (P : Program) (N : Nat) (o : Oper) (fr : Fr) (H : Heap) (K : Fr -> Heap -> Prop) (t : TypeId) (i : Nat) (off : Nat) (v : Value) : Prop :=
  bindO (ti P t) (storeC3 P N o fr H K i off v)
def storeC (P : Program) (N : Nat) (o : Oper) (fr : Fr) (H : Heap) (K : Fr -> Heap -> Prop) (t : TypeId) (y : Operand) (p : Value) : Prop :=
  match p with
  | .pointer (some ⟨i, off, none⟩) => bindO (ev fr y) (storeC2 P N o fr H K t i off)
  | _ => False
def nilC (P : Program) (N : Nat) (o : Oper) (fr : Fr) (H : Heap) (K : Fr -> Heap -> Prop)  (p : Value) : Prop :=
  match p with
  | .pointer (some ⟨i, off, none⟩) => setK N o fr H K (.pointer (some ⟨i, off, none⟩))
  | .func (.func g) az bs => setK N o fr H K (.func (.func g) az bs)
  | _ => False
def eqNilC (P : Program) (N : Nat) (o : Oper) (fr : Fr) (H : Heap) (K : Fr -> Heap -> Prop) (op : BinOp) (a : Option Addr) (n : Nat) (d : TypeDesc) : Prop :=
  match d with
  | .slice _ => match op with
    | .eql => andK (nilOK a n = true) (setK N o fr H K (.bool a.isNone))
    | .neq => andK (nilOK a n = true) (setK N o fr H K (.bool (!a.isNone)))
    | _ => False
  | _ => False
def ifNilC (P : Program) (N : Nat) (o : Oper) (fr : Fr) (H : Heap) (K : Fr -> Heap -> Prop) (op : BinOp) (b : Bool) (d : TypeDesc) : Prop :=
  match d with
  | .interface _ => match op with
    | .eql => setK N o fr H K (.bool b)
    | .neq => setK N o fr H K (.bool (!b))
    | _ => False
  | _ => False
def constO : Operand -> Bool
  | .const _ => true
  | _ => false
def binI (P : Program) (N : Nat) (o : Oper) (fr : Fr) (H : Heap) (K : Fr -> Heap -> Prop) (op : BinOp) (ty : TypeId) (c : Bool) (vx : Value) : Prop :=
  match vx, c with
  | .iface _ _, true => bindO (P.underlying ty) (ifNilC P N o fr H K op false)
  | .nilIface, true => bindO (P.underlying ty) (ifNilC P N o fr H K op true)
  | _, _ => False
def binC2 (P : Program) (N : Nat) (o : Oper) (fr : Fr) (H : Heap) (K : Fr -> Heap -> Prop) (op : BinOp) (ty : TypeId) (c : Bool) (vx : Value) (vy : Value) : Prop :=
  match vy with
  | .nilIface => binI P N o fr H K op ty c vx
  | .slice none 0 0 => match vx with
    | .slice a n _ => bindO (P.underlying ty) (eqNilC P N o fr H K op a n)
    | _ => False
  | vy => vbin P op ty vx vy (setK N o fr H K)
def binC (P : Program) (N : Nat) (o : Oper) (fr : Fr) (H : Heap) (K : Fr -> Heap -> Prop) (op : BinOp) (ty : TypeId) (y : Operand) (vx : Value) : Prop :=
  bindO (ev fr y) (binC2 P N o fr H K op ty (constO y) vx)
def unC (P : Program) (N : Nat) (o : Oper) (fr : Fr) (H : Heap) (K : Fr -> Heap -> Prop) (op : UnOp) (v : Value) : Prop :=
  match op, v with
  | .not, .bool b => setK N o fr H K (.bool (!b))
  | .neg, .int k n => setK N o fr H K (.int k (k.wrap (0 - n)))
  | _, _ => False
def cvI2 (P : Program) (N : Nat) (o : Oper) (fr : Fr) (H : Heap) (K : Fr -> Heap -> Prop) (n : Int) (d : TypeDesc) : Prop :=
  match d with
  | .int k' => setK N o fr H K (.int k' (k'.wrap n))
  | _ => False
def cvI (P : Program) (N : Nat) (o : Oper) (fr : Fr) (H : Heap) (K : Fr -> Heap -> Prop) (t : TypeId) (n : Int) (_d : TypeDesc) : Prop :=
  bindO (P.underlying t) (cvI2 P N o fr H K n)
def cvS3 (P : Program) (N : Nat) (o : Oper) (fr : Fr) (H : Heap) (K : Fr -> Heap -> Prop)  (bs : List UInt8) : Prop :=
  setK N o fr H K (.string ⟨bs.toArray⟩)
def cvS2 (P : Program) (N : Nat) (o : Oper) (fr : Fr) (H : Heap) (K : Fr -> Heap -> Prop)  (cs : List Value) : Prop :=
  bindO (bytesOf cs) (cvS3 P N o fr H K)
def cvS (P : Program) (N : Nat) (o : Oper) (fr : Fr) (H : Heap) (K : Fr -> Heap -> Prop) (t : TypeId) (v : Value) (ds : TypeDesc) : Prop :=
  match ds with
  | .slice te => andK (P.underlying t = some .string /\ P.underlying te = some (.int .u8)) (bindO (srcCells H 1 v) (cvS2 P N o fr H K))
  | _ => False
def convC (P : Program) (N : Nat) (o : Oper) (fr : Fr) (H : Heap) (K : Fr -> Heap -> Prop) (s : TypeId) (t : TypeId) (v : Value) : Prop :=
  match v with
  | .int _ n => bindO (P.underlying s) (cvI P N o fr H K t n)
  | v => bindO (P.underlying s) (cvS P N o fr H K t v)
def fnC2 (P : Program) (N : Nat) (o : Oper) (fr : Fr) (H : Heap) (K : Fr -> Heap -> Prop) (g : FuncId) (vs : List Value) (us : List Value) : Prop :=
  setK N o fr H K (.func (.func g) vs.toArray us.toArray)
def fnC (P : Program) (N : Nat) (o : Oper) (fr : Fr) (H : Heap) (K : Fr -> Heap -> Prop) (g : FuncId) (captured : Array Operand) (vs : List Value) : Prop :=
  bindO (evs fr captured.toList) (fnC2 P N o fr H K g vs)
def mkC4 (P : Program) (N : Nat) (o : Oper) (fr : Fr) (H : Heap) (K : Fr -> Heap -> Prop) (n : Int) (m : Int) (τ : TI) : Prop :=
  andK (0 < τ.size) (andK (n = m /\ 0 <= n /\ (τ.bytes : Int) * n <= 281474976710656 /\ n <= 9223372036854775807)
    (setK N o fr (H ++ [⟨(madeCells τ.zero.cells (n.toNat * τ.size)).toList, true, true⟩]) K (.slice (some ⟨H.length, 0, none⟩) n.toNat n.toNat)))
def mkC3 (P : Program) (N : Nat) (o : Oper) (fr : Fr) (H : Heap) (K : Fr -> Heap -> Prop) (n : Int) (m : Int) (d : TypeDesc) : Prop :=
  match d with
  | .slice te => andK (zeroOK P te = true) (bindO (ti P te) (mkC4 P N o fr H K n m))
  | _ => False
def mkC2 (P : Program) (N : Nat) (o : Oper) (fr : Fr) (H : Heap) (K : Fr -> Heap -> Prop) (t : TypeId) (vx : Value) (vy : Value) : Prop :=
  match vx, vy with
  | .int _ n, .int _ m => bindO (P.underlying t) (mkC3 P N o fr H K n m)
  | _, _ => False
def mkC (P : Program) (N : Nat) (o : Oper) (fr : Fr) (H : Heap) (K : Fr -> Heap -> Prop) (t : TypeId) (y : Operand) (vx : Value) : Prop :=
  bindO (ev fr y) (mkC2 P N o fr H K t vx)
def slA (P : Program) (N : Nat) (o : Oper) (fr : Fr) (H : Heap) (K : Fr -> Heap -> Prop) (n : Nat) (i : Nat) (off : Nat) (_τ : TI) : Prop :=
  setK N o fr H K (.slice (some ⟨i, off, none⟩) n n)
def slC4 (P : Program) (N : Nat) (o : Oper) (fr : Fr) (H : Heap) (K : Fr -> Heap -> Prop) (τ : TI) (v : Value) (l : Int) (h : Int) : Prop :=
  andK (0 <= l /\ 0 <= h) (bindO (sliceV H τ.size v l.toNat h.toNat) (ofC P N o fr H K))
def slC3 (P : Program) (N : Nat) (o : Oper) (fr : Fr) (H : Heap) (K : Fr -> Heap -> Prop) (hi : Option Operand) (τ : TI) (v : Value) (l : Int) : Prop :=
  bindO (boundV fr (lenV v) hi) (slC4 P N o fr H K τ v l)
def slC2 (P : Program) (N : Nat) (o : Oper) (fr : Fr) (H : Heap) (K : Fr -> Heap -> Prop) (lo : Option Operand) (hi : Option Operand) (v : Value) (τ : TI) : Prop :=
  bindO (boundV fr 0 lo) (slC3 P N o fr H K hi τ v)
def slS3 (P : Program) (N : Nat) (o : Oper) (fr : Fr) (H : Heap) (K : Fr -> Heap -> Prop) (s : ByteArray) (l : Int) (h : Int) : Prop :=
  andK (0 <= l /\ l <= h /\ h <= s.size) (setK N o fr H K (.string (s.extract l.toNat h.toNat)))
def slS2 (P : Program) (N : Nat) (o : Oper) (fr : Fr) (H : Heap) (K : Fr -> Heap -> Prop) (hi : Option Operand) (s : ByteArray) (l : Int) : Prop :=
  bindO (boundV fr s.size hi) (slS3 P N o fr H K s l)
def slS (P : Program) (N : Nat) (o : Oper) (fr : Fr) (H : Heap) (K : Fr -> Heap -> Prop) (lo : Option Operand) (hi : Option Operand) (v : Value) : Prop :=
  match v with
  | .string s => bindO (boundV fr 0 lo) (slS2 P N o fr H K hi s)
  | _ => False
def slC1 (P : Program) (N : Nat) (o : Oper) (fr : Fr) (H : Heap) (K : Fr -> Heap -> Prop) (lo : Option Operand) (hi : Option Operand) (v : Value) (d : TypeDesc) : Prop :=
  match d with
  | .array n te => match v with
    | .pointer (some ⟨i, off, none⟩) => andK (lo = none /\ hi = none /\ n ≠ 0) (bindO (ti P te) (slA P N o fr H K n i off))
    | _ => False
  | .slice te => bindO (ti P te) (slC2 P N o fr H K lo hi v)
  | .string => slS P N o fr H K lo hi v
  | _ => False
def slC (P : Program) (N : Nat) (o : Oper) (fr : Fr) (H : Heap) (K : Fr -> Heap -> Prop) (t : TypeId) (lo : Option Operand) (hi : Option Operand) (v : Value) : Prop :=
  bindO (P.underlying t) (slC1 P N o fr H K lo hi v)
def faC4 (P : Program) (N : Nat) (o : Oper) (fr : Fr) (H : Heap) (K : Fr -> Heap -> Prop) (i : Nat) (off : Nat) (f : Field) (τ : TI) : Prop :=
  andK (τ.size ≠ 0) (setK N o fr H K (.pointer (some ⟨i, off + f.offset, none⟩)))
def faC3 (P : Program) (N : Nat) (o : Oper) (fr : Fr) (H : Heap) (K : Fr -> Heap -> Prop) (f : Field) (p : Value) : Prop :=
  match p with
  | .pointer (some ⟨i, off, none⟩) => bindO (ti P f.type) (faC4 P N o fr H K i off f)
  | _ => False
def faC2 (P : Program) (N : Nat) (o : Oper) (fr : Fr) (H : Heap) (K : Fr -> Heap -> Prop) (x : Operand) (f : Field) : Prop :=
  bindO (ev fr x) (faC3 P N o fr H K f)
def faC (P : Program) (N : Nat) (o : Oper) (fr : Fr) (H : Heap) (K : Fr -> Heap -> Prop) (x : Operand) (k : Nat) (d : TypeDesc) : Prop :=
  match d with
  | .struct fs => bindO fs.toList[k]? (faC2 P N o fr H K x)
  | _ => False
def fiC3 (P : Program) (N : Nat) (o : Oper) (fr : Fr) (H : Heap) (K : Fr -> Heap -> Prop) (f : Field) (p : Value) : Prop :=
  match p with
  | .agg xs => bindO (partV P f.type xs.toList f.offset) (ofC P N o fr H K)
  | _ => False
def fiC2 (P : Program) (N : Nat) (o : Oper) (fr : Fr) (H : Heap) (K : Fr -> Heap -> Prop) (x : Operand) (f : Field) : Prop :=
  bindO (ev fr x) (fiC3 P N o fr H K f)
def fiC (P : Program) (N : Nat) (o : Oper) (fr : Fr) (H : Heap) (K : Fr -> Heap -> Prop) (x : Operand) (k : Nat) (d : TypeDesc) : Prop :=
  match d with
  | .struct fs => bindO fs.toList[k]? (fiC2 P N o fr H K x)
  | _ => False
def iaC4 (P : Program) (N : Nat) (o : Oper) (fr : Fr) (H : Heap) (K : Fr -> Heap -> Prop) (i : Nat) (off : Nat) (j : Int) (τ : TI) : Prop :=
  setK N o fr H K (.pointer (some ⟨i, off + j.toNat * τ.size, none⟩))
def iaC3 (P : Program) (N : Nat) (o : Oper) (fr : Fr) (H : Heap) (K : Fr -> Heap -> Prop) (j : Int) (v : Value) (d : TypeDesc) : Prop :=
  match d with
  | .array n te => match v with
    | .pointer (some ⟨i, off, none⟩) => andK (0 <= j /\ j < n) (bindO (ti P te) (iaC4 P N o fr H K i off j))
    | _ => False
  | .slice te => match v with
    | .slice (some ⟨i, off, _⟩) n _ => andK (0 <= j /\ j < n) (bindO (ti P te) (iaC4 P N o fr H K i off j))
    | _ => False
  | _ => False
def iaC2 (P : Program) (N : Nat) (o : Oper) (fr : Fr) (H : Heap) (K : Fr -> Heap -> Prop) (t : TypeId) (j : Int) (v : Value) : Prop :=
  bindO (P.underlying t) (iaC3 P N o fr H K j v)
def iaC (P : Program) (N : Nat) (o : Oper) (fr : Fr) (H : Heap) (K : Fr -> Heap -> Prop) (t : TypeId) (x : Operand) (vy : Value) : Prop :=
  match vy with
  | .int _ j => bindO (ev fr x) (iaC2 P N o fr H K t j)
  | _ => False
def ixC4 (P : Program) (N : Nat) (o : Oper) (fr : Fr) (H : Heap) (K : Fr -> Heap -> Prop) (te : TypeId) (j : Int) (xs : Array Value) (τ : TI) : Prop :=
  bindO (partV P te xs.toList (j.toNat * τ.size)) (ofC P N o fr H K)
def ixB (P : Program) (N : Nat) (o : Oper) (fr : Fr) (H : Heap) (K : Fr -> Heap -> Prop)  (b : UInt8) : Prop :=
  setK N o fr H K (.int .u8 b.toNat)
def ixC3 (P : Program) (N : Nat) (o : Oper) (fr : Fr) (H : Heap) (K : Fr -> Heap -> Prop) (j : Int) (v : Value) (d : TypeDesc) : Prop :=
  match d with
  | .array n te => match v with
    | .agg xs => andK (0 <= j /\ j < n) (bindO (ti P te) (ixC4 P N o fr H K te j xs))
    | _ => False
  | .string => match v with
    | .string s => andK (0 <= j) (bindO s[j.toNat]? (ixB P N o fr H K))
    | _ => False
  | _ => False
def ixC2 (P : Program) (N : Nat) (o : Oper) (fr : Fr) (H : Heap) (K : Fr -> Heap -> Prop) (t : TypeId) (j : Int) (v : Value) : Prop :=
  bindO (P.underlying t) (ixC3 P N o fr H K j v)
def ixC (P : Program) (N : Nat) (o : Oper) (fr : Fr) (H : Heap) (K : Fr -> Heap -> Prop) (t : TypeId) (x : Operand) (vy : Value) : Prop :=
  match vy with
  | .int _ j => bindO (ev fr x) (ixC2 P N o fr H K t j)
  | _ => False
def exC (P : Program) (N : Nat) (o : Oper) (fr : Fr) (H : Heap) (K : Fr -> Heap -> Prop) (k : Nat) (v : Value) : Prop :=
  match v with
  | .tuple vs => bindO vs.toList[k]? (ofC P N o fr H K)
  | _ => False
def buC2 (P : Program) (N : Nat) (o : Oper) (fr : Fr) (H : Heap) (K : Fr -> Heap -> Prop)  (cells : Array Value) : Prop :=
  setK N o fr H K (.agg cells)
def buC (P : Program) (N : Nat) (o : Oper) (fr : Fr) (H : Heap) (K : Fr -> Heap -> Prop) (t : TypeId) (ps : List (Nat × Value)) : Prop :=
  andK (zeroOK P t = true) (bindO (P.built t ps) (buC2 P N o fr H K))
def bsC4 (P : Program) (N : Nat) (o : Oper) (fr : Fr) (H : Heap) (K : Fr -> Heap -> Prop) (len : Nat) (cells : Array Value) : Prop :=
  andK (cells.toList.all Value.oneCell' = true) (setK N o fr (H ++ [⟨cells.toList, true, true⟩]) K (.slice (some ⟨H.length, 0, none⟩) len len))
def bsC3 (P : Program) (N : Nat) (o : Oper) (fr : Fr) (H : Heap) (K : Fr -> Heap -> Prop) (te : TypeId) (len : Nat) (ps : List (Nat × Value)) : Prop :=
  bindO (builtSl P te len ps) (bsC4 P N o fr H K len)
def bsC2 (P : Program) (N : Nat) (o : Oper) (fr : Fr) (H : Heap) (K : Fr -> Heap -> Prop) (te : TypeId) (len : Nat) (parts : Array (Nat × Operand)) (τ : TI) : Prop :=
  andK (0 < τ.size) (bindO (evParts fr parts.toList) (bsC3 P N o fr H K te len))
def bsC (P : Program) (N : Nat) (o : Oper) (fr : Fr) (H : Heap) (K : Fr -> Heap -> Prop) (len : Nat) (parts : Array (Nat × Operand)) (d : TypeDesc) : Prop :=
  match d with
  | .slice te => andK (zeroOK P te = true) (bindO (ti P te) (bsC2 P N o fr H K te len parts))
  | _ => False
def callP (P : Program) (N : Nat) (o : Oper) (fr : Fr) (H : Heap) (K : Fr -> Heap -> Prop)  (v : Value) (H' : Heap) : Prop :=
  K (fr.put o.dst v) H'
def callC2 (P : Program) (N : Nat) (o : Oper) (fr : Fr) (H : Heap) (K : Fr -> Heap -> Prop) (g : FuncId) (first : Array Value) (captured : Array Value) (vs : List Value) : Prop :=
  andK (dstB N o.dst = true) (ACalls P g (first.toList ++ vs ++ captured.toList) H (callP P N o fr H K))
def callC (P : Program) (N : Nat) (o : Oper) (fr : Fr) (H : Heap) (K : Fr -> Heap -> Prop) (args : Array Operand) (f : Value) : Prop :=
  match f with
  | .func (.func g) first captured => bindO (evs fr args.toList) (callC2 P N o fr H K g first captured)
  | _ => False
def lenC2 (P : Program) (N : Nat) (o : Oper) (fr : Fr) (H : Heap) (K : Fr -> Heap -> Prop) (v : Value) (d : TypeDesc) : Prop :=
  match d with
  | .slice _ => match v with
    | .slice _ n _ => setK N o fr H K (.int .i64 n)
    | _ => False
  | .string => match v with
    | .string s => setK N o fr H K (.int .i64 s.size)
    | _ => False
  | _ => False
def lenC (P : Program) (N : Nat) (o : Oper) (fr : Fr) (H : Heap) (K : Fr -> Heap -> Prop) (t : TypeId) (v : Value) : Prop :=
  bindO (P.underlying t) (lenC2 P N o fr H K v)
def capC2 (P : Program) (N : Nat) (o : Oper) (fr : Fr) (H : Heap) (K : Fr -> Heap -> Prop) (v : Value) (d : TypeDesc) : Prop :=
  match d with
  | .slice _ => match v with
    | .slice none 0 0 => setK N o fr H K (.int .i64 0)
    | _ => False
  | _ => False
def capC (P : Program) (N : Nat) (o : Oper) (fr : Fr) (H : Heap) (K : Fr -> Heap -> Prop) (t : TypeId) (v : Value) : Prop :=
  bindO (P.underlying t) (capC2 P N o fr H K v)
def minC (P : Program) (N : Nat) (o : Oper) (fr : Fr) (H : Heap) (K : Fr -> Heap -> Prop)  (vs : List Value) : Prop :=
  match vs with
  | [.int k a, .int _ b] => setK N o fr H K (.int k (if b < a then b else a))
  | [.int k a, .int _ b, .int _ d] => setK N o fr H K (.int k (if d < (if b < a then b else a) then d else (if b < a then b else a)))
  | _ => False
def maxC (P : Program) (N : Nat) (o : Oper) (fr : Fr) (H : Heap) (K : Fr -> Heap -> Prop)  (vs : List Value) : Prop :=
  match vs with
  | [.int k a, .int _ b] => setK N o fr H K (.int k (if a < b then b else a))
  | [.int k a, .int _ b, .int _ d] => setK N o fr H K (.int k (if (if a < b then b else a) < d then d else (if a < b then b else a)))
  | _ => False
def apC5 (P : Program) (N : Nat) (o : Oper) (fr : Fr) (H : Heap) (K : Fr -> Heap -> Prop)  (r : Value × Heap) : Prop :=
  setK N o fr r.2 K r.1
def apC4 (P : Program) (N : Nat) (o : Oper) (fr : Fr) (H : Heap) (K : Fr -> Heap -> Prop) (τ : TI) (s : Value) (v : Value) (news : List Value) : Prop :=
  andK ((lenV s + lenV v) * τ.bytes <= 140737488355328 /\ lenV s + lenV v <= 140737488355328) (bindO (appendH H τ.size s (lenV v) news) (apC5 P N o fr H K))
def apC3 (P : Program) (N : Nat) (o : Oper) (fr : Fr) (H : Heap) (K : Fr -> Heap -> Prop) (t : TypeId) (t' : TypeId) (te : TypeId) (τ : TI) (s : Value) (v : Value) : Prop :=
  match v with
  | .int _ n => andK (s = .slice none 0 0 /\ 0 < n /\ (∃ k', P.underlying t' = some (.int k')) /\ zeroOK P te = true /\ 0 < τ.size /\ n.toNat * τ.bytes <= 140737488355328 /\ n <= 140737488355328 /\ τ.bytes ≠ 0)
      (setK N o fr (H ++ [⟨(Builtin.zeroCells τ.zero.cells n.toNat).toList, true, true⟩]) K (.slice (some ⟨H.length, 0, some τ.size⟩) n.toNat n.toNat))
  | v => andK (t' = t) (bindO (srcCells H τ.size v) (apC4 P N o fr H K τ s v))
def apC2 (P : Program) (N : Nat) (o : Oper) (fr : Fr) (H : Heap) (K : Fr -> Heap -> Prop) (y : Operand) (t : TypeId) (t' : TypeId) (te : TypeId) (τ : TI) (s : Value) : Prop :=
  bindO (ev fr y) (apC3 P N o fr H K t t' te τ s)
def apC1 (P : Program) (N : Nat) (o : Oper) (fr : Fr) (H : Heap) (K : Fr -> Heap -> Prop) (x : Operand) (y : Operand) (t : TypeId) (t' : TypeId) (te : TypeId) (τ : TI) : Prop :=
  bindO (ev fr x) (apC2 P N o fr H K y t t' te τ)
def apC (P : Program) (N : Nat) (o : Oper) (fr : Fr) (H : Heap) (K : Fr -> Heap -> Prop) (x : Operand) (y : Operand) (t : TypeId) (t' : TypeId) (d : TypeDesc) : Prop :=
  match d with
  | .slice te => bindO (ti P te) (apC1 P N o fr H K x y t t' te)
  | _ => False
def clC4 (P : Program) (N : Nat) (o : Oper) (fr : Fr) (H : Heap) (K : Fr -> Heap -> Prop)  (H' : Heap) : Prop :=
  setK N o fr H' K (.tuple #[])
def clC3 (P : Program) (N : Nat) (o : Oper) (fr : Fr) (H : Heap) (K : Fr -> Heap -> Prop) (τ : TI) (v : Value) : Prop :=
  match v with
  | .slice a n _ => bindO (if n = 0 then some H else match a with
    | some ⟨i, off, _⟩ => storeAt H i off (Builtin.zeroCells τ.zero.cells n).toList
    | none => none) (clC4 P N o fr H K)
  | _ => False
def clC2 (P : Program) (N : Nat) (o : Oper) (fr : Fr) (H : Heap) (K : Fr -> Heap -> Prop) (te : TypeId) (x : Operand) (τ : TI) : Prop :=
  andK (zeroOK P te = true /\ 0 < τ.size) (bindO (ev fr x) (clC3 P N o fr H K τ))
def clC (P : Program) (N : Nat) (o : Oper) (fr : Fr) (H : Heap) (K : Fr -> Heap -> Prop) (x : Operand) (d : TypeDesc) : Prop :=
  match d with
  | .slice te => bindO (ti P te) (clC2 P N o fr H K te x)
  | _ => False

def vop (P : Program) (N : Nat) (o : Oper) (fr : Fr) (H : Heap) (K : Fr -> Heap -> Prop) : Prop :=
  match o.op with
  | .move x => bindO (ev fr x) (ofC P N o fr H K)
  | .assign x => bindO (ev fr x) (ofC P N o fr H K)
  | .pick c x y => bindO (ev fr c) (pickC P N o fr H K x y)
  | .alloc t => bindO (ti P t) (allocC P N o fr H K)
  | .box _ x => bindO (ev fr x) (boxC P N o fr H K)
  | .load t x => bindO (ev fr x) (loadC P N o fr H K t)
  | .store t x y => bindO (ev fr x) (storeC P N o fr H K t y)
  | .nilCheck x => bindO (ev fr x) (nilC P N o fr H K)
  | .binOp op ty x y _ => bindO (ev fr x) (binC P N o fr H K op ty y)
  | .unOp op _ x => bindO (ev fr x) (unC P N o fr H K op)
  | .convert s t x => bindO (ev fr x) (convC P N o fr H K s t)
  | .makeFunc fn first captured => match fn with
    | .func g => bindO (evs fr first.toList) (fnC P N o fr H K g captured)
    | _ => False
  | .makeSlice t x y => bindO (ev fr x) (mkC P N o fr H K t y)
  | .slice t x lo hi mx => match mx with
    | none => bindO (ev fr x) (slC P N o fr H K t lo hi)
    | some _ => False
  | .fieldAddr s x k => bindO (P.underlying s) (faC P N o fr H K x k)
  | .field s x k => bindO (P.underlying s) (fiC P N o fr H K x k)
  | .indexAddr t x y => bindO (ev fr y) (iaC P N o fr H K t x)
  | .index t x y => bindO (ev fr y) (ixC P N o fr H K t x)
  | .extract x k => bindO (ev fr x) (exC P N o fr H K k)
  | .build t parts => bindO (evParts fr parts.toList) (buC P N o fr H K t)
  | .buildSlice t len parts => bindO (P.underlying t) (bsC P N o fr H K len parts)
  | .call c => match c.callee with
    | .value x => bindO (ev fr x) (callC P N o fr H K c.args)
    | .builtin .len => match c.args.toList, c.argTypes.toList with
      | [x], [t] => bindO (ev fr x) (lenC P N o fr H K t)
      | _, _ => False
    | .builtin .cap => match c.args.toList, c.argTypes.toList with
      | [x], [t] => bindO (ev fr x) (capC P N o fr H K t)
      | _, _ => False
    | .builtin .min => bindO (evs fr c.args.toList) (minC P N o fr H K)
    | .builtin .max => bindO (evs fr c.args.toList) (maxC P N o fr H K)
    | .builtin .append => match c.args.toList, c.argTypes.toList with
      | [x, y], [t, t'] => bindO (P.underlying t) (apC P N o fr H K x y t t')
      | _, _ => False
    | .builtin .clear => match c.args.toList, c.argTypes.toList with
      | [x], [t] => bindO (P.underlying t) (clC P N o fr H K x)
      | _, _ => False
    | _ => False
  | _ => False

theorem evs_cons {fr : Fr} {xs : List Operand} {v : Value} {vs : List Value} (h : evs fr xs = some (v :: vs)) : ∃ x xs', xs = x :: xs' /\ ev fr x = some v /\ evs fr xs' = some vs := by
  cases xs with
  | nil => simp [evs] at h
  | cons x xs =>
    simp only [evs] at h
    cases hx : ev fr x with
    | none => simp [hx] at h
    | some u =>
      cases hxs : evs fr xs with
      | none => simp [hx, hxs] at h
      | some us => simp [hx, hxs] at h; obtain ⟨rfl, rfl⟩ := h; exact ⟨x, xs, rfl, hx, hxs⟩

theorem evs_nil {fr : Fr} {xs : List Operand} (h : evs fr xs = some []) : xs = [] := by
  cases xs with
  | nil => rfl
  | cons x xs =>
    simp only [evs] at h
    split at h <;> simp at h

theorem evs_two {fr : Fr} {xs : List Operand} {a b : Value} (h : evs fr xs = some [a, b]) : ∃ x y, xs = [x, y] /\ ev fr x = some a /\ ev fr y = some b := by
  obtain ⟨x, l, e, h1, h2⟩ := evs_cons h
  obtain ⟨y, l, rfl, h3, h4⟩ := evs_cons h2
  have := evs_nil h4
  subst this
  exact ⟨x, y, e, h1, h3⟩

theorem evs_three {fr : Fr} {xs : List Operand} {a b c : Value} (h : evs fr xs = some [a, b, c]) : ∃ x y z, xs = [x, y, z] /\ ev fr x = some a /\ ev fr y = some b /\ ev fr z = some c := by
  obtain ⟨x, l, e, h1, h2⟩ := evs_cons h
  obtain ⟨y, l, rfl, h3, h4⟩ := evs_cons h2
  obtain ⟨z, l, rfl, h5, h6⟩ := evs_cons h4
  have := evs_nil h6
  subst this
  exact ⟨x, y, z, e, h1, h3, h5⟩

theorem vint_mono {op : BinOp} {k : IntKind} {a b : Int} {K K' : Value -> Prop} (h : vint op k a b K) (hk : ∀ v, K v -> K' v) : vint op k a b K' := by
  cases op <;> simp only [vint] at h ⊢ <;> first | exact hk _ h | exact ⟨h.1, hk _ h.2⟩

theorem vbin_mono {P : Program} {op : BinOp} {ty : TypeId} {x y : Value} {K K' : Value -> Prop} (h : vbin P op ty x y K) (hk : ∀ v, K v -> K' v) : vbin P op ty x y K' := by
  cases x <;> cases y <;> first | (simp [vbin] at h; done) | skip
  case int.int k a k' b => exact ⟨h.1, vint_mono h.2 hk⟩
  case string.string a b => cases op <;> simp only [vbin, vstr] at h ⊢ <;> first | exact h.elim | exact hk _ h | exact ⟨h.1, hk _ h.2⟩
  case bool.bool a b =>
    obtain ⟨h1, h2⟩ := h
    refine ⟨h1, ?_⟩
    cases op <;> first | exact h2.elim | exact hk _ h2
  case agg.agg xs ys =>
    obtain ⟨d, hu, h⟩ := h
    refine ⟨d, hu, ?_⟩
    cases d <;> try exact h.elim
    obtain ⟨de, hue, h⟩ := h
    refine ⟨de, hue, ?_⟩
    cases de <;> try exact h.elim
    obtain ⟨hs, az, h1, bs, h2, h3, h⟩ := h
    refine ⟨hs, az, h1, bs, h2, h3, ?_⟩
    cases op <;> first | exact h.elim | exact hk _ h

theorem vint_some {op : BinOp} {k : IntKind} {a b : Int} {K : Value -> Prop} (h : vint op k a b K) : ∃ v, K v := by
  cases op <;> simp only [vint] at h <;> first | exact ⟨_, h⟩ | exact ⟨_, h.2⟩

theorem vbin_some {P : Program} {op : BinOp} {ty : TypeId} {x y : Value} {K : Value -> Prop} (h : vbin P op ty x y K) : ∃ v, K v := by
  cases x <;> cases y <;> first | (simp [vbin] at h; done) | skip
  case int.int k a k' b => exact vint_some h.2
  case string.string a b => cases op <;> simp only [vbin, vstr] at h <;> first | exact h.elim | exact ⟨_, h⟩ | exact ⟨_, h.2⟩
  case bool.bool a b =>
    obtain ⟨h1, h2⟩ := h
    cases op <;> first | exact h2.elim | exact ⟨_, h2⟩
  case agg.agg xs ys =>
    obtain ⟨d, hu, h⟩ := h
    cases d <;> try exact h.elim
    obtain ⟨de, hue, h⟩ := h
    cases de <;> try exact h.elim
    obtain ⟨hs, az, h1, bs, h2, h3, h⟩ := h
    cases op <;> first | exact h.elim | exact ⟨_, h⟩

theorem ok_bin' {P : Program} {N : Nat} {o : Oper} {fr : Fr} {H : Heap} {K : Fr -> Heap -> Prop} {op : BinOp} {ty ty' : TypeId} {x y : Operand} (ho : o.op = .binOp op ty x y ty') {vx vy : Value} (hx : ev fr x = some vx) (hy : ev fr y = some vy)
    (hk : vbin P op ty vx vy (setK N o fr H K)) : OpOK P N o fr H K := by
  obtain ⟨v, hv⟩ := vbin_some hk
  exact ok_bin ho hx hy (setK_inv hv).1 (vbin_mono hk fun v h => (setK_inv h).2)

theorem vop_sound {P : Program} {N : Nat} {o : Oper} {fr : Fr} {H : Heap} {K : Fr -> Heap -> Prop} (h : vop P N o fr H K) : OpOK P N o fr H K := by
  unfold vop at h
  split at h
  case h_1 x ho => obtain ⟨v, h1, h⟩ := h; obtain ⟨h2, h3⟩ := setK_inv h; exact ok_move (.inl ho) h1 h2 h3
  case h_2 x ho => obtain ⟨v, h1, h⟩ := h; obtain ⟨h2, h3⟩ := setK_inv h; exact ok_move (.inr ho) h1 h2 h3
  case h_3 c x y ho =>
    obtain ⟨v, h1, h⟩ := h
    unfold pickC at h
    split at h
    · rename_i b; obtain ⟨v, h2, h⟩ := h; obtain ⟨h3, h4⟩ := setK_inv h; exact ok_pick ho h1 (by cases b <;> exact h2) h3 h4
    · exact h.elim
  case h_4 t ho => obtain ⟨τ, h1, h2, h⟩ := h; obtain ⟨h3, h4⟩ := setK_inv h; exact ok_alloc ho h1 h2 h3 h4
  case h_5 t x ho => obtain ⟨v, h1, h2, h⟩ := h; obtain ⟨h3, h4⟩ := setK_inv h; exact ok_box ho h1 h2 h3 h4
  case h_6 t x ho =>
    obtain ⟨p, h1, h⟩ := h
    unfold loadC at h
    split at h
    · obtain ⟨τ, h2, cs, h3, v, h4, h⟩ := h; obtain ⟨h5, h6⟩ := setK_inv h; exact ok_load ho h2 h1 h3 (loadV_inv h4) h5 h6
    · exact h.elim
  case h_7 t x y ho =>
    obtain ⟨p, h1, h⟩ := h
    unfold storeC at h
    split at h
    · obtain ⟨v, h2, τ, h3, h4, H', h5, h⟩ := h; obtain ⟨h6, h7⟩ := setK_inv h; exact ok_store ho h3 h1 h2 h4 h5 h6 h7
    · exact h.elim
  case h_8 x ho =>
    obtain ⟨p, h1, h⟩ := h
    unfold nilC at h
    split at h
    · obtain ⟨h2, h3⟩ := setK_inv h; exact ok_nilCheck ho h1 h2 h3
    · obtain ⟨h2, h3⟩ := setK_inv h; exact ok_nilCheckF ho h1 h2 h3
    · exact h.elim
  case h_9 op ty x y ty' ho =>
    obtain ⟨vx, h1, vy, h2, h⟩ := h
    unfold binC2 at h
    split at h
    · unfold binI at h
      split at h
      · rename_i hc
        obtain ⟨d, h3, h⟩ := h
        unfold ifNilC at h
        split at h
        · split at h
          · obtain ⟨h4, h5⟩ := setK_inv h; exact ok_ifNil ho h3 h1 h2 (by cases y <;> simp_all [constO]) (.inl ⟨⟨_, _, rfl⟩, rfl⟩) h4 (.inl ⟨rfl, h5⟩)
          · obtain ⟨h4, h5⟩ := setK_inv h; exact ok_ifNil ho h3 h1 h2 (by cases y <;> simp_all [constO]) (.inl ⟨⟨_, _, rfl⟩, rfl⟩) h4 (.inr ⟨rfl, h5⟩)
          · exact h.elim
        · exact h.elim
      · rename_i hc
        obtain ⟨d, h3, h⟩ := h
        unfold ifNilC at h
        split at h
        · split at h
          · obtain ⟨h4, h5⟩ := setK_inv h; exact ok_ifNil ho h3 h1 h2 (by cases y <;> simp_all [constO]) (.inr ⟨rfl, rfl⟩) h4 (.inl ⟨rfl, h5⟩)
          · obtain ⟨h4, h5⟩ := setK_inv h; exact ok_ifNil ho h3 h1 h2 (by cases y <;> simp_all [constO]) (.inr ⟨rfl, rfl⟩) h4 (.inr ⟨rfl, h5⟩)
          · exact h.elim
        · exact h.elim
      · exact h.elim
    · split at h
      · obtain ⟨d, h3, h⟩ := h
        unfold eqNilC at h
        split at h
        · split at h
          · obtain ⟨hz, h⟩ := h; obtain ⟨h4, h5⟩ := setK_inv h; exact ok_eqlNil ho h3 h1 hz h2 h4 (.inl ⟨rfl, h5⟩)
          · obtain ⟨hz, h⟩ := h; obtain ⟨h4, h5⟩ := setK_inv h; exact ok_eqlNil ho h3 h1 hz h2 h4 (.inr ⟨rfl, h5⟩)
          · exact h.elim
        · exact h.elim
      · exact h.elim
    · exact ok_bin' ho h1 h2 h
  case h_10 op ty x ho =>
    obtain ⟨v, h1, h⟩ := h
    unfold unC at h
    split at h
    · obtain ⟨h2, h3⟩ := setK_inv h; exact ok_not ho h1 h2 h3
    · obtain ⟨h2, h3⟩ := setK_inv h; exact ok_neg ho h1 h2 h3
    · exact h.elim
  case h_11 s t x ho =>
    obtain ⟨v, h1, h⟩ := h
    unfold convC at h
    split at h
    · obtain ⟨d, h2, d', h3, h⟩ := h
      unfold cvI2 at h
      split at h
      · obtain ⟨h4, h5⟩ := setK_inv h; exact ok_convInt ho h2 h3 h1 h4 h5
      · exact h.elim
    · obtain ⟨d, h2, h⟩ := h
      unfold cvS at h
      split at h
      · obtain ⟨⟨h3, h4⟩, cs, h5, bs, h6, h⟩ := h; obtain ⟨h7, h8⟩ := setK_inv h; exact ok_bytesToString ho h2 h3 h4 h1 h5 h6 h7 h8
      · exact h.elim
  case h_12 fn first captured ho =>
    split at h
    · obtain ⟨vs, h1, us, h2, h⟩ := h; obtain ⟨h3, h4⟩ := setK_inv h; exact ok_makeFunc ho h1 h2 h3 h4
    · exact h.elim
  case h_13 t x y ho =>
    obtain ⟨vx, h1, vy, h2, h⟩ := h
    unfold mkC2 at h
    split at h
    · obtain ⟨d, h3, h⟩ := h
      unfold mkC3 at h
      split at h
      · obtain ⟨h4, τ, h5, h6, ⟨rfl, h7, h8, h9⟩, h⟩ := h; obtain ⟨h10, h11⟩ := setK_inv h; exact ok_makeSlice ho h3 h4 h5 h6 h1 h2 h7 h8 h9 h10 h11
      · exact h.elim
    · exact h.elim
  case h_14 t x lo hi mx ho =>
    split at h
    · obtain ⟨v, h1, d, h2, h⟩ := h
      unfold slC1 at h
      split at h
      · split at h
        · obtain ⟨⟨rfl, rfl, h3⟩, τ, h4, h⟩ := h; obtain ⟨h5, h6⟩ := setK_inv h; exact ok_sliceArr ho h2 h3 h4 h1 h5 h6
        · exact h.elim
      · obtain ⟨τ, h3, l, h4, hh, h5, ⟨h6, h7⟩, v', h8, h⟩ := h; obtain ⟨h9, h10⟩ := setK_inv h; exact ok_slice ho h2 h3 h1 h4 h5 h6 h7 h8 h9 h10
      · unfold slS at h
        split at h
        · obtain ⟨l, h3, hh, h4, ⟨h5, h6, h7⟩, h⟩ := h; obtain ⟨h8, h9⟩ := setK_inv h; exact ok_sliceStr ho h2 h1 h3 h4 h5 h6 h7 h8 h9
        · exact h.elim
      · exact h.elim
    · exact h.elim
  case h_15 s x k ho =>
    obtain ⟨d, h1, h⟩ := h
    unfold faC at h
    split at h
    · obtain ⟨f, h2, p, h3, h⟩ := h
      unfold faC3 at h
      split at h
      · obtain ⟨τ, h4, h5, h⟩ := h; obtain ⟨h6, h7⟩ := setK_inv h; exact ok_fieldAddr ho h1 (by simpa using h2) h3 h4 h5 h6 h7
      · exact h.elim
    · exact h.elim
  case h_16 s x k ho =>
    obtain ⟨d, h1, h⟩ := h
    unfold fiC at h
    split at h
    · obtain ⟨f, h2, p, h3, h⟩ := h
      unfold fiC3 at h
      split at h
      · obtain ⟨v, h4, h⟩ := h; obtain ⟨h5, h6⟩ := setK_inv h; exact ok_field ho h1 (by simpa using h2) h3 h4 h5 h6
      · exact h.elim
    · exact h.elim
  case h_17 t x y ho =>
    obtain ⟨vy, h1, h⟩ := h
    unfold iaC at h
    split at h
    · obtain ⟨v, h2, d, h3, h⟩ := h
      unfold iaC3 at h
      split at h
      · split at h
        · obtain ⟨⟨h4, h5⟩, τ, h6, h⟩ := h; obtain ⟨h7, h8⟩ := setK_inv h; exact ok_indexAddrArr ho h3 h6 h2 h1 h4 h5 h7 h8
        · exact h.elim
      · split at h
        · obtain ⟨⟨h4, h5⟩, τ, h6, h⟩ := h; obtain ⟨h7, h8⟩ := setK_inv h; exact ok_indexAddrSl ho h3 h6 h2 h1 h4 h5 h7 h8
        · exact h.elim
      · exact h.elim
    · exact h.elim
  case h_18 t x y ho =>
    obtain ⟨vy, h1, h⟩ := h
    unfold ixC at h
    split at h
    · obtain ⟨v, h2, d, h3, h⟩ := h
      unfold ixC3 at h
      split at h
      · split at h
        · obtain ⟨⟨h4, h5⟩, τ, h6, u, h7, h⟩ := h; obtain ⟨h8, h9⟩ := setK_inv h; exact ok_indexArr ho h3 h6 h2 h1 h4 h5 h7 h8 h9
        · exact h.elim
      · split at h
        · obtain ⟨h4, b, h5, h⟩ := h; obtain ⟨h6, h7⟩ := setK_inv h; exact ok_indexStr ho h3 h2 h1 h4 h5 h6 h7
        · exact h.elim
      · exact h.elim
    · exact h.elim
  case h_19 x k ho =>
    obtain ⟨v, h1, h⟩ := h
    unfold exC at h
    split at h
    · obtain ⟨v, h2, h⟩ := h; obtain ⟨h3, h4⟩ := setK_inv h; exact ok_extract ho h1 h2 h3 h4
    · exact h.elim
  case h_20 t parts ho => obtain ⟨ps, h1, h2, cells, h3, h⟩ := h; obtain ⟨h4, h5⟩ := setK_inv h; exact ok_build ho h1 h2 h3 h4 h5
  case h_21 t len parts ho =>
    obtain ⟨d, h1, h⟩ := h
    unfold bsC at h
    split at h
    · obtain ⟨h2, τ, h3, h4, ps, h5, cells, h6, h7, h⟩ := h; obtain ⟨h8, h9⟩ := setK_inv h; exact ok_buildSlice ho h1 h2 h3 h4 h5 h6 h7 h8 h9
    · exact h.elim
  case h_22 c ho =>
    obtain ⟨callee, ⟨args⟩, ⟨argTypes⟩⟩ := c
    simp only at h
    split at h
    · obtain ⟨f, h1, h⟩ := h
      unfold callC at h
      split at h
      · obtain ⟨vs, h2, h3, h⟩ := h; exact ok_call ho h1 h2 (dstB_ok h3) h
      · exact h.elim
    · split at h
      · obtain ⟨v, h1, d, h2, h⟩ := h
        unfold lenC2 at h
        split at h
        · split at h
          · obtain ⟨h3, h4⟩ := setK_inv h; exact ok_lenSl ho h2 h1 h3 h4
          · exact h.elim
        · split at h
          · obtain ⟨h3, h4⟩ := setK_inv h; exact ok_lenStr ho h2 h1 h3 h4
          · exact h.elim
        · exact h.elim
      · exact h.elim
    · split at h
      · obtain ⟨v, h1, d, h2, h⟩ := h
        unfold capC2 at h
        split at h
        · split at h
          · obtain ⟨h3, h4⟩ := setK_inv h; exact ok_capSl ho h2 h1 h3 h4
          · exact h.elim
        · exact h.elim
      · exact h.elim
    · obtain ⟨vs, h1, h⟩ := h
      unfold minC at h
      split at h
      · obtain ⟨x, y, rfl, h4, h5⟩ := evs_two h1; obtain ⟨h2, h3⟩ := setK_inv h; exact ok_min2 ho h4 h5 h2 h3
      · obtain ⟨x, y, z, rfl, h4, h5, h6⟩ := evs_three h1; obtain ⟨h2, h3⟩ := setK_inv h; exact ok_min3 ho h4 h5 h6 h2 h3
      · exact h.elim
    · obtain ⟨vs, h1, h⟩ := h
      unfold maxC at h
      split at h
      · obtain ⟨x, y, rfl, h4, h5⟩ := evs_two h1; obtain ⟨h2, h3⟩ := setK_inv h; exact ok_max2 ho h4 h5 h2 h3
      · obtain ⟨x, y, z, rfl, h4, h5, h6⟩ := evs_three h1; obtain ⟨h2, h3⟩ := setK_inv h; exact ok_max3 ho h4 h5 h6 h2 h3
      · exact h.elim
    · split at h
      · obtain ⟨d, h1, h⟩ := h
        unfold apC at h
        split at h
        · obtain ⟨τ, h2, s, h3, v, h4, h⟩ := h
          unfold apC3 at h
          split at h
          · rename_i k n
            obtain ⟨⟨rfl, h5, ⟨k', h6⟩, h7, h8, h9, h10, h11⟩, h⟩ := h
            obtain ⟨h12, h13⟩ := setK_inv h
            obtain ⟨m, rfl⟩ := Int.eq_ofNat_of_zero_le (Int.le_of_lt h5)
            simp only [Int.toNat_natCast] at h9 h13
            exact ok_appendMake ho h1 h6 h2 h7 h8 h3 h4 (by omega) h9 (by omega) h11 h12 h13
          · obtain ⟨rfl, news, h5, ⟨h6, h7⟩, ⟨v', H'⟩, h8, h⟩ := h; obtain ⟨h9, h10⟩ := setK_inv h; exact ok_append ho h1 h2 h3 h4 h5 h6 h7 h8 h9 h10
        · exact h.elim
      · exact h.elim
    · split at h
      · obtain ⟨d, h1, h⟩ := h
        unfold clC at h
        split at h
        · obtain ⟨τ, h2, ⟨h3, h4⟩, v, h5, h⟩ := h
          unfold clC3 at h
          split at h
          · rename_i a n cp
            obtain ⟨H', h6, h⟩ := h
            obtain ⟨h7, h8⟩ := setK_inv h
            refine ok_clear ho h1 h2 h3 h4 h5 ?_ h7 h8
            by_cases hn : n = 0
            · rw [if_pos hn] at h6 ⊢; cases h6; rfl
            · rw [if_neg hn] at h6 ⊢
              split at h6
              · exact ⟨_, _, _, rfl, h6⟩
              · cases h6
          · exact h.elim
        · exact h.elim
      · exact h.elim
    · exact h.elim
  case h_23 => exact h.elim

/-! Regions. -/

def gdst (ops : Array Oper) (j : Nat) : Option Tmp := (ops[j]?).bind (·.dst)

def guardC2 (P : Program) (N : Nat) (o : Oper) (fr : Fr) (H : Heap) (K : Fr -> Heap -> Prop) (t : Tmp) (want : Bool) (u : Value) : Prop :=
  match u with
  | .bool b => condK (b == want) (vop P N o (fr.set t (.bool want)) H K) (setK N o (fr.set t (.bool (!want))) H K undef)
  | _ => setK N o fr H K undef
def guardC (P : Program) (N : Nat) (o : Oper) (fr : Fr) (H : Heap) (K : Fr -> Heap -> Prop) (want : Bool) (t : Tmp) : Prop :=
  andK (Nat.blt t N = true) (bindO (fr.get t) (guardC2 P N o fr H K t want))

def vstep (P : Program) (N : Nat) (ops : Array Oper) (o : Oper) (K : Fr -> Heap -> Prop) (fr : Fr) (H : Heap) : Prop :=
  match o.guard with
  | none => vop P N o fr H K
  | some (j, want) => bindO (gdst ops j) (guardC P N o fr H K want)

def vops (P : Program) (N : Nat) (ops : Array Oper) (K : Fr -> Heap -> Prop) : List Oper -> Fr -> Heap -> Prop
  | [], fr, H => K fr H
  | o :: rest, fr, H => vstep P N ops o (vops P N ops K rest) fr H

def vopsK (P : Program) (N : Nat) (ops : Array Oper) (K : Fr -> Heap -> Prop) (l : List Oper) (fr : Fr) (H : Heap) : Prop := vops P N ops K l fr H
theorem vops_nil (P : Program) (N : Nat) (ops : Array Oper) (K : Fr -> Heap -> Prop) (fr : Fr) (H : Heap) : vops P N ops K [] fr H = K fr H := rfl
theorem vops_cons (P : Program) (N : Nat) (ops : Array Oper) (K : Fr -> Heap -> Prop) (o : Oper) (rest : List Oper) (fr : Fr) (H : Heap) : vops P N ops K (o :: rest) fr H = vstep P N ops o (vopsK P N ops K rest) fr H := rfl

def opDue (P : Program) (ops : Array Oper) (o : Oper) (a : Act) (w : World) (next : Act -> World -> Prop) (Q : Exit -> Act -> World -> Prop) : Prop :=
  if Region.wanted o (yielded ops a.tmps) then o.wp P a w next Q \/ (o.asks P a w /\ LetsOut Q) else next (a.put o.dst undef) w

theorem get_set_same {fr : Fr} {t : Nat} {v : Value} (h : fr.get t = some v) : ∀ s, (fr.set t v).get s = fr.get s := by
  intro s
  rw [Fr.get_set]
  by_cases e : s = t
  · subst e; rw [if_pos rfl, h]
  · rw [if_neg e]

theorem vstep_sound {P : Program} {N : Nat} {ops : Array Oper} {o : Oper} {K : Fr -> Heap -> Prop} {fr : Fr} {H : Heap} (h : vstep P N ops o K fr H)
    {B : Nat} {w0 : World} {ρ : Rho} {w : World} {a : Act} (hR : R B w0 ρ H w) (hF : FR N ρ fr a) {next : Act -> World -> Prop} (Q : Exit -> Act -> World -> Prop)
    (hK : ∀ (ρ' : Rho) (fr' : Fr) (H' : Heap) (a' : Act) (w' : World), ρ <+: ρ' -> K fr' H' -> R B w0 ρ' H' w' -> FR N ρ' fr' a' -> next a' w') : opDue P ops o a w next Q := by
  unfold vstep at h
  unfold opDue
  cases hg : o.guard with
  | none =>
    simp only [hg] at h
    have : Region.wanted o (yielded ops a.tmps) = true := by simp [Region.wanted, hg]
    rw [if_pos this]
    exact .inl (vop_sound h B w0 ρ w a next Q hR hF hK)
  | some jw =>
    obtain ⟨j, want⟩ := jw
    simp only [hg] at h
    obtain ⟨t, ht, hN, u, hu, h⟩ := h
    rw [Nat.blt_eq] at hN
    have hv := hF.get t u hu
    have hlt : t < a.tmps.size := Nat.lt_of_lt_of_le hN hF.size
    have hget : a.tmps[t]? = some (a.tmps.getD t undef) := by simp [Array.getD_eq_getD_getElem?, hlt]
    have hy : yielded ops a.tmps j = (match a.tmps.getD t undef with | .bool b => some b | _ => none) := by
      unfold yielded
      unfold gdst at ht
      rw [ht, Option.bind_some, hget]
      cases a.tmps.getD t undef <;> rfl
    have hw : Region.wanted o (yielded ops a.tmps) = (yielded ops a.tmps j == some want) := by simp [Region.wanted, hg]
    unfold guardC2 at h
    split at h
    · rename_i b
      have hb := hv.bool_inv
      rw [hb] at hy
      simp only at hy
      have hF' : ∀ c, b = c -> FR N ρ (fr.set t (.bool c)) a := by
        intro c hc
        subst hc
        exact hF.weaken (fun s v hs => by rw [get_set_same hu] at hs; exact hs)
      by_cases hbw : b = want
      · have : Region.wanted o (yielded ops a.tmps) = true := by rw [hw, hy, hbw]; simp
        rw [if_pos this]
        exact .inl (vop_sound (h.1 (by simpa using hbw)) B w0 ρ w a next Q hR (hF' _ hbw) hK)
      · have : Region.wanted o (yielded ops a.tmps) = false := by rw [hw, hy]; simpa using hbw
        rw [this]
        have hb2 : b = !want := by cases b <;> cases want <;> simp_all
        obtain ⟨h1, h2⟩ := setK_inv (h.2 (by simpa using hbw))
        exact hK ρ _ H _ w (List.prefix_refl _) h2 hR ((hF' _ hb2).put h1 (VR.closed (v := undef) rfl))
    · rename_i hnb
      have hnb' : (match a.tmps.getD t undef with | .bool b => some b | _ => none) = (none : Option Bool) := by
        generalize a.tmps.getD t undef = cv at hv
        cases hv <;> first | rfl | exact absurd rfl (hnb _)
      rw [hnb'] at hy
      have : Region.wanted o (yielded ops a.tmps) = false := by rw [hw, hy]; rfl
      rw [this]
      exact hK ρ _ H _ w (List.prefix_refl _) (setK_inv h).2 hR (hF.put (setK_inv h).1 (VR.closed (v := undef) rfl))

theorem wpOps_cons {P : Program} {ops : Array Oper} {Q : Exit -> Act -> World -> Prop} {i : Nat} {rest : List Nat} {a : Act} {w : World} {o : Oper} (ho : ops[i]? = some o) :
    wpOps P ops Q (i :: rest) a w = opDue P ops o a w (wpOps P ops Q rest) Q := by
  simp only [wpOps, ho, opDue]

theorem vops_sound {P : Program} {N : Nat} {ops : Array Oper} {K : Fr -> Heap -> Prop} {B : Nat} {w0 : World} {Q : Exit -> Act -> World -> Prop} : ∀ (l : List Nat) (os : List Oper), l.map (ops[·]?) = os.map some -> ∀ (fr : Fr) (H : Heap) (ρ : Rho) (w : World) (a : Act),
    vops P N ops K os fr H -> R B w0 ρ H w -> FR N ρ fr a ->
    (∀ (ρ' : Rho) (fr' : Fr) (H' : Heap) (a' : Act) (w' : World), ρ <+: ρ' -> K fr' H' -> R B w0 ρ' H' w' -> FR N ρ' fr' a' -> Q .normal a' w') -> wpOps P ops Q l a w
  | [], [], _, fr, H, ρ, w, a, h, hR, hF, hK => hK ρ fr H a w (List.prefix_refl _) h hR hF
  | i :: l, o :: os, hl, fr, H, ρ, w, a, h, hR, hF, hK => by
    simp only [List.map_cons, List.cons.injEq] at hl
    rw [wpOps_cons hl.1]
    refine vstep_sound h hR hF Q ?_
    intro ρ' fr' H' a' w' hp hk hR' hF'
    exact vops_sound l os hl.2 fr' H' ρ' w' a' hk hR' hF' (fun ρ'' fr'' H'' a'' w'' hp' => hK ρ'' fr'' H'' a'' w'' (hp.trans hp'))
  | [], _ :: _, hl, _, _, _, _, _, _, _, _, _ => by simp at hl
  | _ :: _, [], hl, _, _, _, _, _, _, _, _, _ => by simp at hl

theorem range_map_get (ops : Array Oper) : (List.range ops.size).map (ops[·]?) = ops.toList.map some := by
  apply List.ext_getElem?
  intro i
  by_cases hi : i < ops.size
  · simp [hi]
  · simp [hi]

/-! Code. -/

def Lift (B : Nat) (w0 : World) (N : Nat) (ρ : Rho) (Q : Exit -> Fr -> Heap -> Prop) (e : Exit) (a : Act) (w : World) : Prop :=
  ∃ ρ' fr H, ρ <+: ρ' /\ R B w0 ρ' H w /\ FR N ρ' fr a /\ Q e fr H

def AWp (P : Program) (N : Nat) (c : Code) (Q : Exit -> Fr -> Heap -> Prop) (fr : Fr) (H : Heap) : Prop :=
  ∀ (B : Nat) (w0 : World) (ρ : Rho) (w : World) (a : Act), R B w0 ρ H w -> FR N ρ fr a -> c.wp P (Lift B w0 N ρ Q) a w

def thenA (K : Fr -> Heap -> Prop) (Q : Exit -> Fr -> Heap -> Prop) : Exit -> Fr -> Heap -> Prop
  | .normal => K
  | .exit i => Q (.exit i)
  | .goto l => Q (.goto l)
  | .ret => Q .ret
  | .panic c => Q (.panic c)
  | .outgrown => Q .outgrown

def blockA (id : Nat) (Q : Exit -> Fr -> Heap -> Prop) : Exit -> Fr -> Heap -> Prop
  | .normal => Q .normal
  | .exit i => if i = id then Q .normal else Q (.exit i)
  | .goto l => Q (.goto l)
  | .ret => Q .ret
  | .panic c => Q (.panic c)
  | .outgrown => Q .outgrown

section
variable {P : Program} {N : Nat} {Q Q' : Exit -> Fr -> Heap -> Prop} {fr : Fr} {H : Heap}

theorem Lift.mono {B : Nat} {w0 : World} {ρ ρ' : Rho} {e : Exit} {a : Act} {w : World} (hp : ρ <+: ρ') (hq : ∀ e fr H, Q e fr H -> Q' e fr H) (h : Lift B w0 N ρ' Q e a w) : Lift B w0 N ρ Q' e a w := by
  obtain ⟨ρ'', f, H', h1, h2, h3, h4⟩ := h
  exact ⟨ρ'', f, H', hp.trans h1, h2, h3, hq _ _ _ h4⟩

theorem AWp.mono {c : Code} (h : AWp P N c Q fr H) (hq : ∀ e fr H, Q e fr H -> Q' e fr H) : AWp P N c Q' fr H :=
  fun B w0 ρ w a hR hF => wp_mono (h B w0 ρ w a hR hF) fun _ _ _ hl => hl.mono (List.prefix_refl _) hq

@[congr] theorem AWp_congr {c : Code} {f f' : Fr} {H H' : Heap} (h : f = f') (h' : H = H') : AWp P N c Q f H = AWp P N c Q f' H' := by rw [h, h']

theorem AWp.skip (h : Q .normal fr H) : AWp P N .skip Q fr H :=
  fun _ _ ρ w a hR hF => wp_skip ⟨ρ, fr, H, List.prefix_refl _, hR, hF, h⟩
theorem AWp.exit {id : Nat} (h : Q (.exit id) fr H) : AWp P N (.exit id) Q fr H :=
  fun _ _ ρ w a hR hF => wp_exit ⟨ρ, fr, H, List.prefix_refl _, hR, hF, h⟩
theorem AWp.goto {l : Nat} (h : Q (.goto l) fr H) : AWp P N (.goto l) Q fr H :=
  fun _ _ ρ w a hR hF => wp_goto ⟨ρ, fr, H, List.prefix_refl _, hR, hF, h⟩
theorem AWp.label {l : Nat} (h : Q .normal fr H) : AWp P N (.label l) Q fr H :=
  fun _ _ ρ w a hR hF => wp_label ⟨ρ, fr, H, List.prefix_refl _, hR, hF, h⟩
theorem AWp.ret (h : Q .ret fr H) : AWp P N .ret Q fr H :=
  fun _ _ ρ w a hR hF => wp_ret ⟨ρ, fr, H, List.prefix_refl _, hR, hF, h⟩

theorem AWp.seq {x y : Code} (h : AWp P N x (thenA (AWp P N y Q) Q) fr H) : AWp P N (.seq x y) Q fr H :=
  fun B w0 ρ w a hR hF => wp_seq (wp_mono (h B w0 ρ w a hR hF) fun e a' w' hl => by
    obtain ⟨ρ', f, H', h1, h2, h3, h4⟩ := hl
    cases e with
    | normal => exact wp_mono (h4 B w0 ρ' w' a' h2 h3) fun _ _ _ hl => hl.mono h1 fun _ _ _ h => h
    | exit i => exact ⟨ρ', f, H', h1, h2, h3, h4⟩
    | goto l => exact ⟨ρ', f, H', h1, h2, h3, h4⟩
    | ret => exact ⟨ρ', f, H', h1, h2, h3, h4⟩
    | panic c => exact ⟨ρ', f, H', h1, h2, h3, h4⟩
    | outgrown => exact ⟨ρ', f, H', h1, h2, h3, h4⟩)

theorem AWp.cond {c : Operand} {x y : Code} {b : Bool} (hc : ev fr c = some (.bool b)) (ht : b = true -> AWp P N x Q fr H) (hf : b = false -> AWp P N y Q fr H) : AWp P N (.cond c x y) Q fr H :=
  fun B w0 ρ w a hR hF => wp_cond_split (hF.ev hc).bool_inv (fun e => ht e B w0 ρ w a hR hF) (fun e => hf e B w0 ρ w a hR hF)

theorem AWp.block {id : Nat} {c : Code} (h : AWp P N c (blockA id Q) fr H) : AWp P N (.block id c) Q fr H :=
  fun B w0 ρ w a hR hF => wp_block (wp_mono (h B w0 ρ w a hR hF) fun e a' w' hl => by
    obtain ⟨ρ', f, H', h1, h2, h3, h4⟩ := hl
    cases e with
    | exit i =>
      simp only [blockA] at h4
      simp only [Exit.inBlock]
      split
      · rename_i hi; rw [if_pos hi] at h4; exact ⟨ρ', f, H', h1, h2, h3, h4⟩
      · rename_i hi; rw [if_neg hi] at h4; exact ⟨ρ', f, H', h1, h2, h3, h4⟩
    | _ => exact ⟨ρ', f, H', h1, h2, h3, h4⟩)

theorem AWp.region {id : Nat} {ops : Array Oper} (h : vops P N ops (Q .normal) ops.toList fr H) : AWp P N (.region id ops false) Q fr H :=
  fun B w0 ρ w a hR hF => wp_region (vops_sound (List.range ops.size) ops.toList (range_map_get ops) fr H ρ w a h hR hF
    (fun ρ' fr' H' a' w' h1 h2 h3 h4 => ⟨ρ', fr', H', h1, h3, h4, h2⟩))

end

def condC (k1 k2 : Fr -> Heap -> Prop) (fr : Fr) (H : Heap) (v : Value) : Prop :=
  match v with
  | .bool b => condK b (k1 fr H) (k2 fr H)
  | _ => False

def vc (P : Program) (N : Nat) : Code -> (Exit -> Fr -> Heap -> Prop) -> Fr -> Heap -> Prop
  | .skip, Q, fr, H => Q .normal fr H
  | .region _ ops false, Q, fr, H => vops P N ops (Q .normal) ops.toList fr H
  | .region id ops true, Q, fr, H => AWp P N (.region id ops true) Q fr H
  | .seq x y, Q, fr, H => vc P N x (thenA (vc P N y Q) Q) fr H
  | .cond c x y, Q, fr, H => bindO (ev fr c) (condC (vc P N x Q) (vc P N y Q) fr H)
  | .block id c, Q, fr, H => vc P N c (blockA id Q) fr H
  | .exit id, Q, fr, H => Q (.exit id) fr H
  | .goto l, Q, fr, H => Q (.goto l) fr H
  | .label _, Q, fr, H => Q .normal fr H
  | .ret, Q, fr, H => Q .ret fr H
  | .loop c, Q, fr, H => AWp P N (.loop c) Q fr H
  | c, Q, fr, H => AWp P N c Q fr H

def vcK (P : Program) (N : Nat) (c : Code) (Q : Exit -> Fr -> Heap -> Prop) (fr : Fr) (H : Heap) : Prop := vc P N c Q fr H
section
variable (P : Program) (N : Nat) (Q : Exit -> Fr -> Heap -> Prop) (fr : Fr) (H : Heap)
theorem vc_skip : vc P N .skip Q fr H = Q .normal fr H := rfl
theorem vc_region (id : Nat) (ops : List Oper) : vc P N (.region id ops.toArray false) Q fr H = vops P N ops.toArray (Q .normal) ops fr H := rfl
theorem vc_draw (id : Nat) (ops : Array Oper) : vc P N (.region id ops true) Q fr H = AWp P N (.region id ops true) Q fr H := rfl
theorem vc_seq (x y : Code) : vc P N (.seq x y) Q fr H = vc P N x (thenA (vcK P N y Q) Q) fr H := rfl
theorem vc_cond (c : Operand) (x y : Code) : vc P N (.cond c x y) Q fr H = bindO (ev fr c) (condC (vcK P N x Q) (vcK P N y Q) fr H) := rfl
theorem vc_block (id : Nat) (c : Code) : vc P N (.block id c) Q fr H = vc P N c (blockA id Q) fr H := rfl
theorem vc_exit (id : Nat) : vc P N (.exit id) Q fr H = Q (.exit id) fr H := rfl
theorem vc_goto (l : Nat) : vc P N (.goto l) Q fr H = Q (.goto l) fr H := rfl
theorem vc_label (l : Nat) : vc P N (.label l) Q fr H = Q .normal fr H := rfl
theorem vc_ret : vc P N .ret Q fr H = Q .ret fr H := rfl
theorem vc_loop (c : Code) : vc P N (.loop c) Q fr H = AWp P N (.loop c) Q fr H := rfl
end

theorem vc_sound {P : Program} {N : Nat} : ∀ (c : Code) (Q : Exit -> Fr -> Heap -> Prop) (fr : Fr) (H : Heap), vc P N c Q fr H -> AWp P N c Q fr H := by
  intro c
  induction c with
  | skip => exact fun Q fr H h => .skip h
  | region id ops d =>
    intro Q fr H h
    cases d with
    | false => exact .region h
    | true => exact h
  | seq x y ihx ihy =>
    intro Q fr H h
    refine .seq ((ihx _ _ _ h).mono ?_)
    intro e f H' hq
    cases e with
    | normal => exact ihy _ _ _ hq
    | _ => exact hq
  | cond c x y ihx ihy =>
    intro Q fr H h
    obtain ⟨v, h1, h⟩ := h
    unfold condC at h
    split at h
    · exact .cond h1 (fun e => ihx _ _ _ (h.1 e)) (fun e => ihy _ _ _ (h.2 e))
    · exact h.elim
  | block id c ih => exact fun Q fr H h => .block (ih _ _ _ h)
  | exit id => exact fun Q fr H h => .exit h
  | goto l => exact fun Q fr H h => .goto h
  | label l => exact fun Q fr H h => .label h
  | ret => exact fun Q fr H h => .ret h
  | _ => exact fun Q fr H h => h

/-! Functions. -/

def resOne (P : Program) (fr : Fr) (H : Heap) : ResultVar -> Option Value
  | .tmp t => fr.get t
  | .cell a t => match fr.get a, ti P t with
    | some (.pointer (some ⟨i, off, none⟩)), some τ => match cellsAt H i off τ.size with
      | some cs => if aggT τ.desc = true then some (.agg cs.toArray) else (match cs with | [v] => some v | _ => none)
      | none => none
    | _, _ => none

def resAll (P : Program) (fr : Fr) (H : Heap) : List ResultVar -> Option (List Value)
  | [] => some []
  | r :: rs => match resOne P fr H r, resAll P fr H rs with
    | some v, some vs => some (v :: vs)
    | _, _ => none

def resV : List Value -> Value
  | [v] => v
  | vs => .tuple vs.toArray

def retC (Post : Value -> Heap -> Prop) (H : Heap) (vs : List Value) : Prop := Post (resV vs) H

def QRet (P : Program) (rs : List ResultVar) (Post : Value -> Heap -> Prop) : Exit -> Fr -> Heap -> Prop
  | .normal, fr, H => bindO (resAll P fr H rs) (retC Post H)
  | .ret, fr, H => bindO (resAll P fr H rs) (retC Post H)
  | _, _, _ => False

def argFr : Nat -> List Value -> Fr
  | _, [] => []
  | k, v :: vs => (k, v) :: argFr (k + 1) vs

theorem argFr_get : ∀ (vs : List Value) (k t : Nat) (v : Value), (argFr k vs).get t = some v -> k <= t /\ vs[t - k]? = some v
  | [], k, t, v, h => by simp [argFr, Fr.get] at h
  | u :: vs, k, t, v, h => by
    simp only [argFr, Fr.get] at h
    by_cases e : t = k
    · subst e; simp at h; subst h; simp
    · rw [if_neg e] at h
      obtain ⟨h1, h2⟩ := argFr_get vs (k + 1) t v h
      refine ⟨by omega, ?_⟩
      rw [show t - k = (t - (k + 1)) + 1 by omega]
      simpa using h2

def resSem (tmps : Array Value) : ResultVar -> Sem Value
  | .tmp t => pure (tmps.getD t undef)
  | .cell x t => do loadVar t (<- asAddr (tmps.getD x undef))

theorem results_eq (fn : Func) (tmps : Array Value) : results fn tmps = (do
    let vs <- fn.results.mapM (resSem tmps)
    pure (if h : vs.size = 1 then vs[0] else .tuple vs)) := by
  unfold results
  refine congrArg (fun f : ResultVar -> Sem Value => fn.results.mapM f >>= fun vs => pure (if h : vs.size = 1 then vs[0] else .tuple vs)) (funext fun r => ?_)
  cases r <;> rfl

theorem run_resOne {P : Program} {N B : Nat} {w0 : World} {ρ : Rho} {H : Heap} {w : World} {fr : Fr} {a : Act} (hR : R B w0 ρ H w) (hF : FR N ρ fr a) {r : ResultVar} {v : Value} (h : resOne P fr H r = some v) :
    ∃ cv, (resSem a.tmps r).run P w = .ok cv w /\ VR ρ v cv := by
  cases r with
  | tmp t => exact ⟨a.tmps.getD t undef, rfl, hF.get t v h⟩
  | cell x t =>
    simp only [resOne] at h
    split at h
    · rename_i i off τ hx ht
      split at h
      · rename_i cs hc
        obtain ⟨l, hl, he⟩ := (hF.get x _ hx).ptr_inv
        by_cases hag : aggT τ.desc = true
        · rw [if_pos hag] at h
          cases h
          obtain ⟨cv, h1, h2⟩ := hR.loadVar ht hc hl (v := .agg cs.toArray) (by rw [if_pos hag])
          exact ⟨cv, by simp [resSem, he, asAddr, h1], h2⟩
        · rw [if_neg hag] at h
          split at h
          · cases h
            obtain ⟨cv, h1, h2⟩ := hR.loadVar ht hc hl (v := v) (by rw [if_neg hag])
            exact ⟨cv, by simp [resSem, he, asAddr, h1], h2⟩
          · cases h
      · cases h
    · cases h

theorem run_results {P : Program} {N B : Nat} {w0 : World} {ρ : Rho} {H : Heap} {w : World} {fr : Fr} {a : Act} (hR : R B w0 ρ H w) (hF : FR N ρ fr a) : ∀ (rs : List ResultVar) (vs : List Value), resAll P fr H rs = some vs ->
    ∃ cs : List Value, (rs.mapM (resSem a.tmps)).run P w = .ok cs w /\ VRs ρ vs cs
  | [], vs, h => by simp only [resAll, Option.some.injEq] at h; subst h; exact ⟨[], by simp, VRs.nil _⟩
  | r :: rs, vs, h => by
    simp only [resAll] at h
    cases hr : resOne P fr H r with
    | none => simp [hr] at h
    | some v =>
      cases hrs : resAll P fr H rs with
      | none => simp [hr, hrs] at h
      | some us =>
        simp only [hr, hrs, Option.some.injEq] at h
        subst h
        obtain ⟨c, h1, h2⟩ := run_resOne hR hF hr
        obtain ⟨cs, h3, h4⟩ := run_results hR hF rs us hrs
        exact ⟨c :: cs, by simp only [List.mapM_cons, Sem.run_bind, h1, Result.andThen_ok, h3, Sem.run_pure], VRs.cons h2 h4⟩

theorem resV_rel {ρ : Rho} {vs cs : List Value} (h : VRs ρ vs cs) : VR ρ (resV vs) (resV cs) := by
  match vs, cs, h with
  | [], [], h => exact VR.tuple_of h
  | [v], [c], h => exact h.head
  | v :: u :: vs, c :: d :: cs, h => exact VR.tuple_of h
  | [], _ :: _, h => simp [VRs] at h
  | _ :: _, [], h => simp [VRs] at h
  | [_], _ :: _ :: _, h => simp [VRs] at h
  | _ :: _ :: _, [_], h => simp [VRs] at h

theorem FR.args {N : Nat} {ρ : Rho} {args cargs : List Value} (h : VRs ρ args cargs) (hl : args.length <= N) :
    FR N ρ (argFr 0 args) { tmps := cargs.toArray ++ Array.replicate (N - cargs.toArray.size) undef, defers := [] } := by
  refine ⟨rfl, by simp; have := h.1; omega, ?_⟩
  intro t v ht
  obtain ⟨_, h2⟩ := argFr_get args 0 t v ht
  simp only [Nat.sub_zero] at h2
  have hlt : t < cargs.length := by rw [<- h.1]; exact (List.getElem?_eq_some_iff.1 h2).1
  have : (cargs.toArray ++ Array.replicate (N - cargs.toArray.size) undef).getD t undef = cargs[t] := by
    rw [Array.getD_eq_getD_getElem?, Array.getElem?_append_left (by simpa using hlt)]
    simp [hlt]
  rw [this]
  exact h.2 t v _ h2 (List.getElem?_eq_getElem hlt)

theorem acalls_body {P : Program} {f : FuncId} {fn : Func} {c : Code} {args : List Value} {H : Heap} {Post : Value -> Heap -> Prop} (hf : P.funcs[f]? = some fn) (hb : fn.body = some c) (hname : (fn.name == "runtime.NumGoroutine") = false)
    (hl : args.length <= fn.ntmps) (h : AWp P fn.ntmps c (QRet P fn.results.toList Post) (argFr 0 args) H) : ACalls P f args H Post := by
  refine ⟨⟨fn, hf, by rw [hb]; rfl, hname⟩, ?_⟩
  intro B w0 ρ w cargs hR hv
  refine calls_of_wp hf hb (wp_mono (h B w0 ρ w _ hR (FR.args hv hl)) ?_)
  intro e a' w' hq
  obtain ⟨ρ', fr', H', h1, h2, h3, h4⟩ := hq
  have fin : ∀ vs, resAll P fr' H' fn.results.toList = some vs -> Post (resV vs) H' -> a'.defers = [] /\ ∃ v, (results fn a'.tmps).run P w' = .ok v w' /\ (∃ ρ' H' v_1 cv, Ending.returned v = .returned cv /\ ρ <+: ρ' /\ R B w0 ρ' H' w' /\ VR ρ' v_1 cv /\ Post v_1 H') := by
    intro vs hvs hp
    obtain ⟨cs, h5, h6⟩ := run_results h2 h3 _ _ hvs
    refine ⟨h3.defers, resV cs, ?_, ρ', H', resV vs, resV cs, rfl, h1, h2, resV_rel h6, hp⟩
    rw [results_eq, Sem.run_bind, Array.mapM_eq_mapM_toList, Sem.run_map, h5]
    simp only [Result.andThen_ok, Sem.run_pure]
    congr 1
    match cs with
    | [] => rfl
    | [c] => rfl
    | c :: d :: cs => simp [resV]
  cases e with
  | normal => obtain ⟨vs, h5, h6⟩ := h4; exact fin vs h5 h6
  | ret => obtain ⟨vs, h5, h6⟩ := h4; exact fin vs h5 h6
  | _ => exact h4.elim

theorem acalls_vc {P : Program} {f : FuncId} {fn : Func} {c : Code} {N : Nat} {rs : List ResultVar} {args : List Value} {H : Heap} {Post : Value -> Heap -> Prop} (hf : P.funcs[f]? = some fn) (hb : fn.body = some c) (hname : (fn.name == "runtime.NumGoroutine") = false)
    (hN : fn.ntmps = N) (hrs : fn.results.toList = rs) (hl : Nat.ble args.length N = true) (h : vc P N c (QRet P rs Post) (argFr 0 args) H) : ACalls P f args H Post := by
  subst hN
  subst hrs
  exact acalls_body hf hb hname (Nat.le_of_ble_eq_true hl) (vc_sound _ _ _ _ h)

attribute [go_sem] vc_skip vc_region vc_draw vc_seq vc_cond vc_block vc_exit vc_goto vc_label vc_ret vc_loop vcK vopsK vops_nil vops_cons vstep vop vbin vint vstr opShift setK thenA blockA argFr ev evs evParts Fr.get Fr.set Fr.put dstB gdst bindO_some andK_true condK_true condK_false closed closed0 guardC guardC2 condC retC QRet resAll resOne resV boundV lenV loadV aggT ofC pickC allocC boxC loadC3 loadC2 loadC heapC storeC3 storeC2 storeC nilC eqNilC ifNilC constO binI binC2 binC unC cvI2 cvI cvS3 cvS2 cvS convC fnC2 fnC mkC4 mkC3 mkC2 mkC slA slC4 slC3 slC2 slS3 slS2 slS slC1 slC faC4 faC3 faC2 faC fiC3 fiC2 fiC iaC4 iaC3 iaC2 iaC ixC4 ixB ixC3 ixC2 ixC exC buC2 buC bsC4 bsC3 bsC2 bsC callP callC2 callC lenC2 lenC capC2 capC minC maxC apC5 apC4 apC3 apC2 apC1 apC clC4 clC3 clC2 clC

end Go.Ab
end
