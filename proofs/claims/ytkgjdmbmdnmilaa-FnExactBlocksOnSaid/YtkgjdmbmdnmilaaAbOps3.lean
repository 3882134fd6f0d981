/- More operations of the model in abstract terms: addresses, slices, structs, calls. No statement of the seat is proved here; it holds for every program. -/
import Derived.Test.YtkgjdmbmdnmilaaAbOps2
set_option linter.all false
namespace Go.Ab
open Go.RowKit (Below)

section
variable {P : Program} {N : Nat} {o : Oper} {fr : Fr} {H : Heap} {K : Fr → Heap → Prop}

theorem run_underlying' {t : TypeId} {d : TypeDesc} (h : P.underlying t = some d) (w : World) : (underlying t).run P w = .ok d w := run_underlying h w

theorem ok_not {x : Operand} {ty : TypeId} (ho : o.op = .unOp .not ty x) {b : Bool} (hx : ev fr x = some (.bool b)) (hd : dstOK N o.dst) (hk : K (fr.put o.dst (.bool (!b))) H) : OpOK P N o fr H K :=
  opOK_same fun ρ w a hF => ⟨_, _, by simp [execOp, ho, (hF.ev hx).bool_inv, Op.unary], .bool _, hd, hk⟩

theorem ok_neg {x : Operand} {ty : TypeId} (ho : o.op = .unOp .neg ty x) {k : IntKind} {n : Int} (hx : ev fr x = some (.int k n)) (hd : dstOK N o.dst) (hk : K (fr.put o.dst (.int k (k.wrap (0 - n)))) H) : OpOK P N o fr H K :=
  opOK_same fun ρ w a hF => ⟨_, _, by simp [execOp, ho, (hF.ev hx).int_inv, Op.unary, Op.intArith], .int _ _, hd, hk⟩

theorem ok_convInt {x : Operand} {s t : TypeId} (ho : o.op = .convert s t x) {k k' : IntKind} {n : Int} {d : TypeDesc} (hs : P.underlying s = some d) (ht : P.underlying t = some (.int k')) (hx : ev fr x = some (.int k n)) (hd : dstOK N o.dst)
    (hk : K (fr.put o.dst (.int k' (k'.wrap n))) H) : OpOK P N o fr H K :=
  opOK_same fun ρ w a hF => ⟨_, _, by simp [execOp, ho, (hF.ev hx).int_inv, convert, run_underlying' hs, run_underlying' ht, Conv.intToInt], .int _ _, hd, hk⟩

theorem ok_makeFunc {g : FuncId} {first captured : Array Operand} (ho : o.op = .makeFunc (.func g) first captured) {vs us : List Value} (h1 : evs fr first.toList = some vs) (h2 : evs fr captured.toList = some us) (hd : dstOK N o.dst)
    (hk : K (fr.put o.dst (.func (.func g) vs.toArray us.toArray)) H) : OpOK P N o fr H K :=
  opOK_same fun ρ w a hF => by
    refine ⟨.func (.func g) (first.map a.eval) (captured.map a.eval), _, by simp [execOp, ho, Instr.makeFunc], VR.func_of ?_ ?_, hd, hk⟩
    · simpa using hF.evs h1
    · simpa using hF.evs h2

theorem ok_extract {x : Operand} {k : Nat} (ho : o.op = .extract x k) {vs : Array Value} (hx : ev fr x = some (.tuple vs)) {v : Value} (hv : vs.toList[k]? = some v) (hd : dstOK N o.dst) (hk : K (fr.put o.dst v) H) : OpOK P N o fr H K :=
  opOK_same fun ρ w a hF => by
    obtain ⟨ys, he, hr⟩ := (hF.ev hx).tuple_inv
    have hlt : k < ys.toList.length := by rw [← hr.1]; exact (List.getElem?_eq_some_iff.1 hv).1
    have hy : ys.toList[k]? = some ys.toList[k] := List.getElem?_eq_getElem hlt
    refine ⟨ys.toList[k], v, ?_, hr.2 k v _ hv hy, hd, hk⟩
    have : ys[k]? = some ys.toList[k] := by simpa using hy
    simp [execOp, ho, he, Instr.extract, this]

theorem ok_fieldAddr {s : TypeId} {x : Operand} {k : Nat} (ho : o.op = .fieldAddr s x k) {fs : Array Field} (hs : P.underlying s = some (.struct fs)) {f : Field} (hf : fs[k]? = some f) {i off : Nat}
    (hx : ev fr x = some (.pointer (some ⟨i, off, none⟩))) {τ : TI} (ht : ti P f.type = some τ) (h0 : τ.size ≠ 0) (hd : dstOK N o.dst) (hk : K (fr.put o.dst (.pointer (some ⟨i, off + f.offset, none⟩))) H) : OpOK P N o fr H K :=
  opOK_same fun ρ w a hF => by
    obtain ⟨l, hl, he⟩ := (hF.ev hx).ptr_inv
    obtain ⟨ii, hu, hi, hsz, _, _, _⟩ := ti_inv ht
    refine ⟨.pointer (some ⟨l.blk, l.off + (off + f.offset), none⟩), _, ?_, .ptr _ _ _ hl, hd, hk⟩
    simp [execOp, ho, he, Instr.fieldAt, run_underlying' hs, hf, Instr.sureAddr, fieldPlace, sizeOf, typeInfo, hi, hsz, h0, add_zero_addr, Nat.add_assoc]

/-- A part of a struct or of an array that lies in some cells. -/
def partV (P : Program) (t : TypeId) (cs : List Value) (off : Nat) : Option Value :=
  match ti P t with
  | some τ => if aggT τ.desc then some (.agg ((cs.drop off).take τ.size).toArray) else cs[off]?
  | none => none

theorem run_partV {t : TypeId} {cs : List Value} {off : Nat} {v : Value} (h : partV P t cs off = some v) {ρ : Rho} {ds : Array Value} (hr : VRs ρ cs ds.toList) (w : World) :
    ∃ cv, (part t ds off).run P w = .ok cv w ∧ VR ρ v cv := by
  unfold partV at h
  cases ht : ti P t with
  | none => simp [ht] at h
  | some τ =>
    obtain ⟨ii, hu, hi, hsz, _, _, _⟩ := ti_inv ht
    simp only [ht] at h
    have hla := run_isAgg hu w
    by_cases hag : aggT τ.desc = true
    · rw [if_pos hag] at h
      cases h
      refine ⟨.agg (ds.extract off (off + τ.size)), by simp [part, hla, hag, sizeOf, typeInfo, hi, hsz], VR.agg_of ?_⟩
      have e : (ds.extract off (off + τ.size)).toList = (ds.toList.drop off).take τ.size := by simp [List.extract_eq_take_drop]
      rw [e]
      refine ⟨by simp [hr.1], fun i u x hu hx => ?_⟩
      simp only [List.toList_toArray, List.getElem?_take, List.getElem?_drop] at hu hx
      split at hu
      · rename_i hlt; rw [if_pos hlt] at hx; exact hr.2 _ u x hu hx
      · cases hu
    · rw [if_neg hag] at h
      have hlt : off < ds.toList.length := by rw [← hr.1]; exact (List.getElem?_eq_some_iff.1 h).1
      have hd : ds.toList[off]? = some ds.toList[off] := List.getElem?_eq_getElem hlt
      refine ⟨ds.toList[off], ?_, hr.2 off v _ h hd⟩
      have : ds[off]? = some ds.toList[off] := by simpa using hd
      simp [part, hla, hag, this]

theorem ok_field {s : TypeId} {x : Operand} {k : Nat} (ho : o.op = .field s x k) {fs : Array Field} (hs : P.underlying s = some (.struct fs)) {f : Field} (hf : fs[k]? = some f) {xs : Array Value} (hx : ev fr x = some (.agg xs))
    {v : Value} (hv : partV P f.type xs.toList f.offset = some v) (hd : dstOK N o.dst) (hk : K (fr.put o.dst v) H) : OpOK P N o fr H K :=
  opOK_same fun ρ w a hF => by
    obtain ⟨ys, he, hr⟩ := (hF.ev hx).agg_inv
    obtain ⟨cv, hrun, hvr⟩ := run_partV (P := P) hv hr w
    exact ⟨cv, v, by simp [execOp, ho, he, Instr.field, run_underlying' hs, hf, asAgg, hrun], hvr, hd, hk⟩

theorem ok_indexAddrArr {t : TypeId} {x y : Operand} (ho : o.op = .indexAddr t x y) {n : Nat} {te : TypeId} (ht : P.underlying t = some (.array n te)) {τ : TI} (hte : ti P te = some τ) {i off : Nat} (hx : ev fr x = some (.pointer (some ⟨i, off, none⟩)))
    {k : IntKind} {j : Int} (hy : ev fr y = some (.int k j)) (h0 : 0 ≤ j) (h1 : j < n) (hd : dstOK N o.dst) (hk : K (fr.put o.dst (.pointer (some ⟨i, off + j.toNat * τ.size, none⟩))) H) : OpOK P N o fr H K :=
  opOK_same fun ρ w a hF => by
    obtain ⟨l, hl, he⟩ := (hF.ev hx).ptr_inv
    obtain ⟨ii, hu, hi, hsz, _, _, _⟩ := ti_inv hte
    refine ⟨.pointer (some ⟨l.blk, l.off + (off + j.toNat * τ.size), none⟩), _, ?_, .ptr _ _ _ hl, hd, hk⟩
    simp [execOp, ho, he, (hF.ev hy).int_inv, Instr.indexAt, asIntOf, run_underlying' ht, Instr.sureAddr, h0, h1, sizeOf, typeInfo, hi, hsz, add_zero_addr, Nat.add_assoc]

theorem ok_indexAddrSl {t : TypeId} {x y : Operand} (ho : o.op = .indexAddr t x y) {te : TypeId} (ht : P.underlying t = some (.slice te)) {τ : TI} (hte : ti P te = some τ) {i off n c : Nat} {sp : Option Nat} (hx : ev fr x = some (.slice (some ⟨i, off, sp⟩) n c))
    {k : IntKind} {j : Int} (hy : ev fr y = some (.int k j)) (h0 : 0 ≤ j) (h1 : j < n) (hd : dstOK N o.dst) (hk : K (fr.put o.dst (.pointer (some ⟨i, off + j.toNat * τ.size, none⟩))) H) : OpOK P N o fr H K :=
  opOK_same fun ρ w a hF => by
    obtain ⟨ii, hu, hi, hsz, _, _, _⟩ := ti_inv hte
    have hn : n ≠ 0 := by omega
    have hv := hF.ev hx
    have hex : ∃ (l : Loc) (c' : Nat), ρ[i]? = some l ∧ a.eval x = .slice (some ⟨l.blk, l.off + off, none⟩) n c' := by
      generalize a.eval x = cx at hv
      cases hv with
      | sliceEx _ _ _ l hl => exact ⟨l, n, hl, rfl⟩
      | sliceUnk _ _ e _ o' c' l hl h2 h3 h4 =>
        have : o' = l.off + off := by rcases h2 with h2 | h2; exact h2; exact absurd h2.1 hn
        subst this
        exact ⟨l, c', hl, rfl⟩
      | sliceZero => exact absurd rfl hn
    obtain ⟨l, c', hl, he⟩ := hex
    refine ⟨.pointer (some ⟨l.blk, l.off + (off + j.toNat * τ.size), none⟩), _, ?_, .ptr _ _ _ hl, hd, hk⟩
    simp [execOp, ho, he, (hF.ev hy).int_inv, Instr.indexAt, asIntOf, run_underlying' ht, h0, h1, sizeOf, typeInfo, hi, hsz, add_zero_addr, Nat.add_assoc]

theorem ok_indexArr {t : TypeId} {x y : Operand} (ho : o.op = .index t x y) {n : Nat} {te : TypeId} (ht : P.underlying t = some (.array n te)) {τ : TI} (hte : ti P te = some τ) {xs : Array Value} (hx : ev fr x = some (.agg xs))
    {k : IntKind} {j : Int} (hy : ev fr y = some (.int k j)) (h0 : 0 ≤ j) (h1 : j < n) {v : Value} (hv : partV P te xs.toList (j.toNat * τ.size) = some v) (hd : dstOK N o.dst) (hk : K (fr.put o.dst v) H) : OpOK P N o fr H K :=
  opOK_same fun ρ w a hF => by
    obtain ⟨ys, he, hr⟩ := (hF.ev hx).agg_inv
    obtain ⟨ii, hu, hi, hsz, _, _, _⟩ := ti_inv hte
    obtain ⟨cv, hrun, hvr⟩ := run_partV (P := P) hv hr w
    exact ⟨cv, v, by simp [execOp, ho, he, (hF.ev hy).int_inv, Instr.index, asIntOf, run_underlying' ht, h0, h1, sizeOf, typeInfo, hi, hsz, hrun], hvr, hd, hk⟩

theorem ok_indexStr {t : TypeId} {x y : Operand} (ho : o.op = .index t x y) (ht : P.underlying t = some .string) {s : ByteArray} (hx : ev fr x = some (.string s))
    {k : IntKind} {j : Int} (hy : ev fr y = some (.int k j)) (h0 : 0 ≤ j) {b : UInt8} (hv : s[j.toNat]? = some b) (hd : dstOK N o.dst) (hk : K (fr.put o.dst (.int .u8 b.toNat)) H) : OpOK P N o fr H K :=
  opOK_same fun ρ w a hF =>
    ⟨_, _, by simp [execOp, ho, (hF.ev hx).string_inv, (hF.ev hy).int_inv, Instr.index, asIntOf, run_underlying' ht, h0, hv], .int _ _, hd, hk⟩

/-- A slice taken of a slice. -/
def sliceV (H : Heap) (e : Nat) (v : Value) (lo : Nat) (hi : Nat) : Option Value :=
  match v with
  | .slice none 0 0 => if lo = 0 ∧ hi = 0 then some (.slice none 0 0) else none
  | .slice (some ⟨i, o, some e'⟩) n _ => if e' = e ∧ lo ≤ hi ∧ hi ≤ n then some (.slice (some ⟨i, o + lo * e, some e⟩) (hi - lo) (hi - lo)) else none
  | .slice (some ⟨i, o, none⟩) n _ =>
    if lo ≤ hi ∧ hi = n then (if lo = n then some (.slice (some ⟨i, o, none⟩) 0 0) else some (.slice (some ⟨i, o + lo * e, none⟩) (n - lo) (n - lo)))
    else if lo ≤ hi ∧ hi < n ∧ 0 < e ∧ (cellsAt H i o (n * e)).isSome = true then some (.slice (some ⟨i, o + lo * e, some e⟩) (hi - lo) (hi - lo)) else none
  | _ => none

/-- The numbers of a slice expression's bounds. -/
def boundV (fr : Fr) (d : Nat) : Option Operand → Option Int
  | none => some d
  | some x => match ev fr x with
    | some (.int _ j) => some j
    | _ => none

def lenV : Value → Nat
  | .slice _ n _ => n
  | _ => 0

theorem R.sliceV {B : Nat} {w0 : World} {ρ : Rho} {w : World} (hR : R B w0 ρ H w) {e : Nat} {v v' : Value} {lo hi : Nat} (h : Ab.sliceV H e v lo hi = some v') {cv : Value} (hv : VR ρ v cv) :
    ∃ a n c, cv = .slice a n c ∧ lo ≤ hi ∧ hi ≤ n ∧ n ≤ c ∧ n = lenV v ∧ VR ρ v' (.slice (if c = lo then a else a.map (·.add (lo * e))) (hi - lo) (c - lo)) := by
  cases hv with
  | sliceNil =>
    simp only [Ab.sliceV] at h
    split at h
    · rename_i hc
      obtain ⟨rfl, rfl⟩ := hc
      cases h
      exact ⟨none, 0, 0, rfl, by omega, by omega, by omega, rfl, by simpa using VR.sliceNil⟩
    · cases h
  | sliceUnk i off e' n o' c l hl h1 h2 h3 =>
    simp only [Ab.sliceV] at h
    split at h
    · rename_i hc
      obtain ⟨rfl, hc1, hc2⟩ := hc
      cases h
      refine ⟨_, n, c, rfl, hc1, hc2, h2, rfl, ?_⟩
      by_cases hcl : c = lo
      · rw [if_pos hcl]
        refine .sliceUnk _ _ _ _ _ _ l hl (.inr ⟨by omega, by omega⟩) (by omega) ?_
        have : (c - lo) * e' = 0 := by rw [hcl]; simp
        rw [this]
        have : 0 ≤ c * e' := Nat.zero_le _
        omega
      · rw [if_neg hcl]
        simp only [Option.map_some, add_zero_addr]
        refine .sliceUnk _ _ _ _ _ _ l hl (.inl ?_) (by omega) ?_
        · rcases h1 with h1 | h1
          · omega
          · omega
        · have : (c - lo) * e' = c * e' - lo * e' := Nat.sub_mul _ _ _
          have : lo * e' ≤ c * e' := Nat.mul_le_mul_right _ (by omega)
          omega
    · cases h
  | sliceZero i off e' a =>
    simp only [Ab.sliceV] at h
    split at h
    · rename_i hc
      obtain ⟨rfl, hc1, hc2⟩ := hc
      cases h
      obtain rfl : hi = 0 := by omega
      obtain rfl : lo = 0 := by omega
      exact ⟨a, 0, 0, rfl, by omega, by omega, by omega, rfl, by simpa using VR.sliceZero _ _ _ _⟩
    · cases h
  | sliceEx i off n l hl =>
    simp only [Ab.sliceV] at h
    split at h
    · rename_i hc
      obtain ⟨hc1, rfl⟩ := hc
      refine ⟨_, hi, hi, rfl, hc1, Nat.le_refl _, Nat.le_refl _, rfl, ?_⟩
      by_cases hcl : lo = hi
      · rw [if_pos hcl] at h
        cases h
        subst hcl
        simpa using VR.sliceEx _ _ 0 l hl
      · rw [if_neg hcl] at h
        cases h
        rw [if_neg (fun e => hcl e.symm)]
        simp only [Option.map_some, add_zero_addr, Nat.add_assoc]
        exact .sliceEx _ _ _ l hl
    · split at h
      · rename_i hc
        obtain ⟨hc1, hc2, hc3, hc4⟩ := hc
        cases h
        refine ⟨_, n, n, rfl, hc1, by omega, Nat.le_refl _, rfl, ?_⟩
        rw [if_neg (by omega)]
        simp only [Option.map_some, add_zero_addr]
        refine .sliceUnk _ _ _ _ _ _ l hl (.inl (by omega)) (by omega) ?_
        obtain ⟨cs, hcs⟩ := Option.isSome_iff_exists.1 hc4
        obtain ⟨b, hb, hbl, hn, _⟩ := cellsAt_inv hcs
        obtain ⟨cur, el, fz, hg, hsz, hcell, _⟩ := hR.blk i b l hb hl hbl
        have hpos : 0 < n * e := Nat.mul_pos (by omega) hc3
        obtain ⟨_, cv, hcv, _⟩ := hcell (off + n * e - 1) _ (List.getElem?_eq_getElem (by omega))
        have := (Array.getElem?_eq_some_iff.1 hcv).1
        have : (n - lo) * e = n * e - lo * e := Nat.sub_mul _ _ _
        have : lo * e ≤ n * e := Nat.mul_le_mul_right _ (by omega)
        omega
      · cases h
  | _ => simp [Ab.sliceV] at h

theorem boundV_some {fr : Fr} {d : Nat} {x : Operand} {j : Int} (h : boundV fr d (some x) = some j) : ∃ k, ev fr x = some (.int k j) := by
  simp only [boundV] at h
  split at h
  · rename_i k n hx; cases h; exact ⟨k, hx⟩
  · cases h

theorem run_sliceBound (w : World) {k : IntKind} {j : Int} {y : Nat} {c : BoundsCode} (h0 : 0 ≤ j) (h1 : j ≤ y) : (Instr.sliceBound (.int k j) y c).run P w = .ok j.toNat w := by
  simp [Instr.sliceBound, asIntOf, h0, h1]

theorem ok_slice {t : TypeId} {x : Operand} {lo hi : Option Operand} (ho : o.op = .slice t x lo hi none) {te : TypeId} (ht : P.underlying t = some (.slice te)) {τ : TI} (hte : ti P te = some τ) {v : Value} (hx : ev fr x = some v)
    {l h : Int} (hl : boundV fr 0 lo = some l) (hh : boundV fr (lenV v) hi = some h) (h0 : 0 ≤ l) (h1 : 0 ≤ h) {v' : Value} (hv : sliceV H τ.size v l.toNat h.toNat = some v') (hd : dstOK N o.dst) (hk : K (fr.put o.dst v') H) : OpOK P N o fr H K :=
  opOK_value fun B w0 ρ w a hR hF => by
    obtain ⟨ii, hu, hi', hsz, _, _, _⟩ := ti_inv hte
    obtain ⟨ad, n, c, he, hlh, hhn, hnc, hlen, hvr⟩ := hR.sliceV hv (hF.ev hx)
    refine ⟨_, w, ρ, H, v', ?_, List.prefix_refl _, hR, hvr, hd, hk⟩
    have e1 : ∀ y : Nat, h ≤ y → h.toNat ≤ y := fun y hy => by omega
    cases lo with
    | none =>
      simp only [boundV, Option.some.injEq] at hl
      subst hl
      cases hi with
      | none =>
        simp only [boundV, Option.some.injEq] at hh
        subst hh
        subst hlen
        simp [execOp, ho, he, Instr.sliceAt, run_underlying' ht, Instr.slice, Instr.sliceBounds, sizeOf, typeInfo, hi', hsz]
      | some y =>
        obtain ⟨k, hy⟩ := boundV_some hh
        have hb : ∀ cd, (Instr.sliceBound (.int k h) c cd).run P w = .ok h.toNat w := fun cd => run_sliceBound w h1 (by omega)
        simp [execOp, ho, he, (hF.ev hy).int_inv, Instr.sliceAt, run_underlying' ht, Instr.slice, Instr.sliceBounds, hb, sizeOf, typeInfo, hi', hsz]
    | some z =>
      obtain ⟨k', hz⟩ := boundV_some hl
      cases hi with
      | none =>
        simp only [boundV, Option.some.injEq] at hh
        subst hh
        subst hlen
        have hb' : ∀ cd, (Instr.sliceBound (.int k' l) (lenV v) cd).run P w = .ok l.toNat w := fun cd => run_sliceBound w h0 (by simp at hlh; omega)
        simp [execOp, ho, he, (hF.ev hz).int_inv, Instr.sliceAt, run_underlying' ht, Instr.slice, Instr.sliceBounds, hb', sizeOf, typeInfo, hi', hsz]
      | some y =>
        obtain ⟨k, hy⟩ := boundV_some hh
        have hb : ∀ cd, (Instr.sliceBound (.int k h) c cd).run P w = .ok h.toNat w := fun cd => run_sliceBound w h1 (by omega)
        have hb' : ∀ cd, (Instr.sliceBound (.int k' l) h.toNat cd).run P w = .ok l.toNat w := fun cd => run_sliceBound w h0 (by omega)
        simp [execOp, ho, he, (hF.ev hy).int_inv, (hF.ev hz).int_inv, Instr.sliceAt, run_underlying' ht, Instr.slice, Instr.sliceBounds, hb, hb', sizeOf, typeInfo, hi', hsz]

end
end Go.Ab
