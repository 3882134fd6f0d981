/- Part 5 of what the proof of the law FnExactParseSystem rests on: contracts of functions of the program, for every argument that each names; no statement of the seat is proved here. -/
import Derived.Sort.LotA
import Derived.Sort.LotD3
import Derived.Sort.LotB
import Derived.Sort.LotC
import Derived.HandedShaped
import Derived.Test.YtkimaohcmcfcnaaDoorRows
import Derived.Shelf.Vars
import Derived.MakeChecks
import Derived.LaidMore
import Derived.Stop.LaidErr
import Derived.Test.YtkimaohcmcfcnaaDoorFnExactParseSystemPart4

set_option linter.all false
set_option maxRecDepth 20000
set_option maxHeartbeats 8000000
section
namespace Go.Ab
open Go.RowKit (Below)

section
variable {P : Program} {N : Nat} {ops : Array Oper} {K : Fr -> Heap -> Prop} {fs : List Nat}

inductive Tree
  | nil
  | one (i : Nat) (fl : Bool) (t : Tree)
  | two (i : Nat) (fl : Bool) (t : Tree) (f : Nat) (t' : Tree)

def vT (P : Program) (N : Nat) (ops : Array Oper) (K : Fr -> Heap -> Prop) : Tree -> Fr -> Heap -> Prop
  | .nil, fr, H => K fr H
  | .one i fl t, fr, H => match ops[i]? with
    | none => False
    | some o => match isR o.op with
      | true => vstep P N ops o (vT P N ops K t) fr H
      | false => vstep P N ops o (eK fl H (vT P N ops K t)) fr H
  | .two i fl t f t', fr, H => match ops[i]?, ops[f]? with
    | some o, some o' => vstep P N ops o (eK fl H (vT P N ops K t)) fr H /\ vstep P N ops o' (eK true H (vT P N ops K t')) fr H
    | _, _ => False
/-! The words of such a tree, for simp. -/

def vTK (P : Program) (N : Nat) (ops : Array Oper) (K : Fr -> Heap -> Prop) (t : Tree) (fr : Fr) (H : Heap) : Prop := vT P N ops K t fr H
def eTK (P : Program) (N : Nat) (ops : Array Oper) (K : Fr -> Heap -> Prop) (t : Tree) (fl : Bool) (H : Heap) (fr : Fr) (H' : Heap) : Prop :=
  match fl with
  | true => andK (H <+: H') (vT P N ops K t fr H')
  | false => vT P N ops K t fr H'
def vTo (P : Program) (N : Nat) (ops : Array Oper) (K : Fr -> Heap -> Prop) (t : Tree) (fl : Bool) (fr : Fr) (H : Heap) (o : Oper) : Prop :=
  match isR o.op with
  | true => vstep P N ops o (vTK P N ops K t) fr H
  | false => vstep P N ops o (eTK P N ops K t fl H) fr H
def vTe (P : Program) (N : Nat) (ops : Array Oper) (K : Fr -> Heap -> Prop) (t : Tree) (fl : Bool) (fr : Fr) (H : Heap) (o : Oper) : Prop := vstep P N ops o (eTK P N ops K t fl H) fr H

theorem vT_nil (K : Fr -> Heap -> Prop) (fr : Fr) (H : Heap) : vT P N ops K .nil fr H = K fr H := rfl
theorem eTK_eq (K : Fr -> Heap -> Prop) (t : Tree) (fl : Bool) (H : Heap) : eK fl H (vT P N ops K t) = eTK P N ops K t fl H := by
  funext f h
  cases fl <;> rfl
theorem vT_one (K : Fr -> Heap -> Prop) (i : Nat) (fl : Bool) (t : Tree) (fr : Fr) (H : Heap) : vT P N ops K (.one i fl t) fr H = bindO ops[i]? (vTo P N ops K t fl fr H) := by
  simp only [vT]
  cases ops[i]? with
  | none => simp [bindO]
  | some o =>
    simp only [bindO_some, vTo]
    cases isR o.op with
    | true => rfl
    | false => simp only [eTK_eq]
attribute [go_sem] vTK eTK vTo vTe vT_nil vT_one

end
end Go.Ab
end

section
namespace Go.Ab
open Go.RowKit (Below)

def exitA (id : Nat) (K : Fr -> Heap -> Prop) (Q : Exit -> Fr -> Heap -> Prop) : Exit -> Fr -> Heap -> Prop
  | .normal => Q .normal
  | .exit i => fun fr H => (i = id /\ K fr H) \/ (i ≠ id /\ Q (.exit i) fr H)
  | .goto l => Q (.goto l)
  | .ret => Q .ret
  | .panic c => Q (.panic c)
  | .outgrown => Q .outgrown
attribute [go_sem] exitA

section
variable {P : Program} {N : Nat} {H : Heap} {fr : Fr} {Q : Exit -> Fr -> Heap -> Prop}

end
end Go.Ab
end

section
namespace Go.Ab
open Go.Sort

section
variable {α : Type} {cells : α -> List Value} {w : Nat}

theorem same_set {H : Heap} {id : Nat} {b : Blk} : Same (fun j => j = id) H (H.set id b) := ⟨by simp, fun j hj hS => List.getElem?_set_ne (fun e => hS e.symm)⟩
end

end Go.Ab
end

section
namespace Go.Ab

theorem boxLate {Hz Hn : Heap} {id : Nat} {zs cs : List Value} (hz : Hz[id]? = some ⟨zs, true, true⟩) (hp : Hz <+: Hn) (hl : zs.length = cs.length) (ho : cs.all Value.oneCell' = true) :
    storeAt Hn id 0 cs = some (Hn.set id ⟨cs, true, true⟩) /\ Holds (Hn.set id ⟨cs, true, true⟩) id cs /\ Same (fun j => j = id) Hn (Hn.set id ⟨cs, true, true⟩) /\ (Hn.set id ⟨cs, true, true⟩).length = Hn.length := by
  have hb := pget hp hz
  refine ⟨?_, ⟨true, List.getElem?_set_self (List.getElem?_eq_some_iff.1 hb).1⟩, same_set, by simp⟩
  rw [storeAt_of hb rfl rfl (by simp [hl]) ho]
  congr 3
  simp [over, hl]

end Go.Ab
end

section
namespace Go.Ab

def LV (A : Nat -> Prop) (H : Heap) (v : Value) (bs : List Bk) : Prop :=
  (bs = [] /\ (v = .slice none 0 0 \/ ∃ id, v = .slice (some ⟨id, 0, none⟩) 0 0 /\ H[id]? = some ⟨[], true, true⟩ /\ A id)) \/ ∃ id, v = lv 3 id 0 bs.length /\ OL 3 H id (tri bs) bs.length /\ A id
theorem LV.one {A : Nat -> Prop} {H : Heap} {v : Value} {bs : List Bk} (h : LV A H v bs) : v.oneCell' = true := by
  rcases h with ⟨_, rfl | ⟨id, rfl, _⟩⟩ | ⟨id, rfl, _⟩ <;> rfl
theorem LV.shape {A : Nat -> Prop} {H : Heap} {v : Value} {bs : List Bk} (h : LV A H v bs) : ∃ ax n c, v = .slice ax n c /\ n = bs.length := by
  rcases h with ⟨h0, rfl | ⟨id, rfl, _⟩⟩ | ⟨id, rfl, _⟩
  · exact ⟨_, _, _, rfl, by rw [h0]; rfl⟩
  · exact ⟨_, _, _, rfl, by rw [h0]; rfl⟩
  · exact ⟨_, _, _, rfl, rfl⟩
theorem LV.keep {A : Nat -> Prop} {H H' : Heap} {v : Value} {bs : List Bk} (h : LV A H v bs) {S : Nat -> Prop} (hs : Same S H H') (hd : ∀ j, A j -> ¬ S j) : LV A H' v bs := by
  rcases h with ⟨h0, rfl | ⟨id, rfl, h1, h2⟩⟩ | ⟨id, rfl, h1, h2⟩
  · exact .inl ⟨h0, .inl rfl⟩
  · exact .inl ⟨h0, .inr ⟨id, rfl, hs.get h1 (hd _ h2), h2⟩⟩
  · exact .inr ⟨id, rfl, h1.keep hs (hd _ h2), h2⟩
theorem LV.push {A : Nat -> Prop} {H : Heap} {v : Value} {bs : List Bk} (h : LV A H v bs) (hA : ∀ j, H.length <= j -> A j) (b : Bk) :
    cellsAt (H ++ [⟨b.cells, true, true⟩]) H.length 0 3 = some b.cells /\ ∃ v' H3, appendH (H ++ [⟨b.cells, true, true⟩]) 3 v 1 b.cells = some (v', H3) /\ LV A H3 v' (bs ++ [b]) /\ Same A H H3 /\ H3.length = H.length + 2 := by
  have hc : cellsAt (H ++ [(⟨b.cells, true, true⟩ : Blk)]) H.length 0 3 = some b.cells := by
    rw [cellsAt_of (b := ⟨b.cells, true, true⟩) (by simp) rfl (by simp [Bk.cells])]
    simp [Bk.cells]
  refine ⟨hc, ?_⟩
  have ht : tri [b] = b.cells := tri_one b
  have fresh : ∀ K : Heap, K = H ++ [⟨b.cells, true, true⟩] -> LV A (K ++ [⟨b.cells, true, true⟩]) (lv 3 K.length 0 1) [b] /\ Same A H (K ++ [⟨b.cells, true, true⟩]) /\ (K ++ [(⟨b.cells, true, true⟩ : Blk)]).length = H.length + 2 := by
    rintro K rfl
    refine ⟨.inr ⟨_, rfl, ⟨by rw [ht]; rfl, .inr (by rw [ht]; simp)⟩, hA _ (by simp)⟩, Same.of_prefix ((List.prefix_append _ _).trans (List.prefix_append _ _)), by simp⟩
  rcases h with ⟨rfl, rfl | ⟨id, rfl, h1, h2⟩⟩ | ⟨id, rfl, h1, h2⟩
  · obtain ⟨f1, f2, f3⟩ := fresh _ rfl
    exact ⟨_, _, by simp [appendH], f1, f2, f3⟩
  · obtain ⟨f1, f2, f3⟩ := fresh _ rfl
    have hid := (List.getElem?_eq_some_iff.1 h1).1
    have hc0 : cellsAt (H ++ [(⟨b.cells, true, true⟩ : Blk)]) id 0 0 = some [] := by
      rw [cellsAt_of (b := ⟨[], true, true⟩) (by rw [List.getElem?_append_left hid]; exact h1) rfl (by simp)]; simp
    exact ⟨_, _, by simp [appendH, hc0], f1, f2, f3⟩
  · obtain ⟨_, H3, g1, g2, g3, g4⟩ := h1.push (by omega) (xs := b.cells) rfl
    refine ⟨_, H3, g1, .inr ⟨_, by rw [List.length_append]; rfl, by rw [tri_append, ht, List.length_append]; exact g2, hA _ (by omega)⟩, g3.mono (fun j _ e => by subst e; exact h2), g4⟩

def blk3 (x y z : UInt8) : Bk := ⟨(x.toNat : Int) - 97, (y.toNat : Int) - 97, (z.toNat : Int) - 97⟩
def toBk : List UInt8 -> Bk
  | [x, y, z] => blk3 x y z
  | _ => ⟨0, 0, 0⟩
theorem len3 {s : List UInt8} (h : s.length = 3) : ∃ x y z, s = [x, y, z] := by
  match s, h with
  | [x, y, z], _ => exact ⟨x, y, z, rfl⟩
end Go.Ab

namespace Go.Proofs.YtkimaohcmcfcnaaDoor
open Go.Ab

def cellsK (b : Bk) : Nat -> List Value
  | 0 => [.int .i64 0, .int .i64 0, .int .i64 0]
  | 1 => [.int .i64 b.a, .int .i64 0, .int .i64 0]
  | 2 => [.int .i64 b.a, .int .i64 b.b, .int .i64 0]
  | _ => b.cells

theorem lvUp {A : Nat -> Prop} {L : Nat} {H : Heap} {v : Value} {bs : List Bk} (h : LV A H v bs) (hA : ∀ j, A j -> L <= j) (hl : bs.length <= 1048576) : ∃ w, Up H v w /\ BlocksIn L H.length H w bs := by
  rcases h with ⟨rfl, rfl | ⟨id, rfl, h1, h2⟩⟩ | ⟨id, rfl, h1, h2⟩
  · exact ⟨lv 3 0 0 0, Up.nil _ _ _ _, BlocksIn.nil _ _ _⟩
  · exact ⟨lv 3 0 0 0, Up.ex0 _ _ _ _ _ _, BlocksIn.nil _ _ _⟩
  · refine ⟨_, Up.refl _ _, id, ⟨rfl, ?_, by omega⟩, fun _ => ⟨hA _ h2, h1.lt⟩⟩
    rcases h1.2 with ⟨h0, _⟩ | h'
    · exact .inl (List.eq_nil_of_length_eq_zero h0)
    · exact .inr h'
theorem readBlock_ok {H : Heap} {s : List UInt8} (hs : s.length <= 1048576) (Post : Value -> Heap -> Prop)
    (h0 : s.length ≠ 3 -> ∀ H', H <+: H' -> Post (.tuple #[.agg #[.int .i64 0, .int .i64 0, .int .i64 0], .bool false]) H')
    (h1 : s.length = 3 -> ∀ H', H <+: H' -> Post (.tuple #[(toBk s).val, .bool (good 15 (toBk s))]) H') : ACalls Tryd.prog 25 [.string (bstr s)] H Post := by
  refine acalls_vc (rs := [.cell 2 54, .tmp 3]) Tryd.func25 rfl rfl Tryd.ntmps25 rfl rfl ?_
  have hsz := bstr_size s
  by_cases h3 : s.length = 3
  · obtain ⟨x, y, z, rfl⟩ := len3 h3
    have hsz' : (bstr [x, y, z]).size = 3 := hsz
    simp (maxSteps := 1000000) [go_sem, hsz']
    refine AWp.loopVc (St := Nat) (fun k => [(0, .string (bstr [x, y, z])), (2, .pointer (some ⟨H.length, 0, none⟩)), (4, .pointer (some ⟨H.length + 1, 0, none⟩)), (10, .int .i64 k)])
      (fun k H' => k <= 3 /\ H' = H ++ [⟨[.int .i64 0, .int .i64 0, .int .i64 0], true, true⟩, ⟨cellsK (blk3 x y z) k, true, true⟩]) (fun k => 3 - k) 0 ?_ ?_ ?_
    · simp [upF, Fr.get, Up.refl]
    · exact ⟨by simp, rfl⟩
    have b1 := x.toNat_lt
    have b2 := y.toNat_lt
    have b3 := z.toNat_lt
    have k1 := i64w (n := (x.toNat : Int)) (by omega) (by omega)
    have k2 := i64w (n := (y.toNat : Int)) (by omega) (by omega)
    have k3 := i64w (n := (z.toNat : Int)) (by omega) (by omega)
    have k4 := i64w (n := (x.toNat : Int) - 97) (by omega) (by omega)
    have k5 := i64w (n := (y.toNat : Int) - 97) (by omega) (by omega)
    have k6 := i64w (n := (z.toNat : Int) - 97) (by omega) (by omega)
    have w1 := i64w (n := 1) (by omega) (by omega)
    have w2 := i64w (n := 2) (by omega) (by omega)
    have w3 := i64w (n := 3) (by omega) (by omega)
    rintro K k H' ⟨hk, rfl⟩ hK
    have hc : k = 0 \/ k = 1 \/ k = 2 \/ k = 3 := by omega
    rcases hc with rfl | rfl | rfl | rfl
    · simp (maxSteps := 1000000) [go_sem, hsz', bstr_idx, cellsK, k1, k4, w1]
      exact hK 1 _ _ (by omega) (by simp [upF, Fr.get, Up.refl]) ⟨by omega, by simp [cellsK, blk3]⟩
    · simp (maxSteps := 1000000) [go_sem, hsz', bstr_idx, cellsK, k2, k5, w2]
      exact hK 2 _ _ (by omega) (by simp [upF, Fr.get, Up.refl]) ⟨by omega, by simp [cellsK, blk3]⟩
    · simp (maxSteps := 1000000) [go_sem, hsz', bstr_idx, cellsK, k3, k6, w3]
      exact hK 3 _ _ (by omega) (by simp [upF, Fr.get, Up.refl]) ⟨by omega, by simp [cellsK, blk3, Bk.cells]⟩
    · simp (maxSteps := 1000000) [go_sem, hsz', cellsK, Bk.cells]
      refine AWp.draw mixed [(0, false), (1, false), (2, true), (3, false), (4, false)] (by kernel_rfl) ?_
      simp (maxSteps := 1000000) [go_sem]
      have hz := List.prefix_append H [(⟨[.int .i64 0, .int .i64 0, .int .i64 0], true, true⟩ : Blk), ⟨[.int .i64 (blk3 x y z).a, .int .i64 (blk3 x y z).b, .int .i64 (blk3 x y z).c], true, true⟩]
      have hb0 : (H ++ [(⟨[.int .i64 0, .int .i64 0, .int .i64 0], true, true⟩ : Blk), ⟨[.int .i64 (blk3 x y z).a, .int .i64 (blk3 x y z).b, .int .i64 (blk3 x y z).c], true, true⟩])[H.length]? = some ⟨[.int .i64 0, .int .i64 0, .int .i64 0], true, true⟩ := by simp
      refine isBlock_ok (b := blk3 x y z) (v := 15) (by omega) (by omega) _ ?_
      intro H3 hp3
      have hb3 := pget hp3 hb0
      obtain ⟨z1, z2, z3, _⟩ := boxLate (cs := (blk3 x y z).cells) hb3 (List.prefix_refl _) rfl (by simp [Bk.cells, one_int])
      have z2' := Holds.cells (n := 3) (o := 0) z2 (by simp [Bk.cells])
      simp only [Bk.cells, List.drop_zero, List.take_of_length_le (show [Value.int .i64 (blk3 x y z).a, .int .i64 (blk3 x y z).b, .int .i64 (blk3 x y z).c].length <= 3 from by simp)] at z1 z2'
      simp (maxSteps := 1000000) [go_sem, hp3, z1, z2']
      refine h1 rfl _ ?_
      have hpp := hz.trans hp3
      rw [List.prefix_iff_eq_take]
      apply List.ext_getElem?
      intro j
      by_cases hj : j < H.length
      · rw [List.getElem?_take, if_pos hj, List.getElem?_set_ne (by omega)]
        obtain ⟨t, ht⟩ := hpp
        rw [<- ht, List.getElem?_append_left hj]
      · rw [List.getElem?_take, if_neg hj, List.getElem?_eq_none (by omega)]
  · have h3' : ((s.length : Int) != 3) = true := bne_iff_ne.2 (by omega)
    simp (maxSteps := 1000000) [go_sem, hsz, h3']
    exact h0 h3 _ (List.prefix_append _ _)
end Go.Proofs.YtkimaohcmcfcnaaDoor
end

section
namespace Go.Proofs.YtkimaohcmcfcnaaDoor
open Go.Ab

theorem dec_small {n : Nat} (hn : n < 10) : Lib.decDigits n = [UInt8.ofNat (48 + n)] := by
  rw [Lib.decDigits, dif_pos hn]
theorem dec_two {n : Nat} (hn : 10 <= n) (h2 : n < 100) : Lib.decDigits n = [UInt8.ofNat (48 + n / 10), UInt8.ofNat (48 + n % 10)] := by
  rw [Lib.decDigits, dif_neg (by omega), dec_small (by omega)]; rfl

end Go.Proofs.YtkimaohcmcfcnaaDoor
end

section
namespace Go.Proofs.YtkimaohcmcfcnaaDoor
open Go.Ab

def textTo (p : Nat) (bs : List Bk) (k : Nat) : List UInt8 := Lib.decDigits p ++ [58] ++ Lib.join ((bs.take k).map letters) [44]
theorem textTo_zero (p : Nat) (bs : List Bk) : textTo p bs 0 = Lib.decDigits p ++ [58] := by simp [textTo, Lib.join_nil]
theorem textTo_len {p : Nat} (hp : p < 16) {bs : List Bk} (hl : bs.length <= 35) (k : Nat) : (textTo p bs k).length <= 200 := by
  have h1 : (Lib.decDigits p).length <= 2 := by
    rcases Nat.lt_or_ge p 10 with h | h
    · rw [dec_small h]; simp
    · rw [dec_two h (by omega)]; simp
  have h2 := join_short (xs := (bs.take k).map letters) (n := 3) (fun x hx => by obtain ⟨b, _, rfl⟩ := List.mem_map.1 hx; rfl) [44]
  have h3 : ((bs.take k).map letters).length <= 35 := by rw [List.length_map, List.length_take]; omega
  simp only [textTo, List.length_append, List.length_cons, List.length_nil] at h2 ⊢
  have : ((bs.take k).map letters).length * (3 + (0 + 1)) <= 35 * 4 := Nat.mul_le_mul h3 (by omega)
  omega

end Go.Proofs.YtkimaohcmcfcnaaDoor
end

section
namespace Go.Proofs.YtkimaohcmcfcnaaDoor
open Go.Ab

def fillS (bs : List Bk) (k : Nat) : List (List UInt8) := (bs.take k).map letters ++ List.replicate (bs.length - k) []
theorem fillS_len {bs : List Bk} {k : Nat} (h : k <= bs.length) : (fillS bs k).length = bs.length := by simp [fillS]; omega
theorem fillS_all (bs : List Bk) : fillS bs bs.length = bs.map letters := by simp [fillS]
theorem fillS_set {bs : List Bk} {k : Nat} (hk : k < bs.length) : (strs (fillS bs k)).set k (.string (bstr (letters bs[k]))) = strs (fillS bs (k + 1)) := by
  have e : (fillS bs k).set k (letters bs[k]) = fillS bs (k + 1) := by
    unfold fillS
    have hl : ((bs.take k).map letters).length = k := by simp; omega
    rw [List.set_append_right _ _ (by omega), hl, Nat.sub_self, show bs.length - k = (bs.length - (k + 1)) + 1 by omega, List.replicate_succ, List.set_cons_zero, List.take_succ_eq_append_getElem hk, List.map_append, List.append_assoc]
    simp
  rw [<- e, strs, strs, List.map_set]
theorem made_strs (n : Nat) (bs : List Bk) (hn : bs.length = n) : (madeCells #[Value.string { data := #[] }] n).toList = strs (fillS bs 0) := by
  rw [made_same (v := .string { data := #[] }) (by simp) (by intro i hi; simp at hi; subst hi; rfl)]
  simp [fillS, strs, hn, bstr]
theorem storeS {H : Heap} {id : Nat} {cs : List Value} {s : Nat} {y : Value} (hb : H[id]? = some ⟨cs, true, true⟩) (hs : s < cs.length) (hy : y.oneCell' = true) : storeAt H id s [y] = some (H.set id ⟨cs.set s y, true, true⟩) := by
  rw [storeAt_of hb rfl rfl (by simp; omega) (by simp [hy])]
  simp [over_one hs]

theorem blocksText_ok {H : Heap} {u : Value} {bs : List Bk} (hu : BlocksAt H u bs) (hl : bs.length <= 35) (hg : ∀ b ∈ bs, small15 b) (Post : Value -> Heap -> Prop) (h : ∀ H', H <+: H' -> Post (.string (bstr (Lib.join (bs.map letters) [44]))) H') :
    ACalls Tryd.prog 37 [u] H Post := by
  obtain ⟨i, o, rfl, h1, h2⟩ := hu
  refine acalls_vc (rs := [.tmp 2]) Tryd.func37 rfl rfl Tryd.ntmps37 rfl rfl ?_
  simp (maxSteps := 1000000) [go_sem]
  refine andK_intro (by omega) ?_
  have hp1 : H <+: H ++ [(⟨(madeCells #[Value.string { data := #[] }] bs.length).toList, true, true⟩ : Blk)] := List.prefix_append _ _
  have hb1 : (H ++ [(⟨(madeCells #[Value.string { data := #[] }] bs.length).toList, true, true⟩ : Blk)])[H.length]? = some ⟨strs (fillS bs 0), true, true⟩ := by rw [<- made_strs bs.length bs rfl]; simp
  generalize H ++ [(⟨(madeCells #[Value.string { data := #[] }] bs.length).toList, true, true⟩ : Blk)] = H1 at hp1 hb1 ⊢
  refine AWp.loopVc (St := Nat) (fun k => [(3, .slice (some ⟨H.length, 0, none⟩) bs.length bs.length), (9, lv 3 i o bs.length), (10, .int .i64 bs.length), (11, .int .i64 k)])
    (fun k H' => k <= bs.length /\ H <+: H' /\ H'[H.length]? = some ⟨strs (fillS bs k), true, true⟩) (fun k => bs.length - k) 0 ?_ ?_ ?_
  · simp [upF, Fr.get, Up.refl]
  · exact ⟨by simp, hp1, hb1⟩
  rintro K k H' ⟨hk, hpk, hbk⟩ hK
  by_cases hlt : k < bs.length
  · have hbs : bs[k]? = some bs[k] := List.getElem?_eq_getElem hlt
    have c1 := (h1.pre hpk).bk hbs
    simp only [Bk.cells] at c1
    have hb15 := hg bs[k] (List.getElem_mem hlt)
    have hw_k : IntKind.i64.wrap ((k : Int) + 1) = (k : Int) + 1 := i64w (by omega) (by omega)
    simp (maxSteps := 1000000) [go_sem, hlt, c1]
    have hp2 : H' <+: H' ++ [(⟨[.int .i64 bs[k].a, .int .i64 bs[k].b, .int .i64 bs[k].c], true, true⟩ : Blk)] := List.prefix_append _ _
    refine blockText_ok (b := bs[k]) hb15 _ ?_
    intro H2 hp3
    have hb2 := pget (hp2.trans hp3) hbk
    have hst := storeS (s := k) (y := .string (bstr (letters bs[k]))) hb2 (by simp [strs, fillS_len hk]; omega) rfl
    rw [fillS_set hlt] at hst
    have hlt2 := (List.getElem?_eq_some_iff.1 hb2).1
    have hpn : H <+: H2.set H.length ⟨strs (fillS bs (k + 1)), true, true⟩ := by
      have hp := (hpk.trans hp2).trans hp3
      rw [List.prefix_iff_eq_take]
      apply List.ext_getElem?
      intro j
      by_cases hj : j < H.length
      · rw [List.getElem?_take, if_pos hj, List.getElem?_set_ne (by omega)]
        obtain ⟨t, rfl⟩ := hp
        rw [List.getElem?_append_left hj]
      · rw [List.getElem?_take, if_neg hj, List.getElem?_eq_none (by omega)]
    simp (maxSteps := 1000000) [go_sem, hlt, hw_k, hst]
    exact hK (k + 1) _ _ (by omega) (by simp [upF, Fr.get, Up.refl]) ⟨by omega, hpn, List.getElem?_set_self hlt2⟩
  · have : k = bs.length := by omega
    subst this
    rw [fillS_all] at hbk
    have hml : (bs.map letters).length = bs.length := by simp
    have hjl := join_short (xs := bs.map letters) (n := 3) (fun x hx => by obtain ⟨b, _, rfl⟩ := List.mem_map.1 hx; rfl) [44]
    simp (maxSteps := 1000000) [go_sem]
    refine join_ok (sep := [44]) hml (.inr ⟨true, hbk⟩) (by omega) (by simp at hjl ⊢; omega) _ ?_
    simp (maxSteps := 1000000) [go_sem]
    exact h _ hpk

theorem systemText_ok {H : Heap} {u : Value} {p : Nat} {bs : List Bk} (hp : p < 16) (hu : BlocksAt H u bs) (hl : bs.length <= 35) (hg : ∀ b ∈ bs, small15 b) (Post : Value -> Heap -> Prop) (h : ∀ H', H <+: H' -> Post (.string (bstr (sysText p bs))) H') :
    ACalls Tryd.prog 19 [sysV p u] H Post := by
  have ou := hu.one
  refine acalls_vc (rs := [.tmp 2]) Tryd.func19 rfl rfl Tryd.ntmps19 rfl rfl ?_
  simp (maxSteps := 1000000) [go_sem, sysV, ou]
  have hp0 : H <+: H ++ [(⟨[.int .i64 p, u], true, true⟩ : Blk)] := List.prefix_append _ _
  have hx0 : Holds (H ++ [(⟨[.int .i64 p, u], true, true⟩ : Blk)]) H.length [.int .i64 p, u] := ⟨true, by simp⟩
  generalize H ++ [(⟨[.int .i64 p, u], true, true⟩ : Blk)] = H0 at hp0 hx0 ⊢
  obtain ⟨d0, d1, d2⟩ := hx0.sys
  refine AWp.draw mixed [(0, false), (1, false), (4, false), (5, false), (2, true), (3, false), (6, false), (7, false), (8, false)] (by kernel_rfl) ?_
  simp (maxSteps := 1000000) [go_sem, d1, d2]
  have h58 : bstr (Lib.decDigits p) ++ ({ data := #[58] } : ByteArray) = bstr (textTo p bs 0) := by rw [textTo_zero]; exact bstr_append _ [58]
  have hall : bstr (textTo p bs 0) ++ bstr (Lib.join (bs.map letters) [44]) = bstr (sysText p bs) := by rw [textTo_zero, bstr_append]; simp [sysText]
  have s1 : (bstr (Lib.decDigits p)).size <= 200 := by
    have := textTo_len hp hl 0
    rw [textTo_zero, List.length_append] at this
    rw [bstr_size]; omega
  have s2 : (bstr (textTo p bs 0)).size <= 200 := by rw [bstr_size]; exact textTo_len hp hl 0
  have s3 : (bstr (Lib.join (bs.map letters) [44])).size <= 200 := by
    rw [bstr_size]
    have hjl := join_short (xs := bs.map letters) (n := 3) (fun x hx => by obtain ⟨b, _, rfl⟩ := List.mem_map.1 hx; rfl) [44]
    simp at hjl; omega
  refine format_ok (by omega) _ ?_
  simp (maxSteps := 1000000) [go_sem, d1, d2, h58]
  try refine andK_intro (List.prefix_refl _) ?_
  try refine andK_intro (by omega) ?_
  refine blocksText_ok (hu.pre hp0) hl hg _ ?_
  intro H2 hp2
  simp (maxSteps := 1000000) [go_sem, h58, hall]
  exact andK_intro (by omega) (h _ (hp0.trans hp2))

theorem isSys_nat {p : Int} {bs : List Bk} (h : IsSys p bs) : ∃ n : Nat, p = n /\ n < 16 /\ bs.length <= 35 /\ ∀ b ∈ bs, small15 b := by
  obtain ⟨⟨h3, h15⟩, hl, hs, _⟩ := h
  refine ⟨p.toNat, by omega, by omega, hl, fun b hb => ?_⟩
  obtain ⟨i, hi, rfl⟩ := List.mem_iff_getElem.1 hb
  have hgd := (hs i bs[i] (List.getElem?_eq_getElem hi)).1
  simp only [good, Bool.and_eq_true, decide_eq_true_eq] at hgd
  exact ⟨by omega, by omega, by omega⟩

end Go.Proofs.YtkimaohcmcfcnaaDoor
end

section
namespace Go.Ab

theorem pcs_clean {c : UInt8} : ∀ {s : List UInt8}, ∀ x ∈ pcs c s, c ∉ x
  | [], x, hx => by simp [pcs] at hx; subst hx; simp
  | b :: l, x, hx => by
    rw [pcs] at hx
    split at hx
    · rcases List.mem_cons.1 hx with rfl | hx
      · simp
      · exact pcs_clean x hx
    · rename_i hb
      have ih := pcs_clean (c := c) (s := l)
      split at hx
      · rename_i he
        have := pcs_pos c l
        rw [he] at this; simp at this
      · rename_i p ps he
        rw [he] at ih
        rcases List.mem_cons.1 hx with rfl | hx
        · intro hm
          rcases List.mem_cons.1 hm with e | hm
          · exact hb e.symm
          · exact ih p (by simp) hm
        · exact ih x (by simp [hx])
theorem pcs_join (c : UInt8) : ∀ s : List UInt8, Lib.join (pcs c s) [c] = s
  | [] => by simp [pcs, Lib.join_one]
  | b :: l => by
    have ih := pcs_join c l
    rw [pcs]
    split
    · rename_i hb
      subst hb
      have hp := pcs_pos b l
      cases he : pcs b l with
      | nil => rw [he] at hp; simp at hp
      | cons p ps =>
        rw [he] at ih
        rw [Lib.join_cons] at ih ⊢
        simp only [Lib.joinTail, List.map_cons, List.flatten_cons, List.nil_append]
        have : Lib.joinTail [b] ps = (ps.map ([b] ++ ·)).flatten := rfl
        rw [<- this]
        simp [ih]
    · split
      · rename_i he
        have := pcs_pos c l
        rw [he] at this; simp at this
      · rename_i p ps he
        rw [he] at ih
        rw [Lib.join_cons] at ih ⊢
        rw [<- ih]; rfl
theorem joinTail_mem {sep : List UInt8} : ∀ {r : List (List UInt8)} {x : List UInt8}, x ∈ r -> x.length <= (Lib.joinTail sep r).length
  | y :: r, x, hx => by
    simp only [Lib.joinTail, List.map_cons, List.flatten_cons, List.length_append]
    rcases List.mem_cons.1 hx with rfl | hx
    · omega
    · have := joinTail_mem (sep := sep) hx
      simp only [Lib.joinTail] at this
      omega
theorem join_mem {sep : List UInt8} {xs : List (List UInt8)} {x : List UInt8} (h : x ∈ xs) : x.length <= (Lib.join xs sep).length := by
  cases xs with
  | nil => simp at h
  | cons y r =>
    rw [Lib.join_cons, List.length_append]
    rcases List.mem_cons.1 h with rfl | h
    · omega
    · have := joinTail_mem (sep := sep) h
      omega
theorem pcs_len {c : UInt8} {s x : List UInt8} (h : x ∈ pcs c s) : x.length <= s.length := by
  have := join_mem (sep := [c]) h
  rwa [pcs_join] at this
theorem join_len {sep : List UInt8} (hs : sep.length = 1) (xs : List (List UInt8)) : xs.length <= (Lib.join xs sep).length + 1 := by
  cases xs with
  | nil => simp
  | cons y r =>
    have : r.length <= (Lib.joinTail sep r).length := by
      clear y
      induction r with
      | nil => simp
      | cons z t ih =>
        simp only [Lib.joinTail, List.map_cons, List.flatten_cons, List.length_append, List.length_cons] at ih ⊢
        omega
    rw [Lib.join_cons, List.length_append, List.length_cons]
    omega
theorem pcs_many (c : UInt8) (s : List UInt8) : (pcs c s).length <= s.length + 1 := by
  have := join_len (sep := [c]) rfl (pcs c s)
  rwa [pcs_join] at this
theorem pcs_of {c : UInt8} : ∀ {xs : List (List UInt8)}, xs ≠ [] -> (∀ x ∈ xs, c ∉ x) -> pcs c (Lib.join xs [c]) = xs
  | [], h, _ => absurd rfl h
  | [x], _, h => by rw [Lib.join_one]; exact pcs_miss (h x (by simp))
  | x :: y :: r, _, h => by
    have ih := pcs_of (c := c) (xs := y :: r) (by simp) (fun z hz => h z (by simp at hz ⊢; exact .inr hz))
    have e : Lib.join (x :: y :: r) [c] = x ++ c :: Lib.join (y :: r) [c] := by
      rw [Lib.join_cons, Lib.join_cons]
      simp [Lib.joinTail]
    rw [e, pcs_hit (h x (by simp)), ih]
theorem pcs_two {c : UInt8} {s a b : List UInt8} (h : pcs c s = [a, b]) : s = a ++ c :: b /\ c ∉ a /\ c ∉ b := by
  have h1 := pcs_join c s
  rw [h, Lib.join_cons] at h1
  have h2 := pcs_clean (c := c) (s := s)
  rw [h] at h2
  refine ⟨?_, h2 a (by simp), h2 b (by simp)⟩
  rw [<- h1]; simp [Lib.joinTail]

def partsOf (b : List UInt8) : List (List UInt8) := if b = [] then [] else pcs 44 b
theorem partsOf_join (b : List UInt8) : Lib.join (partsOf b) [44] = b := by
  unfold partsOf
  split
  · rename_i h; rw [h, Lib.join_nil]
  · exact pcs_join 44 b

theorem letter_of (x : UInt8) : letter ((x.toNat : Int) - 97) = x := by
  unfold letter
  have : (97 + ((x.toNat : Int) - 97)).toNat = x.toNat := by omega
  rw [this]; simp
theorem letters_toBk {s : List UInt8} (h : s.length = 3) : letters (toBk s) = s := by
  obtain ⟨x, y, z, rfl⟩ := len3 h
  simp [toBk, blk3, letters, letter_of]
theorem letter_nat {x : Int} (h : 0 <= x /\ x < 15) : (letter x).toNat = 97 + x.toNat := by
  unfold letter
  rw [UInt8.toNat_ofNat']
  omega
theorem toBk_letters {b : Bk} (h : small15 b) : toBk (letters b) = b := by
  obtain ⟨h1, h2, h3⟩ := h
  simp only [letters, toBk, blk3, letter_nat h1, letter_nat h2, letter_nat h3]
  cases b
  simp only [Bk.mk.injEq] at *
  omega
theorem letter_ne {x : Int} (h : 0 <= x /\ x < 15) : letter x ≠ 44 /\ letter x ≠ 58 := by
  have := letter_nat h
  refine ⟨fun e => ?_, fun e => ?_⟩ <;> rw [e] at this <;> simp at this <;> omega
end Go.Ab

namespace Go.Proofs.YtkimaohcmcfcnaaDoor
open Go.Ab

noncomputable def specD (s : List UInt8) : Option (Int × List Bk) :=
  match pcs 58 s with
  | [a, b] => if (partsOf b).all (fun x => x.length == 3) then (if sysB (numB a) ((partsOf b).map toBk) then some (numB a, (partsOf b).map toBk) else none) else none
  | _ => none

theorem dec_clean {n : Nat} (h : n < 16) : (58 : UInt8) ∉ Lib.decDigits n := by
  rcases Nat.lt_or_ge n 10 with h1 | h1
  · rw [dec_small h1]
    intro hm
    have e : (58 : UInt8) = UInt8.ofNat (48 + n) := by simpa using hm
    have := congrArg UInt8.toNat e
    rw [UInt8.toNat_ofNat'] at this
    simp at this; omega
  · rw [dec_two h1 (by omega)]
    intro hm
    have e : (58 : UInt8) = UInt8.ofNat (48 + n / 10) \/ (58 : UInt8) = UInt8.ofNat (48 + n % 10) := by simpa using hm
    rcases e with e | e <;> have := congrArg UInt8.toNat e <;> rw [UInt8.toNat_ofNat'] at this <;> simp at this <;> omega

theorem numB_dec {n : Nat} (h : n < 16) : numB (Lib.decDigits n) = n := by
  have : n = 0 \/ n = 1 \/ n = 2 \/ n = 3 \/ n = 4 \/ n = 5 \/ n = 6 \/ n = 7 \/ n = 8 \/ n = 9 \/ n = 10 \/ n = 11 \/ n = 12 \/ n = 13 \/ n = 14 \/ n = 15 := by omega
  rcases this with rfl | rfl | rfl | rfl | rfl | rfl | rfl | rfl | rfl | rfl | rfl | rfl | rfl | rfl | rfl | rfl
  all_goals first
    | (rw [dec_small (by omega)]; decide)
    | (rw [dec_two (by omega) (by omega)]; decide)
theorem parseInt_dec {n : Nat} (h : n < 16) : Lib.parseIntB 64 (Lib.decDigits n) = .ok n := by
  have : n = 0 \/ n = 1 \/ n = 2 \/ n = 3 \/ n = 4 \/ n = 5 \/ n = 6 \/ n = 7 \/ n = 8 \/ n = 9 \/ n = 10 \/ n = 11 \/ n = 12 \/ n = 13 \/ n = 14 \/ n = 15 := by omega
  rcases this with rfl | rfl | rfl | rfl | rfl | rfl | rfl | rfl | rfl | rfl | rfl | rfl | rfl | rfl | rfl | rfl
  all_goals first
    | (rw [dec_small (by omega)]; rfl)
    | (rw [dec_two (by omega) (by omega)]; rfl)

theorem numV_ge : ∀ (l : List UInt8) (d : UInt8), d.toNat - 48 >= 1 -> numV (d :: l) >= 10 ^ l.length := by
  intro l d hd
  have key : ∀ (l : List UInt8) (n : Nat), l.foldl (fun n d => n * 10 + (d.toNat - 48)) n >= n * 10 ^ l.length := by
    intro l
    induction l with
    | nil => intro n; simp
    | cons x l ih =>
      intro n
      have := ih (n * 10 + (x.toNat - 48))
      simp only [List.foldl_cons, List.length_cons]
      have h2 : (n * 10 + (x.toNat - 48)) * 10 ^ l.length >= n * 10 * 10 ^ l.length := Nat.mul_le_mul_right _ (by omega)
      rw [Nat.pow_succ]
      have : n * (10 ^ l.length * 10) = n * 10 * 10 ^ l.length := by rw [Nat.mul_comm (10 ^ l.length) 10, <- Nat.mul_assoc]
      omega
  have := key l (0 * 10 + (d.toNat - 48))
  simp only [numV, List.foldl_cons]
  have h2 : (0 * 10 + (d.toNat - 48)) * 10 ^ l.length >= 1 * 10 ^ l.length := Nat.mul_le_mul_right _ (by omega)
  omega

theorem numB_inv {s : List UInt8} {n : Nat} (h3 : 3 <= n) (h : n < 16) (hn : numB s = n) : s = Lib.decDigits n := by
  unfold numB at hn
  split at hn
  · omega
  rename_i hb
  split at hn
  rotate_left
  · omega
  rename_i hd
  have hn' : numV s = n := by omega
  have hdig : ∀ d ∈ s, 48 <= d.toNat /\ d.toNat <= 57 := fun d hd' => by
    have := List.all_eq_true.1 hd d hd'
    simpa [isDig] using this
  match s, hb, hn', hdig with
  | [], hb, _, _ => exact absurd (.inl rfl) hb
  | [x], _, hn', hdig =>
    have hx := hdig x (by simp)
    have : x.toNat - 48 = n := by simpa [numV] using hn'
    rw [dec_small (by omega)]
    congr 1
    apply UInt8.toNat_inj.1
    rw [UInt8.toNat_ofNat']; omega
  | [x, y], hb, hn', hdig =>
    have hx := hdig x (by simp)
    have hy := hdig y (by simp)
    have hx1 : x.toNat ≠ 48 := fun e => hb (.inr (.inr ⟨by simp, by
      have : x = 48 := UInt8.toNat_inj.1 e
      simp [this]⟩))
    have : (x.toNat - 48) * 10 + (y.toNat - 48) = n := by simpa [numV] using hn'
    rw [dec_two (by omega) (by omega)]
    have e1 : x = UInt8.ofNat (48 + n / 10) := by apply UInt8.toNat_inj.1; rw [UInt8.toNat_ofNat']; omega
    have e2 : y = UInt8.ofNat (48 + n % 10) := by apply UInt8.toNat_inj.1; rw [UInt8.toNat_ofNat']; omega
    rw [<- e1, <- e2]
  | x :: y :: z :: l, hb, hn', hdig =>
    exfalso
    have hx := hdig x (by simp)
    have hx1 : x.toNat ≠ 48 := fun e => hb (.inr (.inr ⟨by simp, by
      have : x = 48 := UInt8.toNat_inj.1 e
      simp [this]⟩))
    have := numV_ge (y :: z :: l) x (by omega)
    have h2 : 10 ^ 2 <= 10 ^ (y :: z :: l).length := Nat.pow_le_pow_right (by omega) (by simp)
    omega

theorem specD_some {s : List UInt8} {p : Int} {bs : List Bk} (h : specD s = some (p, bs)) : IsSys p bs /\ s = sysText p bs := by
  unfold specD at h
  split at h
  rotate_left
  · cases h
  rename_i a b hp
  split at h
  rotate_left
  · cases h
  rename_i hall
  split at h
  rotate_left
  · cases h
  rename_i hsys
  simp only [Option.some.injEq, Prod.mk.injEq] at h
  obtain ⟨h1, h2⟩ := h
  rw [h1, h2] at hsys
  have hi := sysB_iff.1 hsys
  refine ⟨hi, ?_⟩
  obtain ⟨n, rfl, hn, _, _⟩ := isSys_nat hi
  obtain ⟨e1, _, _⟩ := pcs_two hp
  have ha := numB_inv (by have := hi.1.1; omega) hn h1
  have hm : bs.map letters = partsOf b := by
    rw [<- h2, List.map_map]
    conv => rhs; rw [<- List.map_id (partsOf b)]
    apply List.map_congr_left
    intro x hx
    have := List.all_eq_true.1 hall x hx
    exact letters_toBk (by simpa using this)
  rw [e1, ha]
  simp only [sysText, Int.toNat_natCast, hm, partsOf_join]
  simp

theorem sysText_parts {p : Nat} {bs : List Bk} (hp : p < 16) (hg : ∀ b ∈ bs, small15 b) : ∃ b, sysText p bs = Lib.decDigits p ++ 58 :: b /\ (58 : UInt8) ∉ b /\ partsOf b = bs.map letters := by
  have hl : ∀ x ∈ bs.map letters, (44 : UInt8) ∉ x /\ (58 : UInt8) ∉ x := by
    intro x hx
    obtain ⟨b, hb, rfl⟩ := List.mem_map.1 hx
    obtain ⟨h1, h2, h3⟩ := hg b hb
    have e1 := letter_ne h1
    have e2 := letter_ne h2
    have e3 := letter_ne h3
    refine ⟨fun hm => ?_, fun hm => ?_⟩
    · have : (44 : UInt8) = letter b.a \/ (44 : UInt8) = letter b.b \/ (44 : UInt8) = letter b.c := by simpa [letters] using hm
      rcases this with e | e | e
      · exact e1.1 e.symm
      · exact e2.1 e.symm
      · exact e3.1 e.symm
    · have : (58 : UInt8) = letter b.a \/ (58 : UInt8) = letter b.b \/ (58 : UInt8) = letter b.c := by simpa [letters] using hm
      rcases this with e | e | e
      · exact e1.2 e.symm
      · exact e2.2 e.symm
      · exact e3.2 e.symm
  refine ⟨Lib.join (bs.map letters) [44], by simp [sysText], ?_, ?_⟩
  · have key : ∀ xs : List (List UInt8), (∀ x ∈ xs, (58 : UInt8) ∉ x) -> (58 : UInt8) ∉ Lib.join xs [44] := by
      intro xs
      cases xs with
      | nil => intro _; simp [Lib.join_nil]
      | cons y r =>
        intro h
        rw [Lib.join_cons]
        intro hm
        rcases List.mem_append.1 hm with hm | hm
        · exact h y (by simp) hm
        · simp only [Lib.joinTail, List.mem_flatten, List.mem_map] at hm
          obtain ⟨l, ⟨z, hz, rfl⟩, hm⟩ := hm
          rcases List.mem_append.1 hm with hm | hm
          · simp at hm
          · exact h z (by simp [hz]) hm
    exact key _ fun x hx => (hl x hx).2
  · unfold partsOf
    cases bs with
    | nil => simp [Lib.join_nil]
    | cons c r =>
      have hne : Lib.join ((c :: r).map letters) [44] ≠ [] := by
        rw [List.map_cons, Lib.join_cons]; simp [letters]
      rw [if_neg hne]
      exact pcs_of (by simp) fun x hx => (hl x hx).1

theorem specD_text {p : Int} {bs : List Bk} (h : IsSys p bs) : specD (sysText p bs) = some (p, bs) := by
  obtain ⟨n, rfl, hn, _, hg⟩ := isSys_nat h
  obtain ⟨b, e1, e2, e3⟩ := sysText_parts hn hg
  have hp : pcs 58 (sysText n bs) = [Lib.decDigits n, b] := by rw [e1, pcs_hit (dec_clean hn), pcs_miss e2]
  have hm : (bs.map letters).map toBk = bs := by
    rw [List.map_map]
    conv => rhs; rw [<- List.map_id bs]
    apply List.map_congr_left
    intro x hx
    exact toBk_letters (hg x hx)
  unfold specD
  rw [hp]
  simp only [e3, hm, numB_dec hn, sysB_iff.2 h, if_true]
  rw [if_pos]
  rw [List.all_eq_true]
  intro x hx
  obtain ⟨c, _, rfl⟩ := List.mem_map.1 hx
  rfl
end Go.Proofs.YtkimaohcmcfcnaaDoor
end

section
namespace Go.Ab

theorem index_miss {c : UInt8} : ∀ {s : List UInt8}, c ∉ s -> Lib.index s [c] = -1
  | [], _ => rfl
  | b :: l, h => by
    have h1 : c ≠ b := fun e => h (by simp [e])
    have ih := index_miss (c := c) (s := l) (fun e => h (by simp [e]))
    rw [Lib.index, ih]
    simp [h1]
theorem index_hit {c : UInt8} : ∀ {a b : List UInt8}, c ∉ a -> Lib.index (a ++ c :: b) [c] = a.length
  | [], b, _ => by rw [List.nil_append, Lib.index]; simp
  | x :: a, b, h => by
    have h1 : c ≠ x := fun e => h (by simp [e])
    have ih := index_hit (c := c) (a := a) (b := b) (fun e => h (by simp [e]))
    rw [List.cons_append, Lib.index, ih]
    have h2 : ((a.length : Int) == -1) = false := beq_eq_false_iff_ne.2 (by omega)
    simp [h1, h2]
theorem mem_parts {c : UInt8} : ∀ {s : List UInt8}, c ∈ s -> ∃ a b, s = a ++ c :: b /\ c ∉ a
  | x :: l, h => by
    by_cases e : c = x
    · subst e; exact ⟨[], l, rfl, by simp⟩
    · obtain ⟨a, b, h1, h2⟩ := mem_parts (c := c) (s := l) (by simpa [e] using h)
      exact ⟨x :: a, b, by rw [h1]; rfl, by simp [e, h2]⟩
theorem cut_hit {c : UInt8} {a b : List UInt8} (h : c ∉ a) : Lib.cut (a ++ c :: b) [c] = (a, b, true) := by
  unfold Lib.cut
  rw [index_hit h]
  have hd : (a ++ c :: b).drop (a.length + 1) = b := by rw [List.drop_append]; simp
  simp [hd]
theorem cut_len (s sep : List UInt8) : (Lib.cut s sep).1.length <= s.length /\ (Lib.cut s sep).2.1.length <= s.length := by
  unfold Lib.cut
  split
  · simp only [List.length_take, List.length_drop]; omega
  · simp
end Go.Ab

namespace Go.Proofs.YtkimaohcmcfcnaaDoor
open Go.Ab

theorem split_pcs (c : UInt8) : ∀ (n : Nat) (s : List UInt8), s.length <= n -> splitL s [c] = pcs c s /\ (pcs c s).length = Lib.count s [c] + 1 := by
  intro n
  induction n with
  | zero =>
    intro s hs
    obtain rfl : s = [] := List.eq_nil_of_length_eq_zero (by omega)
    have hc : Lib.count [] [c] = 0 := Lib.count_miss rfl
    exact ⟨by simp [splitL, hc, Lib.splitK, pcs], by simp [pcs, hc]⟩
  | succ n ih =>
    intro s hs
    by_cases h : c ∈ s
    · obtain ⟨a, b, rfl, ha⟩ := mem_parts h
      have hi := index_hit (b := b) ha
      have hd : (a ++ c :: b).drop (a.length + 1) = b := by rw [List.drop_append]; simp
      have hc := Lib.count_hit (sub := [c]) (by simp) hi
      simp only [List.length_cons, List.length_nil, Nat.zero_add] at hc
      rw [hd] at hc
      obtain ⟨i1, i2⟩ := ih b (by simp at hs; omega)
      have hne : ((a.length : Int) == -1) = false := beq_eq_false_iff_ne.2 (by omega)
      refine ⟨?_, by rw [pcs_hit ha, List.length_cons, i2, hc]; omega⟩
      unfold splitL
      rw [hc, Nat.add_comm 1, Lib.splitK, hi]
      simp only [hne, Bool.false_eq_true, if_false, Int.toNat_natCast, Nat.add_zero, List.length_cons, List.length_nil, Nat.zero_add]
      rw [hd, pcs_hit ha, <- i1]
      simp [splitL]
    · have hi := index_miss h
      have hc := Lib.count_miss hi
      exact ⟨by simp [splitL, hc, Lib.splitK, pcs_miss h], by simp [pcs_miss h, hc]⟩

noncomputable def implD (s : List UInt8) : Option (Int × List Bk) :=
  match Lib.parseIntB 64 (Lib.cut s [58]).1 with
  | .ok v => if (Lib.cut s [58]).2.2 then
      if (partsOf (Lib.cut s [58]).2.1).all (fun x => x.length == 3 && good 15 (toBk x)) then
        if sysB v ((partsOf (Lib.cut s [58]).2.1).map toBk) = true /\ sysText v ((partsOf (Lib.cut s [58]).2.1).map toBk) = s then some (v, (partsOf (Lib.cut s [58]).2.1).map toBk) else none
      else none
    else none
  | _ => none

theorem implD_some {s : List UInt8} {p : Int} {bs : List Bk} (h : implD s = some (p, bs)) : IsSys p bs /\ s = sysText p bs := by
  unfold implD at h
  split at h
  · split at h
    · split at h
      · split at h
        · rename_i h4
          simp only [Option.some.injEq, Prod.mk.injEq] at h
          obtain ⟨h1, h2⟩ := h
          rw [h1, h2] at h4
          exact ⟨sysB_iff.1 h4.1, h4.2.symm⟩
        · cases h
      · cases h
    · cases h
  · cases h

theorem implD_text {p : Int} {bs : List Bk} (h : IsSys p bs) : implD (sysText p bs) = some (p, bs) := by
  obtain ⟨n, rfl, hn, _, hg⟩ := isSys_nat h
  obtain ⟨b, e1, e2, e3⟩ := sysText_parts hn hg
  have hm : (bs.map letters).map toBk = bs := by
    rw [List.map_map]
    conv => rhs; rw [<- List.map_id bs]
    apply List.map_congr_left
    intro x hx
    exact toBk_letters (hg x hx)
  have hc : Lib.cut (sysText n bs) [58] = (Lib.decDigits n, b, true) := by rw [e1, cut_hit (dec_clean hn)]
  unfold implD
  rw [hc]
  simp only [parseInt_dec hn, e3, hm, sysB_iff.2 h, if_true, and_self]
  rw [if_pos]
  rw [List.all_eq_true]
  intro x hx
  obtain ⟨c, hc', rfl⟩ := List.mem_map.1 hx
  have h15 := h.1.2
  obtain ⟨i, hi, rfl⟩ := List.mem_iff_getElem.1 hc'
  have hgd := (h.2.2.1 i bs[i] (List.getElem?_eq_getElem hi)).1
  rw [toBk_letters (hg _ hc')]
  simp only [good, Bool.and_eq_true, decide_eq_true_eq] at hgd ⊢
  exact ⟨rfl, ⟨⟨hgd.1.1, hgd.1.2⟩, by omega⟩⟩

theorem implD_eq (s : List UInt8) : implD s = specD s := by
  cases h1 : implD s with
  | some x =>
    obtain ⟨p, bs⟩ := x
    obtain ⟨g1, g2⟩ := implD_some h1
    rw [g2, specD_text g1]
  | none =>
    cases h2 : specD s with
    | none => rfl
    | some x =>
      obtain ⟨p, bs⟩ := x
      obtain ⟨g1, g2⟩ := specD_some h2
      rw [g2, implD_text g1] at h1
      cases h1

noncomputable def rParse (s : List UInt8) : (Int × List Bk) × Int := match specD s with
  | some x => (x, 0)
  | none => ((0, []), 6)
end Go.Proofs.YtkimaohcmcfcnaaDoor
end

section
namespace Go.Ab
open Go.RowKit (Below)

def blkOf : Value -> Option Nat
  | .pointer (some ⟨i, _, _⟩) => some i
  | .slice (some ⟨i, _, _⟩) _ _ => some i
  | _ => none
def rdBlk (o : Op) (fr : Fr) : Option Nat :=
  match o with
  | .load _ x => (ev fr x).bind blkOf
  | .convert _ _ x => (ev fr x).bind blkOf
  | .slice _ x _ _ _ => (ev fr x).bind blkOf
  | _ => none
def offL (L : Nat) (o : Op) (fr : Fr) : Prop := ∀ i, rdBlk o fr = some i -> i < L
def KeepL (L : Nat) (H h : Heap) : Prop := ∀ i, i < L -> h[i]? = H[i]?

section
variable {P : Program} {N : Nat} {o : Oper} {fr fr' : Fr} {H : Heap} {K : Fr -> Heap -> Prop}

end

def eKX (L : Nat) (fl : Bool) (H : Heap) (k : Fr -> Heap -> Prop) (f : Fr) (h : Heap) : Prop :=
  match fl with
  | true => andK (KeepL L H h) (k f h)
  | false => k f h

def vEX (P : Program) (N : Nat) (ops : Array Oper) (L : Nat) (K : Fr -> Heap -> Prop) : List (Nat × Bool) -> Fr -> Heap -> Prop
  | [], fr, H => K fr H
  | (i, fl) :: l, fr, H => match ops[i]? with
    | none => False
    | some o => match isR o.op with
      | true => offL L o.op fr /\ vstep P N ops o (vEX P N ops L K l) fr H
      | false => vstep P N ops o (eKX L fl H (vEX P N ops L K l)) fr H

section
variable {P : Program} {N : Nat} {ops : Array Oper} {L : Nat} {K : Fr -> Heap -> Prop}

/-! The words of such an order, for simp. -/

def vEXK (P : Program) (N : Nat) (ops : Array Oper) (L : Nat) (K : Fr -> Heap -> Prop) (l : List (Nat × Bool)) (fr : Fr) (H : Heap) : Prop := vEX P N ops L K l fr H
def eKXK (P : Program) (N : Nat) (ops : Array Oper) (L : Nat) (K : Fr -> Heap -> Prop) (l : List (Nat × Bool)) (fl : Bool) (H : Heap) (fr : Fr) (H' : Heap) : Prop :=
  match fl with
  | true => andK (KeepL L H H') (vEX P N ops L K l fr H')
  | false => vEX P N ops L K l fr H'
def offB (L : Nat) (o : Op) (fr : Fr) : Prop := match rdBlk o fr with
  | some i => i < L
  | none => True
theorem offB_iff {L : Nat} {o : Op} {fr : Fr} : offB L o fr = offL L o fr := by
  unfold offB offL
  cases rdBlk o fr with
  | none => simp
  | some i => simp
def vEXo (P : Program) (N : Nat) (ops : Array Oper) (L : Nat) (K : Fr -> Heap -> Prop) (l : List (Nat × Bool)) (fl : Bool) (fr : Fr) (H : Heap) (o : Oper) : Prop :=
  match isR o.op with
  | true => andK (offB L o.op fr) (vstep P N ops o (vEXK P N ops L K l) fr H)
  | false => vstep P N ops o (eKXK P N ops L K l fl H) fr H

theorem vEX_nil (K : Fr -> Heap -> Prop) (fr : Fr) (H : Heap) : vEX P N ops L K [] fr H = K fr H := rfl
theorem vEX_cons (K : Fr -> Heap -> Prop) (i : Nat) (fl : Bool) (l : List (Nat × Bool)) (fr : Fr) (H : Heap) : vEX P N ops L K ((i, fl) :: l) fr H = bindO ops[i]? (vEXo P N ops L K l fl fr H) := by
  have e : eKX L fl H (vEX P N ops L K l) = eKXK P N ops L K l fl H := by
    funext f h
    cases fl <;> rfl
  simp only [vEX]
  cases ops[i]? with
  | none => simp [bindO]
  | some o =>
    simp only [bindO_some, vEXo]
    cases isR o.op with
    | true => rw [offB_iff]; rfl
    | false => simp only [e]

attribute [go_sem] vEXK eKXK vEXo vEX_nil vEX_cons offB rdBlk blkOf

end
end Go.Ab
end

section
namespace Go.Ab

theorem bstr_toList (l : List UInt8) : (bstr l).toList = l := by rw [ByteArray.toList_eq]; exact bstr_list l
theorem partsOf_many (b : List UInt8) : (partsOf b).length <= b.length + 1 := by
  unfold partsOf
  split
  · simp
  · exact pcs_many 44 b
theorem pre_set {H K : Heap} (hp : H <+: K) {id : Nat} (h : H.length <= id) (b : Blk) : H <+: K.set id b := by
  rw [List.prefix_iff_eq_take]
  apply List.ext_getElem?
  intro j
  by_cases hj : j < H.length
  · rw [List.getElem?_take, if_pos hj, List.getElem?_set_ne (by omega)]
    obtain ⟨t, rfl⟩ := hp
    rw [List.getElem?_append_left hj]
  · rw [List.getElem?_take, if_neg hj, List.getElem?_eq_none (by omega)]
theorem sysCell {H : Heap} {id : Nat} {q : Int} {v : Value} (h : H[id]? = some ⟨[.int .i64 q, v], true, true⟩) :
    cellsAt H id 0 2 = some [.int .i64 q, v] /\ cellsAt H id 1 1 = some [v] /\ (∀ (p : Int) (w : Value), w.oneCell' = true -> storeAt H id 0 [.int .i64 p, w] = some (H.set id ⟨[.int .i64 p, w], true, true⟩) /\
      cellsAt (H.set id ⟨[.int .i64 p, w], true, true⟩) id 0 2 = some [.int .i64 p, w] /\ (H.set id ⟨[.int .i64 p, w], true, true⟩)[id]? = some ⟨[.int .i64 p, w], true, true⟩ /\ Same (fun j => j = id) H (H.set id ⟨[.int .i64 p, w], true, true⟩)) /\
    (∀ w : Value, w.oneCell' = true -> storeAt H id 1 [w] = some (H.set id ⟨[.int .i64 q, w], true, true⟩)) := by
  have hh : Holds H id [.int .i64 q, v] := ⟨true, h⟩
  have hlt := (List.getElem?_eq_some_iff.1 h).1
  refine ⟨by simpa using hh.cells (n := 2) (o := 0) (by simp), hh.cell rfl, fun p w hw => ?_, fun w hw => ?_⟩
  · obtain ⟨z1, z2, z3, z4⟩ := boxLate (cs := [.int .i64 p, w]) h (List.prefix_refl _) rfl (by simp [one_int, hw])
    exact ⟨z1, by simpa using z2.cells (n := 2) (o := 0) (by simp), List.getElem?_set_self hlt, z3⟩
  · rw [storeAt_of h rfl rfl (by simp) (by simp [hw])]; simp [over]
end Go.Ab

namespace Go.Proofs.YtkimaohcmcfcnaaDoor
open Go.Ab

theorem l01Split_at {H : Heap} {s : List UInt8} {c : UInt8} {n : Int} (hn : (c.toNat : Int) = n) (hs : s.length <= 1048576) (Post : Value -> Heap -> Prop)
    (h : ∀ H' id, H <+: H' -> H.length <= id -> OL 1 H' id (strs (pcs c s)) (pcs c s).length -> Post (lv 1 id 0 (pcs c s).length) H') : ACalls Tryd.prog 39 [.string (bstr s), .int .u8 n] H Post := by
  subst hn; exact l01Split_ok hs Post h
theorem strsAt {H : Heap} {id : Nat} {xs : List (List UInt8)} {n : Nat} (h : OL 1 H id (strs xs) n) {k : Nat} (hk : k < xs.length) : cellsAt H id k 1 = some [.string (bstr xs[k])] := by
  have := h.at.cell (k := k) (v := .string (bstr xs[k])) (by simp [strs, hk])
  simpa using this

theorem l01Read_ok {H : Heap} {s : List UInt8} (hs : s.length <= 1048576) (Post : Value -> Heap -> Prop)
    (h0 : specD s = none -> ∀ H', H <+: H' -> Post (.tuple #[.agg #[.int .i64 0, .slice none 0 0], .bool false]) H')
    (h1 : ∀ p bs, specD s = some (p, bs) -> ∀ H' w, H <+: H' -> BlocksIn H.length H'.length H' w bs -> Post (.tuple #[sysV p w, .bool true]) H') : ACalls Tryd.prog 21 [.string (bstr s)] H Post := by
  refine ACalls.res ?_
  refine acalls_vc (rs := [.cell 2 30, .tmp 3]) Tryd.func21 rfl rfl Tryd.ntmps21 rfl rfl ?_
  simp (maxSteps := 1000000) [go_sem]
  have hp0 : H <+: H ++ [(⟨[.int .i64 0, .slice none 0 0], true, true⟩ : Blk)] := List.prefix_append _ _
  have hr0 : (H ++ [(⟨[.int .i64 0, .slice none 0 0], true, true⟩ : Blk)])[H.length]? = some ⟨[.int .i64 0, .slice none 0 0], true, true⟩ := by simp
  have hl0 : (H ++ [(⟨[.int .i64 0, .slice none 0 0], true, true⟩ : Blk)]).length = H.length + 1 := by simp
  generalize H ++ [(⟨[.int .i64 0, .slice none 0 0], true, true⟩ : Blk)] = H0 at hp0 hr0 hl0 ⊢
  have fail : specD s = none -> ∀ (HN : Heap), H <+: HN -> HN[H.length]? = some ⟨[.int .i64 0, .slice none 0 0], true, true⟩ ->
      ∃ HZ, storeAt HN H.length 0 [.int .i64 0, .slice none 0 0] = some HZ /\ cellsAt HZ H.length 0 2 = some [.int .i64 0, .slice none 0 0] /\
        ∃ v', Up HZ (.tuple #[.agg #[.int .i64 0, .slice none 0 0], .bool false]) v' /\ Post v' HZ := fun hn HN hp hr => by
    obtain ⟨_, _, g, _⟩ := sysCell hr
    obtain ⟨z1, z2, _, _⟩ := g 0 (.slice none 0 0) rfl
    exact ⟨_, z1, z2, _, Up.refl _ _, h0 hn _ (pre_set hp (Nat.le_refl _) _)⟩
  refine l01Split_at (c := 58) rfl hs _ ?_
  intro H1 id1 hp1 hid1 ho1
  have hr1 := pget hp1 hr0
  have hm := pcs_many 58 s
  by_cases h2 : (pcs 58 s).length = 2
  rotate_left
  · have hn : specD s = none := by
      unfold specD
      split
      · rename_i a b he; rw [he] at h2; exact absurd rfl h2
      · rfl
    have h2' : (((pcs 58 s).length : Int) != 2) = true := bne_iff_ne.2 (by omega)
    obtain ⟨HZ, z1, z2, z3⟩ := fail hn H1 (hp0.trans hp1) hr1
    simp (maxSteps := 1000000) [go_sem, h2', z1, z2]
    exact z3
  obtain ⟨a, b, hab⟩ : ∃ a b, pcs 58 s = [a, b] := by
    match hp : pcs 58 s, h2 with
    | [a, b], _ => exact ⟨a, b, rfl⟩
  rw [hab] at ho1
  have ca : cellsAt H1 id1 0 1 = some [.string (bstr a)] := strsAt ho1 (k := 0) (by simp)
  have cb : cellsAt H1 id1 1 1 = some [.string (bstr b)] := strsAt ho1 (k := 1) (by simp)
  have hla : a.length <= s.length := pcs_len (c := 58) (by rw [hab]; simp)
  have hlb : b.length <= s.length := pcs_len (c := 58) (by rw [hab]; simp)
  simp (maxSteps := 1000000) [go_sem, hab, ca]
  refine l01Number_ok (by omega) _ ?_
  have cbx : cellsAt (H1 ++ [(⟨[], true, true⟩ : Blk), ⟨[.int .i64 (numB a), .slice (some ⟨H1.length, 0, none⟩) 0 0], true, true⟩]) id1 1 1 = some [.string (bstr b)] := cellsAt_pre (List.prefix_append _ _) cb
  have hp2 : H1 <+: H1 ++ [(⟨[], true, true⟩ : Blk), ⟨[.int .i64 (numB a), .slice (some ⟨H1.length, 0, none⟩) 0 0], true, true⟩] := List.prefix_append _ _
  have hE2 : (H1 ++ [(⟨[], true, true⟩ : Blk), ⟨[.int .i64 (numB a), .slice (some ⟨H1.length, 0, none⟩) 0 0], true, true⟩])[H1.length]? = some ⟨[], true, true⟩ := by simp
  have hx2 : (H1 ++ [(⟨[], true, true⟩ : Blk), ⟨[.int .i64 (numB a), .slice (some ⟨H1.length, 0, none⟩) 0 0], true, true⟩])[H1.length + 1]? = some ⟨[.int .i64 (numB a), .slice (some ⟨H1.length, 0, none⟩) 0 0], true, true⟩ := by simp
  have hl2 : (H1 ++ [(⟨[], true, true⟩ : Blk), ⟨[.int .i64 (numB a), .slice (some ⟨H1.length, 0, none⟩) 0 0], true, true⟩]).length = H1.length + 2 := by simp
  simp (maxSteps := 1000000) [go_sem, cbx]
  generalize H1 ++ [(⟨[], true, true⟩ : Blk), ⟨[.int .i64 (numB a), .slice (some ⟨H1.length, 0, none⟩) 0 0], true, true⟩] = H2 at cbx hp2 hE2 hx2 hl2 ⊢
  have hr2 := pget hp2 hr1
  have hpH2 := (hp0.trans hp1).trans hp2
  have hlen1 := hp1.length_le
  by_cases hb : b = []
  case' pos =>
    have hpo0 : partsOf b = [] := by rw [partsOf, if_pos hb]
    have hbe : b.isEmpty = true := by rw [hb]; rfl
    simp (maxSteps := 1000000) [go_sem, bstr_toList, hbe]
    obtain ⟨qT, hqT⟩ : ∃ q, q = H.length := ⟨_, rfl⟩
    have hLT : LV (fun j => H1.length <= j /\ j ≠ H1.length + 1 /\ j ≠ qT) H2 (.slice (some ⟨H1.length, 0, none⟩) 0 0) ((partsOf b).map toBk) := .inl ⟨by rw [hpo0]; rfl, .inr ⟨H1.length, rfl, hE2, Nat.le_refl _, by omega, by omega⟩⟩
    have h3T : (partsOf b).all (fun x => x.length == 3) = true := by rw [hpo0]; rfl
    have hxT := hx2
    have hrT := hr2
    have hpT := hpH2
    generalize Value.slice (some ⟨H1.length, 0, none⟩) 0 0 = vT at hLT hxT ⊢
    generalize H2 = HT at *
  case' neg =>
    have hbe : b.isEmpty = false := by cases b with | nil => exact absurd rfl hb | cons _ _ => rfl
    simp (maxSteps := 1000000) [go_sem, bstr_toList, hbe]
    refine l01Split_at (c := 44) rfl (by omega) _ ?_
    intro H3 id2 hp3 hid2 ho2
    have hpo : partsOf b = pcs 44 b := by rw [partsOf, if_neg hb]
    rw [<- hpo] at ho2 ⊢
    obtain ⟨ps, hps⟩ : ∃ ps, partsOf b = ps := ⟨_, rfl⟩
    have hmany : ps.length <= b.length + 1 := by rw [<- hps, hpo]; exact pcs_many 44 b
    have hplen : ∀ x ∈ ps, x.length <= b.length := fun x hx => pcs_len (c := 44) (by rw [<- hpo, hps]; exact hx)
    rw [hps] at ho2 ⊢
    simp (maxSteps := 1000000) [go_sem]
    have hE3 := pget hp3 hE2
    have hx3 := pget hp3 hx2
    have hr3 := pget hp3 hr2
    have hlen3 := hp3.length_le
    refine AWp.loopVc (St := Nat × Value) (fun q => [(2, .pointer (some ⟨H.length, 0, none⟩)), (5, .pointer (some ⟨H1.length + 1, 0, none⟩)), (6, lv 1 id2 0 ps.length), (7, .int .i64 q.1)])
      (fun q H' => q.1 <= ps.length /\ (ps.take q.1).all (fun x => x.length == 3) = true /\ H <+: H' /\ H'[H.length]? = some ⟨[.int .i64 0, .slice none 0 0], true, true⟩ /\ H'[H1.length + 1]? = some ⟨[.int .i64 (numB a), q.2], true, true⟩ /\
        LV (fun j => H1.length <= j /\ j ≠ H1.length + 1 /\ j ≠ id2) H' q.2 ((ps.take q.1).map toBk) /\ OL 1 H' id2 (strs ps) ps.length /\ id2 < H'.length) (fun q => ps.length - q.1) (0, .slice (some ⟨H1.length, 0, none⟩) 0 0) ?_ ?_ ?_
    · simp [upF, Fr.get, Up.refl]
    · exact ⟨by simp, by simp, hpH2.trans hp3, hr3, hx3, .inl ⟨by simp, .inr ⟨H1.length, rfl, hE3, Nat.le_refl _, by omega, by omega⟩⟩, ho2, ho2.lt⟩
    rintro K ⟨k, v⟩ H' ⟨hk, h3, hpk, hrk, hxk, hlk, hok, hil⟩ hK
    simp only at hk h3 hxk hlk
    have hxid := (List.getElem?_eq_some_iff.1 hxk).1
    rcases Nat.lt_or_ge k ps.length with hlt | hlt
  case' neg.refine_3.inl =>
    have cs := strsAt hok hlt
    have hin : specD s = none \/ ps[k].length = 3 := by
      by_cases h : ps[k].length = 3
      · exact .inr h
      · refine .inl ?_
        have hall : (partsOf b).all (fun x => x.length == 3) = false := by
          refine Bool.eq_false_iff.2 fun e => h ?_
          have := List.all_eq_true.1 e ps[k] (by rw [hps]; exact List.getElem_mem hlt)
          simpa using this
        unfold specD
        rw [hab]
        simp [hall]
    by_cases h3k : ps[k].length = 3
    · obtain ⟨x, y, z, hxyz⟩ := len3 h3k
      rw [hxyz] at cs
      have hs3 : (bstr [x, y, z]).size = 3 := bstr_size _
      have b1 := x.toNat_lt
      have b2 := y.toNat_lt
      have b3 := z.toNat_lt
      have k1 := i64w (n := (x.toNat : Int)) (by omega) (by omega)
      have k2 := i64w (n := (y.toNat : Int)) (by omega) (by omega)
      have k3 := i64w (n := (z.toNat : Int)) (by omega) (by omega)
      have k4 := i64w (n := (x.toNat : Int) - 97) (by omega) (by omega)
      have k5 := i64w (n := (y.toNat : Int) - 97) (by omega) (by omega)
      have k6 := i64w (n := (z.toNat : Int) - 97) (by omega) (by omega)
      have hw_k : IntKind.i64.wrap ((k : Int) + 1) = (k : Int) + 1 := i64w (by omega) (by omega)
      obtain ⟨d0, d1, _, _⟩ := sysCell hxk
      obtain ⟨hsrc, v', H4, hap, hlv, hsm, hl4⟩ := hlk.push (fun j hj => ⟨by have := hpk.length_le; omega, by omega, by omega⟩) (blk3 x y z)
      have hx4 := hsm.get hxk (fun e => e.2.1 rfl)
      have ov := hlv.one
      obtain ⟨ax', n', cc', rfl, _⟩ := hlv.shape
      obtain ⟨_, _, _, d4⟩ := sysCell hx4
      have d5 := d4 _ ov
      simp only [Bk.cells, blk3] at hsrc hap
      obtain ⟨ax, n, cc, rfl, hnv⟩ := hlk.shape
      have hnv' : n <= 1048576 := by rw [hnv, List.length_map, List.length_take]; omega
      simp (maxSteps := 1000000) [go_sem, hlt, cs, hs3]
      refine AWp.draw mixed [(0, false), (1, false), (2, false), (3, false), (4, false), (5, false), (6, false), (7, false), (8, false), (9, false), (10, false), (11, false), (12, false), (13, false), (14, false), (15, true), (16, false), (17, false), (18, false)] (by kernel_rfl) ?_
      simp (maxSteps := 1000000) [go_sem, hlt, cs, hs3, bstr_idx, k1, k2, k3, k4, k5, k6, d1, hsrc, hap, d5, hw_k]
      refine andK_intro ⟨by omega, by omega⟩ ?_
      have htk : (ps.take (k + 1)).map toBk = (ps.take k).map toBk ++ [blk3 x y z] := by
        rw [List.take_succ_eq_append_getElem hlt, List.map_append, hxyz]; rfl
      have hp4 : H <+: H4 := ((Same.of_prefix hpk).trans hsm).prefix (fun j hj e => by have e1 := e.1; omega)
      have hss : Same (fun j => j = H1.length + 1) H4 (H4.set (H1.length + 1) ⟨[.int .i64 (numB a), .slice ax' n' cc'], true, true⟩) := same_set
      refine hK (k + 1, .slice ax' n' cc') _ _ (by simp only; omega) (by simp [upF, Fr.get, Up.refl]) ⟨by simp only; omega, ?_, pre_set hp4 (by omega) _, hss.get (hsm.get hrk (fun e => by have e1 := e.1; omega)) (by omega), List.getElem?_set_self (by omega), ?_, (hok.keep hsm (fun e => e.2.2 rfl)).keep hss (by omega), by rw [List.length_set]; omega⟩
      · simp only
        rw [List.take_succ_eq_append_getElem hlt, List.all_append, h3]
        simp [h3k]
      · simp only
        rw [htk]
        exact hlv.keep hss (fun j e e2 => e.2.1 e2)
    · have hn := hin.resolve_right h3k
      have h3' : (((ps[k].length : Int)) != 3) = true := bne_iff_ne.2 (by omega)
      have hsz := bstr_size ps[k]
      obtain ⟨HZ, z1, z2, z3⟩ := fail hn H' hpk hrk
      simp (maxSteps := 1000000) [go_sem, hlt, cs, hsz, h3', z1, z2]
      exact z3
  case' neg.refine_3.inr =>
    obtain rfl : k = ps.length := by omega
    rw [List.take_length] at h3 hlk
    simp (maxSteps := 1000000) [go_sem]
    have hLT := hlk
    have h3T := h3
    have hxT := hxk
    have hrT := hrk
    have hpT := hpk
    rw [<- hps] at h3T hLT
    generalize v = vT at *
    generalize H' = HT at *
    generalize id2 = qT at *
  all_goals
    have hbl : (partsOf b).length <= 1048576 := by
      have e1 := congrArg List.length (pcs_two hab).1
      have e2 := partsOf_many b
      simp only [List.length_append, List.length_cons] at e1
      omega
    have hbl' : ((partsOf b).map toBk).length <= 1048576 := by rw [List.length_map]; exact hbl
    obtain ⟨w, hup, hw⟩ := lvUp (L := H1.length) hLT (fun j e => e.1) hbl'
    obtain ⟨c1, _, _, _⟩ := sysCell hxT
    try simp (maxSteps := 1000000) [go_sem, c1]
    refine ACalls.up (args' := [sysV (numB a) w]) ⟨Up.agg ⟨Up.refl _ _, hup, trivial⟩, trivial⟩ ?_
    refine l01Is' hw.read hbl' _ ?_
    intro H5 hp5
    have hr5 := pget hp5 hrT
    have hx5 := pget hp5 hxT
    have hD : specD s = if sysB (numB a) ((partsOf b).map toBk) then some (numB a, (partsOf b).map toBk) else none := by
      unfold specD
      rw [hab]
      simp only
      rw [if_pos h3T]
    cases hs : sysB (numB a) ((partsOf b).map toBk) with
    | false =>
      rw [hs] at hD
      obtain ⟨HZ, z1, z2, z3⟩ := fail hD H5 (hpT.trans hp5) hr5
      simp (maxSteps := 1000000) [go_sem, z1, z2]
      exact z3
    | true =>
      rw [hs] at hD
      have ov := hLT.one
      obtain ⟨c5, _, _, _⟩ := sysCell hx5
      obtain ⟨_, _, g5, _⟩ := sysCell hr5
      obtain ⟨z1, z2, z3, z4⟩ := g5 (numB a) vT ov
      simp (maxSteps := 1000000) [go_sem, c5, ov, z1, z2]
      have hL5 := (hLT.keep (S := fun _ => False) (Same.of_prefix hp5) (fun _ _ e => e)).keep z4 (fun j e e2 => by have e1 := e.1; omega)
      obtain ⟨w5, hup5, hw5⟩ := lvUp (L := H1.length) hL5 (fun j e => e.1) hbl'
      exact ⟨_, Up.tuple (ys := #[sysV (numB a) w5, .bool true]) ⟨Up.agg ⟨Up.refl _ _, hup5, trivial⟩, Up.refl _ _, trivial⟩, h1 _ _ hD _ _ (pre_set (hpT.trans hp5) (Nat.le_refl _) _) (hw5.wider (by omega))⟩
end Go.Proofs.YtkimaohcmcfcnaaDoor
end

section
namespace Go.Proofs.YtkimaohcmcfcnaaDoor
open Go.Ab

theorem specParse_ok {H : Heap} {s : ByteArray} (hs : s.size <= 1048576) (Post : Value -> Heap -> Prop)
    (h : ∀ H' w, H <+: H' -> BlocksIn H.length H'.length H' w (rParse s.data.toList).1.2 -> Post (.tuple #[sysV (rParse s.data.toList).1.1 w, .int .i64 (rParse s.data.toList).2]) H') :
    ACalls Tryd.prog 10 [.string s] H Post := by
  obtain ⟨l, hl⟩ : ∃ l, l = s.data.toList := ⟨_, rfl⟩
  have hsl : s = bstr l := by rw [hl]; exact bstr_of s
  rw [<- hl] at h
  have hs' : l.length <= 1048576 := by rw [hsl, bstr_size] at hs; exact hs
  rw [hsl]
  refine ACalls.res ?_
  refine acalls_vc (rs := [.cell 2 30, .tmp 3]) Tryd.func10 rfl rfl Tryd.ntmps10 rfl rfl ?_
  simp (maxSteps := 1000000) [go_sem]
  have hp0 : H <+: H ++ [(⟨[.int .i64 0, .slice none 0 0], true, true⟩ : Blk)] := List.prefix_append _ _
  have hr0 : (H ++ [(⟨[.int .i64 0, .slice none 0 0], true, true⟩ : Blk)])[H.length]? = some ⟨[.int .i64 0, .slice none 0 0], true, true⟩ := by simp
  have hl0 : (H ++ [(⟨[.int .i64 0, .slice none 0 0], true, true⟩ : Blk)]).length = H.length + 1 := by simp
  generalize H ++ [(⟨[.int .i64 0, .slice none 0 0], true, true⟩ : Blk)] = H0 at hp0 hr0 hl0 ⊢
  refine l01Read_ok hs' _ ?_ ?_
  · intro hn H1 hp1
    have hD : rParse l = ((0, []), 6) := by rw [rParse, hn]
    rw [hD] at h
    have hr1 := pget hp1 hr0
    have hp2 : H1 <+: H1 ++ [(⟨[.int .i64 0, .slice none 0 0], true, true⟩ : Blk)] := List.prefix_append _ _
    have hr2 := pget hp2 hr1
    obtain ⟨_, _, g, _⟩ := sysCell hr2
    obtain ⟨z1, z2, _, _⟩ := g 0 (.slice none 0 0) rfl
    simp (maxSteps := 1000000) [go_sem, z1, z2]
    exact ⟨_, Up.tuple (ys := #[sysV 0 (lv 3 0 0 0), .int .i64 6]) ⟨Up.agg ⟨Up.refl _ _, Up.nil _ _ _ _, trivial⟩, Up.refl _ _, trivial⟩, h _ _ (pre_set ((hp0.trans hp1).trans hp2) (Nat.le_refl _) _) (BlocksIn.nil _ _ _)⟩
  · intro p bs hD' H1 w hp1 hw
    have hD : rParse l = ((p, bs), 0) := by rw [rParse, hD']
    rw [hD] at h
    have ow := hw.read.one
    have hr1 := pget hp1 hr0
    have hp2 : H1 <+: H1 ++ [(⟨[.int .i64 p, w], true, true⟩ : Blk)] := List.prefix_append _ _
    have hr2 := pget hp2 hr1
    obtain ⟨_, _, g, _⟩ := sysCell hr2
    obtain ⟨z1, z2, z3, z4⟩ := g p w ow
    simp (maxSteps := 1000000) [go_sem, sysV, ow, z1, z2]
    have hle := hp1.length_le
    have hw3 := (hw.pre hp2).keep z4 (by rintro j ⟨e1, e2⟩ e; omega)
    exact ⟨_, Up.refl _ _, h _ w (pre_set ((hp0.trans hp1).trans hp2) (Nat.le_refl _) _) (by
      obtain ⟨id, g1, g2⟩ := hw3
      exact ⟨id, g1, fun hne => ⟨by have := (g2 hne).1; omega, by have := (g2 hne).2; simp; omega⟩⟩)⟩
end Go.Proofs.YtkimaohcmcfcnaaDoor
end

section
namespace Go.Proofs.YtkimaohcmcfcnaaDoor
open Go.Ab

theorem cut_true {l sep : List UInt8} (h : (Lib.cut l sep).2.2 = true) : (Lib.cut l sep).2.1.length + sep.length <= l.length := by
  unfold Lib.cut at h ⊢
  split
  · rename_i h0
    have := Lib.index_room l sep h0
    simp only [List.length_drop]; omega
  · rename_i h0
    rw [if_neg h0] at h; cases h

theorem implParse_ok {H : Heap} {s : ByteArray} (hs : s.size <= 1048576) (Post : Value -> Heap -> Prop)
    (h : ∀ H' w, H <+: H' -> BlocksIn H.length H'.length H' w (rParse s.data.toList).1.2 -> Post (.tuple #[sysV (rParse s.data.toList).1.1 w, .int .i64 (rParse s.data.toList).2]) H') :
    ACalls Tryd.prog 11 [.string s] H Post := by
  obtain ⟨l, hl⟩ : ∃ l, l = s.data.toList := ⟨_, rfl⟩
  have hsl : s = bstr l := by rw [hl]; exact bstr_of s
  rw [<- hl] at h
  have hs' : l.length <= 1048576 := by rw [hsl, bstr_size] at hs; exact hs
  rw [hsl]
  refine ACalls.res ?_
  refine acalls_vc (rs := [.cell 2 30, .tmp 3]) Tryd.func11 rfl rfl Tryd.ntmps11 rfl rfl ?_
  simp (maxSteps := 1000000) [go_sem]
  have hp0 : H <+: H ++ [(⟨[.int .i64 0, .slice none 0 0], true, true⟩ : Blk)] := List.prefix_append _ _
  have hr0 : (H ++ [(⟨[.int .i64 0, .slice none 0 0], true, true⟩ : Blk)])[H.length]? = some ⟨[.int .i64 0, .slice none 0 0], true, true⟩ := by simp
  have hl0 : (H ++ [(⟨[.int .i64 0, .slice none 0 0], true, true⟩ : Blk)]).length = H.length + 1 := by simp
  generalize H ++ [(⟨[.int .i64 0, .slice none 0 0], true, true⟩ : Blk)] = H0 at hp0 hr0 hl0 ⊢
  have fail : implD l = none -> ∀ (HN : Heap), H <+: HN -> HN[H.length]? = some ⟨[.int .i64 0, .slice none 0 0], true, true⟩ ->
      ∃ HZ, storeAt HN H.length 0 [.int .i64 0, .slice none 0 0] = some HZ /\ cellsAt HZ H.length 0 2 = some [.int .i64 0, .slice none 0 0] /\
        ∃ v', Up HZ (.tuple #[.agg #[.int .i64 0, .slice none 0 0], .int .i64 6]) v' /\ Post v' HZ := fun hn HN hp hr => by
    have hD : rParse l = ((0, []), 6) := by rw [rParse, <- implD_eq, hn]
    rw [hD] at h
    obtain ⟨_, _, g, _⟩ := sysCell hr
    obtain ⟨z1, z2, _, _⟩ := g 0 (.slice none 0 0) rfl
    exact ⟨_, z1, z2, _, Up.tuple (ys := #[sysV 0 (lv 3 0 0 0), .int .i64 6]) ⟨Up.agg ⟨Up.refl _ _, Up.nil _ _ _ _, trivial⟩, Up.refl _ _, trivial⟩, h _ _ (pre_set hp (Nat.le_refl _) _) (BlocksIn.nil _ _ _)⟩
  refine cut_ok (sep := [58]) hs' _ ?_
  obtain ⟨hla, hlb⟩ := cut_len l [58]
  obtain ⟨a, ha⟩ : ∃ a, (Lib.cut l [58]).1 = a := ⟨_, rfl⟩
  obtain ⟨b, hb'⟩ : ∃ b, (Lib.cut l [58]).2.1 = b := ⟨_, rfl⟩
  obtain ⟨fd, hfd⟩ : ∃ fd, (Lib.cut l [58]).2.2 = fd := ⟨_, rfl⟩
  have hI : implD l = (match Lib.parseIntB 64 a with
    | .ok v => if fd then if (partsOf b).all (fun x => x.length == 3 && good 15 (toBk x)) then
        if sysB v ((partsOf b).map toBk) = true /\ sysText v ((partsOf b).map toBk) = l then some (v, (partsOf b).map toBk) else none else none else none
    | _ => none) := by unfold implD; rw [ha, hb', hfd]; all_goals (cases Lib.parseIntB 64 a <;> rfl)
  rw [ha] at hla
  rw [hb'] at hlb
  rw [ha, hb', hfd]
  simp (maxSteps := 1000000) [go_sem]
  refine parse_ok (by omega) _ ?_ ?_
  rotate_left
  · intro hno x
    have hn : implD l = none := by
      rw [hI]
      split
      · rename_i v hv; exact absurd hv (hno v)
      · rfl
    have hpg : H0 <+: H0 ++ [(⟨[], false, false⟩ : Blk)] := List.prefix_append _ _
    have hrg := pget hpg hr0
    obtain ⟨HZ, z1, z2, z3⟩ := fail hn _ (hp0.trans hpg) hrg
    cases fd <;> simp (maxSteps := 1000000) [go_sem, undef, z1, z2] <;> exact z3
  intro v hv
  rw [hv] at hI
  simp only at hI
  cases fd with
  | false =>
    obtain ⟨HZ, z1, z2, z3⟩ := fail (by rw [hI]; rfl) _ hp0 hr0
    simp (maxSteps := 1000000) [go_sem, undef, z1, z2]
    exact z3
  | true =>
  simp only [if_true] at hI
  simp (maxSteps := 1000000) [go_sem, undef]
  have hp2 : H0 <+: H0 ++ [(⟨[.int .i64 v, .slice none 0 0], true, true⟩ : Blk)] := List.prefix_append _ _
  have hx2 : (H0 ++ [(⟨[.int .i64 v, .slice none 0 0], true, true⟩ : Blk)])[H0.length]? = some ⟨[.int .i64 v, .slice none 0 0], true, true⟩ := by simp
  have hl2 : (H0 ++ [(⟨[.int .i64 v, .slice none 0 0], true, true⟩ : Blk)]).length = H0.length + 1 := by simp
  generalize H0 ++ [(⟨[.int .i64 v, .slice none 0 0], true, true⟩ : Blk)] = H2 at hp2 hx2 hl2 ⊢
  have hr2 := pget hp2 hr0
  have hpH2 := hp0.trans hp2
  by_cases hb : b = []
  case' pos =>
    have hpo0 : partsOf b = [] := by rw [partsOf, if_pos hb]
    have hbe : b.isEmpty = true := by rw [hb]; rfl
    simp (maxSteps := 1000000) [go_sem, bstr_toList, hbe]
    obtain ⟨qT, hqT⟩ : ∃ q, q = H.length := ⟨_, rfl⟩
    have hLT : LV (fun j => H0.length < j /\ j ≠ qT) H2 (.slice none 0 0) ((partsOf b).map toBk) := .inl ⟨by rw [hpo0]; rfl, .inl rfl⟩
    have h3T : (partsOf b).all (fun x => x.length == 3 && good 15 (toBk x)) = true := by rw [hpo0]; rfl
    have hxT := hx2
    have hrT := hr2
    have hpT := hpH2
    generalize Value.slice none 0 0 = vT at hLT hxT
    generalize H2 = HT at *
  case' neg =>
    have hbe : b.isEmpty = false := by cases b with | nil => exact absurd rfl hb | cons _ _ => rfl
    have hpo : partsOf b = pcs 44 b := by rw [partsOf, if_neg hb]
    obtain ⟨sp1, sp2⟩ := split_pcs 44 b.length b (Nat.le_refl _)
    have sp3 : splitL b [44] = partsOf b := by rw [sp1, hpo]
    simp (maxSteps := 1000000) [go_sem, bstr_toList, hbe]
    refine split_ok (sep := [44]) (by omega) (by simp) (by rw [sp1, sp2]) _ ?_
    rw [sp3]
    intro H3 hp3 ho2
    obtain ⟨ps, hps⟩ : ∃ ps, partsOf b = ps := ⟨_, rfl⟩
    have hmany : ps.length <= b.length + 1 := by rw [<- hps, hpo]; exact pcs_many 44 b
    have hplen : ∀ x ∈ ps, x.length <= b.length := fun x hx => pcs_len (c := 44) (by rw [<- hpo, hps]; exact hx)
    rw [hps] at ho2 ⊢
    obtain ⟨id2, hid2⟩ : ∃ q, H2.length = q := ⟨_, rfl⟩
    rw [hid2] at ho2 ⊢
    simp (maxSteps := 1000000) [go_sem]
    have hx3 := pget hp3 hx2
    have hr3 := pget hp3 hr2
    have hlen3 := hp3.length_le
    refine AWp.loopVc (St := Nat × Value) (fun q => [(0, .string (bstr l)), (2, .pointer (some ⟨H.length, 0, none⟩)), (9, .pointer (some ⟨H0.length, 0, none⟩)), (37, .slice (some ⟨id2, 0, none⟩) ps.length ps.length), (38, .int .i64 ps.length), (39, .int .i64 q.1)])
      (fun q H' => q.1 <= ps.length /\ (ps.take q.1).all (fun x => x.length == 3 && good 15 (toBk x)) = true /\ H <+: H' /\ H'[H.length]? = some ⟨[.int .i64 0, .slice none 0 0], true, true⟩ /\ H'[H0.length]? = some ⟨[.int .i64 v, q.2], true, true⟩ /\
        LV (fun j => H0.length < j /\ j ≠ id2) H' q.2 ((ps.take q.1).map toBk) /\ H'[id2]? = some ⟨strs ps, true, true⟩) (fun q => ps.length - q.1) (0, .slice none 0 0) ?_ ?_ ?_
    · simp [upF, Fr.get, Up.refl]
    · exact ⟨by simp, by simp, hpH2.trans hp3, hr3, hx3, .inl ⟨by simp, .inl rfl⟩, ho2⟩
    rintro K ⟨k, vl⟩ H' ⟨hk, h3, hpk, hrk, hxk, hlk, hok⟩ hK
    simp only at hk h3 hxk hlk
    have hxid := (List.getElem?_eq_some_iff.1 hxk).1
    have hil := (List.getElem?_eq_some_iff.1 hok).1
    rcases Nat.lt_or_ge k ps.length with hlt | hlt
  case' neg.refine_3.inl =>
    have cs : cellsAt H' id2 k 1 = some [.string (bstr ps[k])] := Holds.cell ⟨true, hok⟩ (by simp [strs, hlt])
    have hin : implD l = none \/ (ps[k].length = 3 /\ good 15 (toBk ps[k]) = true) := by
      by_cases h : (ps[k].length == 3 && good 15 (toBk ps[k])) = true
      · refine .inr ?_
        simpa using h
      · refine .inl ?_
        have hall : (partsOf b).all (fun x => x.length == 3 && good 15 (toBk x)) = false := by
          refine Bool.eq_false_iff.2 fun e => h ?_
          exact List.all_eq_true.1 e ps[k] (by rw [hps]; exact List.getElem_mem hlt)
        rw [hI, hall]
        simp
    have hpl := hplen ps[k] (List.getElem_mem hlt)
    have hw_k : IntKind.i64.wrap ((k : Int) + 1) = (k : Int) + 1 := i64w (by omega) (by omega)
    simp (maxSteps := 1000000) [go_sem, hlt, cs]
    refine readBlock_ok (by omega) _ ?_ ?_
    · intro hne H4 hp4
      have hn := hin.resolve_right fun e => hne e.1
      have hp5 : H4 <+: H4 ++ [(⟨[.int .i64 0, .int .i64 0, .int .i64 0], true, true⟩ : Blk)] := List.prefix_append _ _
      have hr5 := pget (hp4.trans hp5) hrk
      obtain ⟨HZ, z1, z2, z3⟩ := fail hn _ (hpk.trans (hp4.trans hp5)) hr5
      simp (maxSteps := 1000000) [go_sem, z1, z2]
      exact z3
    · intro h3k H4 hp4
      obtain ⟨B, hB⟩ : ∃ B, toBk ps[k] = B := ⟨_, rfl⟩
      rw [hB] at hin ⊢
      have hp5 : H4 <+: H4 ++ [(⟨[.int .i64 B.a, .int .i64 B.b, .int .i64 B.c], true, true⟩ : Blk)] := List.prefix_append _ _
      have hp45 := hp4.trans hp5
      have hr5 := pget hp45 hrk
      have hx5 := pget hp45 hxk
      have ho5 := pget hp45 hok
      have hl5 := hlk.keep (S := fun _ => False) (Same.of_prefix hp45) (fun _ _ e => e)
      have hle5 := hp45.length_le
      by_cases hg : good 15 B = true
      · obtain ⟨hsrc, v', H6, hap, hlv, hsm, hl6⟩ := hl5.push (fun j hj => ⟨by have := hpk.length_le; omega, by omega⟩) B
        have hx6 := hsm.get hx5 (fun e => by have e1 := e.1; omega)
        have ov := hlv.one
        obtain ⟨ax', n', cc', rfl, _⟩ := hlv.shape
        obtain ⟨_, d1, _, _⟩ := sysCell hx5
        obtain ⟨_, _, _, d4⟩ := sysCell hx6
        have d5 := d4 _ ov
        have hap' := hap
        simp only [Bk.cells, List.append_assoc, List.cons_append, List.nil_append, List.length_append, List.length_cons, List.length_nil, Nat.zero_add] at hsrc hap
        obtain ⟨ax, n, cc, rfl, hnv⟩ := hlk.shape
        have hnv' : n <= 1048576 := by rw [hnv, List.length_map, List.length_take]; omega
        simp (maxSteps := 1000000) [go_sem, Bk.val, hg, d1, hsrc, hap, d5, hw_k]
        refine andK_intro ⟨by omega, by omega⟩ ?_
        have htk : (ps.take (k + 1)).map toBk = (ps.take k).map toBk ++ [B] := by
          rw [List.take_succ_eq_append_getElem hlt, List.map_append, <- hB]; rfl
        have hp6 : H <+: H6 := ((Same.of_prefix (hpk.trans hp45)).trans hsm).prefix (fun j hj e => by have e1 := e.1; have := hp0.length_le; omega)
        have hss : Same (fun j => j = H0.length) H6 (H6.set H0.length ⟨[.int .i64 v, .slice ax' n' cc'], true, true⟩) := same_set
        refine hK (k + 1, .slice ax' n' cc') _ _ (by simp only; omega) (by simp [upF, Fr.get, Up.refl]) ⟨by simp only; omega, ?_, pre_set hp6 (by omega) _, hss.get (hsm.get hr5 (fun e => by have e1 := e.1; omega)) (by omega), List.getElem?_set_self (by omega), ?_, hss.get (hsm.get ho5 (fun e => e.2 rfl)) (by omega)⟩
        · simp only
          rw [List.take_succ_eq_append_getElem hlt, List.all_append, h3, List.all_cons, hB, hg]
          simp [h3k]
        · simp only
          rw [htk]
          exact hlv.keep hss (fun j e e2 => by have e1 := e.1; omega)
      · have hn := hin.resolve_right fun e => hg e.2
        have hg' : good 15 B = false := Bool.eq_false_iff.2 hg
        obtain ⟨HZ, z1, z2, z3⟩ := fail hn _ (hpk.trans hp45) hr5
        simp (maxSteps := 1000000) [go_sem, Bk.val, hg', z1, z2]
        exact z3
  case' neg.refine_3.inr =>
    obtain rfl : k = ps.length := by omega
    rw [List.take_length] at h3 hlk
    simp (maxSteps := 1000000) [go_sem]
    have hLT := hlk
    have h3T := h3
    have hxT := hxk
    have hrT := hrk
    have hpT := hpk
    rw [<- hps] at h3T hLT
    generalize vl = vT at *
    generalize H' = HT at *
    generalize id2 = qT at *
  all_goals
    have hbl : (partsOf b).length <= 1048576 := by
      have e1 := cut_true hfd
      rw [hb'] at e1
      have e2 := partsOf_many b
      simp only [List.length_cons, List.length_nil] at e1
      omega
    have hbl' : ((partsOf b).map toBk).length <= 1048576 := by rw [List.length_map]; exact hbl
    obtain ⟨w, hup, hw⟩ := lvUp (L := H0.length) hLT (fun j e => Nat.le_of_lt e.1) hbl'
    obtain ⟨c1, _, _, _⟩ := sysCell hxT
    try simp (maxSteps := 1000000) [go_sem, undef, c1]
    refine ACalls.up (args' := [sysV v w]) ⟨Up.agg ⟨Up.refl _ _, hup, trivial⟩, trivial⟩ ?_
    refine implIsSys hw.read _ ?_
    intro H5 hp5
    have hr5 := pget hp5 hrT
    have hx5 := pget hp5 hxT
    have hL5 := hLT.keep (S := fun _ => False) (Same.of_prefix hp5) (fun _ _ e => e)
    cases hsy : sysB v ((partsOf b).map toBk) with
    | false =>
      obtain ⟨HZ, z1, z2, z3⟩ := fail (by rw [hI, if_pos h3T, if_neg (by rw [hsy]; simp)]) H5 (hpT.trans hp5) hr5
      simp (maxSteps := 1000000) [go_sem, undef, z1, z2]
      exact z3
    | true =>
      obtain ⟨n, hvn, hn16, hl35, hg15⟩ := isSys_nat (sysB_iff.1 hsy)
      obtain ⟨c5, _, _, _⟩ := sysCell hx5
      obtain ⟨w5, hup5, hw5⟩ := lvUp (L := H0.length) hL5 (fun j e => Nat.le_of_lt e.1) hbl'
      have ov := hLT.one
      simp (maxSteps := 1000000) [go_sem, undef, c5]
      refine ACalls.up (args' := [sysV v w5]) ⟨Up.agg ⟨Up.refl _ _, hup5, trivial⟩, trivial⟩ ?_
      subst hvn
      refine systemText_ok hn16 hw5.read hl35 hg15 _ ?_
      intro H6 hp6
      have hr6 := pget hp6 hr5
      have hx6 := pget hp6 hx5
      have hL6 := hL5.keep (S := fun _ => False) (Same.of_prefix hp6) (fun _ _ e => e)
      by_cases htx : sysText n ((partsOf b).map toBk) = l
      · have hD : rParse l = (((n : Int), (partsOf b).map toBk), 0) := by rw [rParse, <- implD_eq, hI, if_pos h3T, if_pos ⟨hsy, htx⟩]
        rw [hD] at h
        have htb : (sysText n ((partsOf b).map toBk) == l) = true := by simpa using htx
        obtain ⟨c6, _, _, _⟩ := sysCell hx6
        obtain ⟨_, _, g6, _⟩ := sysCell hr6
        obtain ⟨z1, z2, z3, z4⟩ := g6 n vT ov
        simp (maxSteps := 1000000) [go_sem, undef, bstr_toList, htb, c6, ov, z1, z2]
        obtain ⟨w7, hup7, hw7⟩ := lvUp (L := H0.length) (hL6.keep z4 (fun j e e2 => by have e1 := e.1; omega)) (fun j e => Nat.le_of_lt e.1) hbl'
        exact ⟨_, Up.tuple (ys := #[sysV n w7, .int .i64 0]) ⟨Up.agg ⟨Up.refl _ _, hup7, trivial⟩, Up.refl _ _, trivial⟩, h _ _ (pre_set ((hpT.trans hp5).trans hp6) (Nat.le_refl _) _) (hw7.wider (by omega))⟩
      · have htb : (sysText n ((partsOf b).map toBk) == l) = false := by simpa using htx
        obtain ⟨HZ, z1, z2, z3⟩ := fail (by rw [hI, if_pos h3T, if_neg (by rintro ⟨_, e⟩; exact htx e)]) H6 ((hpT.trans hp5).trans hp6) hr6
        simp (maxSteps := 1000000) [go_sem, undef, bstr_toList, htb, z1, z2]
        exact z3
end Go.Proofs.YtkimaohcmcfcnaaDoor
end

section
namespace Go.Proofs.YtkimaohcmcfcnaaDoor
open Go.Ab

def shStr : Shape := ⟨9, false, cStr⟩
theorem fits_shStr {D : Type} {enc : TypeId × Value -> D} (W : World) : shStr.fits enc Tryd.prog W :=
  ⟨cStr_stable, open_cStr Tryd.underlying9, by show (match Tryd.prog.underlying 9 with | _ => _); rw [Tryd.underlying9]; rfl⟩
theorem says_shStr {H : Heap} {v : Value} (h : shStr.says H v) : ∃ s : ByteArray, v = .string s /\ s.size <= maxLen := by
  obtain ⟨s, h1, h2⟩ := h
  simp only [List.cons.injEq, and_true] at h1
  exact ⟨s, h1, h2⟩
end Go.Proofs.YtkimaohcmcfcnaaDoor
end

section
namespace Go.Proofs.YtkimaohcmcfcnaaDoor
open Go.Ab

theorem lawFnExactParseSystem (H : Heap) (avs : List Value) (h : argsSay [shStr] H avs) : ACalls Tryd.prog 4 avs H fun v _ => v = .bool true := by
  obtain ⟨_, _, rfl, a0, rfl⟩ := h
  obtain ⟨v0, rfl, hz0⟩ := says_shStr a0
  refine acalls_vc (rs := [.tmp 2]) Tryd.func4 rfl rfl Tryd.ntmps4 rfl rfl ?_
  by_cases hbig0 : (1048576 : Int) < v0.size
  · simp (maxSteps := 1000000) [go_sem, hbig0, sysV]
  try simp (maxSteps := 1000000) [go_sem, hbig0, sysV]
  refine specParse_ok (by omega) _ ?_
  intro H1 wH1_0 hp1 hoH1_0
  have hlH1 := hp1.length_le
  have one_rH1_0 : wH1_0.oneCell' = true := hoH1_0.read.one
  try simp (maxSteps := 1000000) [go_sem, hbig0, one_rH1_0, sysV]
  have bxrH1_0 := Holds.last H1 [.int .i64 (rParse v0.data.toList).1.1, wH1_0]
  have hp2 : H1 <+: H1 ++ [(⟨[.int .i64 (rParse v0.data.toList).1.1, wH1_0], true, true⟩ : Blk)] := List.prefix_append _ _
  have hbH2 : (H1 ++ [(⟨[.int .i64 (rParse v0.data.toList).1.1, wH1_0], true, true⟩ : Blk)]).length = H1.length + 1 := by simp
  generalize H1 ++ [(⟨[.int .i64 (rParse v0.data.toList).1.1, wH1_0], true, true⟩ : Blk)] = H2 at bxrH1_0 hp2 hbH2 ⊢
  replace hoH1_0 := hoH1_0.pre hp2
  have hlH2 := hp2.length_le
  obtain ⟨erH1_0a, erH1_0b, erH1_0c⟩ := bxrH1_0.sys
  try simp (maxSteps := 1000000) [go_sem, hbig0, one_rH1_0, sysV, erH1_0a, erH1_0b, erH1_0c]
  refine implParse_ok (by omega) _ ?_
  intro H3 wH3_0 hp3 hoH3_0
  replace bxrH1_0 := bxrH1_0.pre hp3
  replace hoH1_0 := hoH1_0.pre hp3
  have hlH3 := hp3.length_le
  obtain ⟨erH1_0a, erH1_0b, erH1_0c⟩ := bxrH1_0.sys
  have one_rH3_0 : wH3_0.oneCell' = true := hoH3_0.read.one
  try simp (maxSteps := 1000000) [go_sem, hbig0, one_rH1_0, one_rH3_0, sysV, erH1_0a, erH1_0b, erH1_0c]
  have bxrH3_0 := Holds.last H3 [.int .i64 (rParse v0.data.toList).1.1, wH3_0]
  have hp4 : H3 <+: H3 ++ [(⟨[.int .i64 (rParse v0.data.toList).1.1, wH3_0], true, true⟩ : Blk)] := List.prefix_append _ _
  have hbH4 : (H3 ++ [(⟨[.int .i64 (rParse v0.data.toList).1.1, wH3_0], true, true⟩ : Blk)]).length = H3.length + 1 := by simp
  generalize H3 ++ [(⟨[.int .i64 (rParse v0.data.toList).1.1, wH3_0], true, true⟩ : Blk)] = H4 at bxrH3_0 hp4 hbH4 ⊢
  replace bxrH1_0 := bxrH1_0.pre hp4
  replace hoH1_0 := hoH1_0.pre hp4
  replace hoH3_0 := hoH3_0.pre hp4
  have hlH4 := hp4.length_le
  obtain ⟨erH1_0a, erH1_0b, erH1_0c⟩ := bxrH1_0.sys
  obtain ⟨erH3_0a, erH3_0b, erH3_0c⟩ := bxrH3_0.sys
  try simp (maxSteps := 1000000) [go_sem, hbig0, one_rH1_0, one_rH3_0, sysV, erH1_0a, erH1_0b, erH1_0c, erH3_0a, erH3_0b, erH3_0c]
  refine eqSystem_ok hoH3_0.read hoH1_0.read _ ?_
  intro H5 hp5
  replace bxrH1_0 := bxrH1_0.pre hp5
  replace bxrH3_0 := bxrH3_0.pre hp5
  replace hoH1_0 := hoH1_0.pre hp5
  replace hoH3_0 := hoH3_0.pre hp5
  have hlH5 := hp5.length_le
  obtain ⟨erH1_0a, erH1_0b, erH1_0c⟩ := bxrH1_0.sys
  obtain ⟨erH3_0a, erH3_0b, erH3_0c⟩ := bxrH3_0.sys
  try simp (maxSteps := 1000000) [go_sem, hbig0, one_rH1_0, one_rH3_0, sysV, erH1_0a, erH1_0b, erH1_0c, erH3_0a, erH3_0b, erH3_0c]
  refine markSys_ok hoH3_0 (by omega) (by omega) _ ?_
  intro H6 hs6 mk6
  replace bxrH1_0 := bxrH1_0.keepS hs6 (by rintro ⟨h1, h2⟩; omega)
  replace bxrH3_0 := bxrH3_0.keepS hs6 (by rintro ⟨h1, h2⟩; omega)
  replace hoH1_0 := hoH1_0.keep hs6 (by rintro j ⟨h1, h2⟩ ⟨h3, h4⟩; omega)
  have hlH6 := hs6.1
  obtain ⟨erH1_0a, erH1_0b, erH1_0c⟩ := bxrH1_0.sys
  obtain ⟨erH3_0a, erH3_0b, erH3_0c⟩ := bxrH3_0.sys
  have hng6 : decide ((1 : Int) + (((rParse v0.data.toList).1.2).length * 3 : Nat) < 0) = false := by simp only [decide_eq_false_iff_not]; omega
  try simp only [Int.natCast_mul, Int.cast_ofNat_Int] at hng6
  try simp (maxSteps := 1000000) [go_sem, hbig0, hng6, one_rH1_0, one_rH3_0, sysV, erH1_0a, erH1_0b, erH1_0c, erH3_0a, erH3_0b, erH3_0c]
  refine heldSys_ok mk6 (by omega) (by omega) _ ?_
  intro H7 hp7
  replace bxrH1_0 := bxrH1_0.pre hp7
  replace bxrH3_0 := bxrH3_0.pre hp7
  replace hoH1_0 := hoH1_0.pre hp7
  replace mk6 := mk6.pre hp7
  have hlH7 := hp7.length_le
  obtain ⟨erH1_0a, erH1_0b, erH1_0c⟩ := bxrH1_0.sys
  obtain ⟨erH3_0a, erH3_0b, erH3_0c⟩ := bxrH3_0.sys
  try simp (maxSteps := 1000000) [go_sem, hbig0, hng6, one_rH1_0, one_rH3_0, sysV, erH1_0a, erH1_0b, erH1_0c, erH3_0a, erH3_0b, erH3_0c]
  refine implParse_ok (by omega) _ ?_
  intro H8 wH8_0 hp8 hoH8_0
  replace bxrH1_0 := bxrH1_0.pre hp8
  replace bxrH3_0 := bxrH3_0.pre hp8
  replace hoH1_0 := hoH1_0.pre hp8
  replace mk6 := mk6.pre hp8
  have hlH8 := hp8.length_le
  obtain ⟨erH1_0a, erH1_0b, erH1_0c⟩ := bxrH1_0.sys
  obtain ⟨erH3_0a, erH3_0b, erH3_0c⟩ := bxrH3_0.sys
  have one_rH8_0 : wH8_0.oneCell' = true := hoH8_0.read.one
  try simp (maxSteps := 1000000) [go_sem, hbig0, hng6, one_rH1_0, one_rH3_0, one_rH8_0, sysV, erH1_0a, erH1_0b, erH1_0c, erH3_0a, erH3_0b, erH3_0c]
  have bxrH8_0 := Holds.last H8 [.int .i64 (rParse v0.data.toList).1.1, wH8_0]
  have hp9 : H8 <+: H8 ++ [(⟨[.int .i64 (rParse v0.data.toList).1.1, wH8_0], true, true⟩ : Blk)] := List.prefix_append _ _
  have hbH9 : (H8 ++ [(⟨[.int .i64 (rParse v0.data.toList).1.1, wH8_0], true, true⟩ : Blk)]).length = H8.length + 1 := by simp
  generalize H8 ++ [(⟨[.int .i64 (rParse v0.data.toList).1.1, wH8_0], true, true⟩ : Blk)] = H9 at bxrH8_0 hp9 hbH9 ⊢
  replace bxrH1_0 := bxrH1_0.pre hp9
  replace bxrH3_0 := bxrH3_0.pre hp9
  replace hoH1_0 := hoH1_0.pre hp9
  replace mk6 := mk6.pre hp9
  replace hoH8_0 := hoH8_0.pre hp9
  have hlH9 := hp9.length_le
  obtain ⟨erH1_0a, erH1_0b, erH1_0c⟩ := bxrH1_0.sys
  obtain ⟨erH3_0a, erH3_0b, erH3_0c⟩ := bxrH3_0.sys
  obtain ⟨erH8_0a, erH8_0b, erH8_0c⟩ := bxrH8_0.sys
  try simp (maxSteps := 1000000) [go_sem, hbig0, hng6, one_rH1_0, one_rH3_0, one_rH8_0, sysV, erH1_0a, erH1_0b, erH1_0c, erH3_0a, erH3_0b, erH3_0c, erH8_0a, erH8_0b, erH8_0c]
  refine eqSystem_ok hoH8_0.read hoH1_0.read _ ?_
  intro H10 hp10
  replace bxrH1_0 := bxrH1_0.pre hp10
  replace bxrH3_0 := bxrH3_0.pre hp10
  replace bxrH8_0 := bxrH8_0.pre hp10
  replace hoH1_0 := hoH1_0.pre hp10
  replace mk6 := mk6.pre hp10
  replace hoH8_0 := hoH8_0.pre hp10
  have hlH10 := hp10.length_le
  obtain ⟨erH1_0a, erH1_0b, erH1_0c⟩ := bxrH1_0.sys
  obtain ⟨erH3_0a, erH3_0b, erH3_0c⟩ := bxrH3_0.sys
  obtain ⟨erH8_0a, erH8_0b, erH8_0c⟩ := bxrH8_0.sys
  try simp (maxSteps := 1000000) [go_sem, hbig0, hng6, one_rH1_0, one_rH3_0, one_rH8_0, sysV, erH1_0a, erH1_0b, erH1_0c, erH3_0a, erH3_0b, erH3_0c, erH8_0a, erH8_0b, erH8_0c]
  refine heldSys_ok mk6 (by omega) (by omega) _ ?_
  intro H11 hp11
  replace bxrH1_0 := bxrH1_0.pre hp11
  replace bxrH3_0 := bxrH3_0.pre hp11
  replace bxrH8_0 := bxrH8_0.pre hp11
  replace hoH1_0 := hoH1_0.pre hp11
  replace mk6 := mk6.pre hp11
  replace hoH8_0 := hoH8_0.pre hp11
  have hlH11 := hp11.length_le
  obtain ⟨erH1_0a, erH1_0b, erH1_0c⟩ := bxrH1_0.sys
  obtain ⟨erH3_0a, erH3_0b, erH3_0c⟩ := bxrH3_0.sys
  obtain ⟨erH8_0a, erH8_0b, erH8_0c⟩ := bxrH8_0.sys
  try simp (maxSteps := 1000000) [go_sem, hbig0, hng6, one_rH1_0, one_rH3_0, one_rH8_0, sysV, erH1_0a, erH1_0b, erH1_0c, erH3_0a, erH3_0b, erH3_0c, erH8_0a, erH8_0b, erH8_0c]

end Go.Proofs.YtkimaohcmcfcnaaDoor
end

section
namespace Go.Ab
open Go.ChangeShapes Go.WideShapes Go.ChangeAt Go.RowKit

theorem returns_and_shaped {D : Type} {enc : TypeId × Value -> D} {a : Assume} {C : Checked} {os : Os} {f : FuncId} {fn : Func} {s : ChangeSpec} {conds : List PathCond} {apart fresh handsOn again : Bool} {X : World -> Array Value -> Prop}
    (hX : ∀ (w w' : World) (args : Array Value), w.heap = w'.heap -> X w args -> X w' args)
    (own : ownKnob C.prog.godebug = none) (started : os.Started) (noInit : C.prog.inits.idxOf? f = none) (hfn : C.prog.funcs[f]? = some fn)
    (witness : ∃ (w : World) (tape : Tape) (i : Input), w.os = os /\ (w.forCall tape i).Shaped C.prog /\ i.vars = [] /\ Input.okWide C.prog (w.forCall tape i) .any w.heap.size f i /\
      ((s.pre enc C.prog fn conds apart (w.forCall tape i).memory i.args /\ X (w.forCall tape i).memory i.args) /\ sizedMet enc C.prog fn (OpenSpec.ofChange s) apart (w.forCall tape i).memory i.args) /\ a.holds C.prog (lone (Frame.enter C.prog f i.args .normal) [] (w.forCall tape i)))
    (contract : ∀ (W : World) (base : Nat) (args : Array Value) (ds gs : List (DataW D)) (before : List MemPlace),
      (∀ (j : Nat) t v, fn.params[j]? = some t -> args[j]? = some v -> Value.okWide C.prog W .any base t v) ->
      DataW.Whole enc C.prog fn.params.toList s.vars apart W args.toList ds gs before ->
      conds.all (PathCond.test C.prog ⟨fn.params.toList, ds, s.plain.varTypes C.prog, gs⟩) = true -> X W args -> W.ShapedOpen C.prog ->
      Calls C.prog f args W fun e W' => ∃ v, e = .returned v /\ s.post enc C.prog fn apart fresh handsOn again W args v W') :
    ReturnsInHanded a C os f .any (fun w args => (s.pre enc C.prog fn conds apart w args /\ X w args) /\ sizedMet enc C.prog fn (OpenSpec.ofChange s) apart w args) (s.post enc C.prog fn apart fresh handsOn again) := by
  refine returnsInHanded_of_calls own started noInit witness ?_
  intro w tape i _ hsh _ hok hpre hholds
  obtain ⟨_, _, _, fn', hfn', _, _, _, _, hval⟩ := hok
  have e : fn' = fn := Option.some.inj (hfn'.symm.trans hfn)
  subst e
  obtain ⟨⟨⟨ds, gs, before, hw, hc⟩, hx⟩, hz⟩ := hpre
  have hw' := DataW.Whole.of_heap (w' := w.forCall tape i) (by rfl) hw
  refine (contract (w.forCall tape i) w.heap.size i.args ds gs before hval hw' hc (hX _ _ _ (by rfl) hx) hsh).mono fun e W' ⟨v, he, hp⟩ => ?_
  subst he
  exact ChangeSpec.post_blind hp

theorem law_lifted_laid {C : Checked} {os : Os} {D : Type} {enc : TypeId × Value -> D} {f : FuncId} {fn : Func} {s : ChangeSpec} {conds : List PathCond} {apart fresh handsOn : Bool} {X : World -> Array Value -> Prop} (hX : ∀ (w w' : World) (args : Array Value), w.heap = w'.heap -> X w args -> X w' args) (ss : List Shape) (own : ownKnob C.prog.godebug = none) (laid : laidOutB C.prog = true) (started : os.Started)
    (noInit : C.prog.inits.idxOf? f = none) (hfn : C.prog.funcs[f]? = some fn)
    (witness : ∃ (w : World) (tape : Tape) (i : Input), w.os = os /\ (w.forCall tape i).Shaped C.prog /\ i.vars = [] /\ Input.okWide C.prog (w.forCall tape i) .any w.heap.size f i /\
      ((s.pre enc C.prog fn conds apart (w.forCall tape i).memory i.args /\ X (w.forCall tape i).memory i.args) /\ sizedMet enc C.prog fn (OpenSpec.ofChange s) apart (w.forCall tape i).memory i.args) /\ ({} : Assume).holds C.prog (lone (Frame.enter C.prog f i.args .normal) [] (w.forCall tape i)))
    (hparams : fn.params.toList = ss.map (·.type)) (hread : fn.params.toList.all (fun t => C.prog.readableRec t && decide (t < C.prog.types.size)) = true) {tb : TypeId} (hres : fn.resultTypes = #[tb]) (hb : C.prog.underlying tb = some .bool)
    (hvars : s.vars = []) (hspec : ∀ ds : List (DataW D), ds.length = ss.length -> s.fn D ds = { results := [.lit (.bool true)], args := ds })
    (hfits : ∀ W : World, ∀ x ∈ ss, x.fits enc C.prog W)
    (hfix : ∀ (W : World) (args : Array Value), X W args -> W.ShapedOpen C.prog -> Fixed W.heap.size W)
    (hlaw : ∀ (H : Heap) (avs : List Value), argsSay ss H avs -> ACalls C.prog f avs H fun v _ => v = .bool true) :
    ReturnsInHanded {} C os f .any (fun w args => (s.pre enc C.prog fn conds apart w args /\ X w args) /\ sizedMet enc C.prog fn (OpenSpec.ofChange s) apart w args) (s.post enc C.prog fn apart fresh handsOn false) := by
  refine returns_and_shaped (C := C) hX own started noInit hfn witness ?_
  intro W base args ds gs before hval hW hcnd hXW hsh
  have hW' := hW
  obtain ⟨p, q, hA, hV, rfl, hfz, hnd⟩ := hW
  rw [hvars] at hV
  obtain ⟨rfl, rfl⟩ : gs = [] /\ q = [] := by
    cases gs with
    | nil => exact ⟨rfl, hV⟩
    | cons g gs => exact hV.elim
  have hA' := hA
  rw [hparams] at hA'
  obtain ⟨ρ, H, avs, _, _, hR, _, hvr, hsay⟩ := open_args (base := base) ss args.toList ds p [] [] (hfits W) (fun j t v hj hv => hval j t v (by rw [<- Array.getElem?_toList, hparams]; exact hj) (by rw [<- Array.getElem?_toList]; exact hv)) hA' (R.start W (hfix W args hXW hsh)) (by simp [noOwn])
  have hlen : ds.length = ss.length := by
    have key : ∀ (ts : List TypeId) (vs : List Value) (ds : List (DataW D)) (ps : List MemPlace), DataW.TrodAll enc C.prog W 0 (fun _ => true) true ts vs ds ps -> ds.length = ts.length := by
      intro ts
      induction ts with
      | nil => intro vs ds ps h; cases vs <;> cases ds <;> first | rfl | exact h.elim
      | cons t ts ih =>
        intro vs ds ps h
        cases vs with
        | nil => cases ds <;> exact h.elim
        | cons v vs => cases ds with
          | nil => exact h.elim
          | cons d ds => obtain ⟨_, _, _, h2, _⟩ := h; simp [ih _ _ _ h2]
    simpa using key _ _ _ _ hA'
  have hc := (hlaw H avs hsay).2 W.heap.size W ρ W args.toList hR hvr
  rw [Array.toArray_toList] at hc
  refine hc.mono fun e W' ⟨ρ', H', v, cv, he, _, hR', hv, hp⟩ => ?_
  subst hp
  have := hv.bool_inv
  subst this
  subst he
  have bel : Below W.heap.size W W' := hR'.below
  refine ⟨_, rfl, ds, [], p ++ [], [], p, [], hW', ?_, ?_, ?_, bel.frame _, fun h => by cases h⟩
  · rw [List.append_nil, hspec ds hlen, hres]
    exact trodAll_mk1 (shut_bool hb _)
  · rw [List.append_nil, hspec ds hlen]
    exact trodAll_stays laid bel _ _ _ _ hread hA
  · rw [List.append_nil, hspec ds hlen, hvars]
    rfl

end Go.Ab
end

section
namespace Go.Proofs.YtkimaohcmcfcnaaDoor
open Go Go.Ab

theorem gErrS : Tryd.prog.globalNamed "strconv.ErrSyntax" = some 1 := by kernel_rfl
theorem gErrR : Tryd.prog.globalNamed "strconv.ErrRange" = some 2 := by kernel_rfl
theorem gErrSt : (Tryd.prog.globals[1]?).map (·.type) = some 48 := by kernel_rfl
theorem gErrRt : (Tryd.prog.globals[2]?).map (·.type) = some 48 := by kernel_rfl
theorem starErr : "*" ++ "errors.errorString" = "*errors.errorString" := by decide
theorem rowErr (u : TypeId) (h : Tryd.prog.typeName? 3 u = some "*errors.errorString") : u = 132 :=
  typeName_ptr_named (nm := "errors.errorString") (by rw [starErr]; kernel_rfl) (by kernel_rfl) (by decide) u (by rw [starErr]; exact h)
theorem cellErr : Tryd.prog.cellsOf 134 = 1 := by kernel_rfl
theorem cellStr : Tryd.prog.cellsOf 9 = 1 := by kernel_rfl

theorem errCell {r : List (String × DataW Unit)} {W : World} {n : String} {text : List UInt8} {g : Nat} (h : laidMet Tryd.prog ((n, .iface "*errors.errorString" (.ptr (.agg [.lit (.string text)]))) :: r) W)
    (hg : Tryd.prog.globalNamed n = some g) (ht : (Tryd.prog.globals[g]?).map (·.type) = some 48) : ErrCell W g := by
  obtain ⟨a, s, hv, _⟩ := laid_sentinel h hg ht Tryd.underlying48 rowErr Tryd.underlying132 Tryd.underlying134 rfl rfl Tryd.underlying9 cellErr cellStr
  refine ⟨_, by simpa using World.var?_cell hg hv 0, .inr ⟨_, _, rfl⟩⟩

theorem fixed_of {W : World} (hs : W.ShapedOpen Tryd.prog) (hl : laidMetH Tryd.prog Rows.fnExactParseSystemRow.laid W) : Fixed W.heap.size W := by
  rw [MakeChecks.laidMetH_plain _ _ _ (by kernel_rfl)] at hl
  have hl' := hl.tail.tail.tail.tail
  refine ⟨?_, Go.Proofs.cell_of_shapedOpen_int (g := 0) (t := 3) (zero := #[.int .i64 0]) (k := .i64) hs (of_decide_eq_true (by kernel_rfl)) (by kernel_rfl) rfl (by kernel_rfl) (by kernel_rfl) Tryd.underlying3, errCell hl'.tail gErrS gErrSt, errCell hl' gErrR gErrRt⟩
  obtain ⟨cs, h, _⟩ := hs.1 2 #[.nilIface] 48 (of_decide_eq_true (by kernel_rfl)) (by kernel_rfl)
  exact (Array.getElem?_eq_some_iff.1 h).1
end Go.Proofs.YtkimaohcmcfcnaaDoor
end
