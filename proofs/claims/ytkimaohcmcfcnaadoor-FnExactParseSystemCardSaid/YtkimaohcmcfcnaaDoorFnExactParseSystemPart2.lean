/- Part 2 of what the proof of the law FnExactParseSystem rests on: contracts of functions of the program, for every argument that each names; no statement of the seat is proved here. -/
import Derived.Orders
import Derived.ProofKit
import Derived.OpenShut
import Derived.ChangeOld
import Derived.Below
import Derived.Test.YtkimaohcmcfcnaaDoorFnExactParseSystemPart1

set_option linter.all false
set_option maxRecDepth 20000
set_option maxHeartbeats 8000000
section
namespace Go.Ab
open Go.RowKit (Below)

def isR : Op -> Bool
  | .move _ | .assign _ | .pick .. | .load .. | .nilCheck _ | .binOp .. | .unOp .. | .convert .. | .makeFunc .. | .slice .. | .fieldAddr .. | .field .. | .indexAddr .. | .index .. | .extract .. | .build .. => true
  | .call c => match c.callee with
    | .builtin .len | .builtin .cap | .builtin .min | .builtin .max => true
    | _ => false
  | _ => false

def readsH : Op -> Bool
  | .load .. | .convert .. | .slice .. => true
  | _ => false

theorem cellsAt_mono {H H' : Heap} (h : H <+: H') {i o n : Nat} {cs : List Value} (hc : cellsAt H i o n = some cs) : cellsAt H' i o n = some cs := by
  obtain ⟨b, hb, hl, hn, rfl⟩ := cellsAt_inv hc
  obtain ⟨t, rfl⟩ := h
  refine cellsAt_of ?_ hl hn
  rw [List.getElem?_append_left (List.getElem?_eq_some_iff.1 hb).1]; exact hb

theorem srcCells_mono {H H' : Heap} (h : H <+: H') {e : Nat} {v : Value} {cs : List Value} (hc : srcCells H e v = some cs) : srcCells H' e v = some cs := by
  unfold srcCells at hc ⊢
  split at hc
  · exact hc
  · split at hc
    · rename_i hn; rw [if_pos hn]; exact hc
    · rename_i hn; rw [if_neg hn]; exact cellsAt_mono h hc
  · cases hc

theorem sliceV_mono {H H' : Heap} (h : H <+: H') {e : Nat} {v v' : Value} {lo hi : Nat} (hc : sliceV H e v lo hi = some v') : sliceV H' e v lo hi = some v' := by
  unfold sliceV at hc ⊢
  split at hc
  · exact hc
  · exact hc
  · split at hc
    · rename_i hc1; rw [if_pos hc1]; exact hc
    · rename_i hc1
      rw [if_neg hc1]
      split at hc
      · rename_i hc2
        obtain ⟨cs, hcs⟩ := Option.isSome_iff_exists.1 hc2.2.2.2
        rw [if_pos ⟨hc2.1, hc2.2.1, hc2.2.2.1, by rw [cellsAt_mono h hcs]; rfl⟩]; exact hc
      · cases hc
  · cases hc

theorem vint_det {op : BinOp} {k : IntKind} {a b : Int} {K : Value -> Prop} (h : vint op k a b K) : ∃ v, K v /\ ∀ K' : Value -> Prop, K' v -> vint op k a b K' := by
  cases op <;> simp only [vint] at h ⊢ <;> first | exact ⟨_, h, fun _ h' => h'⟩ | exact ⟨_, h.2, fun _ h' => ⟨h.1, h'⟩⟩

theorem vbin_det {P : Program} {op : BinOp} {ty : TypeId} {x y : Value} {K : Value -> Prop} (h : vbin P op ty x y K) : ∃ v, K v /\ ∀ K' : Value -> Prop, K' v -> vbin P op ty x y K' := by
  cases x <;> cases y <;> first | (simp [vbin] at h; done) | skip
  case int.int k a k' b => obtain ⟨v, h1, h2⟩ := vint_det h.2; exact ⟨v, h1, fun K' hk => ⟨h.1, h2 K' hk⟩⟩
  case string.string a b => cases op <;> simp only [vbin, vstr] at h ⊢ <;> first | exact h.elim | exact ⟨_, h, fun _ h' => h'⟩ | exact ⟨_, h.2, fun _ h' => ⟨h.1, h'⟩⟩
  case bool.bool a b =>
    obtain ⟨h1, h2⟩ := h
    cases op <;> first | exact h2.elim | exact ⟨_, h2, fun _ h' => ⟨h1, h'⟩⟩
  case agg.agg xs ys =>
    obtain ⟨d, hu, h⟩ := h
    cases d <;> try exact h.elim
    obtain ⟨de, hue, h⟩ := h
    cases de <;> try exact h.elim
    obtain ⟨hs, az, h1, bs, h2, h3, h⟩ := h
    cases op <;> first | exact h.elim | exact ⟨_, h, fun _ h' => ⟨_, hu, _, hue, hs, az, h1, bs, h2, h3, h'⟩⟩

theorem evs_congr {fr fr' : Fr} : ∀ {xs : List Operand}, (∀ x ∈ xs, ev fr' x = ev fr x) -> evs fr' xs = evs fr xs
  | [], _ => rfl
  | x :: xs, h => by simp only [evs]; rw [h x (by simp), evs_congr (fun y hy => h y (by simp [hy]))]

theorem evParts_congr {fr fr' : Fr} : ∀ {xs : List (Nat × Operand)}, (∀ x ∈ xs.map (·.2), ev fr' x = ev fr x) -> evParts fr' xs = evParts fr xs
  | [], _ => rfl
  | (i, x) :: xs, h => by simp only [evParts]; rw [h x (by simp), evParts_congr (fun y hy => h y (by simp [hy]))]

theorem boundV_congr {fr fr' : Fr} {d : Nat} {x : Option Operand} (h : ∀ y ∈ x, ev fr' y = ev fr y) : boundV fr' d x = boundV fr d x := by
  cases x with
  | none => rfl
  | some y => simp only [boundV]; rw [h y rfl]

def agree (o : Op) (fr fr' : Fr) : Prop := ∀ x ∈ o.operands, ev fr' x = ev fr x

section
variable {P : Program} {N : Nat} {o : Oper} {fr fr' : Fr} {H : Heap} {K : Fr -> Heap -> Prop}

theorem agree1 {op : Op} {fr fr' : Fr} (ha : ∀ x ∈ op.operands, ev fr' x = ev fr x) {x : Operand} (hx : x ∈ op.operands) {v : Value} (h : ev fr x = some v) : ev fr' x = some v := by rw [ha x hx]; exact h

theorem vop_R (hR : isR o.op = true) (h : vop P N o fr H K) :
    ∃ v, dstB N o.dst = true /\ K (fr.put o.dst v) H /\ ∀ (fr' : Fr) (H' : Heap) (K' : Fr -> Heap -> Prop), agree o.op fr fr' -> (readsH o.op = true -> H <+: H') -> K' (fr'.put o.dst v) H' -> vop P N o fr' H' K' := by
  unfold vop at h
  unfold vop agree
  split at h
  case h_1 x ho => obtain ⟨v, h1, h2, h3⟩ := h; rw [ho]; exact ⟨v, h2, h3, fun fr' H' K' ha _ hk => ⟨v, agree1 ha (by simp [Op.operands]) h1, h2, hk⟩⟩
  case h_2 x ho => obtain ⟨v, h1, h2, h3⟩ := h; rw [ho]; exact ⟨v, h2, h3, fun fr' H' K' ha _ hk => ⟨v, agree1 ha (by simp [Op.operands]) h1, h2, hk⟩⟩
  case h_3 c x y ho =>
    obtain ⟨v, h1, h⟩ := h
    unfold pickC at h
    split at h
    · rename_i b
      obtain ⟨v, h2, h3, h4⟩ := h
      rw [ho]
      refine ⟨v, h3, h4, fun fr' H' K' ha _ hk => ⟨.bool b, agree1 ha (by simp [Op.operands]) h1, v, ?_, h3, hk⟩⟩
      cases b
      · rw [show (bif false then x else y) = y from rfl, ha y (by simp [Op.operands])]; exact h2
      · rw [show (bif true then x else y) = x from rfl, ha x (by simp [Op.operands])]; exact h2
    · exact h.elim
  case h_4 t ho => simp [ho, isR] at hR
  case h_5 t x ho => simp [ho, isR] at hR
  case h_6 t x ho =>
    obtain ⟨p, h1, h⟩ := h
    unfold loadC at h
    split at h
    · obtain ⟨τ, h2, cs, h3, v, h4, h5, h6⟩ := h
      rw [ho]
      exact ⟨v, h5, h6, fun fr' H' K' ha hh hk => ⟨_, agree1 ha (by simp [Op.operands]) h1, τ, h2, cs, cellsAt_mono (hh rfl) h3, v, h4, h5, hk⟩⟩
    · exact h.elim
  case h_7 t x y ho => simp [ho, isR] at hR
  case h_8 x ho =>
    obtain ⟨p, h1, h⟩ := h
    unfold nilC at h
    rw [ho]
    split at h
    · obtain ⟨h2, h3⟩ := h; exact ⟨_, h2, h3, fun fr' H' K' ha _ hk => ⟨_, agree1 ha (by simp [Op.operands]) h1, h2, hk⟩⟩
    · obtain ⟨h2, h3⟩ := h; exact ⟨_, h2, h3, fun fr' H' K' ha _ hk => ⟨_, agree1 ha (by simp [Op.operands]) h1, h2, hk⟩⟩
    · exact h.elim
  case h_9 op ty x y ty' ho =>
    obtain ⟨vx, h1, vy, h2, h⟩ := h
    unfold binC2 at h
    rw [ho]
    split at h
    · unfold binI at h
      split at h
      · rename_i hcc
        obtain ⟨d, h3, h⟩ := h
        unfold ifNilC at h
        split at h
        · split at h
          · obtain ⟨h4, h5⟩ := h; refine ⟨_, h4, h5, fun fr' H' K' ha _ hk => ⟨_, agree1 ha (by simp [Op.operands]) h1, _, agree1 ha (by simp [Op.operands]) h2, ?_⟩⟩; simp only [binC2, binI, hcc, h3, bindO_some, ifNilC]; exact ⟨h4, hk⟩
          · obtain ⟨h4, h5⟩ := h; refine ⟨_, h4, h5, fun fr' H' K' ha _ hk => ⟨_, agree1 ha (by simp [Op.operands]) h1, _, agree1 ha (by simp [Op.operands]) h2, ?_⟩⟩; simp only [binC2, binI, hcc, h3, bindO_some, ifNilC]; exact ⟨h4, hk⟩
          · exact h.elim
        · exact h.elim
      · rename_i hcc
        obtain ⟨d, h3, h⟩ := h
        unfold ifNilC at h
        split at h
        · split at h
          · obtain ⟨h4, h5⟩ := h; refine ⟨_, h4, h5, fun fr' H' K' ha _ hk => ⟨_, agree1 ha (by simp [Op.operands]) h1, _, agree1 ha (by simp [Op.operands]) h2, ?_⟩⟩; simp only [binC2, binI, hcc, h3, bindO_some, ifNilC]; exact ⟨h4, hk⟩
          · obtain ⟨h4, h5⟩ := h; refine ⟨_, h4, h5, fun fr' H' K' ha _ hk => ⟨_, agree1 ha (by simp [Op.operands]) h1, _, agree1 ha (by simp [Op.operands]) h2, ?_⟩⟩; simp only [binC2, binI, hcc, h3, bindO_some, ifNilC]; exact ⟨h4, hk⟩
          · exact h.elim
        · exact h.elim
      · exact h.elim
    · split at h
      · obtain ⟨d, h3, h⟩ := h
        unfold eqNilC at h
        split at h
        · split at h
          · obtain ⟨hz, h4, h5⟩ := h; exact ⟨_, h4, h5, fun fr' H' K' ha _ hk => ⟨_, agree1 ha (by simp [Op.operands]) h1, _, agree1 ha (by simp [Op.operands]) h2, _, h3, hz, h4, hk⟩⟩
          · obtain ⟨hz, h4, h5⟩ := h; exact ⟨_, h4, h5, fun fr' H' K' ha _ hk => ⟨_, agree1 ha (by simp [Op.operands]) h1, _, agree1 ha (by simp [Op.operands]) h2, _, h3, hz, h4, hk⟩⟩
          · exact h.elim
        · exact h.elim
      · exact h.elim
    · rename_i hne2 hne
      obtain ⟨v, ⟨h3, h4⟩, h5⟩ := vbin_det h
      refine ⟨v, h3, h4, fun fr' H' K' ha _ hk => ⟨_, agree1 ha (by simp [Op.operands]) h1, _, agree1 ha (by simp [Op.operands]) h2, ?_⟩⟩
      unfold binC2
      split
      · exact absurd rfl hne2
      · exact absurd rfl hne
      · exact h5 _ ⟨h3, hk⟩
  case h_10 op ty x ho =>
    obtain ⟨v, h1, h⟩ := h
    unfold unC at h
    rw [ho]
    split at h
    · obtain ⟨h2, h3⟩ := h; exact ⟨_, h2, h3, fun fr' H' K' ha _ hk => ⟨_, agree1 ha (by simp [Op.operands]) h1, h2, hk⟩⟩
    · obtain ⟨h2, h3⟩ := h; exact ⟨_, h2, h3, fun fr' H' K' ha _ hk => ⟨_, agree1 ha (by simp [Op.operands]) h1, h2, hk⟩⟩
    · exact h.elim
  case h_11 s t x ho =>
    obtain ⟨v, h1, h⟩ := h
    unfold convC at h
    rw [ho]
    split at h
    · obtain ⟨d, h2, d', h3, h⟩ := h
      unfold cvI2 at h
      split at h
      · obtain ⟨h4, h5⟩ := h; exact ⟨_, h4, h5, fun fr' H' K' ha _ hk => ⟨_, agree1 ha (by simp [Op.operands]) h1, _, h2, _, h3, h4, hk⟩⟩
      · exact h.elim
    · rename_i hne
      obtain ⟨d, h2, h⟩ := h
      unfold cvS at h
      split at h
      · obtain ⟨⟨h3, h4⟩, cs, h5, bs, h6, h7, h8⟩ := h
        refine ⟨_, h7, h8, fun fr' H' K' ha hh hk => ⟨_, agree1 ha (by simp [Op.operands]) h1, ?_⟩⟩
        unfold convC
        split
        · exact absurd rfl (hne _ _)
        · exact ⟨_, h2, ⟨h3, h4⟩, cs, srcCells_mono (hh rfl) h5, bs, h6, h7, hk⟩
      · exact h.elim
  case h_12 fn first captured ho =>
    rw [ho]
    split at h
    · obtain ⟨vs, h1, us, h2, h3, h4⟩ := h
      exact ⟨_, h3, h4, fun fr' H' K' ha _ hk => ⟨vs, by rw [evs_congr (fun x hx => ha x (by simp [Op.operands] at hx ⊢; exact .inl hx))]; exact h1, us, by rw [evs_congr (fun x hx => ha x (by simp [Op.operands] at hx ⊢; exact .inr hx))]; exact h2, h3, hk⟩⟩
    · exact h.elim
  case h_13 t x y ho => simp [ho, isR] at hR
  case h_14 t x lo hi mx ho =>
    rw [ho]
    split at h
    · obtain ⟨v, h1, d, h2, h⟩ := h
      unfold slC1 at h
      have hx : ∀ fr', (∀ y ∈ (Op.slice t x lo hi none).operands, ev fr' y = ev fr y) -> ev fr' x = some v := fun fr' ha => agree1 ha (by simp [Op.operands]) h1
      split at h
      · split at h
        · obtain ⟨⟨rfl, rfl, h3⟩, τ, h4, h5, h6⟩ := h
          exact ⟨_, h5, h6, fun fr' H' K' ha _ hk => ⟨_, hx fr' ha, _, h2, ⟨rfl, rfl, h3⟩, τ, h4, h5, hk⟩⟩
        · exact h.elim
      · obtain ⟨τ, h3, l, h4, hh, h5, h6, v', h8, h9, h10⟩ := h
        refine ⟨_, h9, h10, fun fr' H' K' ha hp hk => ⟨_, hx fr' ha, _, h2, τ, h3, l, ?_, hh, ?_, h6, v', sliceV_mono (hp rfl) h8, h9, hk⟩⟩
        · rw [boundV_congr (fr := fr) (fun y hy => ha y (by cases lo <;> simp at hy; subst hy; simp [Op.operands]))]; exact h4
        · rw [boundV_congr (fr := fr) (fun y hy => ha y (by cases hi <;> simp at hy; subst hy; simp [Op.operands]))]; exact h5
      · unfold slS at h
        split at h
        · obtain ⟨l, h3, hh, h4, h5, h8, h9⟩ := h
          refine ⟨_, h8, h9, fun fr' H' K' ha hp hk => ⟨_, hx fr' ha, _, h2, l, ?_, hh, ?_, h5, h8, hk⟩⟩
          · rw [boundV_congr (fr := fr) (fun y hy => ha y (by cases lo <;> simp at hy; subst hy; simp [Op.operands]))]; exact h3
          · rw [boundV_congr (fr := fr) (fun y hy => ha y (by cases hi <;> simp at hy; subst hy; simp [Op.operands]))]; exact h4
        · exact h.elim
      · exact h.elim
    · exact h.elim
  case h_15 s x k ho =>
    obtain ⟨d, h1, h⟩ := h
    unfold faC at h
    rw [ho]
    split at h
    · obtain ⟨f, h2, p, h3, h⟩ := h
      unfold faC3 at h
      split at h
      · obtain ⟨τ, h4, h5, h6, h7⟩ := h
        exact ⟨_, h6, h7, fun fr' H' K' ha _ hk => ⟨_, h1, f, h2, _, agree1 ha (by simp [Op.operands]) h3, τ, h4, h5, h6, hk⟩⟩
      · exact h.elim
    · exact h.elim
  case h_16 s x k ho =>
    obtain ⟨d, h1, h⟩ := h
    unfold fiC at h
    rw [ho]
    split at h
    · obtain ⟨f, h2, p, h3, h⟩ := h
      unfold fiC3 at h
      split at h
      · obtain ⟨v, h4, h6, h7⟩ := h
        exact ⟨_, h6, h7, fun fr' H' K' ha _ hk => ⟨_, h1, f, h2, _, agree1 ha (by simp [Op.operands]) h3, v, h4, h6, hk⟩⟩
      · exact h.elim
    · exact h.elim
  case h_17 t x y ho =>
    obtain ⟨vy, h1, h⟩ := h
    unfold iaC at h
    rw [ho]
    split at h
    · obtain ⟨v, h2, d, h3, h⟩ := h
      unfold iaC3 at h
      have hx : ∀ fr', (∀ z ∈ (Op.indexAddr t x y).operands, ev fr' z = ev fr z) -> ev fr' x = some v := fun fr' ha => by rw [ha x (by simp [Op.operands])]; exact h2
      have hy : ∀ fr', (∀ z ∈ (Op.indexAddr t x y).operands, ev fr' z = ev fr z) -> ev fr' y = some _ := fun fr' ha => by rw [ha y (by simp [Op.operands])]; exact h1
      split at h
      · split at h
        · obtain ⟨h4, τ, h6, h7, h8⟩ := h; exact ⟨_, h7, h8, fun fr' H' K' ha _ hk => ⟨_, hy fr' ha, _, hx fr' ha, _, h3, h4, τ, h6, h7, hk⟩⟩
        · exact h.elim
      · split at h
        · obtain ⟨h4, τ, h6, h7, h8⟩ := h; exact ⟨_, h7, h8, fun fr' H' K' ha _ hk => ⟨_, hy fr' ha, _, hx fr' ha, _, h3, h4, τ, h6, h7, hk⟩⟩
        · exact h.elim
      · exact h.elim
    · exact h.elim
  case h_18 t x y ho =>
    obtain ⟨vy, h1, h⟩ := h
    unfold ixC at h
    rw [ho]
    split at h
    · obtain ⟨v, h2, d, h3, h⟩ := h
      unfold ixC3 at h
      have hx : ∀ fr', (∀ z ∈ (Op.index t x y).operands, ev fr' z = ev fr z) -> ev fr' x = some v := fun fr' ha => by rw [ha x (by simp [Op.operands])]; exact h2
      have hy : ∀ fr', (∀ z ∈ (Op.index t x y).operands, ev fr' z = ev fr z) -> ev fr' y = some _ := fun fr' ha => by rw [ha y (by simp [Op.operands])]; exact h1
      split at h
      · split at h
        · obtain ⟨h4, τ, h6, u, h7, h8, h9⟩ := h; exact ⟨_, h8, h9, fun fr' H' K' ha _ hk => ⟨_, hy fr' ha, _, hx fr' ha, _, h3, h4, τ, h6, u, h7, h8, hk⟩⟩
        · exact h.elim
      · split at h
        · obtain ⟨h4, b, h7, h8, h9⟩ := h; exact ⟨_, h8, h9, fun fr' H' K' ha _ hk => ⟨_, hy fr' ha, _, hx fr' ha, _, h3, h4, b, h7, h8, hk⟩⟩
        · exact h.elim
      · exact h.elim
    · exact h.elim
  case h_19 x k ho =>
    obtain ⟨v, h1, h⟩ := h
    unfold exC at h
    rw [ho]
    split at h
    · obtain ⟨v, h2, h3, h4⟩ := h; exact ⟨_, h3, h4, fun fr' H' K' ha _ hk => ⟨_, agree1 ha (by simp [Op.operands]) h1, v, h2, h3, hk⟩⟩
    · exact h.elim
  case h_20 t parts ho =>
    obtain ⟨ps, h1, h2, cells, h3, h4, h5⟩ := h
    rw [ho]
    exact ⟨_, h4, h5, fun fr' H' K' ha _ hk => ⟨ps, by rw [evParts_congr (fun x hx => ha x (by simpa [Op.operands] using hx))]; exact h1, h2, cells, h3, h4, hk⟩⟩
  case h_21 t len parts ho => simp [ho, isR] at hR
  case h_22 c ho =>
    obtain ⟨callee, ⟨args⟩, ⟨argTypes⟩⟩ := c
    rw [ho] at hR ⊢
    simp only at h hR ⊢
    split at h
    · simp [isR] at hR
    · split at h
      · rename_i x t
        obtain ⟨v, h1, d, h2, h⟩ := h
        unfold lenC2 at h
        have hx : ∀ fr', (∀ z ∈ (Op.call { callee := .builtin .len, args := ⟨[x]⟩, argTypes := ⟨[t]⟩ }).operands, ev fr' z = ev fr z) -> ev fr' x = some v := fun fr' ha => by rw [ha x (by simp [Op.operands, Call.operands])]; exact h1
        split at h
        · split at h
          · obtain ⟨h3, h4⟩ := h; exact ⟨_, h3, h4, fun fr' H' K' ha _ hk => ⟨_, hx fr' ha, _, h2, h3, hk⟩⟩
          · exact h.elim
        · split at h
          · obtain ⟨h3, h4⟩ := h; exact ⟨_, h3, h4, fun fr' H' K' ha _ hk => ⟨_, hx fr' ha, _, h2, h3, hk⟩⟩
          · exact h.elim
        · exact h.elim
      · exact h.elim
    · split at h
      · rename_i x t
        obtain ⟨v, h1, d, h2, h⟩ := h
        unfold capC2 at h
        have hx : ∀ fr', (∀ z ∈ (Op.call { callee := .builtin .cap, args := ⟨[x]⟩, argTypes := ⟨[t]⟩ }).operands, ev fr' z = ev fr z) -> ev fr' x = some v := fun fr' ha => by rw [ha x (by simp [Op.operands, Call.operands])]; exact h1
        split at h
        · split at h
          · obtain ⟨h3, h4⟩ := h; exact ⟨_, h3, h4, fun fr' H' K' ha _ hk => ⟨_, hx fr' ha, _, h2, h3, hk⟩⟩
          · exact h.elim
        · exact h.elim
      · exact h.elim
    · obtain ⟨vs, h1, h⟩ := h
      have hx : ∀ fr', (∀ z ∈ (Op.call { callee := .builtin .min, args := ⟨args⟩, argTypes := ⟨argTypes⟩ }).operands, ev fr' z = ev fr z) -> evs fr' args = some vs := fun fr' ha => by rw [evs_congr (fun x hx => ha x (by simpa [Op.operands, Call.operands] using hx))]; exact h1
      unfold minC at h
      split at h
      · obtain ⟨h2, h3⟩ := h; exact ⟨_, h2, h3, fun fr' H' K' ha _ hk => ⟨_, hx fr' ha, h2, hk⟩⟩
      · obtain ⟨h2, h3⟩ := h; exact ⟨_, h2, h3, fun fr' H' K' ha _ hk => ⟨_, hx fr' ha, h2, hk⟩⟩
      · exact h.elim
    · obtain ⟨vs, h1, h⟩ := h
      have hx : ∀ fr', (∀ z ∈ (Op.call { callee := .builtin .max, args := ⟨args⟩, argTypes := ⟨argTypes⟩ }).operands, ev fr' z = ev fr z) -> evs fr' args = some vs := fun fr' ha => by rw [evs_congr (fun x hx => ha x (by simpa [Op.operands, Call.operands] using hx))]; exact h1
      unfold maxC at h
      split at h
      · obtain ⟨h2, h3⟩ := h; exact ⟨_, h2, h3, fun fr' H' K' ha _ hk => ⟨_, hx fr' ha, h2, hk⟩⟩
      · obtain ⟨h2, h3⟩ := h; exact ⟨_, h2, h3, fun fr' H' K' ha _ hk => ⟨_, hx fr' ha, h2, hk⟩⟩
      · exact h.elim
    · simp [isR] at hR
    · simp [isR] at hR
    · exact h.elim
  case h_23 => exact h.elim

theorem vop_E (h : vop P N o fr H K) (ha : agree o.op fr fr') : vop P N o fr' H (fun f h => ∃ v, f = fr'.put o.dst v /\ K (fr.put o.dst v) h) := by
  by_cases hR : isR o.op = true
  · obtain ⟨v, h1, h2, h3⟩ := vop_R hR h
    exact h3 fr' H _ ha (fun _ => List.prefix_refl _) ⟨v, rfl, h2⟩
  unfold vop at h ⊢
  unfold agree at ha
  split at h
  case h_4 t ho => obtain ⟨τ, h1, h2, h3, h4⟩ := h; exact ⟨τ, h1, h2, h3, _, rfl, h4⟩
  case h_5 t x ho => rw [ho] at ha; obtain ⟨v, h1, h2, h3, h4⟩ := h; exact ⟨v, agree1 ha (by simp [Op.operands]) h1, h2, h3, _, rfl, h4⟩
  case h_7 t x y ho =>
    rw [ho] at ha
    obtain ⟨p, h1, h⟩ := h
    refine ⟨p, agree1 ha (by simp [Op.operands]) h1, ?_⟩
    unfold storeC at h ⊢
    split at h
    · obtain ⟨v, h2, τ, h3, h4, H', h5, h6, h7⟩ := h
      exact ⟨v, agree1 ha (by simp [Op.operands]) h2, τ, h3, h4, H', h5, h6, _, rfl, h7⟩
    · exact h.elim
  case h_13 t x y ho =>
    rw [ho] at ha
    obtain ⟨vx, h1, vy, h2, h⟩ := h
    refine ⟨vx, agree1 ha (by simp [Op.operands]) h1, vy, agree1 ha (by simp [Op.operands]) h2, ?_⟩
    unfold mkC2 at h ⊢
    split at h
    · obtain ⟨d, h3, h⟩ := h
      refine ⟨d, h3, ?_⟩
      unfold mkC3 at h ⊢
      split at h
      · obtain ⟨h4, τ, h5, h6, h7, h10, h11⟩ := h; exact ⟨h4, τ, h5, h6, h7, h10, _, rfl, h11⟩
      · exact h.elim
    · exact h.elim
  case h_21 t len parts ho =>
    rw [ho] at ha
    obtain ⟨d, h1, h⟩ := h
    refine ⟨d, h1, ?_⟩
    unfold bsC at h ⊢
    split at h
    · obtain ⟨h2, τ, h3, h4, ps, h5, cells, h6, h7, h8, h9⟩ := h
      have e : evParts fr' parts.toList = some ps := by rw [evParts_congr (fun x hx => ha x (by simpa [Op.operands] using hx))]; exact h5
      exact ⟨h2, τ, h3, h4, ps, e, cells, h6, h7, h8, _, rfl, h9⟩
    · exact h.elim
  case h_22 c ho =>
    rw [ho] at ha hR
    obtain ⟨callee, ⟨args⟩, ⟨argTypes⟩⟩ := c
    simp only at h hR ⊢
    split at h
    · rename_i x
      obtain ⟨f, h1, h⟩ := h
      refine ⟨f, agree1 ha (by simp [Op.operands, Call.operands]) h1, ?_⟩
      unfold callC at h ⊢
      split at h
      · obtain ⟨vs, h2, h3, h4⟩ := h
        have e : evs fr' args = some vs := by rw [evs_congr (fun x hx => ha x (by simp [Op.operands, Call.operands]; exact .inr hx))]; exact h2
        exact ⟨vs, e, h3, h4.mono fun v H' hk => ⟨v, rfl, hk⟩⟩
      · exact h.elim
    · simp [isR] at hR
    · simp [isR] at hR
    · simp [isR] at hR
    · simp [isR] at hR
    · split at h
      · rename_i x y t t'
        obtain ⟨d, h1, h⟩ := h
        refine ⟨d, h1, ?_⟩
        unfold apC at h ⊢
        split at h
        · obtain ⟨τ, h2, s, h3, v, h4, h⟩ := h
          refine ⟨τ, h2, s, agree1 ha (by simp [Op.operands, Call.operands]) h3, v, agree1 ha (by simp [Op.operands, Call.operands]) h4, ?_⟩
          unfold apC3 at h ⊢
          split at h
          · obtain ⟨h5, h6, h7⟩ := h; exact ⟨h5, h6, _, rfl, h7⟩
          · obtain ⟨h5, news, h6, h7, r, h8, h9, h10⟩ := h
            exact ⟨h5, news, h6, h7, r, h8, h9, _, rfl, h10⟩
        · exact h.elim
      · exact h.elim
    · split at h
      · rename_i x t
        obtain ⟨d, h1, h⟩ := h
        refine ⟨d, h1, ?_⟩
        unfold clC at h ⊢
        split at h
        · obtain ⟨τ, h2, h3, v, h5, h⟩ := h
          refine ⟨τ, h2, h3, v, agree1 ha (by simp [Op.operands, Call.operands]) h5, ?_⟩
          unfold clC3 at h ⊢
          split at h
          · obtain ⟨H', h6, h7, h8⟩ := h; exact ⟨H', h6, h7, _, rfl, h8⟩
          · exact h.elim
        · exact h.elim
      · exact h.elim
    · exact h.elim
  all_goals first | exact h.elim | (rename_i ho; exact absurd (by rw [ho]; rfl) hR)

theorem vop_weak {K' : Fr -> Heap -> Prop} (h : vop P N o fr H K) (hk : ∀ f h, K f h -> K' f h) : vop P N o fr H K' := by
  by_cases hR : isR o.op = true
  · obtain ⟨v, h1, h2, h3⟩ := vop_R hR h
    exact h3 fr H _ (fun _ _ => rfl) (fun _ => List.prefix_refl _) (hk _ _ h2)
  unfold vop at h ⊢
  split at h
  case h_4 t ho => obtain ⟨τ, h1, h2, h3, h4⟩ := h; exact ⟨τ, h1, h2, h3, hk _ _ h4⟩
  case h_5 t x ho => obtain ⟨v, h1, h2, h3, h4⟩ := h; exact ⟨v, h1, h2, h3, hk _ _ h4⟩
  case h_7 t x y ho =>
    obtain ⟨p, h1, h⟩ := h
    refine ⟨p, h1, ?_⟩
    unfold storeC at h ⊢
    split at h
    · obtain ⟨v, h2, τ, h3, h4, H', h5, h6, h7⟩ := h
      exact ⟨v, h2, τ, h3, h4, H', h5, h6, hk _ _ h7⟩
    · exact h.elim
  case h_13 t x y ho =>
    obtain ⟨vx, h1, vy, h2, h⟩ := h
    refine ⟨vx, h1, vy, h2, ?_⟩
    unfold mkC2 at h ⊢
    split at h
    · obtain ⟨d, h3, h⟩ := h
      refine ⟨d, h3, ?_⟩
      unfold mkC3 at h ⊢
      split at h
      · obtain ⟨h4, τ, h5, h6, h7, h10, h11⟩ := h; exact ⟨h4, τ, h5, h6, h7, h10, hk _ _ h11⟩
      · exact h.elim
    · exact h.elim
  case h_21 t len parts ho =>
    obtain ⟨d, h1, h⟩ := h
    refine ⟨d, h1, ?_⟩
    unfold bsC at h ⊢
    split at h
    · obtain ⟨h2, τ, h3, h4, ps, h5, cells, h6, h7, h8, h9⟩ := h
      exact ⟨h2, τ, h3, h4, ps, h5, cells, h6, h7, h8, hk _ _ h9⟩
    · exact h.elim
  case h_22 c ho =>
    rw [ho] at hR
    obtain ⟨callee, ⟨args⟩, ⟨argTypes⟩⟩ := c
    simp only at h hR ⊢
    split at h
    · obtain ⟨f, h1, h⟩ := h
      refine ⟨f, h1, ?_⟩
      unfold callC at h ⊢
      split at h
      · obtain ⟨vs, h2, h3, h4⟩ := h
        exact ⟨vs, h2, h3, h4.mono fun v H' hk' => hk _ _ hk'⟩
      · exact h.elim
    · simp [isR] at hR
    · simp [isR] at hR
    · simp [isR] at hR
    · simp [isR] at hR
    · split at h
      · obtain ⟨d, h1, h⟩ := h
        refine ⟨d, h1, ?_⟩
        unfold apC at h ⊢
        split at h
        · obtain ⟨τ, h2, s, h3, v, h4, h⟩ := h
          refine ⟨τ, h2, s, h3, v, h4, ?_⟩
          unfold apC3 at h ⊢
          split at h
          · obtain ⟨h5, h6, h7⟩ := h; exact ⟨h5, h6, hk _ _ h7⟩
          · obtain ⟨h5, news, h6, h7, r, h8, h9, h10⟩ := h
            exact ⟨h5, news, h6, h7, r, h8, h9, hk _ _ h10⟩
        · exact h.elim
      · exact h.elim
    · split at h
      · obtain ⟨d, h1, h⟩ := h
        refine ⟨d, h1, ?_⟩
        unfold clC at h ⊢
        split at h
        · obtain ⟨τ, h2, h3, v, h5, h⟩ := h
          refine ⟨τ, h2, h3, v, h5, ?_⟩
          unfold clC3 at h ⊢
          split at h
          · obtain ⟨H', h6, h7, h8⟩ := h; exact ⟨H', h6, h7, hk _ _ h8⟩
          · exact h.elim
        · exact h.elim
      · exact h.elim
    · exact h.elim
  all_goals first | exact h.elim | (rename_i ho; exact absurd (by rw [ho]; rfl) hR)

/-! Frames that say the same. -/

def feq (f g : Fr) : Prop := ∀ t, Fr.get f t = Fr.get g t
theorem feq.rfl' (f : Fr) : feq f f := fun _ => rfl
theorem feq.symm {f g : Fr} (h : feq f g) : feq g f := fun t => (h t).symm
theorem feq.trans {f g k : Fr} (h : feq f g) (h' : feq g k) : feq f k := fun t => (h t).trans (h' t)
theorem feq.put {f g : Fr} (h : feq f g) (d : Option Tmp) (v : Value) : feq (f.put d v) (g.put d v) := by
  cases d with
  | none => exact h
  | some d => intro t; simp only [Fr.put, Fr.get_set]; rw [h t]
theorem feq.ev {f g : Fr} (h : feq f g) (x : Operand) : Ab.ev g x = Ab.ev f x := by
  cases x with
  | tmp t => exact (h t).symm
  | _ => rfl
theorem put_comm (f : Fr) {d e : Option Tmp} (h : ∀ t, d = some t -> e ≠ some t) (v u : Value) : feq ((f.put d v).put e u) ((f.put e u).put d v) := by
  cases d with
  | none => cases e <;> exact feq.rfl' _
  | some d =>
    cases e with
    | none => exact feq.rfl' _
    | some e =>
      intro t
      have hne : d ≠ e := fun x => h d rfl (by rw [x])
      simp only [Fr.put, Fr.get_set]
      by_cases h1 : t = e
      · subst h1; rw [if_pos rfl, if_neg (fun x => hne x.symm), if_pos rfl]
      · rw [if_neg h1]
        by_cases h2 : t = d
        · rw [if_pos h2, if_pos h2]
        · rw [if_neg h2, if_neg h2, if_neg h1]
theorem FR.feq {ρ : Rho} {f g : Fr} {a : Act} (h : feq f g) (hf : FR N ρ f a) : FR N ρ g a := ⟨hf.defers, hf.size, fun t v ht => hf.get t v (by rw [h t]; exact ht)⟩

def Closed (K : Fr -> Heap -> Prop) : Prop := ∀ f g H, feq f g -> K f H -> K g H

def looks (ops : Array Oper) (o : Oper) : List Tmp :=
  (o.op.operands.toList.filterMap fun | .tmp t => some t | _ => none) ++ (match o.guard with
    | some (j, _) => (gdst ops j).toList
    | none => [])

def agreeG (ops : Array Oper) (o : Oper) (f g : Fr) : Prop := ∀ t ∈ looks ops o, Fr.get g t = Fr.get f t

theorem agreeG.agree {ops : Array Oper} {f g : Fr} (h : agreeG ops o f g) : agree o.op f g := by
  intro x hx
  cases x with
  | tmp t => exact h t (by simp only [looks, List.mem_append, List.mem_filterMap]; exact .inl ⟨.tmp t, by simpa using hx, rfl⟩)
  | _ => rfl
theorem agreeG.of_feq {ops : Array Oper} {f g : Fr} (h : feq f g) : agreeG ops o f g := fun t _ => (h t).symm
theorem agreeG.put {ops : Array Oper} {f : Fr} {d : Option Tmp} {v : Value} (h : ∀ t, d = some t -> t ∉ looks ops o) : agreeG ops o f (f.put d v) := by
  intro t ht
  cases d with
  | none => rfl
  | some d =>
    simp only [Fr.put, Fr.get_set]
    rw [if_neg]
    intro e; subst e; exact h t rfl ht
theorem agreeG.symm {ops : Array Oper} {f g : Fr} (h : agreeG ops o f g) : agreeG ops o g f := fun t ht => (h t ht).symm

theorem vstep_R {ops : Array Oper} (hR : isR o.op = true) (hK : Closed K) (h : vstep P N ops o K fr H) :
    ∃ v, K (fr.put o.dst v) H /\ ∀ (fr' : Fr) (H' : Heap) (K' : Fr -> Heap -> Prop), Closed K' -> agreeG ops o fr fr' -> (readsH o.op = true -> H <+: H') -> K' (fr'.put o.dst v) H' -> vstep P N ops o K' fr' H' := by
  unfold vstep at h ⊢
  cases hg : o.guard with
  | none =>
    simp only [hg] at h ⊢
    obtain ⟨v, h1, h2, h3⟩ := vop_R hR h
    exact ⟨v, h2, fun fr' H' K' _ ha hh hk => h3 fr' H' K' ha.agree hh hk⟩
  | some jw =>
    obtain ⟨j, want⟩ := jw
    simp only [hg] at h ⊢
    obtain ⟨t, ht, hN, u, hu, h⟩ := h
    have hl : t ∈ looks ops o := by simp [looks, hg, ht]
    have hget : ∀ fr', agreeG ops o fr fr' -> Fr.get fr' t = some u := fun fr' ha => by rw [ha t hl]; exact hu
    unfold guardC2 at h
    split at h
    · rename_i b
      by_cases hb : b = want
      · obtain ⟨v, h1, h2, h3⟩ := vop_R hR (h.1 (by simpa using hb))
        subst hb
        refine ⟨v, hK _ _ _ (feq.put (get_set_same hu) _ _) h2, fun fr' H' K' hK' ha hh hk => ⟨t, ht, hN, .bool b, hget fr' ha, ?_⟩⟩
        refine ⟨fun _ => h3 _ H' K' ?_ hh (hK' _ _ _ (feq.put (feq.symm (get_set_same (hget fr' ha))) _ _) hk), fun e => by simp at e⟩
        intro x hx
        rw [feq.ev (feq.symm (get_set_same (hget fr' ha))) x, ha.agree x hx, feq.ev (get_set_same hu) x]
      · have hb2 : b = !want := by cases b <;> cases want <;> simp_all
        obtain ⟨h1, h2⟩ := h.2 (by simpa using hb)
        subst hb2
        refine ⟨undef, hK _ _ _ (feq.put (get_set_same hu) _ _) h2, fun fr' H' K' hK' ha hh hk => ⟨t, ht, hN, .bool _, hget fr' ha, ?_⟩⟩
        exact ⟨fun e => absurd (by simpa using e) hb, fun _ => ⟨h1, hK' _ _ _ (feq.put (feq.symm (get_set_same (hget fr' ha))) _ _) hk⟩⟩
    · rename_i hnb
      obtain ⟨h1, h2⟩ := h
      refine ⟨undef, h2, fun fr' H' K' _ ha hh hk => ⟨t, ht, hN, u, hget fr' ha, ?_⟩⟩
      unfold guardC2
      split
      · exact absurd rfl (hnb _)
      · exact ⟨h1, hk⟩

theorem vstep_E {ops : Array Oper} (hK : Closed K) (h : vstep P N ops o K fr H) (ha : agreeG ops o fr fr') : vstep P N ops o (fun f h => ∃ v, feq (fr'.put o.dst v) f /\ K (fr.put o.dst v) h) fr' H := by
  unfold vstep at h ⊢
  cases hg : o.guard with
  | none =>
    simp only [hg] at h ⊢
    have := vop_E h ha.agree
    refine vop_weak this ?_
    rintro f h ⟨v, rfl, hk⟩
    exact ⟨v, feq.rfl' _, hk⟩
  | some jw =>
    obtain ⟨j, want⟩ := jw
    simp only [hg] at h ⊢
    obtain ⟨t, ht, hN, u, hu, h⟩ := h
    have hl : t ∈ looks ops o := by simp [looks, hg, ht]
    have hget : Fr.get fr' t = some u := by rw [ha t hl]; exact hu
    refine ⟨t, ht, hN, u, hget, ?_⟩
    unfold guardC2 at h ⊢
    split at h
    · rename_i b
      refine ⟨fun e => ?_, fun e => ?_⟩
      · have hb : b = want := by simpa using e
        have h' := h.1 e
        subst hb
        have ha' : agree o.op (fr.set t (.bool b)) (fr'.set t (.bool b)) := by
          intro x hx
          rw [feq.ev (feq.symm (get_set_same hget)) x, ha.agree x hx, feq.ev (get_set_same hu) x]
        refine vop_weak (vop_E h' ha') ?_
        rintro f h ⟨v, rfl, hk⟩
        exact ⟨v, feq.put (feq.symm (get_set_same hget)) _ _, hK _ _ _ (feq.put (get_set_same hu) _ _) hk⟩
      · obtain ⟨h1, h2⟩ := h.2 e
        have hb2 : b = !want := by revert e; cases b <;> cases want <;> simp
        subst hb2
        exact ⟨h1, undef, feq.put (feq.symm (get_set_same hget)) _ _, hK _ _ _ (feq.put (get_set_same hu) _ _) h2⟩
    · obtain ⟨h1, h2⟩ := h
      exact ⟨h1, undef, feq.rfl' _, h2⟩

theorem vstep_weak {ops : Array Oper} {K' : Fr -> Heap -> Prop} (h : vstep P N ops o K fr H) (hk : ∀ f h, K f h -> K' f h) : vstep P N ops o K' fr H := by
  unfold vstep at h ⊢
  cases hg : o.guard with
  | none => simp only [hg] at h ⊢; exact vop_weak h hk
  | some jw =>
    obtain ⟨j, want⟩ := jw
    simp only [hg] at h ⊢
    obtain ⟨t, ht, hN, u, hu, h⟩ := h
    refine ⟨t, ht, hN, u, hu, ?_⟩
    unfold guardC2 at h ⊢
    split at h
    · exact ⟨fun e => vop_weak (h.1 e) hk, fun e => ⟨(h.2 e).1, hk _ _ (h.2 e).2⟩⟩
    · exact ⟨h.1, hk _ _ h.2⟩

end

/-! The order in the text's sense, reads first: 'true' beside an effect asks that the old blocks stay as they are. -/

def eK (fl : Bool) (H : Heap) (k : Fr -> Heap -> Prop) (f : Fr) (h : Heap) : Prop :=
  match fl with
  | true => andK (H <+: h) (k f h)
  | false => k f h

def vE (P : Program) (N : Nat) (ops : Array Oper) (K : Fr -> Heap -> Prop) : List (Nat × Bool) -> Fr -> Heap -> Prop
  | [], fr, H => K fr H
  | (i, fl) :: l, fr, H => match ops[i]? with
    | none => False
    | some o => match isR o.op with
      | true => vstep P N ops o (vE P N ops K l) fr H
      | false => vstep P N ops o (eK fl H (vE P N ops K l)) fr H

def maskOf (o : Oper) (acc : List Nat) : Nat :=
  o.after.toList.foldl (fun s e => if Region.binds .any e then s ||| (2 ^ e.on) ||| acc.getD e.on 0 else s) 0

def masksGo : List Oper -> List Nat -> List Nat
  | [], acc => acc
  | o :: os, acc => masksGo os (acc ++ [maskOf o acc])

def disjointT : List Tmp -> Option Tmp -> Bool
  | l, some t => !l.contains t
  | _, none => true

def indep (ops : Array Oper) (p q : Oper) : Bool :=
  disjointT (looks ops q) p.dst && disjointT (looks ops p) q.dst && (match p.dst, q.dst with
    | some a, some b => a != b
    | _, _ => true)

def directTo (o : Oper) (p : Nat) : Bool := o.after.toList.any fun e => Region.binds .any e && e.on == p

def pairOK (ops : Array Oper) (ms : List Nat) (x y : Nat × Bool) : Bool :=
  match ops[x.1]?, ops[y.1]? with
  | some p, some q =>
    let d := (ms.getD y.1 0).testBit x.1
    !directTo p y.1 && x.1 != y.1 &&
    (match isR p.op with
     | true => (d || indep ops p q) && (isR q.op || y.2 || !readsH p.op || d)
     | false => d)
  | _, _ => false

def pairsOK (ops : Array Oper) (ms : List Nat) : List (Nat × Bool) -> Bool
  | [] => true
  | x :: l => l.all (pairOK ops ms x) && pairsOK ops ms l

def edgesOK (ops : Array Oper) : Bool :=
  (List.range ops.size).all fun i => match ops[i]? with
    | some o => o.after.toList.all fun e => !Region.binds .any e || (decide (e.on < ops.size) && e.on != i)
    | none => true

def drawOK (ops : Array Oper) (canon : List (Nat × Bool)) : Bool :=
  let ms := masksGo ops.toList []
  pairsOK ops ms canon && edgesOK ops && decide (canon.length = ops.size) && canon.all (fun x => decide (x.1 < ops.size)) && (List.range ops.size).all (fun i => (canon.map (·.1)).contains i)

section
variable {P : Program} {N : Nat} {ops : Array Oper} {K : Fr -> Heap -> Prop}

theorem vE_closed (hK : Closed K) : ∀ l, Closed (vE P N ops K l)
  | [] => hK
  | (i, fl) :: l => by
    intro f g H hfg h
    have ih := vE_closed hK l
    simp only [vE] at h ⊢
    split at h
    · exact h.elim
    · rename_i o ho
      cases hR : isR o.op with
      | true =>
        simp only [hR] at h ⊢
        obtain ⟨v, h1, h2⟩ := vstep_R hR ih h
        exact h2 g H _ ih (agreeG.of_feq hfg) (fun _ => List.prefix_refl _) (ih _ _ _ (hfg.put _ _) h1)
      | false =>
        simp only [hR] at h ⊢
        have hc : Closed (eK fl H (vE P N ops K l)) := by
          intro f g h' hfg hk
          cases fl with
          | true => exact ⟨hk.1, ih _ _ _ hfg hk.2⟩
          | false => exact ih _ _ _ hfg hk
        refine vstep_weak (vstep_E hc h (agreeG.of_feq hfg)) ?_
        rintro f' h' ⟨v, h1, h2⟩
        exact hc _ _ _ ((hfg.put _ _).trans h1) h2

def rel (o : Oper) (fl : Bool) (H h : Heap) : Prop := (isR o.op = true \/ fl = true) -> H <+: h

theorem vE_head (hK : Closed K) {i : Nat} {fl : Bool} {l : List (Nat × Bool)} {fr : Fr} {H : Heap} {o : Oper} (ho : ops[i]? = some o) (h : vE P N ops K ((i, fl) :: l) fr H) :
    vstep P N ops o (fun f h => rel o fl H h /\ vE P N ops K l f h) fr H := by
  simp only [vE, ho] at h
  cases hR : isR o.op with
  | true =>
    simp only [hR] at h
    obtain ⟨v, h1, h2⟩ := vstep_R hR (vE_closed hK l) h
    refine h2 fr H _ ?_ (fun _ _ => rfl) (fun _ => List.prefix_refl _) ⟨fun _ => List.prefix_refl _, h1⟩
    intro f g h hfg hk
    exact ⟨hk.1, vE_closed hK l _ _ _ hfg hk.2⟩
  | false =>
    simp only [hR] at h
    refine vstep_weak h ?_
    intro f h' hk
    cases fl with
    | true => exact ⟨fun _ => hk.1, hk.2⟩
    | false => exact ⟨fun e => by simp [hR] at e, hk⟩

theorem indep_spec {p q : Oper} (h : indep ops p q = true) : (∀ t, p.dst = some t -> t ∉ looks ops q) /\ (∀ t, q.dst = some t -> t ∉ looks ops p) /\ (∀ t, p.dst = some t -> q.dst ≠ some t) := by
  simp only [indep, Bool.and_eq_true] at h
  obtain ⟨⟨h1, h2⟩, h3⟩ := h
  refine ⟨fun t ht => ?_, fun t ht => ?_, fun t ht e => ?_⟩
  · rw [ht] at h1; simpa [disjointT] using h1
  · rw [ht] at h2; simpa [disjointT] using h2
  · rw [ht, e] at h3; simp at h3

theorem vE_front (hK : Closed K) {i : Nat} {fl : Bool} {l2 : List (Nat × Bool)} {o : Oper} (ho : ops[i]? = some o) : ∀ (l1 : List (Nat × Bool)) (fr : Fr) (H : Heap),
    (∀ x ∈ l1, ∃ p, ops[x.1]? = some p /\ isR p.op = true /\ indep ops p o = true /\ (readsH p.op = true -> isR o.op = true \/ fl = true)) ->
    vE P N ops K (l1 ++ (i, fl) :: l2) fr H -> vstep P N ops o (fun f h => rel o fl H h /\ vE P N ops K (l1 ++ l2) f h) fr H
  | [], fr, H, _, h => vE_head hK ho h
  | (j, fj) :: l1, fr, H, hl, h => by
    obtain ⟨p, hp, hR, hin, hrd⟩ := hl (j, fj) (by simp)
    simp only [List.cons_append, vE, hp, hR] at h ⊢
    have hc1 := vE_closed (P := P) (N := N) (ops := ops) hK (l1 ++ (i, fl) :: l2)
    have hc2 := vE_closed (P := P) (N := N) (ops := ops) hK (l1 ++ l2)
    obtain ⟨v, h1, h2⟩ := vstep_R hR hc1 h
    have ih := vE_front hK ho l1 (fr.put p.dst v) H (fun x hx => hl x (by simp [hx])) h1
    obtain ⟨i1, i2, i3⟩ := indep_spec hin
    have hcK : Closed (fun f h => rel o fl H h /\ vE P N ops K (l1 ++ l2) f h) := fun f g h hfg hk => ⟨hk.1, hc2 _ _ _ hfg hk.2⟩
    have hag : agreeG ops o (fr.put p.dst v) fr := agreeG.symm (agreeG.put i1)
    refine vstep_weak (vstep_E hcK ih hag) ?_
    rintro f h' ⟨u, hf, hrel, hv⟩
    refine ⟨hrel, ?_⟩
    have hvE : vstep P N ops p (vE P N ops K (l1 ++ l2)) (fr.put o.dst u) h' := by
      refine h2 (fr.put o.dst u) h' _ hc2 (agreeG.put i2) (fun hr => hrel (hrd hr)) ?_
      exact hc2 _ _ _ (put_comm fr i3 v u) hv
    have hfin := vE_closed (P := P) (N := N) (ops := ops) hK ((j, fj) :: (l1 ++ l2)) (fr.put o.dst u) f h' hf (by simp only [vE, hp, hR]; exact hvE)
    simpa only [vE, hp, hR] using hfin

theorem maskOf_mem {o : Oper} {acc : List Nat} {p : Nat} (h : (maskOf o acc).testBit p = true) : ∃ e ∈ o.after.toList, Region.binds .any e = true /\ (e.on = p \/ (acc.getD e.on 0).testBit p = true) := by
  unfold maskOf at h
  have key : ∀ (es : List Edge) (s : Nat), (es.foldl (fun s e => if Region.binds .any e then s ||| (2 ^ e.on) ||| acc.getD e.on 0 else s) s).testBit p = true -> s.testBit p = true \/ ∃ e ∈ es, Region.binds .any e = true /\ (e.on = p \/ (acc.getD e.on 0).testBit p = true) := by
    intro es
    induction es with
    | nil => intro s h; exact .inl h
    | cons e es ih =>
      intro s h
      simp only [List.foldl_cons] at h
      rcases ih _ h with h | ⟨e', he', h'⟩
      · split at h
        · rename_i hb
          simp only [Nat.testBit_or, Bool.or_eq_true, Nat.testBit_two_pow, decide_eq_true_eq] at h
          rcases h with (h | h) | h
          · exact .inl h
          · exact .inr ⟨e, by simp, hb, .inl h⟩
          · exact .inr ⟨e, by simp, hb, .inr h⟩
        · exact .inl h
      · exact .inr ⟨e', by simp [he'], h'⟩
  rcases key _ _ h with h | h
  · simp at h
  · exact h

theorem masks_sound (S : Nat -> Prop) (hS : ∀ (j : Nat) (o : Oper), ops[j]? = some o -> S j -> ∀ e ∈ o.after.toList, Region.binds .any e = true -> S e.on) :
    ∀ (os : List Oper) (acc : List Nat), (∀ j, j < os.length -> ops[acc.length + j]? = os[j]?) ->
    (∀ (j : Nat) (o : Oper) (p : Nat), j < acc.length -> ops[j]? = some o -> (acc.getD j 0).testBit p = true -> (∀ e ∈ o.after.toList, Region.binds .any e = true -> S e.on) -> S p) ->
    ∀ (j : Nat) (o : Oper) (p : Nat), ops[j]? = some o -> ((masksGo os acc).getD j 0).testBit p = true -> (∀ e ∈ o.after.toList, Region.binds .any e = true -> S e.on) -> S p
  | [], acc, _, hacc, j, o, p, ho, hb, hd => by
    simp only [masksGo] at hb
    by_cases hj : j < acc.length
    · exact hacc j o p hj ho hb hd
    · rw [List.getD_eq_getElem?_getD, List.getElem?_eq_none (by omega)] at hb; simp at hb
  | o' :: os, acc, hops, hacc, j, o, p, ho, hb, hd => by
    simp only [masksGo] at hb
    refine masks_sound S hS os (acc ++ [maskOf o' acc]) ?_ ?_ j o p ho hb hd
    · intro j hj
      have := hops (j + 1) (by simp; omega)
      simp only [List.getElem?_cons_succ] at this
      rw [<- this]; congr 1; simp; omega
    · intro j o p hj ho hb hd
      simp only [List.length_append, List.length_singleton] at hj
      by_cases hj' : j < acc.length
      · rw [List.getD_eq_getElem?_getD, List.getElem?_append_left hj', <- List.getD_eq_getElem?_getD] at hb
        exact hacc j o p hj' ho hb hd
      · have e : j = acc.length := by omega
        subst e
        have ho' := hops 0 (by simp)
        simp only [Nat.add_zero, List.getElem?_cons_zero] at ho'
        rw [ho] at ho'; cases ho'
        rw [List.getD_eq_getElem?_getD, List.getElem?_append_right (Nat.le_refl _)] at hb
        simp only [Nat.sub_self, List.getElem?_cons_zero, Option.getD_some] at hb
        obtain ⟨e, he, hbe, h⟩ := maskOf_mem hb
        have hSe := hd e he hbe
        rcases h with h | h
        · rw [<- h]; exact hSe
        · by_cases hlt : e.on < acc.length
          · have : e.on < ops.size := by
              rcases Nat.lt_or_ge e.on ops.size with h | h
              · exact h
              · have h1 := (Array.getElem?_eq_some_iff.1 ho).1; omega
            exact hacc e.on ops[e.on] p hlt (Array.getElem?_eq_getElem this) h (hS e.on _ (Array.getElem?_eq_getElem this) hSe)
          · rw [List.getD_eq_getElem?_getD, List.getElem?_eq_none (by omega)] at h; simp at h

theorem pairsOK_spec {ms : List Nat} : ∀ {l1 : List (Nat × Bool)} {y : Nat × Bool} {l2 : List (Nat × Bool)}, pairsOK ops ms (l1 ++ y :: l2) = true -> (∀ x ∈ l1, pairOK ops ms x y = true) /\ (∀ z ∈ l2, pairOK ops ms y z = true) /\ pairsOK ops ms (l1 ++ l2) = true
  | [], y, l2, h => by
    simp only [List.nil_append, pairsOK, Bool.and_eq_true, List.all_eq_true] at h
    exact ⟨by simp, h.1, h.2⟩
  | x :: l1, y, l2, h => by
    simp only [List.cons_append, pairsOK, Bool.and_eq_true, List.all_eq_true] at h ⊢
    obtain ⟨h1, h2⟩ := h
    obtain ⟨h3, h4, h5⟩ := pairsOK_spec h2
    refine ⟨fun z hz => ?_, h4, fun z hz => h1 z ?_, h5⟩
    · rcases List.mem_cons.1 hz with rfl | hz
      · exact h1 y (by simp)
      · exact h3 z hz
    · rcases List.mem_append.1 hz with hz | hz
      · simp [hz]
      · simp [hz]

theorem draw_any {B : Nat} {w0 : World} {Q : Exit -> Act -> World -> Prop} (hK : Closed K) (hedge : edgesOK ops = true) : ∀ (n : Nat) (listed : Array Bool) (l : List (Nat × Bool)) (fr : Fr) (H : Heap) (ρ : Rho) (w : World) (a : Act),
    listed.size = ops.size -> l.length = n -> pairsOK ops (masksGo ops.toList []) l = true -> (∀ x ∈ l, x.1 < ops.size /\ listed.getD x.1 true = false) -> (∀ i, i < ops.size -> listed.getD i true = false -> ∃ x ∈ l, x.1 = i) ->
    (∀ (j : Nat) (o : Oper), ops[j]? = some o -> listed.getD j false = true -> ∀ e ∈ o.after.toList, Region.binds .any e = true -> listed.getD e.on false = true) ->
    vE P N ops K l fr H -> R B w0 ρ H w -> FR N ρ fr a ->
    (∀ (ρ' : Rho) (fr' : Fr) (H' : Heap) (a' : Act) (w' : World), ρ <+: ρ' -> K fr' H' -> R B w0 ρ' H' w' -> FR N ρ' fr' a' -> Q .normal a' w') -> wpAny P .any ops Q n listed a w := by
  intro n
  have getD2 : ∀ (listed : Array Bool) (i : Nat), listed.size = ops.size -> i < ops.size -> listed.getD i true = listed.getD i false := by
    intro listed i h1 h2
    simp [Array.getD_eq_getD_getElem?, h1, h2]
  induction n with
  | zero =>
    intro listed l fr H ρ w a hsz hl hp hin hall hcl hv hR hF hq
    have : l = [] := List.eq_nil_of_length_eq_zero hl
    subst this
    refine ⟨?_, hq ρ fr H a w (List.prefix_refl _) hv hR hF⟩
    rw [List.eq_nil_iff_forall_not_mem]
    intro i hi
    simp only [Region.ready, List.mem_filter, List.mem_range, Bool.and_eq_true, Bool.not_eq_true'] at hi
    obtain ⟨x, hx, _⟩ := hall i hi.1 hi.2.1
    simp at hx
  | succ n ih =>
    intro listed l fr H ρ w a hsz hl hp hin hall hcl hv hR hF hq
    refine ⟨?_, ?_⟩
    · intro hnil
      exfalso
      match l, hl with
      | (i, fl) :: l, hl =>
        obtain ⟨h1, h2⟩ := hin (i, fl) (by simp)
        have hi : i ∈ Region.ready .any ops listed := by
          simp only [Region.ready, List.mem_filter, List.mem_range, Bool.and_eq_true, Bool.not_eq_true']
          refine ⟨h1, h2, ?_⟩
          rw [Array.getElem?_eq_getElem h1]
          simp only [Option.map_some, Option.getD_some, Array.all_eq_true']
          intro e he
          rw [Bool.or_eq_true, Bool.not_eq_true']
          by_cases hb : Region.binds .any e = true
          · right
            have hedge' := List.all_eq_true.1 hedge i (by simpa using h1)
            simp only [Array.getElem?_eq_getElem h1, List.all_eq_true] at hedge'
            have he' := hedge' e (by simpa using he)
            simp only [hb, Bool.not_true, Bool.false_or, Bool.and_eq_true, decide_eq_true_eq, bne_iff_ne, ne_eq] at he'
            rw [<- getD2 listed e.on hsz he'.1]
            cases hg : listed.getD e.on true with
            | true => rfl
            | false =>
              obtain ⟨x, hx, hxe⟩ := hall e.on he'.1 hg
              rcases List.mem_cons.1 hx with rfl | hx
              · exact absurd hxe.symm he'.2
              · have hpo := (pairsOK_spec (l1 := []) hp).2.1 x hx
                have hx1 := (hin x (by simp [hx])).1
                simp only [pairOK, Array.getElem?_eq_getElem h1, Array.getElem?_eq_getElem hx1, Bool.and_eq_true, Bool.not_eq_true'] at hpo
                have hd := hpo.1.1
                simp only [directTo, List.any_eq_false, Bool.and_eq_true, beq_iff_eq, not_and] at hd
                exact absurd hxe.symm (hd e (by simpa using he) hb)
          · left; simpa using hb
        rw [hnil] at hi
        simp at hi
    · intro i hi
      simp only [Region.ready, List.mem_filter, List.mem_range, Bool.and_eq_true, Bool.not_eq_true'] at hi
      obtain ⟨hilt, hnl, hrdy⟩ := hi
      rw [Array.getElem?_eq_getElem hilt] at hrdy
      simp only [Option.map_some, Option.getD_some, Array.all_eq_true'] at hrdy
      have ho : ops[i]? = some ops[i] := Array.getElem?_eq_getElem hilt
      obtain ⟨x, hx, hxi⟩ := hall i hilt hnl
      obtain ⟨l1, l2, rfl⟩ := List.append_of_mem hx
      obtain ⟨i', fl⟩ := x
      simp only at hxi
      subst hxi
      obtain ⟨hp1, hp2, hp3⟩ := pairsOK_spec hp
      have hpre : ∀ e ∈ (ops[i']).after.toList, Region.binds .any e = true -> listed.getD e.on false = true := by
        intro e he hb
        have := hrdy e (by simpa using he)
        simpa [hb] using this
      have hdep : ∀ y ∈ l1, ¬ ((masksGo ops.toList []).getD i' 0).testBit y.1 = true := by
        intro y hy hb
        have := masks_sound (ops := ops) (fun j => listed.getD j false = true) hcl ops.toList [] (fun j _ => by simp) (fun j o p hj => by simp at hj) i' _ y.1 ho hb hpre
        obtain ⟨hy1, hy2⟩ := hin y (by simp [hy])
        rw [getD2 listed y.1 hsz hy1] at hy2
        rw [hy2] at this; cases this
      have hl1 : ∀ y ∈ l1, ∃ p, ops[y.1]? = some p /\ isR p.op = true /\ indep ops p ops[i'] = true /\ (readsH p.op = true -> isR (ops[i']).op = true \/ fl = true) := by
        intro y hy
        have hy1 := (hin y (by simp [hy])).1
        have hpo := hp1 y hy
        have hd := hdep y hy
        refine ⟨ops[y.1], Array.getElem?_eq_getElem hy1, ?_⟩
        simp only [pairOK, Array.getElem?_eq_getElem hy1, ho, Bool.and_eq_true] at hpo
        have hpo2 := hpo.2
        simp only [Bool.not_eq_true] at hd
        cases hRp : isR (ops[y.1]).op with
        | false => simp only [hRp] at hpo2; rw [hd] at hpo2; cases hpo2
        | true =>
          simp only [hRp, hd, Bool.false_or, Bool.or_false, Bool.and_eq_true, Bool.or_eq_true, Bool.not_eq_true'] at hpo2
          refine ⟨rfl, hpo2.1, fun hr => ?_⟩
          rcases hpo2.2 with (h | h) | h
          · exact .inl h
          · exact .inr h
          · rw [hr] at h; cases h
      have hstep := vE_front hK ho l1 fr H hl1 hv
      unfold wpOp
      rw [ho]
      have hnd : ∀ y ∈ l1 ++ l2, y.1 ≠ i' := by
        intro y hy e
        rcases List.mem_append.1 hy with hy | hy
        · have hpo := hp1 y hy
          have hy1 := (hin y (by simp [hy])).1
          simp [pairOK, Array.getElem?_eq_getElem hy1, ho, e] at hpo
        · have hpo := hp2 y hy
          have hy1 := (hin y (by simp [hy])).1
          simp [pairOK, Array.getElem?_eq_getElem hy1, ho, e] at hpo
      refine vstep_sound hstep hR hF Q ?_
      rintro ρ' fr' H' a' w' hpre' ⟨_, hv'⟩ hR' hF'
      refine ih (listed.setIfInBounds i' true) (l1 ++ l2) fr' H' ρ' w' a' (by simpa using hsz) (by simp at hl ⊢; omega) hp3 ?_ ?_ ?_ hv' hR' hF' (fun ρ'' f'' H'' a'' w'' h1 => hq ρ'' f'' H'' a'' w'' (hpre'.trans h1))
      · intro y hy
        have hne := hnd y hy
        obtain ⟨h1, h2⟩ := hin y (by rcases List.mem_append.1 hy with hy | hy <;> simp [hy])
        exact ⟨h1, by rw [getD_set_ne _ (fun e => hne e.symm)]; exact h2⟩
      · intro j hj hnj
        by_cases e : i' = j
        · subst e
          exfalso
          have : (listed.setIfInBounds i' true).getD i' true = true := by simp [Array.getD_eq_getD_getElem?]
          rw [this] at hnj; cases hnj
        · rw [getD_set_ne _ e] at hnj
          obtain ⟨y, hy, rfl⟩ := hall j hj hnj
          refine ⟨y, ?_, rfl⟩
          rcases List.mem_append.1 hy with hy | hy
          · simp [hy]
          · rcases List.mem_cons.1 hy with rfl | hy
            · exact absurd rfl e
            · simp [hy]
      · intro j o hj hlj e he hb
        by_cases e' : i' = j
        · subst e'
          rw [ho] at hj; cases hj
          exact getD_set_true (hpre e he hb)
        · rw [getD_set_ne _ e'] at hlj
          exact getD_set_true (hcl j o hj hlj e he hb)

theorem AWp.draw {id : Nat} {fr : Fr} {H : Heap} {Q : Exit -> Fr -> Heap -> Prop} (hm : P.follows .mixedOrders = true) (canon : List (Nat × Bool)) (hok : drawOK ops canon = true) (h : vE P N ops (Q .normal) canon fr H) : AWp P N (.region id ops true) Q fr H := by
  intro B w0 ρ w a hR hF
  simp only [drawOK, Bool.and_eq_true, decide_eq_true_eq, List.all_eq_true, List.mem_range, List.contains_iff_mem, List.mem_map] at hok
  obtain ⟨⟨⟨⟨h1, h2⟩, h3⟩, h4⟩, h5⟩ := hok
  refine wp_region_any hm ?_
  let K : Fr -> Heap -> Prop := fun f h => ∃ g, feq g f /\ Q .normal g h
  have hK : Closed K := fun f g h hfg ⟨k, hk, hq⟩ => ⟨k, hk.trans hfg, hq⟩
  have hv : vE P N ops K canon fr H := by
    have weak : ∀ (l : List (Nat × Bool)) (fr : Fr) (H : Heap), vE P N ops (Q .normal) l fr H -> vE P N ops K l fr H := by
      intro l
      induction l with
      | nil => exact fun fr H h => ⟨fr, feq.rfl' _, h⟩
      | cons x l ih =>
        obtain ⟨i, fl⟩ := x
        intro fr H h
        simp only [vE] at h ⊢
        split at h
        · exact h
        · rename_i o ho
          cases hR : isR o.op with
          | true => simp only [hR] at h ⊢; exact vstep_weak h ih
          | false =>
            simp only [hR] at h ⊢
            refine vstep_weak h ?_
            intro f h' hk
            cases fl with
            | true => exact ⟨hk.1, ih _ _ hk.2⟩
            | false => exact ih _ _ hk
    exact weak canon fr H h
  have hgt : ∀ i, i < ops.size -> (Array.replicate ops.size false).getD i true = false := by
    intro i hi
    simp [Array.getD_eq_getD_getElem?, hi]
  refine draw_any (B := B) (w0 := w0) hK h2 ops.size (Array.replicate ops.size false) canon fr H ρ w.drew a (by simp) h3 h1 ?_ ?_ ?_ hv hR.drew hF ?_
  · intro x hx
    exact ⟨h4 x hx, hgt x.1 (h4 x hx)⟩
  · intro i hi _
    obtain ⟨x, hx, rfl⟩ := h5 i hi
    exact ⟨x, hx, rfl⟩
  · intro j o hj hl
    rw [Array.getD_eq_getD_getElem?, Array.getElem?_replicate] at hl
    split at hl <;> simp at hl
  · rintro ρ' fr' H' a' w' hp ⟨g, hg, hq⟩ hR' hF'
    exact ⟨ρ', g, H', hp, hR', hF'.feq hg.symm, hq⟩

/-! The words of such an order, for simp. -/

def vEK (P : Program) (N : Nat) (ops : Array Oper) (K : Fr -> Heap -> Prop) (l : List (Nat × Bool)) (fr : Fr) (H : Heap) : Prop := vE P N ops K l fr H
def eKK (P : Program) (N : Nat) (ops : Array Oper) (K : Fr -> Heap -> Prop) (l : List (Nat × Bool)) (fl : Bool) (H : Heap) (fr : Fr) (H' : Heap) : Prop :=
  match fl with
  | true => andK (H <+: H') (vE P N ops K l fr H')
  | false => vE P N ops K l fr H'
def vEo (P : Program) (N : Nat) (ops : Array Oper) (K : Fr -> Heap -> Prop) (l : List (Nat × Bool)) (fl : Bool) (fr : Fr) (H : Heap) (o : Oper) : Prop :=
  match isR o.op with
  | true => vstep P N ops o (vEK P N ops K l) fr H
  | false => vstep P N ops o (eKK P N ops K l fl H) fr H

theorem vE_nil (K : Fr -> Heap -> Prop) (fr : Fr) (H : Heap) : vE P N ops K [] fr H = K fr H := rfl
theorem vE_cons (K : Fr -> Heap -> Prop) (i : Nat) (fl : Bool) (l : List (Nat × Bool)) (fr : Fr) (H : Heap) : vE P N ops K ((i, fl) :: l) fr H = bindO ops[i]? (vEo P N ops K l fl fr H) := by
  have e : eK fl H (vE P N ops K l) = eKK P N ops K l fl H := by
    funext f h
    cases fl <;> rfl
  simp only [vE]
  cases ops[i]? with
  | none => simp [bindO]
  | some o =>
    simp only [bindO_some, vEo]
    cases isR o.op with
    | true => rfl
    | false => simp only [e]

attribute [go_sem] vEK eKK vEo vE_nil vE_cons isR

end
end Go.Ab
end

section
namespace Go.Ab
open Go.RowKit (Below)

def Up (H : Heap) (v v' : Value) : Prop := ∀ (B : Nat) (w0 : World) (ρ : Rho) (w : World) (cv : Value), R B w0 ρ H w -> VR ρ v cv -> VR ρ v' cv

theorem Up.refl (H : Heap) (v : Value) : Up H v v := fun _ _ _ _ _ _ h => h
theorem Up.nil (H : Heap) (i o e : Nat) : Up H (.slice none 0 0) (.slice (some ⟨i, o, some e⟩) 0 0) := by
  intro B w0 ρ w cv _ h
  cases h
  exact .sliceZero _ _ _ _
theorem Up.ex {H : Heap} {i o e n : Nat} (he : 0 < e) (hc : n = 0 \/ (cellsAt H i o (n * e)).isSome = true) : Up H (.slice (some ⟨i, o, none⟩) n n) (.slice (some ⟨i, o, some e⟩) n n) := by
  intro B w0 ρ w cv hR h
  cases h with
  | sliceEx _ _ _ l hl =>
    by_cases h0 : n = 0
    · subst h0; exact .sliceZero _ _ _ _
    · have hc' : (cellsAt H i o (n * e)).isSome = true := by rcases hc with hc | hc; exact absurd hc h0; exact hc
      refine .sliceUnk _ _ _ _ _ _ l hl (.inl rfl) (Nat.le_refl _) ?_
      obtain ⟨cs, hcs⟩ := Option.isSome_iff_exists.1 hc'
      obtain ⟨b, hb, hbl, hn, _⟩ := cellsAt_inv hcs
      obtain ⟨cur, el, fz, hg, hsz, hcell, _⟩ := hR.blk i b l hb hl hbl
      have hpos : 0 < n * e := Nat.mul_pos (by omega) he
      obtain ⟨_, cv, hcv, _⟩ := hcell (o + n * e - 1) _ (List.getElem?_eq_getElem (by omega))
      have := (Array.getElem?_eq_some_iff.1 hcv).1
      omega
theorem Up.ex0 (H : Heap) (i o e i' o' : Nat) : Up H (.slice (some ⟨i, o, none⟩) 0 0) (.slice (some ⟨i', o', some e⟩) 0 0) := by
  intro B w0 ρ w cv _ h
  cases h
  exact .sliceZero _ _ _ _

def Ups (H : Heap) : List Value -> List Value -> Prop
  | [], [] => True
  | v :: vs, u :: us => Up H v u /\ Ups H vs us
  | _, _ => False

theorem Ups.vrs {H : Heap} {B : Nat} {w0 : World} {ρ : Rho} {w : World} (hR : R B w0 ρ H w) : ∀ {vs us cs : List Value}, Ups H vs us -> VRs ρ vs cs -> VRs ρ us cs
  | [], [], _, _, h => h
  | v :: vs, u :: us, cs, h, hv => by
    obtain ⟨c, cs', rfl, h1, h2⟩ := hv.cons_inv
    exact VRs.cons (h.1 _ _ _ _ _ hR h1) (Ups.vrs hR h.2 h2)
  | [], _ :: _, _, h, _ => h.elim
  | _ :: _, [], _, h, _ => h.elim
theorem Up.agg {H : Heap} {xs ys : Array Value} (h : Ups H xs.toList ys.toList) : Up H (.agg xs) (.agg ys) := by
  intro B w0 ρ w cv hR hv
  obtain ⟨zs, rfl, hz⟩ := hv.agg_inv
  exact VR.agg_of (h.vrs hR hz)

def upF (H : Heap) : Fr -> Fr -> Prop
  | [], _ => True
  | (t, v) :: l, f => (∃ u, Fr.get f t = some u /\ Up H u v) /\ upF H l f

theorem upF.get {H : Heap} : ∀ {l f : Fr}, upF H l f -> ∀ t v, Fr.get l t = some v -> ∃ u, Fr.get f t = some u /\ Up H u v
  | [], _, _, t, v, h => by simp [Fr.get] at h
  | (s, u) :: l, f, h, t, v, hg => by
    simp only [Fr.get] at hg
    split at hg
    · rename_i e; subst e; cases hg; exact h.1
    · exact h.2.get t v hg

theorem FR.up {N B : Nat} {w0 : World} {ρ : Rho} {H : Heap} {w : World} {l f : Fr} {a : Act} (hR : R B w0 ρ H w) (h : upF H l f) (hf : FR N ρ f a) : FR N ρ l a :=
  ⟨hf.defers, hf.size, fun t v ht => by
    obtain ⟨u, h1, h2⟩ := h.get t v ht
    exact h2 _ _ _ _ _ hR (hf.get t u h1)⟩

section
variable {P : Program} {N : Nat} {H : Heap} {fr : Fr} {Q : Exit -> Fr -> Heap -> Prop}

theorem AWp.up {c : Code} {f : Fr} (hf : upF H f fr) (h : AWp P N c Q f H) : AWp P N c Q fr H :=
  fun B w0 ρ w a hR hF => h B w0 ρ w a hR (FR.up hR hf hF)

theorem ACalls.up {f : FuncId} {args args' : List Value} {Post : Value -> Heap -> Prop} (hu : Ups H args args') (h : ACalls P f args' H Post) : ACalls P f args H Post :=
  ⟨h.1, fun B w0 ρ w cargs hR hv => h.2 B w0 ρ w cargs hR (hu.vrs hR hv)⟩

theorem AWp.loopUp {St : Type} {c : Code} (L : St -> Fr) (I : St -> Heap -> Prop) (m : St -> Nat) (s0 : St) (h0 : upF H (L s0) fr) (hI : I s0 H)
    (round : ∀ s H, I s H -> AWp P N c (thenA (fun fr' H' => ∃ s', m s' < m s /\ upF H' (L s') fr' /\ I s' H') Q) (L s) H) : AWp P N (.loop c) Q fr H := by
  refine AWp.up h0 ?_
  intro B w0 ρ w a hR hF b k cs
  have key : ∀ n (s : St) (H : Heap) (ρ1 : Rho) (w : World) (a : Act), m s = n -> I s H -> ρ <+: ρ1 -> R B w0 ρ1 H w -> FR N ρ1 (L s) a ->
      ∃ e a' w', Lift B w0 N ρ Q e a' w' /\ Arrives P (lone (b.at a (.code c :: .inLoop c :: k)) cs w) b k cs e a' w' := by
    intro n
    induction n using Nat.strongRecOn with
    | _ n ih =>
      intro s H ρ1 w a hn hI hp hR hF
      obtain ⟨e, a₁, w₁, hq, harr⟩ := round s H hI B w0 ρ1 w a hR hF b (.inLoop c :: k) cs
      obtain ⟨ρ2, f2, H2, h1, h2, h3, h4⟩ := hq
      cases e with
      | normal =>
        obtain ⟨s', hlt, hle, hI'⟩ := h4
        obtain ⟨e₂, a₂, w₂, hq₂, harr₂⟩ := ih (m s') (hn ▸ hlt) s' H2 ρ2 w₁ a₁ rfl hI' (hp.trans h1) h2 (FR.up h2 hle h3)
        exact ⟨e₂, a₂, w₂, hq₂, .of_steps (Steps.trans harr (.one step_inLoop)) harr₂⟩
      | exit id => exact ⟨_, a₁, w₁, ⟨ρ2, f2, H2, hp.trans h1, h2, h3, h4⟩, .pass (x := .inLoop c) rfl (fun _ _ => .inl (by simp)) harr⟩
      | goto l => exact ⟨_, a₁, w₁, ⟨ρ2, f2, H2, hp.trans h1, h2, h3, h4⟩, .pass (x := .inLoop c) rfl (fun _ _ => .inl (by simp)) harr⟩
      | ret => exact ⟨_, a₁, w₁, ⟨ρ2, f2, H2, hp.trans h1, h2, h3, h4⟩, .pass (x := .inLoop c) rfl (fun _ _ => .inl (by simp)) harr⟩
      | panic ch => exact ⟨_, a₁, w₁, ⟨ρ2, f2, H2, hp.trans h1, h2, h3, h4⟩, .pass (x := .inLoop c) rfl (fun _ _ => .inl (by simp)) harr⟩
      | outgrown => exact ⟨_, a₁, w₁, ⟨ρ2, f2, H2, hp.trans h1, h2, h3, h4⟩, .pass (x := .inLoop c) rfl (fun _ _ => .inl (by simp)) harr⟩
  obtain ⟨e, a', w', hq, harr⟩ := key _ s0 H ρ w a rfl hI (List.prefix_refl _) hR hF
  exact ⟨e, a', w', hq, .of_steps (.one step_loop) harr⟩

theorem AWp.loopVc {St : Type} {c : Code} (L : St -> Fr) (I : St -> Heap -> Prop) (m : St -> Nat) (s0 : St) (h0 : upF H (L s0) fr) (hI : I s0 H)
    (round : ∀ (K : Fr -> Heap -> Prop) (s : St) (H : Heap), I s H -> (∀ (s' : St) (fr' : Fr) (H' : Heap), m s' < m s -> upF H' (L s') fr' -> I s' H' -> K fr' H') -> vc P N c (thenA K Q) (L s) H) : AWp P N (.loop c) Q fr H :=
  AWp.loopUp L I m s0 h0 hI fun s H hI => vc_sound _ _ _ _ (round _ s H hI fun s' _ _ h1 h2 h3 => ⟨s', h1, h2, h3⟩)

end

abbrev lv (e i o n : Nat) : Value := .slice (some ⟨i, o, some e⟩) n n

end Go.Ab
end

section
namespace Go.Ab
open Go.ChangeShapes Go.WideShapes Go.ChangeAt Go.RowKit

/-! The head of a program's text: its words, the first ones alone. -/

theorem wordsSigns_cons (c : Char) (r : List Char) (h : c ≠ Char.ofNat 32) {w : List Char} {ws : List (List Char)} (hr : wordsSigns r = w :: ws) : wordsSigns (c :: r) = (c :: w) :: ws := by
  rw [wordsSigns]
  · rw [hr]
  · intro e; exact h e

theorem wordsSigns_space (r : List Char) : wordsSigns (Char.ofNat 32 :: r) = [] :: wordsSigns r := by
  rfl

theorem wordsSigns_word : ∀ (w r : List Char), w.all (fun c => c != Char.ofNat 32) = true -> wordsSigns (w ++ Char.ofNat 32 :: r) = w :: wordsSigns r
  | [], r, _ => wordsSigns_space r
  | c :: w, r, h => by
    simp only [List.all_cons, Bool.and_eq_true, bne_iff_ne, ne_eq] at h
    exact wordsSigns_cons c _ h.1 (wordsSigns_word w r (by simpa using h.2))

theorem head_words {s : String} (h a b c d : String) (e : s = h ++ (" " ++ (a ++ (" " ++ (b ++ (" " ++ (c ++ (" " ++ d)))))))) (h1 : h.toList.all (fun c => c != Char.ofNat 32) = true) (h2 : a.toList.all (fun c => c != Char.ofNat 32) = true) (h3 : b.toList.all (fun c => c != Char.ofNat 32) = true) (h4 : c.toList.all (fun c => c != Char.ofNat 32) = true) :
    wordsSigns s.toList = h.toList :: a.toList :: b.toList :: c.toList :: wordsSigns d.toList := by
  subst e
  have sp : " ".toList = [Char.ofNat 32] := by rfl
  simp only [String.toList_append, sp, List.singleton_append]
  rw [wordsSigns_word _ _ h1, wordsSigns_word _ _ h2, wordsSigns_word _ _ h3, wordsSigns_word _ _ h4]

theorem cut_words {P : Program} {h a b c d : String} (e : P.initOrder = h ++ (" " ++ (a ++ (" " ++ (b ++ (" " ++ (c ++ (" " ++ d)))))))) (h1 : h.toList.all (fun c => c != Char.ofNat 32) = true) (h2 : a.toList.all (fun c => c != Char.ofNat 32) = true) (h3 : b.toList.all (fun c => c != Char.ofNat 32) = true) (h4 : c.toList.all (fun c => c != Char.ofNat 32) = true)
    (hh : (h.toList == "harness".toList || h.toList == "ownmain".toList) = true) (ha : isSumSigns a.toList = true) : behindMainWord (wordsSigns P.initOrder.toList) = b.toList :: c.toList :: wordsSigns d.toList := by
  rw [head_words h a b c d e h1 h2 h3 h4]
  simp only [behindMainWord]
  rw [hh, ha]; rfl

theorem make_of {P : Program} {b : String} {r : List (List Char)} (h : behindMainWord (wordsSigns P.initOrder.toList) = b.toList :: r) (h0 : (b.toList == "gc".toList || b.toList == "spec".toList) = false) (h1 : (b.toList == "cut".toList) = true) : P.make = some .cut := by
  unfold Program.make
  rw [h]
  simp only [h0, h1, Bool.true_or]
  rfl

theorem strip_cut {r : List (List Char)} : stripLifts liftWords ("cut".toList :: r) = ([], "cut".toList :: r) := by
  have key : ∀ (os : List String), os.all (fun o => !("cut".toList == o.toList)) = true -> stripLifts os ("cut".toList :: r) = ([], "cut".toList :: r) := by
    intro os
    induction os with
    | nil => intro _; rfl
    | cons o os ih =>
      intro h
      simp only [List.all_cons, Bool.and_eq_true, Bool.not_eq_true'] at h
      rw [stripLifts, if_neg (by rw [h.1]; simp)]
      exact ih (by simpa using h.2)
  exact key liftWords (by decide)

theorem headLifts_of {P : Program} {r : List (List Char)} (h : behindMainWord (wordsSigns P.initOrder.toList) = "cut".toList :: r) : P.headLifts = [] := by
  unfold Program.headLifts
  rw [h, strip_cut]
  simp

theorem liftsFinal_of {P : Program} {r : List (List Char)} (h : behindMainWord (wordsSigns P.initOrder.toList) = "cut".toList :: r) : P.liftsFinal = false := by
  unfold Program.liftsFinal
  rw [headLifts_of h, h]
  have : ("cut".toList == "carried".toList) = false := by decide
  simp [this]

theorem mayEnter_of {P : Program} {r : List (List Char)} (h : behindMainWord (wordsSigns P.initOrder.toList) = "cut".toList :: r) (h1 : P.laysLater = false) (h2 : P.bearsReflect = false) (h3 : P.doorFits [] = true) : P.mayEnter = true := by
  unfold Program.mayEnter
  rw [h]
  simp only [strip_cut, h1, h2, h3]
  simp

def noOwn (H : Heap) : Prop := ∀ b ∈ H, b.own = true -> b.live = false

section
variable {D : Type} {enc : TypeId × Value -> D} {P : Program} {W : World}

def OpenC (enc : TypeId × Value -> D) (P : Program) (W : World) (t : TypeId) (Pred : Heap -> List Value -> Prop) : Prop :=
  ∀ (fuel : Nat) (cs : List Value) (x : DataW D × List MemPlace), DataW.trod enc P W 0 (fun _ => true) true fuel t cs = some x -> ∀ (ρ : Rho) (H : Heap), R W.heap.size W ρ H W -> noOwn H ->
    ∃ ρ' H' acs, ρ <+: ρ' /\ H <+: H' /\ R W.heap.size W ρ' H' W /\ noOwn H' /\ VRs ρ' acs cs /\ (∀ v ∈ acs, v.oneCell' = true) /\ Pred H' acs

def Stable (Pred : Heap -> List Value -> Prop) : Prop := ∀ (H H' : Heap) (vs : List Value), H <+: H' -> Pred H vs -> Pred H' vs

def cStr (_ : Heap) (vs : List Value) : Prop := ∃ s : ByteArray, vs = [.string s] /\ s.size <= maxLen

theorem cStr_stable : Stable cStr := fun _ _ _ _ h => h

theorem open_cStr {t : TypeId} (ht : P.underlying t = some .string) : OpenC enc P W t cStr := by
  intro fuel cs x h ρ H hR hn
  obtain ⟨n, rfl, _, hw⟩ := DataW.trod_string ht h
  exact ⟨ρ, H, [.string n], List.prefix_refl _, List.prefix_refl _, hR, hn, VRs.cons (.string _) (VRs.nil _), by simp [Value.oneCell'], n, rfl, hw⟩

theorem cellsAt_pre {H H' : Heap} (hp : H <+: H') {i o n : Nat} {cs : List Value} (h : cellsAt H i o n = some cs) : cellsAt H' i o n = some cs := by
  obtain ⟨b, hb, hl, hn, rfl⟩ := cellsAt_inv h
  refine cellsAt_of ?_ hl hn
  obtain ⟨t, rfl⟩ := hp
  rw [List.getElem?_append_left (List.getElem?_eq_some_iff.1 hb).1]; exact hb

structure Shape where
  type : TypeId
  agg : Bool
  pred : Heap -> List Value -> Prop

def Shape.fits (enc : TypeId × Value -> D) (P : Program) (W : World) (s : Shape) : Prop :=
  Stable s.pred /\ OpenC enc P W s.type s.pred /\ (match P.underlying s.type with
    | some (.struct _) | some (.array _ _) => s.agg = true
    | some (.int _) | some .string | some (.slice _) => s.agg = false
    | _ => False)

def Shape.says (s : Shape) (H : Heap) (v : Value) : Prop :=
  match s.agg with
  | true => ∃ acs : List Value, v = .agg acs.toArray /\ s.pred H acs
  | false => s.pred H [v]

theorem Shape.says_mono {s : Shape} (hs : Stable s.pred) {H H' : Heap} (hp : H <+: H') {v : Value} (h : s.says H v) : s.says H' v := by
  unfold Shape.says at h ⊢
  cases hg : s.agg with
  | true => simp only [hg] at h ⊢; obtain ⟨acs, h1, h2⟩ := h; exact ⟨acs, h1, hs H H' _ hp h2⟩
  | false => simp only [hg] at h ⊢; exact hs H H' _ hp h

def argsSay : List Shape -> Heap -> List Value -> Prop
  | [], _, vs => vs = []
  | s :: ss, H, vs => ∃ v us, vs = v :: us /\ s.says H v /\ argsSay ss H us

theorem open_arg {s : Shape} (hs : s.fits enc P W) {base : Nat} {v : Value} {d : DataW D} {p : List MemPlace} (hok : Value.okWide P W .any base s.type v) (hd : DataW.Trod enc P W 0 (fun _ => true) true s.type v d p)
    {ρ : Rho} {H : Heap} (hR : R W.heap.size W ρ H W) (hn : noOwn H) : ∃ ρ' H' av, ρ <+: ρ' /\ H <+: H' /\ R W.heap.size W ρ' H' W /\ noOwn H' /\ VR ρ' av v /\ s.says H' av := by
  obtain ⟨h1, h2, h3⟩ := hs
  obtain ⟨fuel, hf⟩ := hd
  obtain ⟨ρ', H', acs, a1, a2, a3, a4, a5, _, a6⟩ := h2 fuel _ _ hf ρ H hR hn
  have one : (∃ w, v = w /\ v.cells = #[w]) -> s.agg = false -> ∃ ρ' H' av, ρ <+: ρ' /\ H <+: H' /\ R W.heap.size W ρ' H' W /\ noOwn H' /\ VR ρ' av v /\ s.says H' av := by
    rintro ⟨w, rfl, hw⟩ hag
    rw [hw] at a5
    match acs, a5 with
    | [a], a5 => exact ⟨ρ', H', a, a1, a2, a3, a4, a5.head, by unfold Shape.says; rw [hag]; exact a6⟩
    | [], a5 => exact absurd a5.1 (by simp)
    | _ :: _ :: _, a5 => exact absurd a5.1 (by simp)
  have many : (∃ cs, v = .agg cs) -> s.agg = true -> ∃ ρ' H' av, ρ <+: ρ' /\ H <+: H' /\ R W.heap.size W ρ' H' W /\ noOwn H' /\ VR ρ' av v /\ s.says H' av := by
    rintro ⟨cs, rfl⟩ hag
    refine ⟨ρ', H', .agg acs.toArray, a1, a2, a3, a4, VR.agg_of (by simpa [Value.cells] using a5), ?_⟩
    unfold Shape.says; rw [hag]
    exact ⟨acs, rfl, a6⟩
  split at h3
  · rename_i fs ht
    unfold Value.okWide at hok
    rw [ht] at hok
    obtain ⟨cs, rfl, _⟩ := hok
    exact many ⟨_, rfl⟩ h3
  · rename_i n e ht
    unfold Value.okWide at hok
    rw [ht] at hok
    obtain ⟨cs, rfl, _⟩ := hok
    exact many ⟨_, rfl⟩ h3
  · rename_i k ht
    obtain ⟨n, rfl⟩ := okWide_int ht hok
    exact one ⟨_, rfl, rfl⟩ h3
  · rename_i ht
    obtain ⟨n, rfl⟩ : ∃ x, v = .string x := by
      unfold Value.okWide at hok
      rw [ht] at hok
      cases v <;> simp [Cell.okWide, Cell.ok, ht] at hok ⊢
    exact one ⟨_, rfl, rfl⟩ h3
  · rename_i e ht
    obtain ⟨a, n, c, rfl⟩ := okWide_slice ht hok
    exact one ⟨_, rfl, rfl⟩ h3
  · exact h3.elim

theorem open_args {base : Nat} : ∀ (ss : List Shape) (vs : List Value) (ds : List (DataW D)) (ps : List MemPlace) (ρ : Rho) (H : Heap), (∀ s ∈ ss, s.fits enc P W) ->
    (∀ (j : Nat) t v, (ss.map (·.type))[j]? = some t -> vs[j]? = some v -> Value.okWide P W .any base t v) -> DataW.TrodAll enc P W 0 (fun _ => true) true (ss.map (·.type)) vs ds ps -> R W.heap.size W ρ H W -> noOwn H ->
    ∃ ρ' H' avs, ρ <+: ρ' /\ H <+: H' /\ R W.heap.size W ρ' H' W /\ noOwn H' /\ VRs ρ' avs vs /\ argsSay ss H' avs
  | [], vs, ds, ps, ρ, H, _, _, hT, hR, hn => by
    cases vs with
    | nil => exact ⟨ρ, H, [], List.prefix_refl _, List.prefix_refl _, hR, hn, VRs.nil _, rfl⟩
    | cons v vs => simp [DataW.TrodAll] at hT
  | s :: ss, vs, ds, ps, ρ, H, hs, hok, hT, hR, hn => by
    simp only [List.map_cons] at hT hok
    cases vs with
    | nil => cases ds <;> simp [DataW.TrodAll] at hT
    | cons v vs =>
      cases ds with
      | nil => simp [DataW.TrodAll] at hT
      | cons d ds =>
        obtain ⟨p, q, h1, h2, rfl⟩ := hT
        obtain ⟨ρ1, H1, av, a1, a2, a3, a4, a5, a6⟩ := open_arg (hs s (by simp)) (hok 0 _ v rfl rfl) h1 hR hn
        obtain ⟨ρ2, H2, avs, b1, b2, b3, b4, b5, b6⟩ := open_args ss vs ds q ρ1 H1 (fun s' h => hs s' (by simp [h])) (fun j t u hj hu => hok (j + 1) t u (by simpa using hj) (by simpa using hu)) h2 a3 a4
        exact ⟨ρ2, H2, av :: avs, a1.trans b1, a2.trans b2, b3, b4, VRs.cons (a5.mono b1) b5, av, avs, rfl, Shape.says_mono (hs s (by simp)).1 b2 a6, b6⟩

theorem trodAll_stays (hl : laidOutB P = true) {W' : World} (hb : Below W.heap.size W W') : ∀ (ts : List TypeId) (vs : List Value) (ds : List (DataW D)) (ps : List MemPlace), ts.all (fun t => P.readableRec t && decide (t < P.types.size)) = true ->
    DataW.TrodAll enc P W 0 (fun _ => true) true ts vs ds ps -> DataW.TrodAll enc P W' 0 (fun b => decide (b < W.heap.size)) true ts vs ds ps
  | [], vs, ds, ps, _, h => by
    cases vs <;> cases ds <;> first | exact h | exact h.elim
  | t :: ts, vs, ds, ps, ht, h => by
    cases vs with
    | nil => cases ds <;> exact h.elim
    | cons v vs =>
      cases ds with
      | nil => exact h.elim
      | cons d ds =>
        obtain ⟨p, q, h1, h2, rfl⟩ := h
        simp only [List.all_cons, Bool.and_eq_true, decide_eq_true_eq] at ht
        refine ⟨p, q, ?_, trodAll_stays hl hb ts vs ds q (by simpa using ht.2) h2, rfl⟩
        exact Below.trod hl ht.1.1 ht.1.2 h1 hb (by obtain ⟨m, hm⟩ := h1; exact DataW.trod_lt m _ _ _ hm)

theorem R.start (W : World) (hf : Fixed W.heap.size W) : R W.heap.size W [] [] W :=
  ⟨rfl, Below.refl _ _, Nat.le_refl _, hf, by simp, by simp, by simp⟩

end

end Go.Ab
end

section
namespace Go.Ab

def ints (xs : List Int) : List Value := xs.map (.int .i64 ·)

theorem ints_length (xs : List Int) : (ints xs).length = xs.length := by simp [ints]
theorem ints_get (xs : List Int) (i : Nat) : (ints xs)[i]? = xs[i]?.map (.int .i64 ·) := by simp [ints]
theorem ints_set (xs : List Int) (i : Nat) (n : Int) : (ints xs).set i (.int .i64 n) = ints (xs.set i n) := by simp [ints, List.map_set]
theorem take_one {cs : List Value} {k : Nat} {v : Value} (hv : cs[k]? = some v) : (cs.drop k).take 1 = [v] := by
  obtain ⟨hlt, he⟩ := List.getElem?_eq_some_iff.1 hv
  rw [List.drop_eq_getElem_cons hlt, List.take_succ_cons, List.take_zero, he]

def Holds (H : Heap) (i : Nat) (cs : List Value) : Prop := ∃ own, H[i]? = some ⟨cs, true, own⟩

theorem Holds.cells {H : Heap} {i : Nat} {cs : List Value} (h : Holds H i cs) {o n : Nat} (hn : o + n <= cs.length) : cellsAt H i o n = some ((cs.drop o).take n) := by
  obtain ⟨own, hb⟩ := h
  exact cellsAt_of hb rfl hn

theorem Holds.cell {H : Heap} {i : Nat} {cs : List Value} (h : Holds H i cs) {o : Nat} {v : Value} (hv : cs[o]? = some v) : cellsAt H i o 1 = some [v] := by
  have hlt := (List.getElem?_eq_some_iff.1 hv).1
  rw [h.cells (by omega), take_one hv]

theorem Holds.pre {H H' : Heap} (hp : H <+: H') {i : Nat} {cs : List Value} (h : Holds H i cs) : Holds H' i cs := by
  obtain ⟨own, hb⟩ := h
  refine ⟨own, ?_⟩
  obtain ⟨t, rfl⟩ := hp
  rw [List.getElem?_append_left (List.getElem?_eq_some_iff.1 hb).1]; exact hb

def At (H : Heap) (i o : Nat) (cs : List Value) : Prop := cs = [] \/ cellsAt H i o cs.length = some cs

theorem At.sub {H : Heap} {i o : Nat} {cs : List Value} (h : At H i o cs) {k n : Nat} (hn : 0 < n) (hk : k + n <= cs.length) : cellsAt H i (o + k) n = some ((cs.drop k).take n) := by
  rcases h with rfl | h
  · simp at hk; omega
  · obtain ⟨b, hb, hl, hn', he⟩ := cellsAt_inv h
    rw [cellsAt_of hb hl (by omega)]
    congr 1
    apply List.ext_getElem?
    intro j
    have hget : ∀ m, m < cs.length -> cs[m]? = b.cells[o + m]? := by
      intro m hm
      conv => lhs; rw [he]
      rw [List.getElem?_take, if_pos hm, List.getElem?_drop]
    by_cases hj : j < n
    · rw [List.getElem?_take, if_pos hj, List.getElem?_take, if_pos hj, List.getElem?_drop, List.getElem?_drop, hget _ (by omega)]
      congr 1; omega
    · rw [List.getElem?_take, if_neg hj, List.getElem?_take, if_neg hj]

theorem At.cell {H : Heap} {i o : Nat} {cs : List Value} (h : At H i o cs) {k : Nat} {v : Value} (hv : cs[k]? = some v) : cellsAt H i (o + k) 1 = some [v] := by
  have hlt := (List.getElem?_eq_some_iff.1 hv).1
  rw [h.sub (by omega) (by omega), take_one hv]

theorem At.pre {H H' : Heap} (hp : H <+: H') {i o : Nat} {cs : List Value} (h : At H i o cs) : At H' i o cs :=
  h.imp (fun h => h) (cellsAt_pre hp)

theorem Holds.at {H : Heap} {i : Nat} {cs : List Value} (h : Holds H i cs) : At H i 0 cs := by
  right
  rw [h.cells (by omega)]; simp

def IntsAt (H : Heap) (v : Value) (xs : List Int) : Prop := ∃ i o, v = lv 1 i o xs.length /\ At H i o (ints xs) /\ xs.length <= 140737488355328

theorem i64w {n : Int} (h0 : -9223372036854775808 <= n) (h1 : n <= 9223372036854775807) : IntKind.i64.wrap n = n := by
  rw [IntKind.wrap_i64]; omega

end Go.Ab
end
