/- Part 5 of what the proof of the law FnTradeParts rests on: contracts of functions of the program, for every argument that each names; no statement of the seat is proved here. -/
import Derived.Test.YtkimaohcmcfcnaaGreatFnTradePartsPart4

set_option linter.all false
set_option maxRecDepth 20000
set_option maxHeartbeats 8000000
section
namespace Go.Ab
open Go.RowKit (Below)

def blkOf : Value -> Option Nat
  | .pointer (some ⟨i, _, _⟩) => some i
  | .slice (some ⟨i, _, _⟩) _ _ => some i
  | _ => none
def rdBlk (o : Op) (fr : Fr) : Option Nat :=
  match o with
  | .load _ x => (ev fr x).bind blkOf
  | .convert _ _ x => (ev fr x).bind blkOf
  | .slice _ x _ _ _ => (ev fr x).bind blkOf
  | _ => none
theorem rdBlk_none {o : Op} {fr : Fr} (h : readsH o = false) : rdBlk o fr = none := by
  cases o <;> first | rfl | simp [readsH] at h
theorem rdBlk_congr {o : Op} {fr fr' : Fr} (h : ∀ x, ev fr x = ev fr' x) : rdBlk o fr = rdBlk o fr' := by
  cases o <;> simp [rdBlk, h]
theorem rdBlk_agree {o : Op} {fr fr' : Fr} (h : agree o fr fr') : rdBlk o fr' = rdBlk o fr := by
  cases o <;> first | rfl | skip
  case load t x => simp only [rdBlk]; rw [h x (by simp [Op.operands])]
  case convert s t x => simp only [rdBlk]; rw [h x (by simp [Op.operands])]
  case slice t x lo hi mx => simp only [rdBlk]; rw [h x (by simp [Op.operands])]

def offL (L : Nat) (o : Op) (fr : Fr) : Prop := ∀ i, rdBlk o fr = some i -> i < L
theorem offL_congr {L : Nat} {o : Op} {fr fr' : Fr} (h : ∀ x, ev fr' x = ev fr x) (hoff : offL L o fr) : offL L o fr' := fun i hi => hoff i (by rw [<- hi]; exact rdBlk_congr fun x => (h x).symm)
theorem offL_agree {L : Nat} {o : Op} {fr fr' : Fr} (h : agree o fr fr') (hoff : offL L o fr) : offL L o fr' := fun i hi => hoff i (by rw [<- hi]; exact (rdBlk_agree h).symm)
def KeepL (L : Nat) (H h : Heap) : Prop := ∀ i, i < L -> h[i]? = H[i]?

theorem cellsAt_at {H H' : Heap} {i o n : Nat} {cs : List Value} (h : ∀ b : Blk, H[i]? = some b -> H'[i]? = some b) (hc : cellsAt H i o n = some cs) : cellsAt H' i o n = some cs := by
  obtain ⟨b, hb, hl, hn, rfl⟩ := cellsAt_inv hc
  exact cellsAt_of (h b hb) hl hn
theorem srcCells_at {H H' : Heap} {e : Nat} {v : Value} {cs : List Value} (h : ∀ i, blkOf v = some i -> ∀ b : Blk, H[i]? = some b -> H'[i]? = some b) (hc : srcCells H e v = some cs) : srcCells H' e v = some cs := by
  unfold srcCells at hc ⊢
  split at hc
  · exact hc
  · split at hc
    · rename_i hn; rw [if_pos hn]; exact hc
    · rename_i hn; rw [if_neg hn]; exact cellsAt_at (h _ rfl) hc
  · cases hc
theorem sliceV_at {H H' : Heap} {e : Nat} {v v' : Value} {lo hi : Nat} (h : ∀ i, blkOf v = some i -> ∀ b : Blk, H[i]? = some b -> H'[i]? = some b) (hc : sliceV H e v lo hi = some v') : sliceV H' e v lo hi = some v' := by
  unfold sliceV at hc ⊢
  split at hc
  · exact hc
  · exact hc
  · split at hc
    · rename_i hc1; rw [if_pos hc1]; exact hc
    · rename_i hc1
      rw [if_neg hc1]
      split at hc
      · rename_i hc2
        obtain ⟨cs, hcs⟩ := Option.isSome_iff_exists.1 hc2.2.2.2
        rw [if_pos ⟨hc2.1, hc2.2.1, hc2.2.2.1, by rw [cellsAt_at (h _ rfl) hcs]; rfl⟩]; exact hc
      · cases hc
  · cases hc

section
variable {P : Program} {N : Nat} {o : Oper} {fr fr' : Fr} {H : Heap} {K : Fr -> Heap -> Prop}

theorem vop_RX (hR : isR o.op = true) (h : vop P N o fr H K) :
    ∃ v, dstB N o.dst = true /\ K (fr.put o.dst v) H /\ ∀ (fr' : Fr) (H' : Heap) (K' : Fr -> Heap -> Prop), agree o.op fr fr' -> (∀ i, rdBlk o.op fr = some i -> ∀ b : Blk, H[i]? = some b -> H'[i]? = some b) -> K' (fr'.put o.dst v) H' -> vop P N o fr' H' K' := by
  unfold vop at h
  unfold vop agree
  split at h
  case h_1 x ho => obtain ⟨v, h1, h2, h3⟩ := h; rw [ho]; exact ⟨v, h2, h3, fun fr' H' K' ha _ hk => ⟨v, agree1 ha (by simp [Op.operands]) h1, h2, hk⟩⟩
  case h_2 x ho => obtain ⟨v, h1, h2, h3⟩ := h; rw [ho]; exact ⟨v, h2, h3, fun fr' H' K' ha _ hk => ⟨v, agree1 ha (by simp [Op.operands]) h1, h2, hk⟩⟩
  case h_3 c x y ho =>
    obtain ⟨v, h1, h⟩ := h
    unfold pickC at h
    split at h
    · rename_i b
      obtain ⟨v, h2, h3, h4⟩ := h
      rw [ho]
      refine ⟨v, h3, h4, fun fr' H' K' ha _ hk => ⟨.bool b, agree1 ha (by simp [Op.operands]) h1, v, ?_, h3, hk⟩⟩
      cases b
      · rw [show (bif false then x else y) = y from rfl, ha y (by simp [Op.operands])]; exact h2
      · rw [show (bif true then x else y) = x from rfl, ha x (by simp [Op.operands])]; exact h2
    · exact h.elim
  case h_4 t ho => simp [ho, isR] at hR
  case h_5 t x ho => simp [ho, isR] at hR
  case h_6 t x ho =>
    obtain ⟨p, h1, h⟩ := h
    unfold loadC at h
    split at h
    · obtain ⟨τ, h2, cs, h3, v, h4, h5, h6⟩ := h
      rw [ho]
      exact ⟨v, h5, h6, fun fr' H' K' ha hh hk => ⟨_, agree1 ha (by simp [Op.operands]) h1, τ, h2, cs, cellsAt_at (hh _ (by simp [rdBlk, h1, blkOf])) h3, v, h4, h5, hk⟩⟩
    · exact h.elim
  case h_7 t x y ho => simp [ho, isR] at hR
  case h_8 x ho =>
    obtain ⟨p, h1, h⟩ := h
    unfold nilC at h
    rw [ho]
    split at h
    · obtain ⟨h2, h3⟩ := h; exact ⟨_, h2, h3, fun fr' H' K' ha _ hk => ⟨_, agree1 ha (by simp [Op.operands]) h1, h2, hk⟩⟩
    · obtain ⟨h2, h3⟩ := h; exact ⟨_, h2, h3, fun fr' H' K' ha _ hk => ⟨_, agree1 ha (by simp [Op.operands]) h1, h2, hk⟩⟩
    · exact h.elim
  case h_9 op ty x y ty' ho =>
    obtain ⟨vx, h1, vy, h2, h⟩ := h
    unfold binC2 at h
    rw [ho]
    split at h
    · split at h
      · obtain ⟨d, h3, h⟩ := h
        unfold eqNilC at h
        split at h
        · split at h
          · obtain ⟨hz, h4, h5⟩ := h; exact ⟨_, h4, h5, fun fr' H' K' ha _ hk => ⟨_, agree1 ha (by simp [Op.operands]) h1, _, agree1 ha (by simp [Op.operands]) h2, _, h3, hz, h4, hk⟩⟩
          · obtain ⟨hz, h4, h5⟩ := h; exact ⟨_, h4, h5, fun fr' H' K' ha _ hk => ⟨_, agree1 ha (by simp [Op.operands]) h1, _, agree1 ha (by simp [Op.operands]) h2, _, h3, hz, h4, hk⟩⟩
          · exact h.elim
        · exact h.elim
      · exact h.elim
    · rename_i hne
      obtain ⟨v, ⟨h3, h4⟩, h5⟩ := vbin_det h
      refine ⟨v, h3, h4, fun fr' H' K' ha _ hk => ⟨_, agree1 ha (by simp [Op.operands]) h1, _, agree1 ha (by simp [Op.operands]) h2, ?_⟩⟩
      unfold binC2
      split
      · exact absurd rfl hne
      · exact h5 _ ⟨h3, hk⟩
  case h_10 op ty x ho =>
    obtain ⟨v, h1, h⟩ := h
    unfold unC at h
    rw [ho]
    split at h
    · obtain ⟨h2, h3⟩ := h; exact ⟨_, h2, h3, fun fr' H' K' ha _ hk => ⟨_, agree1 ha (by simp [Op.operands]) h1, h2, hk⟩⟩
    · obtain ⟨h2, h3⟩ := h; exact ⟨_, h2, h3, fun fr' H' K' ha _ hk => ⟨_, agree1 ha (by simp [Op.operands]) h1, h2, hk⟩⟩
    · exact h.elim
  case h_11 s t x ho =>
    obtain ⟨v, h1, h⟩ := h
    unfold convC at h
    rw [ho]
    split at h
    · obtain ⟨d, h2, d', h3, h⟩ := h
      unfold cvI2 at h
      split at h
      · obtain ⟨h4, h5⟩ := h; exact ⟨_, h4, h5, fun fr' H' K' ha _ hk => ⟨_, agree1 ha (by simp [Op.operands]) h1, _, h2, _, h3, h4, hk⟩⟩
      · exact h.elim
    · rename_i hne
      obtain ⟨d, h2, h⟩ := h
      unfold cvS at h
      split at h
      · obtain ⟨⟨h3, h4⟩, cs, h5, bs, h6, h7, h8⟩ := h
        refine ⟨_, h7, h8, fun fr' H' K' ha hh hk => ⟨_, agree1 ha (by simp [Op.operands]) h1, ?_⟩⟩
        unfold convC
        split
        · exact absurd rfl (hne _ _)
        · exact ⟨_, h2, ⟨h3, h4⟩, cs, srcCells_at (fun i hi => hh i (by simp [rdBlk, h1, hi])) h5, bs, h6, h7, hk⟩
      · exact h.elim
  case h_12 fn first captured ho =>
    rw [ho]
    split at h
    · obtain ⟨vs, h1, us, h2, h3, h4⟩ := h
      exact ⟨_, h3, h4, fun fr' H' K' ha _ hk => ⟨vs, by rw [evs_congr (fun x hx => ha x (by simp [Op.operands] at hx ⊢; exact .inl hx))]; exact h1, us, by rw [evs_congr (fun x hx => ha x (by simp [Op.operands] at hx ⊢; exact .inr hx))]; exact h2, h3, hk⟩⟩
    · exact h.elim
  case h_13 t x y ho => simp [ho, isR] at hR
  case h_14 t x lo hi mx ho =>
    rw [ho]
    split at h
    · obtain ⟨v, h1, d, h2, h⟩ := h
      unfold slC1 at h
      have hx : ∀ fr', (∀ y ∈ (Op.slice t x lo hi none).operands, ev fr' y = ev fr y) -> ev fr' x = some v := fun fr' ha => agree1 ha (by simp [Op.operands]) h1
      split at h
      · split at h
        · obtain ⟨⟨rfl, rfl, h3⟩, τ, h4, h5, h6⟩ := h
          exact ⟨_, h5, h6, fun fr' H' K' ha _ hk => ⟨_, hx fr' ha, _, h2, ⟨rfl, rfl, h3⟩, τ, h4, h5, hk⟩⟩
        · exact h.elim
      · obtain ⟨τ, h3, l, h4, hh, h5, h6, v', h8, h9, h10⟩ := h
        refine ⟨_, h9, h10, fun fr' H' K' ha hp hk => ⟨_, hx fr' ha, _, h2, τ, h3, l, ?_, hh, ?_, h6, v', sliceV_at (fun i hi => hp i (by simp [rdBlk, h1, hi])) h8, h9, hk⟩⟩
        · rw [boundV_congr (fr := fr) (fun y hy => ha y (by cases lo <;> simp at hy; subst hy; simp [Op.operands]))]; exact h4
        · rw [boundV_congr (fr := fr) (fun y hy => ha y (by cases hi <;> simp at hy; subst hy; simp [Op.operands]))]; exact h5
      · exact h.elim
    · exact h.elim
  case h_15 s x k ho =>
    obtain ⟨d, h1, h⟩ := h
    unfold faC at h
    rw [ho]
    split at h
    · obtain ⟨f, h2, p, h3, h⟩ := h
      unfold faC3 at h
      split at h
      · obtain ⟨τ, h4, h5, h6, h7⟩ := h
        exact ⟨_, h6, h7, fun fr' H' K' ha _ hk => ⟨_, h1, f, h2, _, agree1 ha (by simp [Op.operands]) h3, τ, h4, h5, h6, hk⟩⟩
      · exact h.elim
    · exact h.elim
  case h_16 s x k ho =>
    obtain ⟨d, h1, h⟩ := h
    unfold fiC at h
    rw [ho]
    split at h
    · obtain ⟨f, h2, p, h3, h⟩ := h
      unfold fiC3 at h
      split at h
      · obtain ⟨v, h4, h6, h7⟩ := h
        exact ⟨_, h6, h7, fun fr' H' K' ha _ hk => ⟨_, h1, f, h2, _, agree1 ha (by simp [Op.operands]) h3, v, h4, h6, hk⟩⟩
      · exact h.elim
    · exact h.elim
  case h_17 t x y ho =>
    obtain ⟨vy, h1, h⟩ := h
    unfold iaC at h
    rw [ho]
    split at h
    · obtain ⟨v, h2, d, h3, h⟩ := h
      unfold iaC3 at h
      have hx : ∀ fr', (∀ z ∈ (Op.indexAddr t x y).operands, ev fr' z = ev fr z) -> ev fr' x = some v := fun fr' ha => by rw [ha x (by simp [Op.operands])]; exact h2
      have hy : ∀ fr', (∀ z ∈ (Op.indexAddr t x y).operands, ev fr' z = ev fr z) -> ev fr' y = some _ := fun fr' ha => by rw [ha y (by simp [Op.operands])]; exact h1
      split at h
      · split at h
        · obtain ⟨h4, τ, h6, h7, h8⟩ := h; exact ⟨_, h7, h8, fun fr' H' K' ha _ hk => ⟨_, hy fr' ha, _, hx fr' ha, _, h3, h4, τ, h6, h7, hk⟩⟩
        · exact h.elim
      · split at h
        · obtain ⟨h4, τ, h6, h7, h8⟩ := h; exact ⟨_, h7, h8, fun fr' H' K' ha _ hk => ⟨_, hy fr' ha, _, hx fr' ha, _, h3, h4, τ, h6, h7, hk⟩⟩
        · exact h.elim
      · exact h.elim
    · exact h.elim
  case h_18 t x y ho =>
    obtain ⟨vy, h1, h⟩ := h
    unfold ixC at h
    rw [ho]
    split at h
    · obtain ⟨v, h2, d, h3, h⟩ := h
      unfold ixC3 at h
      have hx : ∀ fr', (∀ z ∈ (Op.index t x y).operands, ev fr' z = ev fr z) -> ev fr' x = some v := fun fr' ha => by rw [ha x (by simp [Op.operands])]; exact h2
      have hy : ∀ fr', (∀ z ∈ (Op.index t x y).operands, ev fr' z = ev fr z) -> ev fr' y = some _ := fun fr' ha => by rw [ha y (by simp [Op.operands])]; exact h1
      split at h
      · split at h
        · obtain ⟨h4, τ, h6, u, h7, h8, h9⟩ := h; exact ⟨_, h8, h9, fun fr' H' K' ha _ hk => ⟨_, hy fr' ha, _, hx fr' ha, _, h3, h4, τ, h6, u, h7, h8, hk⟩⟩
        · exact h.elim
      · split at h
        · obtain ⟨h4, b, h7, h8, h9⟩ := h; exact ⟨_, h8, h9, fun fr' H' K' ha _ hk => ⟨_, hy fr' ha, _, hx fr' ha, _, h3, h4, b, h7, h8, hk⟩⟩
        · exact h.elim
      · exact h.elim
    · exact h.elim
  case h_19 x k ho =>
    obtain ⟨v, h1, h⟩ := h
    unfold exC at h
    rw [ho]
    split at h
    · obtain ⟨v, h2, h3, h4⟩ := h; exact ⟨_, h3, h4, fun fr' H' K' ha _ hk => ⟨_, agree1 ha (by simp [Op.operands]) h1, v, h2, h3, hk⟩⟩
    · exact h.elim
  case h_20 t parts ho =>
    obtain ⟨ps, h1, h2, cells, h3, h4, h5⟩ := h
    rw [ho]
    exact ⟨_, h4, h5, fun fr' H' K' ha _ hk => ⟨ps, by rw [evParts_congr (fun x hx => ha x (by simpa [Op.operands] using hx))]; exact h1, h2, cells, h3, h4, hk⟩⟩
  case h_21 t len parts ho => simp [ho, isR] at hR
  case h_22 c ho =>
    obtain ⟨callee, ⟨args⟩, ⟨argTypes⟩⟩ := c
    rw [ho] at hR ⊢
    simp only at h hR ⊢
    split at h
    · simp [isR] at hR
    · split at h
      · rename_i x t
        obtain ⟨v, h1, d, h2, h⟩ := h
        unfold lenC2 at h
        have hx : ∀ fr', (∀ z ∈ (Op.call { callee := .builtin .len, args := ⟨[x]⟩, argTypes := ⟨[t]⟩ }).operands, ev fr' z = ev fr z) -> ev fr' x = some v := fun fr' ha => by rw [ha x (by simp [Op.operands, Call.operands])]; exact h1
        split at h
        · split at h
          · obtain ⟨h3, h4⟩ := h; exact ⟨_, h3, h4, fun fr' H' K' ha _ hk => ⟨_, hx fr' ha, _, h2, h3, hk⟩⟩
          · exact h.elim
        · split at h
          · obtain ⟨h3, h4⟩ := h; exact ⟨_, h3, h4, fun fr' H' K' ha _ hk => ⟨_, hx fr' ha, _, h2, h3, hk⟩⟩
          · exact h.elim
        · exact h.elim
      · exact h.elim
    · split at h
      · rename_i x t
        obtain ⟨v, h1, d, h2, h⟩ := h
        unfold capC2 at h
        have hx : ∀ fr', (∀ z ∈ (Op.call { callee := .builtin .cap, args := ⟨[x]⟩, argTypes := ⟨[t]⟩ }).operands, ev fr' z = ev fr z) -> ev fr' x = some v := fun fr' ha => by rw [ha x (by simp [Op.operands, Call.operands])]; exact h1
        split at h
        · split at h
          · obtain ⟨h3, h4⟩ := h; exact ⟨_, h3, h4, fun fr' H' K' ha _ hk => ⟨_, hx fr' ha, _, h2, h3, hk⟩⟩
          · exact h.elim
        · exact h.elim
      · exact h.elim
    · obtain ⟨vs, h1, h⟩ := h
      have hx : ∀ fr', (∀ z ∈ (Op.call { callee := .builtin .min, args := ⟨args⟩, argTypes := ⟨argTypes⟩ }).operands, ev fr' z = ev fr z) -> evs fr' args = some vs := fun fr' ha => by rw [evs_congr (fun x hx => ha x (by simpa [Op.operands, Call.operands] using hx))]; exact h1
      unfold minC at h
      split at h
      · obtain ⟨h2, h3⟩ := h; exact ⟨_, h2, h3, fun fr' H' K' ha _ hk => ⟨_, hx fr' ha, h2, hk⟩⟩
      · obtain ⟨h2, h3⟩ := h; exact ⟨_, h2, h3, fun fr' H' K' ha _ hk => ⟨_, hx fr' ha, h2, hk⟩⟩
      · exact h.elim
    · obtain ⟨vs, h1, h⟩ := h
      have hx : ∀ fr', (∀ z ∈ (Op.call { callee := .builtin .max, args := ⟨args⟩, argTypes := ⟨argTypes⟩ }).operands, ev fr' z = ev fr z) -> evs fr' args = some vs := fun fr' ha => by rw [evs_congr (fun x hx => ha x (by simpa [Op.operands, Call.operands] using hx))]; exact h1
      unfold maxC at h
      split at h
      · obtain ⟨h2, h3⟩ := h; exact ⟨_, h2, h3, fun fr' H' K' ha _ hk => ⟨_, hx fr' ha, h2, hk⟩⟩
      · obtain ⟨h2, h3⟩ := h; exact ⟨_, h2, h3, fun fr' H' K' ha _ hk => ⟨_, hx fr' ha, h2, hk⟩⟩
      · exact h.elim
    · simp [isR] at hR
    · simp [isR] at hR
    · exact h.elim
  case h_23 => exact h.elim

theorem vstep_RX {ops : Array Oper} (hR : isR o.op = true) (hK : Closed K) (h : vstep P N ops o K fr H) :
    ∃ v, K (fr.put o.dst v) H /\ ∀ (fr' : Fr) (H' : Heap) (K' : Fr -> Heap -> Prop), Closed K' -> agreeG ops o fr fr' -> (∀ i, rdBlk o.op fr = some i -> ∀ b : Blk, H[i]? = some b -> H'[i]? = some b) -> K' (fr'.put o.dst v) H' -> vstep P N ops o K' fr' H' := by
  unfold vstep at h ⊢
  cases hg : o.guard with
  | none =>
    simp only [hg] at h ⊢
    obtain ⟨v, h1, h2, h3⟩ := vop_RX hR h
    exact ⟨v, h2, fun fr' H' K' _ ha hh hk => h3 fr' H' K' ha.agree hh hk⟩
  | some jw =>
    obtain ⟨j, want⟩ := jw
    simp only [hg] at h ⊢
    obtain ⟨t, ht, hN, u, hu, h⟩ := h
    have hl : t ∈ looks ops o := by simp [looks, hg, ht]
    have hget : ∀ fr', agreeG ops o fr fr' -> Fr.get fr' t = some u := fun fr' ha => by rw [ha t hl]; exact hu
    unfold guardC2 at h
    split at h
    · rename_i b
      by_cases hb : b = want
      · obtain ⟨v, h1, h2, h3⟩ := vop_RX hR (h.1 (by simpa using hb))
        subst hb
        refine ⟨v, hK _ _ _ (feq.put (get_set_same hu) _ _) h2, fun fr' H' K' hK' ha hh hk => ⟨t, ht, hN, .bool b, hget fr' ha, ?_⟩⟩
        refine ⟨fun _ => h3 _ H' K' ?_ (fun i hi => hh i (by rw [<- hi]; exact rdBlk_congr fun x => feq.ev (get_set_same hu) x)) (hK' _ _ _ (feq.put (feq.symm (get_set_same (hget fr' ha))) _ _) hk), fun e => by simp at e⟩
        intro x hx
        rw [feq.ev (feq.symm (get_set_same (hget fr' ha))) x, ha.agree x hx, feq.ev (get_set_same hu) x]
      · have hb2 : b = !want := by cases b <;> cases want <;> simp_all
        obtain ⟨h1, h2⟩ := h.2 (by simpa using hb)
        subst hb2
        refine ⟨undef, hK _ _ _ (feq.put (get_set_same hu) _ _) h2, fun fr' H' K' hK' ha hh hk => ⟨t, ht, hN, .bool _, hget fr' ha, ?_⟩⟩
        exact ⟨fun e => absurd (by simpa using e) hb, fun _ => ⟨h1, hK' _ _ _ (feq.put (feq.symm (get_set_same (hget fr' ha))) _ _) hk⟩⟩
    · rename_i hnb
      obtain ⟨h1, h2⟩ := h
      refine ⟨undef, h2, fun fr' H' K' _ ha hh hk => ⟨t, ht, hN, u, hget fr' ha, ?_⟩⟩
      unfold guardC2
      split
      · exact absurd rfl (hnb _)
      · exact ⟨h1, hk⟩

end

def eKX (L : Nat) (fl : Bool) (H : Heap) (k : Fr -> Heap -> Prop) (f : Fr) (h : Heap) : Prop :=
  match fl with
  | true => andK (KeepL L H h) (k f h)
  | false => k f h

def vEX (P : Program) (N : Nat) (ops : Array Oper) (L : Nat) (K : Fr -> Heap -> Prop) : List (Nat × Bool) -> Fr -> Heap -> Prop
  | [], fr, H => K fr H
  | (i, fl) :: l, fr, H => match ops[i]? with
    | none => False
    | some o => match isR o.op with
      | true => offL L o.op fr /\ vstep P N ops o (vEX P N ops L K l) fr H
      | false => vstep P N ops o (eKX L fl H (vEX P N ops L K l)) fr H

section
variable {P : Program} {N : Nat} {ops : Array Oper} {L : Nat} {K : Fr -> Heap -> Prop}

def relX (L : Nat) (o : Oper) (fl : Bool) (H h : Heap) : Prop := (isR o.op = true \/ fl = true) -> KeepL L H h

/-! The words of such an order, for simp. -/

def vEXK (P : Program) (N : Nat) (ops : Array Oper) (L : Nat) (K : Fr -> Heap -> Prop) (l : List (Nat × Bool)) (fr : Fr) (H : Heap) : Prop := vEX P N ops L K l fr H
def eKXK (P : Program) (N : Nat) (ops : Array Oper) (L : Nat) (K : Fr -> Heap -> Prop) (l : List (Nat × Bool)) (fl : Bool) (H : Heap) (fr : Fr) (H' : Heap) : Prop :=
  match fl with
  | true => andK (KeepL L H H') (vEX P N ops L K l fr H')
  | false => vEX P N ops L K l fr H'
def offB (L : Nat) (o : Op) (fr : Fr) : Prop := match rdBlk o fr with
  | some i => i < L
  | none => True
theorem offB_iff {L : Nat} {o : Op} {fr : Fr} : offB L o fr = offL L o fr := by
  unfold offB offL
  cases rdBlk o fr with
  | none => simp
  | some i => simp
def vEXo (P : Program) (N : Nat) (ops : Array Oper) (L : Nat) (K : Fr -> Heap -> Prop) (l : List (Nat × Bool)) (fl : Bool) (fr : Fr) (H : Heap) (o : Oper) : Prop :=
  match isR o.op with
  | true => andK (offB L o.op fr) (vstep P N ops o (vEXK P N ops L K l) fr H)
  | false => vstep P N ops o (eKXK P N ops L K l fl H) fr H

theorem vEX_nil (K : Fr -> Heap -> Prop) (fr : Fr) (H : Heap) : vEX P N ops L K [] fr H = K fr H := rfl
theorem vEX_cons (K : Fr -> Heap -> Prop) (i : Nat) (fl : Bool) (l : List (Nat × Bool)) (fr : Fr) (H : Heap) : vEX P N ops L K ((i, fl) :: l) fr H = bindO ops[i]? (vEXo P N ops L K l fl fr H) := by
  have e : eKX L fl H (vEX P N ops L K l) = eKXK P N ops L K l fl H := by
    funext f h
    cases fl <;> rfl
  simp only [vEX]
  cases ops[i]? with
  | none => simp [bindO]
  | some o =>
    simp only [bindO_some, vEXo]
    cases isR o.op with
    | true => rw [offB_iff]; rfl
    | false => simp only [e]

attribute [go_sem] vEXK eKXK vEXo vEX_nil vEX_cons offB rdBlk blkOf

end
end Go.Ab
end

section
namespace Go.Ab

def OE (e L : Nat) (H : Heap) (v : Value) (cs : List Value) (n : Nat) : Prop :=
  cs.length = n * e /\ ((n = 0 /\ v = .slice none 0 0) \/ (∃ id, n = 0 /\ L <= id /\ v = .slice (some ⟨id, 0, none⟩) 0 0 /\ H[id]? = some ⟨[], true, true⟩) \/
    ∃ id, L <= id /\ v = lv e id 0 n /\ ((n = 0 /\ (ghostAt H id = true \/ ownAt H id = true)) \/ H[id]? = some ⟨cs, true, true⟩))

theorem OE.nil (e L : Nat) (H : Heap) : OE e L H (.slice none 0 0) [] 0 := ⟨by simp, .inl ⟨rfl, rfl⟩⟩
theorem OE.empty {e L : Nat} {H : Heap} {id : Nat} (hL : L <= id) (h : H[id]? = some ⟨[], true, true⟩) : OE e L H (.slice (some ⟨id, 0, none⟩) 0 0) [] 0 := ⟨by simp, .inr (.inl ⟨id, rfl, hL, rfl, h⟩)⟩
theorem OE.shape {e L : Nat} {H : Heap} {v : Value} {cs : List Value} {n : Nat} (h : OE e L H v cs n) : ∃ a, v = .slice a n n := by
  rcases h.2 with ⟨rfl, rfl⟩ | ⟨id, rfl, _, rfl, _⟩ | ⟨id, _, rfl, _⟩ <;> exact ⟨_, rfl⟩
theorem OE.keep {e L : Nat} {H H' : Heap} {S : Nat -> Prop} (hs : Same S H H') (hS : ∀ j, L <= j -> ¬ S j) {v : Value} {cs : List Value} {n : Nat} (h : OE e L H v cs n) : OE e L H' v cs n := by
  have keep : ∀ {id : Nat} {b : Blk}, L <= id -> H[id]? = some b -> H'[id]? = some b := fun hL hb => hs.get hb (hS _ hL)
  refine ⟨h.1, ?_⟩
  rcases h.2 with h | ⟨id, h1, h2, h3, h4⟩ | ⟨id, h1, h2, h3⟩
  · exact .inl h
  · exact .inr (.inl ⟨id, h1, h2, h3, keep h2 h4⟩)
  · refine .inr (.inr ⟨id, h1, h2, ?_⟩)
    rcases h3 with ⟨h0, h3⟩ | h3
    · refine .inl ⟨h0, ?_⟩
      rcases h3 with h3 | h3
      · obtain ⟨b, hb, h5, h6⟩ := ghostAt_inv h3
        left; simp [ghostAt, keep h1 hb, h5, h6]
      · obtain ⟨b, hb, h5, h6⟩ := ownAt_inv h3
        right; simp [ownAt, keep h1 hb, h5, h6]
    · exact .inr (keep h1 h3)
theorem OE.pre {e L : Nat} {H H' : Heap} (hp : H <+: H') {v : Value} {cs : List Value} {n : Nat} (h : OE e L H v cs n) : OE e L H' v cs n := h.keep (S := fun _ => False) (Same.of_prefix hp) (fun _ _ h => h)

theorem KeepL.of_prefix {L : Nat} {H H' : Heap} (hp : H <+: H') (hL : L <= H.length) : KeepL L H H' := by
  intro i hi
  obtain ⟨t, rfl⟩ := hp
  exact List.getElem?_append_left (by omega)
theorem KeepL.refl (L : Nat) (H : Heap) : KeepL L H H := fun _ _ => rfl

theorem OE.append {e L : Nat} {H : Heap} {v : Value} {cs : List Value} {n : Nat} (h : OE e L H v cs n) (he : 0 < e) (hL : L <= H.length) {m : Nat} {news : List Value} (hn : news.length = m * e) :
    ∃ v' H', appendH H e v m news = some (v', H') /\ OE e L H' v' (cs ++ news) (n + m) /\ KeepL L H H' /\ H.length <= H'.length := by
  by_cases hm : m = 0
  · subst hm
    have : news = [] := List.eq_nil_of_length_eq_zero (by simpa using hn)
    subst this
    obtain ⟨a, rfl⟩ := h.shape
    exact ⟨.slice a n n, H, by simp [appendH], by simpa using h, KeepL.refl _ _, Nat.le_refl _⟩
  · have new : ∀ cs' : List Value, (H ++ [(⟨cs', true, true⟩ : Blk)])[H.length]? = some ⟨cs', true, true⟩ := by intro cs'; simp
    rcases h.2 with ⟨rfl, rfl⟩ | ⟨id, rfl, h1, rfl, h2⟩ | ⟨id, h1, rfl, h2⟩
    · have : cs = [] := List.eq_nil_of_length_eq_zero (by simpa using h.1)
      subst this
      refine ⟨lv e H.length 0 m, H ++ [⟨news, true, true⟩], by simp [appendH, hm], ⟨by simpa using hn, .inr (.inr ⟨H.length, hL, by simp, .inr (new _)⟩)⟩, KeepL.of_prefix (List.prefix_append _ _) hL, by simp⟩
    · have : cs = [] := List.eq_nil_of_length_eq_zero (by simpa using h.1)
      subst this
      have hc : cellsAt H id 0 0 = some [] := by rw [cellsAt_of h2 rfl (by simp)]; simp
      refine ⟨lv e H.length 0 m, H ++ [⟨news, true, true⟩], by simp [appendH, hm, hc], ⟨by simpa using hn, .inr (.inr ⟨H.length, hL, by simp, .inr (new _)⟩)⟩, KeepL.of_prefix (List.prefix_append _ _) hL, by simp⟩
    · have kill : ∀ cs' : List Value, KeepL L H (H.kill id ++ [⟨cs', true, true⟩]) := by
        intro cs' i hi
        rw [List.getElem?_append_left (by rw [Heap.kill_length]; omega)]
        unfold Heap.kill
        split
        · exact List.getElem?_set_ne (by omega)
        · rfl
      have newk : ∀ cs' : List Value, (H.kill id ++ [(⟨cs', true, true⟩ : Blk)])[H.length]? = some ⟨cs', true, true⟩ := by
        intro cs'
        rw [List.getElem?_append_right (by rw [Heap.kill_length]; exact Nat.le_refl _), Heap.kill_length]; simp
      rcases h2 with ⟨rfl, h2⟩ | h2
      · have : cs = [] := List.eq_nil_of_length_eq_zero (by simpa using h.1)
        subst this
        by_cases hg : ghostAt H id = true
        · refine ⟨lv e H.length 0 m, H ++ [⟨news, true, true⟩], by simp [appendH, hm, hg, he], ⟨by simpa using hn, .inr (.inr ⟨H.length, hL, by simp, .inr (new _)⟩)⟩, KeepL.of_prefix (List.prefix_append _ _) hL, by simp⟩
        · have ho := h2.resolve_left hg
          obtain ⟨b, hb, hbl, hbo⟩ := ownAt_inv ho
          have hc : cellsAt H id 0 0 = some [] := by rw [cellsAt_of hb hbl (by simp)]; simp
          exact ⟨lv e H.length 0 m, H.kill id ++ [⟨news, true, true⟩], by simp [appendH, hm, hg, ho, hc], ⟨by simpa using hn, .inr (.inr ⟨H.length, hL, by simp, .inr (newk _)⟩)⟩, kill _, by simp [Heap.kill_length]⟩
      · have hc : cellsAt H id 0 (n * e) = some cs := by rw [<- h.1, cellsAt_of h2 rfl (by simp)]; simp
        have hown : ownAt H id = true := by simp [ownAt, h2]
        have hng : ghostAt H id = false := by simp [ghostAt, h2]
        exact ⟨lv e H.length 0 (n + m), H.kill id ++ [⟨cs ++ news, true, true⟩], by simp [appendH, hm, hown, hng, hc], ⟨by simp [h.1, hn, Nat.add_mul], .inr (.inr ⟨H.length, hL, rfl, .inr (newk _)⟩)⟩, kill _, by simp [Heap.kill_length]⟩

theorem KeepL.prefix {L : Nat} {H0 H H' : Heap} (hp : H0 <+: H) (hL : H0.length <= L) (hk : KeepL L H H') (hl : H.length <= H'.length) : H0 <+: H' :=
  (show Same (fun j => L <= j) H0 H' from (Same.of_prefix hp).trans ⟨hl, fun j _ hj => hk j (by omega)⟩).prefix (by intro j hj h; omega)

theorem At.drop_tri {H : Heap} {i o : Nat} {bs : List Bk} (h : At H i o (tri bs)) (k : Nat) (hk : k <= bs.length) : At H i (o + k * 3) (tri (bs.drop k)) := by
  by_cases h0 : k = bs.length
  · subst h0; left; simp [tri]
  · right
    have e : tri (bs.drop k) = (tri bs).drop (k * 3) := by
      have e2 : tri bs = tri (bs.take k) ++ tri (bs.drop k) := by rw [<- tri_append, List.take_append_drop]
      rw [e2, List.drop_left' (by rw [tri_length, List.length_take]; omega)]
    have := h.sub (k := k * 3) (n := (bs.length - k) * 3) (by omega) (by rw [tri_length]; omega)
    rw [tri_length, List.length_drop, e, this, List.take_of_length_le (by rw [List.length_drop, tri_length]; omega)]
theorem At.src {H : Heap} {i o n : Nat} {cs : List Value} {e : Nat} {s : Option Nat} (h : At H i o cs) (hn : cs.length = n * e) (he : 0 < e) (c : Nat) : srcCells H e (.slice (some ⟨i, o, s⟩) n c) = some cs := by
  simp only [srcCells]
  by_cases h0 : n = 0
  · rw [if_pos h0]; subst h0; simp at hn; rw [hn]
  · rw [if_neg h0, <- hn]
    refine h.resolve_left (fun hc => ?_)
    have hpos : 0 < n * e := Nat.mul_pos (by omega) he
    rw [hc, List.length_nil] at hn
    omega

end Go.Ab
namespace Go.Proofs.YtkimaohcmcfcnaaGreat
open Go.Ab

theorem _root_.Go.Ab.OE.blocks {L : Nat} {H : Heap} {v : Value} {bs : List Bk} (h : OE 3 L H v (tri bs) bs.length) (hl : bs.length <= 140737488355328) : ∃ w, Up H v w /\ BlocksIn L H.length H w bs := by
  rcases h.2 with ⟨h0, rfl⟩ | ⟨id, h0, h1, rfl, h2⟩ | ⟨id, h1, rfl, h2⟩
  · obtain rfl := List.eq_nil_of_length_eq_zero h0
    exact ⟨_, Up.nil _ 0 0 3, BlocksIn.nil _ _ _⟩
  · obtain rfl := List.eq_nil_of_length_eq_zero h0
    exact ⟨_, Up.ex0 _ _ _ 3 0 0, BlocksIn.nil _ _ _⟩
  · refine ⟨_, Up.refl _ _, id, ⟨rfl, ?_, hl⟩, fun hne => ?_⟩
    · rcases h2 with ⟨h0, _⟩ | h2
      · exact .inl (List.eq_nil_of_length_eq_zero h0)
      · exact .inr h2
    · rcases h2 with ⟨h0, _⟩ | h2
      · exact absurd (List.eq_nil_of_length_eq_zero h0) hne
      · exact ⟨h1, (List.getElem?_eq_some_iff.1 h2).1⟩
theorem _root_.Go.Ab.OE.ints {L : Nat} {H : Heap} {v : Value} {xs : List Int} (h : OE 1 L H v (ints xs) xs.length) (hl : xs.length <= 140737488355328) : ∃ w, Up H v w /\ IntsIn L H.length H w xs := by
  rcases h.2 with ⟨h0, rfl⟩ | ⟨id, h0, h1, rfl, h2⟩ | ⟨id, h1, rfl, h2⟩
  · obtain rfl := List.eq_nil_of_length_eq_zero h0
    exact ⟨_, Up.nil _ 0 0 1, IntsIn.nil _ _ _⟩
  · obtain rfl := List.eq_nil_of_length_eq_zero h0
    exact ⟨_, Up.ex0 _ _ _ 1 0 0, IntsIn.nil _ _ _⟩
  · refine ⟨_, Up.refl _ _, id, ⟨rfl, ?_, hl⟩, fun hne => ?_⟩
    · rcases h2 with ⟨h0, _⟩ | h2
      · exact .inl (List.eq_nil_of_length_eq_zero h0)
      · exact .inr h2
    · rcases h2 with ⟨h0, _⟩ | h2
      · exact absurd (List.eq_nil_of_length_eq_zero h0) hne
      · exact ⟨h1, (List.getElem?_eq_some_iff.1 h2).1⟩

def without (bs : List Bk) (k : Nat) : List Bk := bs.take k ++ bs.drop (k + 1)

theorem zeroSys {H : Heap} : Up H (.agg #[.int .i64 0, .slice none 0 0]) (sysV 0 (lv 3 0 0 0)) := Up.agg ⟨Up.refl _ _, Up.nil _ _ _ _, trivial⟩

end Go.Proofs.YtkimaohcmcfcnaaGreat
end

section
namespace Go.Ab
open Go.RowKit (Below)

section
variable {P : Program} {N : Nat} {ops : Array Oper} {o : Oper} {fr : Fr} {H : Heap} {K : Fr -> Heap -> Prop}

def StepOK (P : Program) (N : Nat) (ops : Array Oper) (o : Oper) (K : Fr -> Heap -> Prop) (fr : Fr) (H : Heap) : Prop :=
  ∀ (B : Nat) (w0 : World) (ρ : Rho) (w : World) (a : Act) (next : Act -> World -> Prop) (Q : Exit -> Act -> World -> Prop), R B w0 ρ H w -> FR N ρ fr a ->
    (∀ (ρ' : Rho) (fr' : Fr) (H' : Heap) (a' : Act) (w' : World), ρ <+: ρ' -> K fr' H' -> R B w0 ρ' H' w' -> FR N ρ' fr' a' -> next a' w') -> opDue P ops o a w next Q

theorem StepOK.of_v (h : vstep P N ops o K fr H) : StepOK P N ops o K fr H :=
  fun B w0 ρ w a next Q hR hF hK => vstep_sound h hR hF Q hK
theorem StepOK.of_op (hg : o.guard = none) (h : OpOK P N o fr H K) : StepOK P N ops o K fr H := by
  intro B w0 ρ w a next Q hR hF hK
  unfold opDue
  have : Region.wanted o (yielded ops a.tmps) = true := by simp [Region.wanted, hg]
  rw [if_pos this]
  exact .inl (h B w0 ρ w a next Q hR hF hK)

def OpsOK (P : Program) (N : Nat) (ops : Array Oper) (K : Fr -> Heap -> Prop) : List Oper -> Fr -> Heap -> Prop
  | [], fr, H => K fr H
  | o :: rest, fr, H => StepOK P N ops o (OpsOK P N ops K rest) fr H

theorem opsOK_sound {B : Nat} {w0 : World} {Q : Exit -> Act -> World -> Prop} : ∀ (l : List Nat) (os : List Oper), l.map (ops[·]?) = os.map some -> ∀ (fr : Fr) (H : Heap) (ρ : Rho) (w : World) (a : Act),
    OpsOK P N ops K os fr H -> R B w0 ρ H w -> FR N ρ fr a ->
    (∀ (ρ' : Rho) (fr' : Fr) (H' : Heap) (a' : Act) (w' : World), ρ <+: ρ' -> K fr' H' -> R B w0 ρ' H' w' -> FR N ρ' fr' a' -> Q .normal a' w') -> wpOps P ops Q l a w
  | [], [], _, fr, H, ρ, w, a, h, hR, hF, hK => hK ρ fr H a w (List.prefix_refl _) h hR hF
  | i :: l, o :: os, hl, fr, H, ρ, w, a, h, hR, hF, hK => by
    simp only [List.map_cons, List.cons.injEq] at hl
    rw [wpOps_cons hl.1]
    refine h B w0 ρ w a _ Q hR hF ?_
    intro ρ' fr' H' a' w' hp hk hR' hF'
    exact opsOK_sound l os hl.2 fr' H' ρ' w' a' hk hR' hF' (fun ρ'' fr'' H'' a'' w'' hp' => hK ρ'' fr'' H'' a'' w'' (hp.trans hp'))
  | [], _ :: _, hl, _, _, _, _, _, _, _, _, _ => by simp at hl
  | _ :: _, [], hl, _, _, _, _, _, _, _, _, _ => by simp at hl

theorem AWp.regionS {id : Nat} {Q : Exit -> Fr -> Heap -> Prop} (h : OpsOK P N ops (Q .normal) ops.toList fr H) : AWp P N (.region id ops false) Q fr H :=
  fun B w0 ρ w a hR hF => wp_region (opsOK_sound (List.range ops.size) ops.toList (range_map_get ops) fr H ρ w a h hR hF
    (fun ρ' fr' H' a' w' h1 h2 h3 h4 => ⟨ρ', fr', H', h1, h3, h4, h2⟩))

theorem ok_eqlNil2 {ty ty' : TypeId} {x y : Operand} (ho : o.op = .binOp .eql ty x y ty') {te : TypeId} (ht : P.underlying ty = some (.slice te)) {a : Option Addr} {n c : Nat} (hx : ev fr x = some (.slice a n c)) (hy : ev fr y = some (.slice none 0 0))
    (hd : dstOK N o.dst) (hk : ∀ b : Bool, K (fr.put o.dst (.bool b)) H) : OpOK P N o fr H K :=
  opOK_same fun ρ w ac hF => by
    have hv := hF.ev hx
    have hyv : ac.eval y = .slice none 0 0 := by
      have := hF.ev hy
      generalize ac.eval y = cy at this
      cases this; rfl
    have hex : ∃ a' n' c', ac.eval x = .slice a' n' c' := by
      generalize ac.eval x = cx at hv
      cases hv with
      | sliceNil => exact ⟨_, _, _, rfl⟩
      | sliceEx => exact ⟨_, _, _, rfl⟩
      | sliceUnk => exact ⟨_, _, _, rfl⟩
      | sliceZero i o e a' => exact ⟨a', 0, 0, rfl⟩
    obtain ⟨a', n', c', he⟩ := hex
    have hg := run_eqGuard_plain (P := P) w .eql ty x y (.slice a' n' c') (.slice none 0 0) rfl
    have heq : (Op.equal ty (.slice a' n' c') (.slice none 0 0)).run P w = .ok a'.isNone w := run_equalIn_slNil w ht a' n' c' 9999
    exact ⟨.bool a'.isNone, .bool a'.isNone, by simp [execOp, ho, he, hyv, hg, binOp, heq], .bool _, hd, hk _⟩
end

end Go.Ab
end

section
namespace Go.Proofs.YtkimaohcmcfcnaaGreat
open Go.Ab

theorem ints_src {H : Heap} {i o : Nat} {xs : List Int} (h : At H i o (ints xs)) : srcCells H 1 (lv 1 i o xs.length) = some (ints xs) := h.src (by rw [ints_length]; omega) (by omega) _

theorem l01Own_oe {H : Heap} {u : Value} {xs : List Int} (hu : IntsAt H u xs) (hl : xs.length <= 1048576) (Post : Value -> Heap -> Prop) (h : ∀ H' w, H <+: H' -> OE 1 H.length H' w (ints xs) xs.length -> Post w H') :
    ACalls Tryz.prog 82 [u] H Post := by
  obtain ⟨i, o, rfl, h1, h2⟩ := hu
  refine acalls_vc (rs := [.tmp 2]) Tryz.func82 rfl rfl Tryz.ntmps82 rfl rfl ?_
  have hp0 : H <+: H ++ [⟨[], true, true⟩] := List.prefix_append _ _
  have hsrc := ints_src (h1.pre hp0)
  simp only [srcCells, Nat.mul_one] at hsrc
  have he0 : OE 1 H.length (H ++ [(⟨[], true, true⟩ : Blk)]) (.slice (some ⟨H.length, 0, none⟩) 0 0) [] 0 := OE.empty (Nat.le_refl _) (by simp)
  obtain ⟨v, H2, hap, he2, hk2, hl2⟩ := he0.append (m := xs.length) (news := ints xs) (by omega) (by simp) (by rw [ints_length]; omega)
  generalize hm : xs.length = m at *
  simp (maxSteps := 1000000) [go_sem, hsrc, hap]
  refine andK_intro (by omega) ?_
  simp only [List.nil_append, Nat.zero_add] at he2
  exact h H2 v (KeepL.prefix hp0 (Nat.le_refl _) hk2 hl2) he2

end Go.Proofs.YtkimaohcmcfcnaaGreat
end

section
namespace Go.Proofs.YtkimaohcmcfcnaaGreat
open Go.Ab

def maskL (xs : List Int) : Nat := xs.foldl (fun m x => m ||| 2 ^ x.toNat) 0
def bm (b : Bk) : Nat := maskL [b.a, b.b, b.c]
/-! The same, in the shape that a walk shows. -/
end Go.Proofs.YtkimaohcmcfcnaaGreat
end

section
namespace Go.Proofs.YtkimaohcmcfcnaaGreat
open Go.Ab

def IdxP {α : Type} (xs : List α) (P : α -> Bool) (n : Int) : Prop := (n = -1 /\ ∀ x ∈ xs, P x = false) \/ ∃ (s : Nat) (x : α), n = s /\ xs[s]? = some x /\ P x = true /\ ∀ y ∈ xs.take s, P y = false
end Go.Proofs.YtkimaohcmcfcnaaGreat
end

section
namespace Go.Proofs.YtkimaohcmcfcnaaGreat
open Go.Ab

def inSet (m : Nat) (b : Bk) : Bool := decide (bm b &&& m = bm b)
def indep (bs : List Bk) (m : Nat) : Bool := bs.all fun b => !inSet m b

end Go.Proofs.YtkimaohcmcfcnaaGreat
end

section
namespace Go.Proofs.YtkimaohcmcfcnaaGreat
open Go.Ab

def TellsF (g : FuncId) (fs cs : List Value) (Q : Bk -> Prop) (P : Bk -> Bool) (H : Heap) : Prop :=
  ∀ (H' : Heap) (x : Bk) (Post : Value -> Heap -> Prop), H <+: H' -> Q x -> (∀ H'', H' <+: H'' -> Post (.bool (P x)) H'') -> ACalls Tryz.prog g (fs ++ x.val :: cs) H' Post

theorem indexFuncB_ok {H : Heap} {u : Value} {xs : List Bk} {g : FuncId} {fs cs : List Value} {P : Bk -> Bool} (hu : BlocksAt H u xs) (hf : TellsF g fs cs (· ∈ xs) P H) (Post : Value -> Heap -> Prop)
    (h : ∀ H' n, H <+: H' -> IdxP xs P n -> Post (.int .i64 n) H') : ACalls Tryz.prog 52 [u, .func (.func g) fs.toArray cs.toArray] H Post := by
  obtain ⟨i, o, rfl, h1, h2⟩ := hu
  refine acalls_vc (rs := [.tmp 4]) Tryz.func52 rfl rfl Tryz.ntmps52 rfl rfl ?_
  simp (maxSteps := 1000000) [go_sem]
  refine AWp.loopVc (fun s : Nat => [(0, lv 3 i o xs.length), (1, .func (.func g) fs.toArray cs.toArray), (7, .int .i64 xs.length), (8, .int .i64 s)])
    (fun s H' => s <= xs.length /\ H <+: H' /\ ∀ y ∈ xs.take s, P y = false) (fun s => xs.length - s) 0 ?_ ?_ ?_
  · simp [upF, Fr.get, Up.refl]
  · exact ⟨by omega, List.prefix_refl _, by simp⟩
  · rintro K s H' ⟨hs, hp, hall⟩ hK
    by_cases hlt : s < xs.length
    · have hx : xs[s]? = some xs[s] := List.getElem?_eq_getElem hlt
      have c1 := (h1.pre hp).bk hx
      simp only [Bk.cells] at c1
      have hw_s : IntKind.i64.wrap ((s : Int) + 1) = (s : Int) + 1 := i64w (by omega) (by omega)
      simp (maxSteps := 1000000) [go_sem, hlt, c1]
      refine hf H' xs[s] _ hp (List.getElem_mem hlt) ?_
      intro H2 hp2
      cases hP : P xs[s] with
      | true =>
        simp (maxSteps := 1000000) [go_sem]
        exact h H2 s (hp.trans hp2) (.inr ⟨s, xs[s], rfl, hx, hP, hall⟩)
      | false =>
        simp (maxSteps := 1000000) [go_sem, hw_s]
        refine hK (s + 1) _ _ (by omega) (by simp [upF, Fr.get, Up.refl]) ⟨by omega, hp.trans hp2, ?_⟩
        intro y hy
        rw [List.take_succ_eq_append_getElem hlt, List.mem_append] at hy
        rcases hy with hy | hy
        · exact hall y hy
        · simp at hy; subst hy; exact hP
    · have : s = xs.length := by omega
      subst this
      rw [List.take_length] at hall
      simp (maxSteps := 1000000) [go_sem]
      exact h H' (-1) hp (.inl ⟨rfl, hall⟩)

end Go.Proofs.YtkimaohcmcfcnaaGreat
end

section
namespace Go.Proofs.YtkimaohcmcfcnaaGreat
open Go.Ab

def insRev (x : Bk) : List Bk -> List Bk
  | [] => [x]
  | y :: l => if before x y then y :: insRev x l else x :: y :: l
def insR (x : Bk) (l : List Bk) : List Bk := (insRev x l.reverse).reverse
def sortB (bs : List Bk) : List Bk := bs.foldl (fun l x => insR x l) []
theorem insRev_append {x : Bk} {B : List Bk} (hB : ∀ y l, B = y :: l -> before x y = false) : ∀ {A : List Bk}, (∀ y ∈ A, before x y = true) -> insRev x (A ++ B) = A ++ x :: B
  | [], _ => by
    cases B with
    | nil => rfl
    | cons y l => simp [insRev, hB y l rfl]
  | y :: A, h => by
    simp only [List.cons_append, insRev, h y List.mem_cons_self, if_true]
    rw [insRev_append hB fun z hz => h z (List.mem_cons_of_mem _ hz)]
theorem insR_at {x : Bk} {l : List Bk} {k : Nat} (hk : k <= l.length) (h1 : ∀ y ∈ l.drop k, before x y = true) (h2 : ∀ (r : Nat) (y : Bk), k = r + 1 -> l[r]? = some y -> before x y = false) : insR x l = l.take k ++ x :: l.drop k := by
  unfold insR
  conv => lhs; rw [<- List.take_append_drop k l]
  rw [List.reverse_append, insRev_append (B := (l.take k).reverse) ?_ (fun y hy => h1 y (by simpa using hy))]
  · simp
  · intro y t e
    cases k with
    | zero => simp at e
    | succ r =>
      have hr : r < l.length := by omega
      have e2 : (l.take (r + 1)).reverse = l[r] :: (l.take r).reverse := by rw [List.take_succ_eq_append_getElem hr]; simp
      rw [e2] at e
      cases e
      exact h2 r _ rfl (List.getElem?_eq_getElem hr)
theorem insR_length (x : Bk) (l : List Bk) : (insR x l).length = l.length + 1 := by
  have key : ∀ l : List Bk, (insRev x l).length = l.length + 1 := by
    intro l
    induction l with
    | nil => rfl
    | cons y l ih => simp only [insRev]; split <;> simp [ih]
  unfold insR; rw [List.length_reverse, key, List.length_reverse]
theorem sortB_snoc (bs : List Bk) (x : Bk) : sortB (bs ++ [x]) = insR x (sortB bs) := by simp [sortB, List.foldl_append]
theorem sortB_length : ∀ (n : Nat) (bs : List Bk), bs.length = n -> (sortB bs).length = n
  | 0, bs, h => by have := List.eq_nil_of_length_eq_zero h; subst this; rfl
  | n + 1, bs, h => by
    have hne : bs ≠ [] := by rintro rfl; simp at h
    rw [<- List.dropLast_concat_getLast hne, sortB_snoc, insR_length, sortB_length n _ (by simp [h])]
theorem sortB_same {bs : List Bk} (h : ∀ (r : Nat) (x y : Bk), bs[r]? = some y -> bs[r + 1]? = some x -> before x y = false) : ∀ k, sortB (bs.take k) = bs.take k
  | 0 => by simp [sortB]
  | k + 1 => by
    by_cases hk : k < bs.length
    · rw [List.take_succ_eq_append_getElem hk, sortB_snoc, sortB_same h k]
      have hl : (bs.take k).length = k := by simp; omega
      rw [insR_at (k := k) (by omega) (by rw [List.drop_eq_nil_of_le (by omega)]; simp) ?_]
      · rw [List.drop_eq_nil_of_le (by omega), List.take_of_length_le (by omega)]
      · intro r y e hy
        subst e
        rw [List.getElem?_take, if_pos (by omega)] at hy
        exact h r _ y hy (List.getElem?_eq_getElem hk)
    · rw [List.take_of_length_le (by omega)]
      have := sortB_same h k
      rwa [List.take_of_length_le (by omega)] at this

theorem l01Sort_ok {H : Heap} {u : Value} {bs : List Bk} (hu : BlocksAt H u bs) (hl : bs.length <= 1048576) (Post : Value -> Heap -> Prop)
    (h : ∀ H' w, H <+: H' -> BlocksIn H.length H'.length H' w (sortB bs) -> Post w H') : ACalls Tryz.prog 38 [u] H Post := by
  obtain ⟨i, o, rfl, h1, h2⟩ := hu
  refine ACalls.res ?_
  refine acalls_vc (rs := [.tmp 2]) Tryz.func38 rfl rfl Tryz.ntmps38 rfl rfl ?_
  simp (maxSteps := 1000000) [go_sem]
  refine AWp.loopVc (St := Nat × Nat) (fun s => [(0, lv 3 i o bs.length), (3, lv 3 s.2 0 s.1), (4, .int .i64 s.1)])
    (fun s H' => s.1 <= bs.length /\ Bl 3 H H' s.2 (tri (sortB (bs.take s.1))) s.1) (fun s => bs.length - s.1) (0, H.length) ?_ ?_ ?_
  · simp [upF, Fr.get, Up.refl, Up.ex0]
  · exact ⟨by simp, by simpa [sortB, tri] using Bl.nil 3 H⟩
  · rintro K ⟨s, id⟩ H' ⟨hs, hbl⟩ hK
    simp only at hs hbl
    by_cases hlt : s < bs.length
    · have hbs : bs[s]? = some bs[s] := List.getElem?_eq_getElem hlt
      have c1 := (h1.pre hbl.1).bk hbs
      have hw_s : IntKind.i64.wrap ((s : Int) + 1) = (s : Int) + 1 := i64w (by omega) (by omega)
      obtain ⟨hsrc, H4, hap, hbl4⟩ := hbl.push (xs := bs[s].cells) (by omega) rfl
      have hll : (sortB (bs.take s)).length = s := sortB_length s _ (by simp; omega)
      have hsn : sortB (bs.take (s + 1)) = insR bs[s] (sortB (bs.take s)) := by rw [List.take_succ_eq_append_getElem hlt, sortB_snoc]
      obtain ⟨l, hl0⟩ : ∃ l, l = sortB (bs.take s) := ⟨_, rfl⟩
      obtain ⟨x, hx⟩ : ∃ x, x = bs[s] := ⟨_, rfl⟩
      rw [<- hl0] at hll hsn hbl4
      rw [<- hx] at c1 hbs hsn hbl4 hap hsrc
      simp only [Bk.cells] at c1 hsrc hap
      have hid4 : H4[H'.length + 1]? = some ⟨tri (l ++ [x]), true, true⟩ := by
        rcases hbl4.2.1.2 with ⟨h0, _⟩ | hb
        · omega
        · rw [hb, tri_append, tri_one]
      have hge : H.length <= H'.length + 1 := hbl4.2.2
      simp (maxSteps := 1000000) [go_sem, hlt, c1, hsrc, hap]
      refine andK_intro (by omega) ?_
      obtain ⟨nid, hnid⟩ : ∃ nid, nid = H'.length + 1 := ⟨_, rfl⟩
      rw [<- hnid] at hid4 hge ⊢
      refine AWp.loopVc (St := Nat × List Bk) (fun t => [(0, lv 3 i o bs.length), (3, lv 3 nid 0 (s + 1)), (4, .int .i64 s), (5, .int .i64 t.1)])
        (fun t H2 => t.1 <= s /\ t.2.length = s + 1 /\ H <+: H2 /\ H2[nid]? = some ⟨tri t.2, true, true⟩ /\ t.2.take t.1 = l.take t.1 /\ t.2.drop (t.1 + 1) = l.drop t.1 /\ ∀ y ∈ l.drop t.1, before x y = true) (fun t => t.1) (s, l ++ [x]) ?_ ?_ ?_
      · simp [upF, Fr.get, Up.refl]
      · refine ⟨by simp, by simp [hll], hbl4.1, hid4, ?_, ?_, ?_⟩
        · simp only; rw [List.take_append_of_le_length (by omega)]
        · simp only; rw [List.drop_eq_nil_of_le (by simp; omega), List.drop_eq_nil_of_le (by omega)]
        · simp only; rw [List.drop_eq_nil_of_le (by omega)]; simp
      · rintro K2 ⟨at_, ys⟩ H2 ⟨hat, hyl, hp2, hb2, htk, hdr, hbf⟩ hK2
        simp only at hat hyl hp2 hb2 htk hdr hbf
        have cx := (h1.pre hp2).bk hbs
        simp only [Bk.cells] at cx
        have fin : ∀ (H3 : Heap) (fr : Fr), H2 <+: H3 -> (∀ (r : Nat) (y : Bk), at_ = r + 1 -> l[r]? = some y -> before x y = false) ->
            storeAt H3 nid (at_ * 3) x.cells = some (H3.set nid ⟨tri (ys.set at_ x), true, true⟩) /\ Bl 3 H (H3.set nid ⟨tri (ys.set at_ x), true, true⟩) nid (tri (sortB (bs.take (s + 1)))) (s + 1) := by
          intro H3 fr hp3 hstop
          have hb3 : H3[nid]? = some ⟨tri ys, true, true⟩ := pget hp3 hb2
          have hlt3 := (List.getElem?_eq_some_iff.1 hb3).1
          refine ⟨storeBk hb3 (by omega), ?_, ⟨?_, .inr ?_⟩, hge⟩
          · have hsame : Same (fun j => j = nid) H3 (H3.set nid ⟨tri (ys.set at_ x), true, true⟩) := ⟨by simp, fun j hj hS => List.getElem?_set_ne (fun e => hS e.symm)⟩
            exact ((Same.of_prefix (hp2.trans hp3)).trans hsame).prefix (by intro j hj e; omega)
          · rw [tri_length, sortB_length (s + 1) _ (by simp; omega)]
          · rw [List.getElem?_set_self hlt3, hsn, insR_at (k := at_) (by omega) hbf hstop]
            have e : ys.set at_ x = l.take at_ ++ x :: l.drop at_ := by
              rw [List.set_eq_take_append_cons_drop, if_pos (by omega), htk, hdr]
            rw [e]
        by_cases h0 : at_ = 0
        · subst h0
          obtain ⟨hst, hb5⟩ := fin H2 [] (List.prefix_refl _) (by intro r y e; omega)
          simp only [Bk.cells, Nat.zero_mul] at hst
          refine AWp.draw mixed [(0, false), (1, false), (2, false), (3, false), (4, false), (5, false), (6, false), (7, false), (8, false), (9, false), (10, false), (11, false), (12, false), (13, false)] (by kernel_rfl) ?_
          simp (maxSteps := 1000000) [go_sem, undef, hlt, cx, hst, hw_s]
          exact hK (s + 1, nid) _ _ (by simp only; omega) (by simp [upF, Fr.get, Up.refl]) ⟨by simp only; omega, hb5⟩
        · obtain ⟨r, rfl⟩ : ∃ r, at_ = r + 1 := ⟨at_ - 1, by omega⟩
          have hrl : r < l.length := by omega
          obtain ⟨y, hy⟩ : ∃ y, l[r]? = some y := ⟨l[r], List.getElem?_eq_getElem hrl⟩
          have hyr : ys[r]? = some y := by
            have := congrArg (fun z : List Bk => z[r]?) htk
            simp only [List.getElem?_take, if_pos (show r < r + 1 by omega)] at this
            rw [this]; exact hy
          have cy : ∀ {H3 : Heap}, H2 <+: H3 -> cellsAt H3 nid (r * 3) 3 = some [.int .i64 y.a, .int .i64 y.b, .int .i64 y.c] := by
            intro H3 hp3
            have hb3 : H3[nid]? = some ⟨tri ys, true, true⟩ := pget hp3 hb2
            have hat3 : At H3 nid 0 (tri ys) := Holds.at ⟨true, hb3⟩
            have := hat3.bk hyr
            simpa [Bk.cells] using this
          have cy2 := cy (List.prefix_refl H2)
          have hr1 : r < s + 1 := by omega
          have hr2 : r < s := by omega
          have hr3 : (r : Int) < (s : Int) + 1 := by omega
          have hr4 : (r : Int) < (s : Int) := by omega
          have hr5 : (0 : Int) < (r : Int) + 1 := by omega
          have hwr : IntKind.i64.wrap (r : Int) = (r : Int) := i64w (by omega) (by omega)
          refine AWp.draw mixed [(0, false), (1, false), (2, false), (3, false), (4, false), (5, false), (6, false), (7, false), (8, false), (9, false), (10, false), (11, false), (12, false), (13, false)] (by kernel_rfl) ?_
          simp (maxSteps := 1000000) [go_sem, hlt, cx, cy2, hr1, hr2, hr3, hr4, hr5, hwr]
          refine l01Before_ok (b := x) (d := y) _ ?_
          intro H3 hp3
          cases hbxy : before x y with
          | false =>
            obtain ⟨hst, hb5⟩ := fin H3 [] hp3 (by
              intro r' y' e hy'
              have : r' = r := by omega
              subst this; rw [hy] at hy'; cases hy'; exact hbxy)
            simp only [Bk.cells] at hst
            have cx3 := (h1.pre (hp2.trans hp3)).bk hbs
            simp only [Bk.cells] at cx3
            simp (maxSteps := 1000000) [go_sem, hp3, hlt, cx3, hst, hw_s, hr1, hr2, hr3, hr4]
            exact andK_intro (by omega) (hK (s + 1, nid) _ _ (by simp only; omega) (by simp [upF, Fr.get, Up.refl]) ⟨by simp only; omega, hb5⟩)
          | true =>
            have hb3 : H3[nid]? = some ⟨tri ys, true, true⟩ := pget hp3 hb2
            have hlt3 := (List.getElem?_eq_some_iff.1 hb3).1
            have hst := storeBk (b := y) (s := r + 1) hb3 (by omega)
            simp only [Bk.cells] at hst
            have cy3 := cy hp3
            simp (maxSteps := 1000000) [go_sem, hp3, cy3, hst, hwr, hr1, hr2, hr3, hr4]
            refine andK_intro (by omega) (hK2 (r, ys.set (r + 1) y) _ _ (by simp only; omega) (by simp [upF, Fr.get, Up.refl]) ⟨by simp only; omega, by simp [hyl], ?_, ?_, ?_, ?_, ?_⟩)
            · have hsame : Same (fun j => j = nid) H3 (H3.set nid ⟨tri (ys.set (r + 1) y), true, true⟩) := ⟨by simp, fun j hj hS => List.getElem?_set_ne (fun e => hS e.symm)⟩
              exact ((Same.of_prefix (hp2.trans hp3)).trans hsame).prefix (by intro j hj e; omega)
            · simp only; rw [List.getElem?_set_self hlt3]
            · simp only
              have := congrArg (List.take r) htk
              rw [List.take_take, List.take_take, Nat.min_eq_left (by omega)] at this
              rw [List.take_set_of_le (by omega)]; exact this
            · simp only
              rw [List.drop_eq_getElem_cons (by simp; omega), List.getElem_set_self, List.drop_set_of_lt (by omega), hdr]
              rw [List.drop_eq_getElem_cons hrl]
              congr 1
              rw [List.getElem?_eq_getElem hrl] at hy; exact (Option.some.inj hy).symm
            · simp only
              intro z hz
              rw [List.drop_eq_getElem_cons hrl] at hz
              rcases List.mem_cons.1 hz with rfl | hz
              · rw [List.getElem?_eq_getElem hrl] at hy; rw [Option.some.inj hy]; exact hbxy
              · exact hbf z hz
    · have : s = bs.length := by omega
      subst this
      simp (maxSteps := 1000000) [go_sem]
      rw [List.take_length] at hbl
      refine ⟨_, Up.refl _ _, h H' _ hbl.1 ?_⟩
      have hsl := sortB_length bs.length bs rfl
      have := OwnBlocks.inn (OwnBlocks.of_ol (bs := sortB bs) (by rw [hsl]; exact hbl.2.1) (by omega)) hbl.2.2
      rwa [hsl] at this

end Go.Proofs.YtkimaohcmcfcnaaGreat
end

section
namespace Go.Proofs.YtkimaohcmcfcnaaGreat
open Go.Ab

def Asc (bs : List Bk) : Prop := bs.Pairwise fun x y => before x y = true
theorem before_iff {x y : Bk} : before x y = true ↔ x.a < y.a \/ (x.a = y.a /\ (x.b < y.b \/ (x.b = y.b /\ x.c < y.c))) := by
  unfold before
  by_cases h1 : x.a = y.a
  · by_cases h2 : x.b = y.b
    · simp [h1, h2]
    · simp [h1, h2]
  · simp [h1]
theorem before_trans {x y z : Bk} (h1 : before x y = true) (h2 : before y z = true) : before x z = true := by
  rw [before_iff] at *; omega
theorem before_asymm {x y : Bk} (h1 : before x y = true) : before y x = false := by
  cases h : before y x with
  | false => rfl
  | true => rw [before_iff] at h h1; omega
theorem asc_of {p : Int} : ∀ (n : Nat) {bs : List Bk}, bs.length = n -> Sorted p bs -> Asc bs
  | 0, bs, hn, _ => by rw [List.eq_nil_of_length_eq_zero hn]; exact List.Pairwise.nil
  | n + 1, bs, hn, hs => by
    have hne : bs ≠ [] := by rintro rfl; simp at hn
    obtain ⟨l, x, rfl⟩ : ∃ l x, bs = l ++ [x] := ⟨bs.dropLast, bs.getLast hne, (List.dropLast_concat_getLast hne).symm⟩
    have hl : l.length = n := by simpa using hn
    have ih : Asc l := asc_of n hl fun i y hy => by
      have hi := (List.getElem?_eq_some_iff.1 hy).1
      have := hs i y (by rw [List.getElem?_append_left hi]; exact hy)
      exact ⟨this.1, fun z h0 hz => this.2 z h0 (by rw [List.getElem?_append_left (by omega)]; exact hz)⟩
    refine List.pairwise_append.2 ⟨ih, List.pairwise_singleton _ _, ?_⟩
    intro y hy z hz
    simp at hz; subst hz
    have hlast := hs l.length z (by simp)
    by_cases h0 : l = []
    · subst h0; simp at hy
    · obtain ⟨l', w, rfl⟩ : ∃ l' w, l = l' ++ [w] := ⟨l.dropLast, l.getLast h0, (List.dropLast_concat_getLast h0).symm⟩
      have hw := hlast.2 w (by simp) (by simp)
      rcases List.mem_append.1 hy with hy | hy
      · exact before_trans ((List.pairwise_append.1 ih).2.2 y hy w (by simp)) hw
      · simp at hy; subst hy; exact hw
theorem sortB_asc {bs : List Bk} (h : Asc bs) : sortB bs = bs := by
  have := sortB_same (bs := bs) (fun r x y hy hx => ?_) bs.length
  · rwa [List.take_of_length_le (Nat.le_refl _)] at this
  · obtain ⟨h1, rfl⟩ := List.getElem?_eq_some_iff.1 hy
    obtain ⟨h2, rfl⟩ := List.getElem?_eq_some_iff.1 hx
    exact before_asymm (List.pairwise_iff_getElem.1 h r (r + 1) h1 h2 (by omega))

theorem l01Made_ok {H : Heap} {u : Value} {v : Int} {bs : List Bk} (hu : BlocksAt H u bs) (hl : bs.length <= 1048576) (Post : Value -> Heap -> Prop)
    (h : ∀ H' w, H <+: H' -> BlocksIn H.length H'.length H' w (sortB bs) -> Post (sysV v w) H') : ACalls Tryz.prog 75 [.int .i64 v, u] H Post := by
  refine acalls_vc (rs := [.cell 4 60]) Tryz.func75 rfl rfl Tryz.ntmps75 rfl rfl ?_
  simp (maxSteps := 1000000) [go_sem, hu.one]
  have hp0 : H <+: H ++ [⟨[.int .i64 0, .slice none 0 0], true, true⟩] := List.prefix_append _ _
  have hb0 : (H ++ [(⟨[.int .i64 0, .slice none 0 0], true, true⟩ : Blk)])[H.length]? = some ⟨[.int .i64 0, .slice none 0 0], true, true⟩ := by simp
  generalize H ++ [(⟨[.int .i64 0, .slice none 0 0], true, true⟩ : Blk)] = H0 at hp0 hb0 ⊢
  refine l01Sort_ok (hu.pre hp0) hl _ ?_
  intro H1 w hp1 hw
  have hb1 := pget hp1 hb0
  have hlt := (List.getElem?_eq_some_iff.1 hb1).1
  obtain ⟨id, rfl⟩ : ∃ id, w = lv 3 id 0 (sortB bs).length := by obtain ⟨id, h, _⟩ := hw; exact ⟨id, h.1⟩
  have ho := hw.one
  have hst : storeAt H1 H.length 0 [.int .i64 v, lv 3 id 0 (sortB bs).length] = some (H1.set H.length ⟨[.int .i64 v, lv 3 id 0 (sortB bs).length], true, true⟩) := by
    rw [storeAt_of hb1 rfl rfl (by simp) (by simp [Value.oneCell'])]; simp [over]
  have hld : cellsAt (H1.set H.length ⟨[.int .i64 v, lv 3 id 0 (sortB bs).length], true, true⟩) H.length 0 2 = some [.int .i64 v, lv 3 id 0 (sortB bs).length] := by
    have := Holds.cells (n := 2) (o := 0) (H := H1.set H.length ⟨[.int .i64 v, lv 3 id 0 (sortB bs).length], true, true⟩) ⟨true, List.getElem?_set_self hlt⟩ (by simp)
    rw [this]; rfl
  simp (maxSteps := 1000000) [go_sem, ho, hst, hld]
  have hsame : Same (fun j => j = H.length) H1 (H1.set H.length ⟨[.int .i64 v, lv 3 id 0 (sortB bs).length], true, true⟩) := ⟨by simp, fun j hj hS => List.getElem?_set_ne (fun e => hS e.symm)⟩
  have hle0 := hp0.length_le
  have hlt0 := (List.getElem?_eq_some_iff.1 hb0).1
  have := h (H1.set H.length ⟨[.int .i64 v, lv 3 id 0 (sortB bs).length], true, true⟩) _ (((Same.of_prefix (hp0.trans hp1)).trans hsame).prefix (by intro j hj e; omega))
    (by
      have := (hw.keep hsame (by rintro j ⟨h1, h2⟩ e; omega)).wider hle0
      rwa [List.length_set])
  exact this

end Go.Proofs.YtkimaohcmcfcnaaGreat
end

section
namespace Go.Proofs.YtkimaohcmcfcnaaGreat
open Go.Ab Go.Sort

theorem before_false {x y : Bk} : before x y = false ↔ ¬ (x.a < y.a \/ (x.a = y.a /\ (x.b < y.b \/ (x.b = y.b /\ x.c < y.c)))) := by rw [<- before_iff]; simp
theorem swoB : SWO before := by
  refine ⟨fun x => ?_, fun x y z h1 h2 => before_trans h1 h2, fun x y z h1 h2 => ?_⟩
  · rw [before_false]; omega
  · rw [before_false] at *; omega
theorem insRev_perm (x : Bk) : ∀ l : List Bk, (insRev x l).Perm (x :: l)
  | [] => List.Perm.refl _
  | y :: l => by
    simp only [insRev]
    split
    · exact ((insRev_perm x l).cons y).trans (List.Perm.swap x y l)
    · exact List.Perm.refl _
theorem insR_perm (x : Bk) (l : List Bk) : (insR x l).Perm (x :: l) := by
  unfold insR
  exact ((List.reverse_perm _).trans (insRev_perm x _)).trans ((List.reverse_perm l).cons x)
theorem sortB_perm : ∀ (n : Nat) (bs : List Bk), bs.length = n -> (sortB bs).Perm bs
  | 0, bs, h => by have := List.eq_nil_of_length_eq_zero h; subst this; exact List.Perm.refl _
  | n + 1, bs, h => by
    have hne : bs ≠ [] := by rintro rfl; simp at h
    have e := List.dropLast_concat_getLast hne
    rw [<- e, sortB_snoc]
    refine (insR_perm _ _).trans ?_
    refine ((sortB_perm n _ (by simp [h])).cons _).trans ?_
    exact (List.perm_append_singleton _ _).symm
theorem insRev_sorted (x : Bk) : ∀ {l : List Bk}, l.Pairwise (fun a b => before a b = false) -> (insRev x l).Pairwise (fun a b => before a b = false)
  | [], _ => by simp [insRev]
  | y :: l, h => by
    rw [List.pairwise_cons] at h
    simp only [insRev]
    split
    · rename_i hb
      rw [List.pairwise_cons]
      refine ⟨fun z hz => ?_, insRev_sorted x h.2⟩
      rcases List.mem_cons.1 ((insRev_perm x l).mem_iff.1 hz) with rfl | hz
      · exact before_asymm hb
      · exact h.1 z hz
    · rename_i hb
      have hb : before x y = false := by simpa using hb
      rw [List.pairwise_cons]
      refine ⟨fun z hz => ?_, List.pairwise_cons.2 h⟩
      rcases List.mem_cons.1 hz with rfl | hz
      · exact hb
      · exact swoB.ntrans _ _ _ hb (h.1 z hz)
theorem insR_sorted (x : Bk) {l : List Bk} (h : l.Pairwise (fun a b => before b a = false)) : (insR x l).Pairwise (fun a b => before b a = false) := by
  unfold insR
  rw [List.pairwise_reverse]
  exact insRev_sorted x (List.pairwise_reverse.2 h)
theorem sortB_sorted : ∀ (n : Nat) (bs : List Bk), bs.length = n -> (sortB bs).Pairwise (fun a b => before b a = false)
  | 0, bs, h => by have := List.eq_nil_of_length_eq_zero h; subst this; exact List.Pairwise.nil
  | n + 1, bs, h => by
    have hne : bs ≠ [] := by rintro rfl; simp at h
    rw [<- List.dropLast_concat_getLast hne, sortB_snoc]
    exact insR_sorted _ (sortB_sorted n _ (by simp [h]))
theorem sort_uniq {bs l : List Bk} (hp : l.Perm bs) (hs : l.Pairwise (fun x y => before y x = false)) : l = sortB bs := by
  refine (hp.trans (sortB_perm _ bs rfl).symm).eq_of_pairwise ?_ hs (sortB_sorted _ bs rfl)
  intro x y _ _ h1 h2
  rw [before_false] at h1 h2
  rw [Bk.eq3]; omega

end Go.Proofs.YtkimaohcmcfcnaaGreat
end

section
namespace Go.Proofs.YtkimaohcmcfcnaaGreat
open Go.Ab Go.Sort

def blk (a b c : Int) : Bk := ⟨min a (min b c), a + b + c - min a (min b c) - max a (max b c), max a (max b c)⟩
theorem blk_good {v a b c : Int} : good v (blk a b c) = true ↔ (0 <= a /\ a < v) /\ (0 <= b /\ b < v) /\ (0 <= c /\ c < v) /\ a ≠ b /\ b ≠ c /\ c ≠ a := by
  rw [good_iff, blk]; simp only; omega

def OrdL (n : Int) (xs : List Int) : Prop := (xs.length : Int) = n /\ xs.Nodup /\ ∀ x ∈ xs, 0 <= x /\ x < n
end Go.Proofs.YtkimaohcmcfcnaaGreat
end

section
namespace Go.Ab
open Go.RowKit (Below)

def pairOKF (ops : Array Oper) (fs : List Nat) (ms : List Nat) (x y : Nat × Bool) : Bool :=
  match ops[x.1]?, ops[y.1]? with
  | some p, some q =>
    let d := (ms.getD y.1 0).testBit x.1
    !directTo p y.1 && x.1 != y.1 &&
    (match isR p.op with
     | true => (d || indep ops p q) && (isR q.op || y.2 || !readsH p.op || d)
     | false => d || (fs.contains y.1 && y.2 && !isR q.op))
  | _, _ => false
def pairsOKF (ops : Array Oper) (fs : List Nat) (ms : List Nat) : List (Nat × Bool) -> Bool
  | [] => true
  | x :: l => l.all (pairOKF ops fs ms x) && pairsOKF ops fs ms l
def drawOKF (ops : Array Oper) (fs : List Nat) (canon : List (Nat × Bool)) : Bool :=
  let ms := masksGo ops.toList []
  pairsOKF ops fs ms canon && edgesOK ops && decide (canon.length = ops.size) && canon.all (fun x => decide (x.1 < ops.size)) && (List.range ops.size).all (fun i => (canon.map (·.1)).contains i)

section
variable {P : Program} {N : Nat} {ops : Array Oper} {K : Fr -> Heap -> Prop} {fs : List Nat}

def vF (P : Program) (N : Nat) (ops : Array Oper) (fs : List Nat) (K : Fr -> Heap -> Prop) : Nat -> List (Nat × Bool) -> Fr -> Heap -> Prop
  | _, [], fr, H => K fr H
  | 0, _ :: _, _, _ => False
  | n + 1, (i, fl) :: l, fr, H => match ops[i]? with
    | none => False
    | some o => match isR o.op with
      | true => vstep P N ops o (vF P N ops fs K n l) fr H
      | false => vstep P N ops o (eK fl H (vF P N ops fs K n l)) fr H /\
          ∀ f, f ∈ fs -> f ∈ l.map (·.1) -> ∃ o', ops[f]? = some o' /\ isR o'.op = false /\ vstep P N ops o' (eK true H (vF P N ops fs K n ((i, fl) :: l.filter fun y => y.1 != f))) fr H

theorem vstep_closed {o : Oper} {T : Fr -> Heap -> Prop} (hT : Closed T) {f g : Fr} {H : Heap} (hfg : feq f g) (h : vstep P N ops o T f H) : vstep P N ops o T g H := by
  cases hR : isR o.op with
  | true =>
    obtain ⟨v, h1, h2⟩ := vstep_R hR hT h
    exact h2 g H _ hT (agreeG.of_feq hfg) (fun _ => List.prefix_refl _) (hT _ _ _ (hfg.put _ _) h1)
  | false =>
    refine vstep_weak (vstep_E hT h (agreeG.of_feq hfg)) ?_
    rintro f' h' ⟨v, h1, h2⟩
    exact hT _ _ _ ((hfg.put _ _).trans h1) h2
theorem eK_closed {fl : Bool} {H : Heap} {T : Fr -> Heap -> Prop} (hT : Closed T) : Closed (eK fl H T) := by
  intro f g h' hfg hk
  cases fl with
  | true => exact ⟨hk.1, hT _ _ _ hfg hk.2⟩
  | false => exact hT _ _ _ hfg hk
theorem vF_closed (hK : Closed K) : ∀ n l, Closed (vF P N ops fs K n l)
  | 0, [] => hK
  | n + 1, [] => hK
  | 0, _ :: _ => fun _ _ _ _ h => h
  | n + 1, (i, fl) :: l => by
    intro f g H hfg h
    simp only [vF] at h ⊢
    split at h
    · exact h.elim
    · rename_i o ho
      cases hR : isR o.op with
      | true => simp only [hR] at h ⊢; exact vstep_closed (vF_closed hK n l) hfg h
      | false =>
        simp only [hR] at h ⊢
        refine ⟨vstep_closed (eK_closed (vF_closed hK n l)) hfg h.1, fun f hf hm => ?_⟩
        obtain ⟨o', h1, h2, h3⟩ := h.2 f hf hm
        exact ⟨o', h1, h2, vstep_closed (eK_closed (vF_closed hK n _)) hfg h3⟩

def seqR (P : Program) (N : Nat) (ops : Array Oper) (T : Fr -> Heap -> Prop) : List (Nat × Bool) -> Fr -> Heap -> Prop
  | [], fr, H => T fr H
  | (j, _) :: l, fr, H => match ops[j]? with
    | none => False
    | some p => vstep P N ops p (seqR P N ops T l) fr H
theorem seqR_closed {T : Fr -> Heap -> Prop} (hT : Closed T) : ∀ l, Closed (seqR P N ops T l)
  | [] => hT
  | (j, fj) :: l => by
    intro f g H hfg h
    simp only [seqR] at h ⊢
    split at h
    · exact h.elim
    · exact vstep_closed (seqR_closed hT l) hfg h
theorem vF_seqR {n : Nat} {rest : List (Nat × Bool)} : ∀ (l1 : List (Nat × Bool)) (fr : Fr) (H : Heap), (∀ x ∈ l1, ∃ p, ops[x.1]? = some p /\ isR p.op = true) ->
    (vF P N ops fs K (l1.length + n) (l1 ++ rest) fr H ↔ seqR P N ops (vF P N ops fs K n rest) l1 fr H)
  | [], fr, H, _ => by simp [seqR]
  | (j, fj) :: l1, fr, H, hl => by
    obtain ⟨p, hp, hR⟩ := hl (j, fj) (by simp)
    have ih := fun fr H => vF_seqR (n := n) (rest := rest) l1 fr H fun x hx => hl x (by simp [hx])
    rw [show ((j, fj) :: l1).length + n = (l1.length + n) + 1 by simp; omega]
    simp only [List.cons_append, vF, seqR, hp, hR]
    exact ⟨fun h => vstep_weak h fun f h => (ih f h).1, fun h => vstep_weak h fun f h => (ih f h).2⟩

theorem front_gen {o : Oper} {fl : Bool} {T T' : Fr -> Heap -> Prop} (hT : Closed T) (hT' : Closed T') (hstep : ∀ fr H, T fr H -> vstep P N ops o (fun f h => rel o fl H h /\ T' f h) fr H) : ∀ (l1 : List (Nat × Bool)) (fr : Fr) (H : Heap),
    (∀ x ∈ l1, ∃ p, ops[x.1]? = some p /\ isR p.op = true /\ indep ops p o = true /\ (readsH p.op = true -> isR o.op = true \/ fl = true)) ->
    seqR P N ops T l1 fr H -> vstep P N ops o (fun f h => rel o fl H h /\ seqR P N ops T' l1 f h) fr H
  | [], fr, H, _, h => hstep fr H h
  | (j, fj) :: l1, fr, H, hl, h => by
    obtain ⟨p, hp, hR, hin, hrd⟩ := hl (j, fj) (by simp)
    simp only [seqR, hp] at h ⊢
    have hc1 := seqR_closed (P := P) (N := N) (ops := ops) hT l1
    have hc2 := seqR_closed (P := P) (N := N) (ops := ops) hT' l1
    obtain ⟨v, h1, h2⟩ := vstep_R hR hc1 h
    have ih := front_gen hT hT' hstep l1 (fr.put p.dst v) H (fun x hx => hl x (by simp [hx])) h1
    obtain ⟨i1, i2, i3⟩ := indep_spec hin
    have hcK : Closed (fun f h => rel o fl H h /\ seqR P N ops T' l1 f h) := fun f g h hfg hk => ⟨hk.1, hc2 _ _ _ hfg hk.2⟩
    have hag : agreeG ops o (fr.put p.dst v) fr := agreeG.symm (agreeG.put i1)
    refine vstep_weak (vstep_E hcK ih hag) ?_
    rintro f h' ⟨u, hf, hrel, hv⟩
    refine ⟨hrel, ?_⟩
    have hvE : vstep P N ops p (seqR P N ops T' l1) (fr.put o.dst u) h' := by
      refine h2 (fr.put o.dst u) h' _ hc2 (agreeG.put i2) (fun hr => hrel (hrd hr)) ?_
      exact hc2 _ _ _ (put_comm fr i3 v u) hv
    exact vstep_closed hc2 hf hvE

theorem eK_rel {o : Oper} {fl : Bool} {T : Fr -> Heap -> Prop} {fr : Fr} {H : Heap} (hR : isR o.op = false) (h : vstep P N ops o (eK fl H T) fr H) : vstep P N ops o (fun f h => rel o fl H h /\ T f h) fr H := by
  refine vstep_weak h ?_
  intro f h' hk
  cases fl with
  | true => exact ⟨fun _ => hk.1, hk.2⟩
  | false => exact ⟨fun e => by simp [hR] at e, hk⟩

theorem vF_front (hK : Closed K) {n i : Nat} {fl : Bool} {l1 l2 : List (Nat × Bool)} {o : Oper} (ho : ops[i]? = some o) {fr : Fr} {H : Heap}
    (hl1 : ∀ x ∈ l1, ∃ p, ops[x.1]? = some p /\ isR p.op = true /\ indep ops p o = true /\ (readsH p.op = true -> isR o.op = true \/ fl = true))
    (h : vF P N ops fs K (l1.length + (n + 1)) (l1 ++ (i, fl) :: l2) fr H) : vstep P N ops o (fun f h => rel o fl H h /\ vF P N ops fs K (l1.length + n) (l1 ++ l2) f h) fr H := by
  have hl1' : ∀ x ∈ l1, ∃ p, ops[x.1]? = some p /\ isR p.op = true := fun x hx => by obtain ⟨p, h1, h2, _⟩ := hl1 x hx; exact ⟨p, h1, h2⟩
  rw [vF_seqR l1 fr H hl1'] at h
  have hstep : ∀ fr H, vF P N ops fs K (n + 1) ((i, fl) :: l2) fr H -> vstep P N ops o (fun f h => rel o fl H h /\ vF P N ops fs K n l2 f h) fr H := by
    intro fr H h
    simp only [vF, ho] at h
    cases hR : isR o.op with
    | true =>
      simp only [hR] at h
      obtain ⟨v, h1, h2⟩ := vstep_R hR (vF_closed hK n l2) h
      refine h2 fr H _ ?_ (fun _ _ => rfl) (fun _ => List.prefix_refl _) ⟨fun _ => List.prefix_refl _, h1⟩
      intro f g h hfg hk
      exact ⟨hk.1, vF_closed hK n l2 _ _ _ hfg hk.2⟩
    | false => simp only [hR] at h; exact eK_rel hR h.1
  refine vstep_weak (front_gen (vF_closed hK _ _) (vF_closed hK n l2) hstep l1 fr H hl1 h) ?_
  rintro f h' ⟨h1, h2⟩
  exact ⟨h1, (vF_seqR l1 f h' hl1').2 h2⟩
theorem vF_float (hK : Closed K) {n i f : Nat} {fl : Bool} {r1 l2 : List (Nat × Bool)} {o o' : Oper} (ho : ops[i]? = some o) (hE : isR o.op = false) (hf : ops[f]? = some o') (hff : f ∈ fs) (hfl : f ∈ l2.map (·.1)) {fr : Fr} {H : Heap}
    (hl1 : ∀ x ∈ r1, ∃ p, ops[x.1]? = some p /\ isR p.op = true /\ indep ops p o' = true)
    (h : vF P N ops fs K (r1.length + (n + 1)) (r1 ++ (i, fl) :: l2) fr H) : vstep P N ops o' (fun f' h => rel o' true H h /\ vF P N ops fs K (r1.length + n) (r1 ++ (i, fl) :: l2.filter fun y => y.1 != f) f' h) fr H := by
  have hl1' : ∀ x ∈ r1, ∃ p, ops[x.1]? = some p /\ isR p.op = true := fun x hx => by obtain ⟨p, h1, h2, _⟩ := hl1 x hx; exact ⟨p, h1, h2⟩
  rw [vF_seqR r1 fr H hl1'] at h
  have hstep : ∀ fr H, vF P N ops fs K (n + 1) ((i, fl) :: l2) fr H -> vstep P N ops o' (fun f' h => rel o' true H h /\ vF P N ops fs K n ((i, fl) :: l2.filter fun y => y.1 != f) f' h) fr H := by
    intro fr H h
    simp only [vF, ho, hE] at h
    obtain ⟨o2, h1, h2, h3⟩ := h.2 f hff hfl
    rw [hf] at h1; cases h1
    exact eK_rel h2 h3
  refine vstep_weak (front_gen (vF_closed hK _ _) (vF_closed hK n _) hstep r1 fr H (fun x hx => by obtain ⟨p, h1, h2, h3⟩ := hl1 x hx; exact ⟨p, h1, h2, h3, fun _ => .inr rfl⟩) h) ?_
  rintro f h' ⟨h1, h2⟩
  exact ⟨h1, (vF_seqR r1 f h' hl1').2 h2⟩

theorem pairsOKF_spec {ms : List Nat} : ∀ {l1 : List (Nat × Bool)} {y : Nat × Bool} {l2 : List (Nat × Bool)}, pairsOKF ops fs ms (l1 ++ y :: l2) = true -> (∀ x ∈ l1, pairOKF ops fs ms x y = true) /\ (∀ z ∈ l2, pairOKF ops fs ms y z = true) /\ pairsOKF ops fs ms (l1 ++ l2) = true
  | [], y, l2, h => by
    simp only [List.nil_append, pairsOKF, Bool.and_eq_true, List.all_eq_true] at h
    exact ⟨by simp, h.1, h.2⟩
  | x :: l1, y, l2, h => by
    simp only [List.cons_append, pairsOKF, Bool.and_eq_true, List.all_eq_true] at h ⊢
    obtain ⟨h1, h2⟩ := h
    obtain ⟨h3, h4, h5⟩ := pairsOKF_spec h2
    refine ⟨fun z hz => ?_, h4, fun z hz => h1 z ?_, h5⟩
    · rcases List.mem_cons.1 hz with rfl | hz
      · exact h1 y (by simp)
      · exact h3 z hz
    · rcases List.mem_append.1 hz with hz | hz
      · simp [hz]
      · simp [hz]

theorem first_effect : ∀ (l : List (Nat × Bool)), (∀ x ∈ l, ∃ p, ops[x.1]? = some p) -> (∀ x ∈ l, ∃ p, ops[x.1]? = some p /\ isR p.op = true) \/
    ∃ r1 e o r2, l = r1 ++ e :: r2 /\ ops[e.1]? = some o /\ isR o.op = false /\ ∀ x ∈ r1, ∃ p, ops[x.1]? = some p /\ isR p.op = true
  | [], _ => .inl (by simp)
  | x :: l, h => by
    obtain ⟨p, hp⟩ := h x (by simp)
    cases hR : isR p.op with
    | false => exact .inr ⟨[], x, p, l, rfl, hp, hR, by simp⟩
    | true =>
      rcases first_effect l fun y hy => h y (by simp [hy]) with h1 | ⟨r1, e, o, r2, rfl, h2, h3, h4⟩
      · left
        intro y hy
        rcases List.mem_cons.1 hy with rfl | hy
        · exact ⟨p, hp, hR⟩
        · exact h1 y hy
      · refine .inr ⟨x :: r1, e, o, r2, rfl, h2, h3, fun y hy => ?_⟩
        rcases List.mem_cons.1 hy with rfl | hy
        · exact ⟨p, hp, hR⟩
        · exact h4 y hy

theorem drawF_any {B : Nat} {w0 : World} {Q : Exit -> Act -> World -> Prop} (hK : Closed K) (hedge : edgesOK ops = true) : ∀ (n : Nat) (listed : Array Bool) (l : List (Nat × Bool)) (fr : Fr) (H : Heap) (ρ : Rho) (w : World) (a : Act),
    listed.size = ops.size -> l.length = n -> pairsOKF ops fs (masksGo ops.toList []) l = true -> (∀ x ∈ l, x.1 < ops.size /\ listed.getD x.1 true = false) -> (∀ i, i < ops.size -> listed.getD i true = false -> ∃ x ∈ l, x.1 = i) ->
    (∀ (j : Nat) (o : Oper), ops[j]? = some o -> listed.getD j false = true -> ∀ e ∈ o.after.toList, Region.binds .any e = true -> listed.getD e.on false = true) ->
    vF P N ops fs K n l fr H -> R B w0 ρ H w -> FR N ρ fr a ->
    (∀ (ρ' : Rho) (fr' : Fr) (H' : Heap) (a' : Act) (w' : World), ρ <+: ρ' -> K fr' H' -> R B w0 ρ' H' w' -> FR N ρ' fr' a' -> Q .normal a' w') -> wpAny P .any ops Q n listed a w := by
  intro n
  have getD2 : ∀ (listed : Array Bool) (i : Nat), listed.size = ops.size -> i < ops.size -> listed.getD i true = listed.getD i false := by
    intro listed i h1 h2
    simp [Array.getD_eq_getD_getElem?, h1, h2]
  induction n with
  | zero =>
    intro listed l fr H ρ w a hsz hl hp hin hall hcl hv hR hF hq
    have : l = [] := List.eq_nil_of_length_eq_zero hl
    subst this
    refine ⟨?_, hq ρ fr H a w (List.prefix_refl _) hv hR hF⟩
    rw [List.eq_nil_iff_forall_not_mem]
    intro i hi
    simp only [Region.ready, List.mem_filter, List.mem_range, Bool.and_eq_true, Bool.not_eq_true'] at hi
    obtain ⟨x, hx, _⟩ := hall i hi.1 hi.2.1
    simp at hx
  | succ n ih =>
    intro listed l fr H ρ w a hsz hl hp hin hall hcl hv hR hF hq
    refine ⟨?_, ?_⟩
    · intro hnil
      exfalso
      match l, hl with
      | (i, fl) :: l, hl =>
        obtain ⟨h1, h2⟩ := hin (i, fl) (by simp)
        have hi : i ∈ Region.ready .any ops listed := by
          simp only [Region.ready, List.mem_filter, List.mem_range, Bool.and_eq_true, Bool.not_eq_true']
          refine ⟨h1, h2, ?_⟩
          rw [Array.getElem?_eq_getElem h1]
          simp only [Option.map_some, Option.getD_some, Array.all_eq_true']
          intro e he
          rw [Bool.or_eq_true, Bool.not_eq_true']
          by_cases hb : Region.binds .any e = true
          · right
            have hedge' := List.all_eq_true.1 hedge i (by simpa using h1)
            simp only [Array.getElem?_eq_getElem h1, List.all_eq_true] at hedge'
            have he' := hedge' e (by simpa using he)
            simp only [hb, Bool.not_true, Bool.false_or, Bool.and_eq_true, decide_eq_true_eq, bne_iff_ne, ne_eq] at he'
            rw [<- getD2 listed e.on hsz he'.1]
            cases hg : listed.getD e.on true with
            | true => rfl
            | false =>
              obtain ⟨x, hx, hxe⟩ := hall e.on he'.1 hg
              rcases List.mem_cons.1 hx with rfl | hx
              · exact absurd hxe.symm he'.2
              · have hpo := (pairsOKF_spec (l1 := []) hp).2.1 x hx
                have hx1 := (hin x (by simp [hx])).1
                simp only [pairOKF, Array.getElem?_eq_getElem h1, Array.getElem?_eq_getElem hx1, Bool.and_eq_true, Bool.not_eq_true'] at hpo
                have hd := hpo.1.1
                simp only [directTo, List.any_eq_false, Bool.and_eq_true, beq_iff_eq, not_and] at hd
                exact absurd hxe.symm (hd e (by simpa using he) hb)
          · left; simpa using hb
        rw [hnil] at hi
        simp at hi
    · intro i hi
      simp only [Region.ready, List.mem_filter, List.mem_range, Bool.and_eq_true, Bool.not_eq_true'] at hi
      obtain ⟨hilt, hnl, hrdy⟩ := hi
      rw [Array.getElem?_eq_getElem hilt] at hrdy
      simp only [Option.map_some, Option.getD_some, Array.all_eq_true'] at hrdy
      have ho : ops[i]? = some ops[i] := Array.getElem?_eq_getElem hilt
      obtain ⟨x, hx, hxi⟩ := hall i hilt hnl
      obtain ⟨l1, l2, rfl⟩ := List.append_of_mem hx
      obtain ⟨i', fl⟩ := x
      simp only at hxi
      subst hxi
      obtain ⟨hp1, hp2, hp3⟩ := pairsOKF_spec hp
      have hpre : ∀ e ∈ (ops[i']).after.toList, Region.binds .any e = true -> listed.getD e.on false = true := by
        intro e he hb
        have := hrdy e (by simpa using he)
        simpa [hb] using this
      have hdep : ∀ y ∈ l1, ¬ ((masksGo ops.toList []).getD i' 0).testBit y.1 = true := by
        intro y hy hb
        have := masks_sound (ops := ops) (fun j => listed.getD j false = true) hcl ops.toList [] (fun j _ => by simp) (fun j o p hj => by simp at hj) i' _ y.1 ho hb hpre
        obtain ⟨hy1, hy2⟩ := hin y (by simp [hy])
        rw [getD2 listed y.1 hsz hy1] at hy2
        rw [hy2] at this; cases this
      have hR1 : ∀ y ∈ l1, ∀ p, ops[y.1]? = some p -> isR p.op = true -> indep ops p ops[i'] = true /\ (readsH p.op = true -> isR (ops[i']).op = true \/ fl = true) := by
        intro y hy p hp' hRp
        have hy1 := (hin y (by simp [hy])).1
        have hpo := hp1 y hy
        have hd := hdep y hy
        simp only [pairOKF, hp', ho, Bool.and_eq_true] at hpo
        have hpo2 := hpo.2
        simp only [Bool.not_eq_true] at hd
        simp only [hRp, hd, Bool.false_or, Bool.or_false, Bool.and_eq_true, Bool.or_eq_true, Bool.not_eq_true'] at hpo2
        refine ⟨hpo2.1, fun hr => ?_⟩
        rcases hpo2.2 with (h | h) | h
        · exact .inl h
        · exact .inr h
        · rw [hr] at h; cases h
      have hE1 : ∀ y ∈ l1, ∀ p, ops[y.1]? = some p -> isR p.op = false -> i' ∈ fs /\ fl = true /\ isR (ops[i']).op = false := by
        intro y hy p hp' hRp
        have hpo := hp1 y hy
        have hd := hdep y hy
        simp only [pairOKF, hp', ho, Bool.and_eq_true] at hpo
        have hpo2 := hpo.2
        simp only [Bool.not_eq_true] at hd
        simp only [hRp, hd, Bool.false_or, Bool.and_eq_true, Bool.not_eq_true', List.contains_iff_mem] at hpo2
        exact ⟨hpo2.1.1, hpo2.1.2, hpo2.2⟩
      have hnd : ∀ y ∈ l1 ++ l2, y.1 ≠ i' := by
        intro y hy e
        rcases List.mem_append.1 hy with hy | hy
        · have hpo := hp1 y hy
          have hy1 := (hin y (by simp [hy])).1
          simp [pairOKF, Array.getElem?_eq_getElem hy1, ho, e] at hpo
        · have hpo := hp2 y hy
          have hy1 := (hin y (by simp [hy])).1
          simp [pairOKF, Array.getElem?_eq_getElem hy1, ho, e] at hpo
      have hstep : vstep P N ops ops[i'] (fun f h => rel ops[i'] fl H h /\ vF P N ops fs K n (l1 ++ l2) f h) fr H := by
        simp only [List.length_append, List.length_cons] at hl
        rcases first_effect (ops := ops) l1 (fun x hx => ⟨_, Array.getElem?_eq_getElem (hin x (by simp [hx])).1⟩) with hall1 | ⟨r1, e, oe, r2, rfl, he1, he2, he3⟩
        · rw [show n = l1.length + l2.length by omega]
          rw [show n + 1 = l1.length + (l2.length + 1) by omega] at hv
          exact vF_front hK ho (fun x hx => by obtain ⟨p, h1, h2⟩ := hall1 x hx; obtain ⟨h3, h4⟩ := hR1 x hx p h1 h2; exact ⟨p, h1, h2, h3, h4⟩) hv
        · obtain ⟨hif, hfl, hEi⟩ := hE1 e (by simp) oe he1 he2
          subst hfl
          simp only [List.length_append, List.length_cons] at hl
          rw [show n + 1 = r1.length + ((r2.length + 1 + l2.length) + 1) by omega, List.append_assoc, List.cons_append] at hv
          have hfilt : (r2 ++ (i', true) :: l2).filter (fun y => y.1 != i') = r2 ++ l2 := by
            rw [List.filter_append, List.filter_cons]
            simp only [bne_self_eq_false, Bool.false_eq_true, if_false]
            rw [List.filter_eq_self.2, List.filter_eq_self.2]
            · intro y hy; simpa using hnd y (by simp [hy])
            · intro y hy; simpa using hnd y (by simp [hy])
          have := vF_float (f := i') hK he1 he2 ho hif (by simp) (fun x hx => by
            obtain ⟨p, h1, h2⟩ := he3 x hx
            exact ⟨p, h1, h2, (hR1 x (by simp [hx]) p h1 h2).1⟩) hv
          rw [hfilt] at this
          rw [show n = r1.length + (r2.length + 1 + l2.length) by omega, List.append_assoc, List.cons_append]
          exact this
      unfold wpOp
      rw [ho]
      refine vstep_sound hstep hR hF Q ?_
      rintro ρ' fr' H' a' w' hpre' ⟨_, hv'⟩ hR' hF'
      refine ih (listed.setIfInBounds i' true) (l1 ++ l2) fr' H' ρ' w' a' (by simpa using hsz) (by simp at hl ⊢; omega) hp3 ?_ ?_ ?_ hv' hR' hF' (fun ρ'' f'' H'' a'' w'' h1 => hq ρ'' f'' H'' a'' w'' (hpre'.trans h1))
      · intro y hy
        have hne := hnd y hy
        obtain ⟨h1, h2⟩ := hin y (by rcases List.mem_append.1 hy with hy | hy <;> simp [hy])
        exact ⟨h1, by rw [getD_set_ne _ (fun e => hne e.symm)]; exact h2⟩
      · intro j hj hnj
        by_cases e : i' = j
        · subst e
          exfalso
          have : (listed.setIfInBounds i' true).getD i' true = true := by simp [Array.getD_eq_getD_getElem?]
          rw [this] at hnj; cases hnj
        · rw [getD_set_ne _ e] at hnj
          obtain ⟨y, hy, rfl⟩ := hall j hj hnj
          refine ⟨y, ?_, rfl⟩
          rcases List.mem_append.1 hy with hy | hy
          · simp [hy]
          · rcases List.mem_cons.1 hy with rfl | hy
            · exact absurd rfl e
            · simp [hy]
      · intro j o hj hlj e he hb
        by_cases e' : i' = j
        · subst e'
          rw [ho] at hj; cases hj
          exact getD_set_true (hpre e he hb)
        · rw [getD_set_ne _ e'] at hlj
          exact getD_set_true (hcl j o hj hlj e he hb)

inductive Tree
  | nil
  | one (i : Nat) (fl : Bool) (t : Tree)
  | two (i : Nat) (fl : Bool) (t : Tree) (f : Nat) (t' : Tree)

def vT (P : Program) (N : Nat) (ops : Array Oper) (K : Fr -> Heap -> Prop) : Tree -> Fr -> Heap -> Prop
  | .nil, fr, H => K fr H
  | .one i fl t, fr, H => match ops[i]? with
    | none => False
    | some o => match isR o.op with
      | true => vstep P N ops o (vT P N ops K t) fr H
      | false => vstep P N ops o (eK fl H (vT P N ops K t)) fr H
  | .two i fl t f t', fr, H => match ops[i]?, ops[f]? with
    | some o, some o' => vstep P N ops o (eK fl H (vT P N ops K t)) fr H /\ vstep P N ops o' (eK true H (vT P N ops K t')) fr H
    | _, _ => False
def treeOK (ops : Array Oper) (fs : List Nat) : Tree -> List (Nat × Bool) -> Bool
  | .nil, l => l.isEmpty
  | .one i fl t, (j, fl') :: l => i == j && fl == fl' && ((match ops[i]? with | some o => isR o.op | none => false) || fs.all fun f => !(l.map (·.1)).contains f) && treeOK ops fs t l
  | .two i fl t f t', (j, fl') :: l => i == j && fl == fl' && (match ops[i]?, ops[f]? with | some o, some o' => !isR o.op && !isR o'.op | _, _ => false) && (fs.all fun g => g == f || !(l.map (·.1)).contains g) && treeOK ops fs t l && treeOK ops fs t' ((j, fl') :: l.filter fun y => y.1 != f)
  | _, [] => false
theorem vT_vF : ∀ (t : Tree) (n : Nat) (l : List (Nat × Bool)) (fr : Fr) (H : Heap), l.length <= n -> (∀ x y, x ∈ l -> y ∈ l -> x.1 = y.1 -> x = y) -> treeOK ops fs t l = true -> vT P N ops K t fr H -> vF P N ops fs K n l fr H := by
  intro t
  induction t with
  | nil =>
    intro n l fr H hn _ hok h
    cases l with
    | nil => cases n <;> exact h
    | cons x l => simp [treeOK] at hok
  | one i fl t ih =>
    intro n l fr H hn hu hok h
    cases l with
    | nil => simp [treeOK] at hok
    | cons x l =>
      obtain ⟨j, fl'⟩ := x
      simp only [treeOK, Bool.and_eq_true, beq_iff_eq] at hok
      obtain ⟨⟨⟨rfl, rfl⟩, hfl⟩, hok⟩ := hok
      cases n with
      | zero => simp at hn
      | succ n =>
        simp only [List.length_cons] at hn
        have hu' : ∀ x y, x ∈ l -> y ∈ l -> x.1 = y.1 -> x = y := fun x y hx hy => hu x y (by simp [hx]) (by simp [hy])
        simp only [vT] at h
        simp only [vF]
        cases ho : ops[i]? with
        | none => simp [ho] at h
        | some o =>
          simp only [ho] at h hfl ⊢
          cases hR : isR o.op with
          | true => simp only [hR] at h ⊢; exact vstep_weak h fun f h => ih n l f h (by omega) hu' hok
          | false =>
            simp only [hR, Bool.false_or, List.all_eq_true] at h hfl ⊢
            refine ⟨vstep_weak h fun f h' hk => ?_, fun f hf hm => ?_⟩
            · cases fl with
              | true => exact ⟨hk.1, ih n l f h' (by omega) hu' hok hk.2⟩
              | false => exact ih n l f h' (by omega) hu' hok hk
            · have := hfl f hf
              simp only [Bool.not_eq_true', List.contains_eq_mem, decide_eq_false_iff_not] at this
              exact absurd hm this
  | two i fl t f t' ih ih' =>
    intro n l fr H hn hu hok h
    cases l with
    | nil => simp [treeOK] at hok
    | cons x l =>
      obtain ⟨j, fl'⟩ := x
      simp only [treeOK, Bool.and_eq_true, beq_iff_eq] at hok
      obtain ⟨⟨⟨⟨⟨rfl, rfl⟩, hE⟩, hfl⟩, hok⟩, hok'⟩ := hok
      cases n with
      | zero => simp at hn
      | succ n =>
        simp only [List.length_cons] at hn
        have hu' : ∀ x y, x ∈ l -> y ∈ l -> x.1 = y.1 -> x = y := fun x y hx hy => hu x y (by simp [hx]) (by simp [hy])
        simp only [vT] at h
        simp only [vF]
        cases ho : ops[i]? with
        | none => simp [ho] at h
        | some o =>
          cases ho' : ops[f]? with
          | none => simp [ho, ho'] at h
          | some o' =>
            simp only [ho, ho', Bool.and_eq_true, Bool.not_eq_true'] at h hE ⊢
            simp only [hE.1]
            refine ⟨vstep_weak h.1 fun g h' hk => ?_, fun g hg hm => ?_⟩
            · cases fl with
              | true => exact ⟨hk.1, ih n l g h' (by omega) hu' hok hk.2⟩
              | false => exact ih n l g h' (by omega) hu' hok hk
            · rw [List.all_eq_true] at hfl
              have hgf := hfl g hg
              simp only [Bool.or_eq_true, beq_iff_eq, Bool.not_eq_true', List.contains_eq_mem, decide_eq_false_iff_not] at hgf
              have : g = f := hgf.resolve_right (fun e => e hm)
              subst this
              refine ⟨o', ho', hE.2, vstep_weak h.2 fun q h' hk => ⟨hk.1, ih' n _ q h' ?_ ?_ hok' hk.2⟩⟩
              · obtain ⟨z, hz, hzg⟩ := List.mem_map.1 hm
                have : (l.filter fun y => y.1 != g).length < l.length := by
                  rw [List.length_filter_lt_length_iff_exists]
                  exact ⟨z, hz, by simp [hzg]⟩
                simp only [List.length_cons]; omega
              · intro x y hx hy
                refine hu x y ?_ ?_
                · rcases List.mem_cons.1 hx with rfl | hx
                  · simp
                  · exact List.mem_cons_of_mem _ (List.mem_filter.1 hx).1
                · rcases List.mem_cons.1 hy with rfl | hy
                  · simp
                  · exact List.mem_cons_of_mem _ (List.mem_filter.1 hy).1

theorem AWp.drawF {id : Nat} {fr : Fr} {H : Heap} {Q : Exit -> Fr -> Heap -> Prop} (hm : P.follows .mixedOrders = true) (fs : List Nat) (canon : List (Nat × Bool)) (t : Tree) (hok : (drawOKF ops fs canon && treeOK ops fs t canon) = true) (h : vT P N ops (Q .normal) t fr H) : AWp P N (.region id ops true) Q fr H := by
  intro B w0 ρ w a hR hF
  simp only [drawOKF, Bool.and_eq_true, decide_eq_true_eq, List.all_eq_true, List.mem_range, List.contains_iff_mem, List.mem_map] at hok
  obtain ⟨⟨⟨⟨⟨h1, h2⟩, h3⟩, h4⟩, h5⟩, h6⟩ := hok
  refine wp_region_any hm ?_
  let K : Fr -> Heap -> Prop := fun f h => ∃ g, feq g f /\ Q .normal g h
  have hK : Closed K := fun f g h hfg ⟨k, hk, hq⟩ => ⟨k, hk.trans hfg, hq⟩
  have hu : ∀ x y, x ∈ canon -> y ∈ canon -> x.1 = y.1 -> x = y := by
    intro x y hx hy e
    obtain ⟨l1, l2, rfl⟩ := List.append_of_mem hx
    obtain ⟨hp1, hp2, _⟩ := pairsOKF_spec h1
    rcases List.mem_append.1 hy with hy | hy
    · have := hp1 y hy
      unfold pairOKF at this
      split at this
      · simp [e] at this
      · cases this
    · rcases List.mem_cons.1 hy with rfl | hy
      · rfl
      · have := hp2 y hy
        unfold pairOKF at this
        split at this
        · simp [e] at this
        · cases this
  have hv : vF P N ops fs K ops.size canon fr H := by
    refine vT_vF t ops.size canon fr H (by omega) hu h6 ?_
    have weak : ∀ (t : Tree) (fr : Fr) (H : Heap), vT P N ops (Q .normal) t fr H -> vT P N ops K t fr H := by
      intro t
      induction t with
      | nil => exact fun fr H h => ⟨fr, feq.rfl' _, h⟩
      | one i fl t ih =>
        intro fr H h
        simp only [vT] at h ⊢
        split at h
        · exact h
        · rename_i o ho
          cases hR : isR o.op with
          | true => simp only [hR] at h ⊢; exact vstep_weak h ih
          | false =>
            simp only [hR] at h ⊢
            refine vstep_weak h ?_
            intro f h' hk
            cases fl with
            | true => exact ⟨hk.1, ih _ _ hk.2⟩
            | false => exact ih _ _ hk
      | two i fl t f t' ih ih' =>
        intro fr H h
        simp only [vT] at h ⊢
        split at h
        · rename_i o o' ho ho'
          refine ⟨vstep_weak h.1 ?_, vstep_weak h.2 fun f h' hk => ⟨hk.1, ih' _ _ hk.2⟩⟩
          intro f h' hk
          cases fl with
          | true => exact ⟨hk.1, ih _ _ hk.2⟩
          | false => exact ih _ _ hk
        · exact h
    exact weak t fr H h
  have hgt : ∀ i, i < ops.size -> (Array.replicate ops.size false).getD i true = false := by
    intro i hi
    simp [Array.getD_eq_getD_getElem?, hi]
  refine drawF_any (B := B) (w0 := w0) hK h2 ops.size (Array.replicate ops.size false) canon fr H ρ w.drew a (by simp) h3 h1 ?_ ?_ ?_ hv hR.drew hF ?_
  · intro x hx
    exact ⟨h4 x hx, hgt x.1 (h4 x hx)⟩
  · intro i hi _
    obtain ⟨x, hx, rfl⟩ := h5 i hi
    exact ⟨x, hx, rfl⟩
  · intro j o hj hl
    rw [Array.getD_eq_getD_getElem?, Array.getElem?_replicate] at hl
    split at hl <;> simp at hl
  · rintro ρ' fr' H' a' w' hp ⟨g, hg, hq⟩ hR' hF'
    exact ⟨ρ', g, H', hp, hR', hF'.feq hg.symm, hq⟩

/-! The words of such a tree, for simp. -/

def vTK (P : Program) (N : Nat) (ops : Array Oper) (K : Fr -> Heap -> Prop) (t : Tree) (fr : Fr) (H : Heap) : Prop := vT P N ops K t fr H
def eTK (P : Program) (N : Nat) (ops : Array Oper) (K : Fr -> Heap -> Prop) (t : Tree) (fl : Bool) (H : Heap) (fr : Fr) (H' : Heap) : Prop :=
  match fl with
  | true => andK (H <+: H') (vT P N ops K t fr H')
  | false => vT P N ops K t fr H'
def vTo (P : Program) (N : Nat) (ops : Array Oper) (K : Fr -> Heap -> Prop) (t : Tree) (fl : Bool) (fr : Fr) (H : Heap) (o : Oper) : Prop :=
  match isR o.op with
  | true => vstep P N ops o (vTK P N ops K t) fr H
  | false => vstep P N ops o (eTK P N ops K t fl H) fr H
def vTe (P : Program) (N : Nat) (ops : Array Oper) (K : Fr -> Heap -> Prop) (t : Tree) (fl : Bool) (fr : Fr) (H : Heap) (o : Oper) : Prop := vstep P N ops o (eTK P N ops K t fl H) fr H

theorem vT_nil (K : Fr -> Heap -> Prop) (fr : Fr) (H : Heap) : vT P N ops K .nil fr H = K fr H := rfl
theorem eTK_eq (K : Fr -> Heap -> Prop) (t : Tree) (fl : Bool) (H : Heap) : eK fl H (vT P N ops K t) = eTK P N ops K t fl H := by
  funext f h
  cases fl <;> rfl
theorem vT_one (K : Fr -> Heap -> Prop) (i : Nat) (fl : Bool) (t : Tree) (fr : Fr) (H : Heap) : vT P N ops K (.one i fl t) fr H = bindO ops[i]? (vTo P N ops K t fl fr H) := by
  simp only [vT]
  cases ops[i]? with
  | none => simp [bindO]
  | some o =>
    simp only [bindO_some, vTo]
    cases isR o.op with
    | true => rfl
    | false => simp only [eTK_eq]
theorem vT_two {i : Nat} {fl : Bool} {t : Tree} {f : Nat} {t' : Tree} {K : Fr -> Heap -> Prop} {fr : Fr} {H : Heap} (h1 : bindO ops[i]? (vTe P N ops K t fl fr H)) (h2 : bindO ops[f]? (vTe P N ops K t' true fr H)) : vT P N ops K (.two i fl t f t') fr H := by
  simp only [vT]
  cases ho : ops[i]? with
  | none => simp [ho, bindO] at h1
  | some o =>
    cases ho' : ops[f]? with
    | none => simp [ho', bindO] at h2
    | some o' =>
      simp only [ho, ho', bindO_some, vTe] at h1 h2 ⊢
      exact ⟨by rw [eTK_eq]; exact h1, by rw [eTK_eq]; exact h2⟩

attribute [go_sem] vTK eTK vTo vTe vT_nil vT_one

end
end Go.Ab
end
