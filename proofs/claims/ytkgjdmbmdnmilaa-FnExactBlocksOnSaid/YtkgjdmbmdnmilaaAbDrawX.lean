/- Regions whose order is open, where old blocks alone are read: what stands from L on may be changed. No statement of the seat is proved here; it holds for every program. -/
import Derived.Test.YtkgjdmbmdnmilaaAbDraw
set_option linter.all false
namespace Go.Ab
open Go.RowKit (Below)

/-- The block that a value leads to. -/
def blkOf : Value → Option Nat
  | .pointer (some ⟨i, _, _⟩) => some i
  | .slice (some ⟨i, _, _⟩) _ _ => some i
  | _ => none
/-- The block that an operation may read. -/
def rdBlk (o : Op) (fr : Fr) : Option Nat :=
  match o with
  | .load _ x => (ev fr x).bind blkOf
  | .convert _ _ x => (ev fr x).bind blkOf
  | .slice _ x _ _ _ => (ev fr x).bind blkOf
  | _ => none
theorem rdBlk_none {o : Op} {fr : Fr} (h : readsH o = false) : rdBlk o fr = none := by
  cases o <;> first | rfl | simp [readsH] at h
theorem rdBlk_congr {o : Op} {fr fr' : Fr} (h : ∀ x, ev fr x = ev fr' x) : rdBlk o fr = rdBlk o fr' := by
  cases o <;> simp [rdBlk, h]
theorem rdBlk_agree {o : Op} {fr fr' : Fr} (h : agree o fr fr') : rdBlk o fr' = rdBlk o fr := by
  cases o <;> first | rfl | skip
  case load t x => simp only [rdBlk]; rw [h x (by simp [Op.operands])]
  case convert s t x => simp only [rdBlk]; rw [h x (by simp [Op.operands])]
  case slice t x lo hi mx => simp only [rdBlk]; rw [h x (by simp [Op.operands])]

def offL (L : Nat) (o : Op) (fr : Fr) : Prop := ∀ i, rdBlk o fr = some i → i < L
theorem offL_congr {L : Nat} {o : Op} {fr fr' : Fr} (h : ∀ x, ev fr' x = ev fr x) (hoff : offL L o fr) : offL L o fr' := fun i hi => hoff i (by rw [← hi]; exact rdBlk_congr fun x => (h x).symm)
theorem offL_agree {L : Nat} {o : Op} {fr fr' : Fr} (h : agree o fr fr') (hoff : offL L o fr) : offL L o fr' := fun i hi => hoff i (by rw [← hi]; exact (rdBlk_agree h).symm)
/-- The blocks ahead of L stay. -/
def KeepL (L : Nat) (H h : Heap) : Prop := ∀ i, i < L → h[i]? = H[i]?

theorem cellsAt_at {H H' : Heap} {i o n : Nat} {cs : List Value} (h : ∀ b : Blk, H[i]? = some b → H'[i]? = some b) (hc : cellsAt H i o n = some cs) : cellsAt H' i o n = some cs := by
  obtain ⟨b, hb, hl, hn, rfl⟩ := cellsAt_inv hc
  exact cellsAt_of (h b hb) hl hn
theorem srcCells_at {H H' : Heap} {e : Nat} {v : Value} {cs : List Value} (h : ∀ i, blkOf v = some i → ∀ b : Blk, H[i]? = some b → H'[i]? = some b) (hc : srcCells H e v = some cs) : srcCells H' e v = some cs := by
  unfold srcCells at hc ⊢
  split at hc
  · exact hc
  · split at hc
    · rename_i hn; rw [if_pos hn]; exact hc
    · rename_i hn; rw [if_neg hn]; exact cellsAt_at (h _ rfl) hc
  · cases hc
theorem sliceV_at {H H' : Heap} {e : Nat} {v v' : Value} {lo hi : Nat} (h : ∀ i, blkOf v = some i → ∀ b : Blk, H[i]? = some b → H'[i]? = some b) (hc : sliceV H e v lo hi = some v') : sliceV H' e v lo hi = some v' := by
  unfold sliceV at hc ⊢
  split at hc
  · exact hc
  · exact hc
  · split at hc
    · rename_i hc1; rw [if_pos hc1]; exact hc
    · rename_i hc1
      rw [if_neg hc1]
      split at hc
      · rename_i hc2
        obtain ⟨cs, hcs⟩ := Option.isSome_iff_exists.1 hc2.2.2.2
        rw [if_pos ⟨hc2.1, hc2.2.1, hc2.2.2.1, by rw [cellsAt_at (h _ rfl) hcs]; rfl⟩]; exact hc
      · cases hc
  · cases hc

section
variable {P : Program} {N : Nat} {o : Oper} {fr fr' : Fr} {H : Heap} {K : Fr → Heap → Prop}

theorem vop_RX (hR : isR o.op = true) (h : vop P N o fr H K) :
    ∃ v, dstB N o.dst = true ∧ K (fr.put o.dst v) H ∧ ∀ (fr' : Fr) (H' : Heap) (K' : Fr → Heap → Prop), agree o.op fr fr' → (∀ i, rdBlk o.op fr = some i → ∀ b : Blk, H[i]? = some b → H'[i]? = some b) → K' (fr'.put o.dst v) H' → vop P N o fr' H' K' := by
  unfold vop at h
  unfold vop agree
  split at h
  case h_1 x ho => obtain ⟨v, h1, h2, h3⟩ := h; rw [ho]; exact ⟨v, h2, h3, fun fr' H' K' ha _ hk => ⟨v, agree1 ha (by simp [Op.operands]) h1, h2, hk⟩⟩
  case h_2 x ho => obtain ⟨v, h1, h2, h3⟩ := h; rw [ho]; exact ⟨v, h2, h3, fun fr' H' K' ha _ hk => ⟨v, agree1 ha (by simp [Op.operands]) h1, h2, hk⟩⟩
  case h_3 c x y ho =>
    obtain ⟨v, h1, h⟩ := h
    unfold pickC at h
    split at h
    · rename_i b
      obtain ⟨v, h2, h3, h4⟩ := h
      rw [ho]
      refine ⟨v, h3, h4, fun fr' H' K' ha _ hk => ⟨.bool b, agree1 ha (by simp [Op.operands]) h1, v, ?_, h3, hk⟩⟩
      cases b
      · rw [show (bif false then x else y) = y from rfl, ha y (by simp [Op.operands])]; exact h2
      · rw [show (bif true then x else y) = x from rfl, ha x (by simp [Op.operands])]; exact h2
    · exact h.elim
  case h_4 t ho => simp [ho, isR] at hR
  case h_5 t x ho => simp [ho, isR] at hR
  case h_6 t x ho =>
    obtain ⟨p, h1, h⟩ := h
    unfold loadC at h
    split at h
    · obtain ⟨τ, h2, cs, h3, v, h4, h5, h6⟩ := h
      rw [ho]
      exact ⟨v, h5, h6, fun fr' H' K' ha hh hk => ⟨_, agree1 ha (by simp [Op.operands]) h1, τ, h2, cs, cellsAt_at (hh _ (by simp [rdBlk, h1, blkOf])) h3, v, h4, h5, hk⟩⟩
    · exact h.elim
  case h_7 t x y ho => simp [ho, isR] at hR
  case h_8 x ho =>
    obtain ⟨p, h1, h⟩ := h
    unfold nilC at h
    rw [ho]
    split at h
    · obtain ⟨h2, h3⟩ := h; exact ⟨_, h2, h3, fun fr' H' K' ha _ hk => ⟨_, agree1 ha (by simp [Op.operands]) h1, h2, hk⟩⟩
    · obtain ⟨h2, h3⟩ := h; exact ⟨_, h2, h3, fun fr' H' K' ha _ hk => ⟨_, agree1 ha (by simp [Op.operands]) h1, h2, hk⟩⟩
    · exact h.elim
  case h_9 op ty x y ty' ho =>
    obtain ⟨vx, h1, vy, h2, h⟩ := h
    unfold binC2 at h
    rw [ho]
    split at h
    · split at h
      · obtain ⟨d, h3, h⟩ := h
        unfold eqNilC at h
        split at h
        · split at h
          · obtain ⟨hz, h4, h5⟩ := h; exact ⟨_, h4, h5, fun fr' H' K' ha _ hk => ⟨_, agree1 ha (by simp [Op.operands]) h1, _, agree1 ha (by simp [Op.operands]) h2, _, h3, hz, h4, hk⟩⟩
          · obtain ⟨hz, h4, h5⟩ := h; exact ⟨_, h4, h5, fun fr' H' K' ha _ hk => ⟨_, agree1 ha (by simp [Op.operands]) h1, _, agree1 ha (by simp [Op.operands]) h2, _, h3, hz, h4, hk⟩⟩
          · exact h.elim
        · exact h.elim
      · exact h.elim
    · rename_i hne
      obtain ⟨v, ⟨h3, h4⟩, h5⟩ := vbin_det h
      refine ⟨v, h3, h4, fun fr' H' K' ha _ hk => ⟨_, agree1 ha (by simp [Op.operands]) h1, _, agree1 ha (by simp [Op.operands]) h2, ?_⟩⟩
      unfold binC2
      split
      · exact absurd rfl hne
      · exact h5 _ ⟨h3, hk⟩
  case h_10 op ty x ho =>
    obtain ⟨v, h1, h⟩ := h
    unfold unC at h
    rw [ho]
    split at h
    · obtain ⟨h2, h3⟩ := h; exact ⟨_, h2, h3, fun fr' H' K' ha _ hk => ⟨_, agree1 ha (by simp [Op.operands]) h1, h2, hk⟩⟩
    · obtain ⟨h2, h3⟩ := h; exact ⟨_, h2, h3, fun fr' H' K' ha _ hk => ⟨_, agree1 ha (by simp [Op.operands]) h1, h2, hk⟩⟩
    · exact h.elim
  case h_11 s t x ho =>
    obtain ⟨v, h1, h⟩ := h
    unfold convC at h
    rw [ho]
    split at h
    · obtain ⟨d, h2, d', h3, h⟩ := h
      unfold cvI2 at h
      split at h
      · obtain ⟨h4, h5⟩ := h; exact ⟨_, h4, h5, fun fr' H' K' ha _ hk => ⟨_, agree1 ha (by simp [Op.operands]) h1, _, h2, _, h3, h4, hk⟩⟩
      · exact h.elim
    · rename_i hne
      obtain ⟨d, h2, h⟩ := h
      unfold cvS at h
      split at h
      · obtain ⟨⟨h3, h4⟩, cs, h5, bs, h6, h7, h8⟩ := h
        refine ⟨_, h7, h8, fun fr' H' K' ha hh hk => ⟨_, agree1 ha (by simp [Op.operands]) h1, ?_⟩⟩
        unfold convC
        split
        · exact absurd rfl (hne _ _)
        · exact ⟨_, h2, ⟨h3, h4⟩, cs, srcCells_at (fun i hi => hh i (by simp [rdBlk, h1, hi])) h5, bs, h6, h7, hk⟩
      · exact h.elim
  case h_12 fn first captured ho =>
    rw [ho]
    split at h
    · obtain ⟨vs, h1, us, h2, h3, h4⟩ := h
      exact ⟨_, h3, h4, fun fr' H' K' ha _ hk => ⟨vs, by rw [evs_congr (fun x hx => ha x (by simp [Op.operands] at hx ⊢; exact .inl hx))]; exact h1, us, by rw [evs_congr (fun x hx => ha x (by simp [Op.operands] at hx ⊢; exact .inr hx))]; exact h2, h3, hk⟩⟩
    · exact h.elim
  case h_13 t x y ho => simp [ho, isR] at hR
  case h_14 t x lo hi mx ho =>
    rw [ho]
    split at h
    · obtain ⟨v, h1, d, h2, h⟩ := h
      unfold slC1 at h
      have hx : ∀ fr', (∀ y ∈ (Op.slice t x lo hi none).operands, ev fr' y = ev fr y) → ev fr' x = some v := fun fr' ha => agree1 ha (by simp [Op.operands]) h1
      split at h
      · split at h
        · obtain ⟨⟨rfl, rfl, h3⟩, τ, h4, h5, h6⟩ := h
          exact ⟨_, h5, h6, fun fr' H' K' ha _ hk => ⟨_, hx fr' ha, _, h2, ⟨rfl, rfl, h3⟩, τ, h4, h5, hk⟩⟩
        · exact h.elim
      · obtain ⟨τ, h3, l, h4, hh, h5, h6, v', h8, h9, h10⟩ := h
        refine ⟨_, h9, h10, fun fr' H' K' ha hp hk => ⟨_, hx fr' ha, _, h2, τ, h3, l, ?_, hh, ?_, h6, v', sliceV_at (fun i hi => hp i (by simp [rdBlk, h1, hi])) h8, h9, hk⟩⟩
        · rw [boundV_congr (fr := fr) (fun y hy => ha y (by cases lo <;> simp at hy; subst hy; simp [Op.operands]))]; exact h4
        · rw [boundV_congr (fr := fr) (fun y hy => ha y (by cases hi <;> simp at hy; subst hy; simp [Op.operands]))]; exact h5
      · exact h.elim
    · exact h.elim
  case h_15 s x k ho =>
    obtain ⟨d, h1, h⟩ := h
    unfold faC at h
    rw [ho]
    split at h
    · obtain ⟨f, h2, p, h3, h⟩ := h
      unfold faC3 at h
      split at h
      · obtain ⟨τ, h4, h5, h6, h7⟩ := h
        exact ⟨_, h6, h7, fun fr' H' K' ha _ hk => ⟨_, h1, f, h2, _, agree1 ha (by simp [Op.operands]) h3, τ, h4, h5, h6, hk⟩⟩
      · exact h.elim
    · exact h.elim
  case h_16 s x k ho =>
    obtain ⟨d, h1, h⟩ := h
    unfold fiC at h
    rw [ho]
    split at h
    · obtain ⟨f, h2, p, h3, h⟩ := h
      unfold fiC3 at h
      split at h
      · obtain ⟨v, h4, h6, h7⟩ := h
        exact ⟨_, h6, h7, fun fr' H' K' ha _ hk => ⟨_, h1, f, h2, _, agree1 ha (by simp [Op.operands]) h3, v, h4, h6, hk⟩⟩
      · exact h.elim
    · exact h.elim
  case h_17 t x y ho =>
    obtain ⟨vy, h1, h⟩ := h
    unfold iaC at h
    rw [ho]
    split at h
    · obtain ⟨v, h2, d, h3, h⟩ := h
      unfold iaC3 at h
      have hx : ∀ fr', (∀ z ∈ (Op.indexAddr t x y).operands, ev fr' z = ev fr z) → ev fr' x = some v := fun fr' ha => by rw [ha x (by simp [Op.operands])]; exact h2
      have hy : ∀ fr', (∀ z ∈ (Op.indexAddr t x y).operands, ev fr' z = ev fr z) → ev fr' y = some _ := fun fr' ha => by rw [ha y (by simp [Op.operands])]; exact h1
      split at h
      · split at h
        · obtain ⟨h4, τ, h6, h7, h8⟩ := h; exact ⟨_, h7, h8, fun fr' H' K' ha _ hk => ⟨_, hy fr' ha, _, hx fr' ha, _, h3, h4, τ, h6, h7, hk⟩⟩
        · exact h.elim
      · split at h
        · obtain ⟨h4, τ, h6, h7, h8⟩ := h; exact ⟨_, h7, h8, fun fr' H' K' ha _ hk => ⟨_, hy fr' ha, _, hx fr' ha, _, h3, h4, τ, h6, h7, hk⟩⟩
        · exact h.elim
      · exact h.elim
    · exact h.elim
  case h_18 t x y ho =>
    obtain ⟨vy, h1, h⟩ := h
    unfold ixC at h
    rw [ho]
    split at h
    · obtain ⟨v, h2, d, h3, h⟩ := h
      unfold ixC3 at h
      have hx : ∀ fr', (∀ z ∈ (Op.index t x y).operands, ev fr' z = ev fr z) → ev fr' x = some v := fun fr' ha => by rw [ha x (by simp [Op.operands])]; exact h2
      have hy : ∀ fr', (∀ z ∈ (Op.index t x y).operands, ev fr' z = ev fr z) → ev fr' y = some _ := fun fr' ha => by rw [ha y (by simp [Op.operands])]; exact h1
      split at h
      · split at h
        · obtain ⟨h4, τ, h6, u, h7, h8, h9⟩ := h; exact ⟨_, h8, h9, fun fr' H' K' ha _ hk => ⟨_, hy fr' ha, _, hx fr' ha, _, h3, h4, τ, h6, u, h7, h8, hk⟩⟩
        · exact h.elim
      · split at h
        · obtain ⟨h4, b, h7, h8, h9⟩ := h; exact ⟨_, h8, h9, fun fr' H' K' ha _ hk => ⟨_, hy fr' ha, _, hx fr' ha, _, h3, h4, b, h7, h8, hk⟩⟩
        · exact h.elim
      · exact h.elim
    · exact h.elim
  case h_19 x k ho =>
    obtain ⟨v, h1, h⟩ := h
    unfold exC at h
    rw [ho]
    split at h
    · obtain ⟨v, h2, h3, h4⟩ := h; exact ⟨_, h3, h4, fun fr' H' K' ha _ hk => ⟨_, agree1 ha (by simp [Op.operands]) h1, v, h2, h3, hk⟩⟩
    · exact h.elim
  case h_20 t parts ho =>
    obtain ⟨ps, h1, h2, cells, h3, h4, h5⟩ := h
    rw [ho]
    exact ⟨_, h4, h5, fun fr' H' K' ha _ hk => ⟨ps, by rw [evParts_congr (fun x hx => ha x (by simpa [Op.operands] using hx))]; exact h1, h2, cells, h3, h4, hk⟩⟩
  case h_21 t len parts ho => simp [ho, isR] at hR
  case h_22 c ho =>
    obtain ⟨callee, ⟨args⟩, ⟨argTypes⟩⟩ := c
    rw [ho] at hR ⊢
    simp only at h hR ⊢
    split at h
    · simp [isR] at hR
    · split at h
      · rename_i x t
        obtain ⟨v, h1, d, h2, h⟩ := h
        unfold lenC2 at h
        have hx : ∀ fr', (∀ z ∈ (Op.call { callee := .builtin .len, args := ⟨[x]⟩, argTypes := ⟨[t]⟩ }).operands, ev fr' z = ev fr z) → ev fr' x = some v := fun fr' ha => by rw [ha x (by simp [Op.operands, Call.operands])]; exact h1
        split at h
        · split at h
          · obtain ⟨h3, h4⟩ := h; exact ⟨_, h3, h4, fun fr' H' K' ha _ hk => ⟨_, hx fr' ha, _, h2, h3, hk⟩⟩
          · exact h.elim
        · split at h
          · obtain ⟨h3, h4⟩ := h; exact ⟨_, h3, h4, fun fr' H' K' ha _ hk => ⟨_, hx fr' ha, _, h2, h3, hk⟩⟩
          · exact h.elim
        · exact h.elim
      · exact h.elim
    · split at h
      · rename_i x t
        obtain ⟨v, h1, d, h2, h⟩ := h
        unfold capC2 at h
        have hx : ∀ fr', (∀ z ∈ (Op.call { callee := .builtin .cap, args := ⟨[x]⟩, argTypes := ⟨[t]⟩ }).operands, ev fr' z = ev fr z) → ev fr' x = some v := fun fr' ha => by rw [ha x (by simp [Op.operands, Call.operands])]; exact h1
        split at h
        · split at h
          · obtain ⟨h3, h4⟩ := h; exact ⟨_, h3, h4, fun fr' H' K' ha _ hk => ⟨_, hx fr' ha, _, h2, h3, hk⟩⟩
          · exact h.elim
        · exact h.elim
      · exact h.elim
    · obtain ⟨vs, h1, h⟩ := h
      have hx : ∀ fr', (∀ z ∈ (Op.call { callee := .builtin .min, args := ⟨args⟩, argTypes := ⟨argTypes⟩ }).operands, ev fr' z = ev fr z) → evs fr' args = some vs := fun fr' ha => by rw [evs_congr (fun x hx => ha x (by simpa [Op.operands, Call.operands] using hx))]; exact h1
      unfold minC at h
      split at h
      · obtain ⟨h2, h3⟩ := h; exact ⟨_, h2, h3, fun fr' H' K' ha _ hk => ⟨_, hx fr' ha, h2, hk⟩⟩
      · obtain ⟨h2, h3⟩ := h; exact ⟨_, h2, h3, fun fr' H' K' ha _ hk => ⟨_, hx fr' ha, h2, hk⟩⟩
      · exact h.elim
    · obtain ⟨vs, h1, h⟩ := h
      have hx : ∀ fr', (∀ z ∈ (Op.call { callee := .builtin .max, args := ⟨args⟩, argTypes := ⟨argTypes⟩ }).operands, ev fr' z = ev fr z) → evs fr' args = some vs := fun fr' ha => by rw [evs_congr (fun x hx => ha x (by simpa [Op.operands, Call.operands] using hx))]; exact h1
      unfold maxC at h
      split at h
      · obtain ⟨h2, h3⟩ := h; exact ⟨_, h2, h3, fun fr' H' K' ha _ hk => ⟨_, hx fr' ha, h2, hk⟩⟩
      · obtain ⟨h2, h3⟩ := h; exact ⟨_, h2, h3, fun fr' H' K' ha _ hk => ⟨_, hx fr' ha, h2, hk⟩⟩
      · exact h.elim
    · simp [isR] at hR
    · simp [isR] at hR
    · exact h.elim
  case h_23 => exact h.elim

/-- Of the frame an operation looks at its operands alone. -/
theorem vstep_RX {ops : Array Oper} (hR : isR o.op = true) (hK : Closed K) (h : vstep P N ops o K fr H) :
    ∃ v, K (fr.put o.dst v) H ∧ ∀ (fr' : Fr) (H' : Heap) (K' : Fr → Heap → Prop), Closed K' → agreeG ops o fr fr' → (∀ i, rdBlk o.op fr = some i → ∀ b : Blk, H[i]? = some b → H'[i]? = some b) → K' (fr'.put o.dst v) H' → vstep P N ops o K' fr' H' := by
  unfold vstep at h ⊢
  cases hg : o.guard with
  | none =>
    simp only [hg] at h ⊢
    obtain ⟨v, h1, h2, h3⟩ := vop_RX hR h
    exact ⟨v, h2, fun fr' H' K' _ ha hh hk => h3 fr' H' K' ha.agree hh hk⟩
  | some jw =>
    obtain ⟨j, want⟩ := jw
    simp only [hg] at h ⊢
    obtain ⟨t, ht, hN, u, hu, h⟩ := h
    have hl : t ∈ looks ops o := by simp [looks, hg, ht]
    have hget : ∀ fr', agreeG ops o fr fr' → Fr.get fr' t = some u := fun fr' ha => by rw [ha t hl]; exact hu
    unfold guardC2 at h
    split at h
    · rename_i b
      by_cases hb : b = want
      · obtain ⟨v, h1, h2, h3⟩ := vop_RX hR (h.1 (by simpa using hb))
        subst hb
        refine ⟨v, hK _ _ _ (feq.put (get_set_same hu) _ _) h2, fun fr' H' K' hK' ha hh hk => ⟨t, ht, hN, .bool b, hget fr' ha, ?_⟩⟩
        refine ⟨fun _ => h3 _ H' K' ?_ (fun i hi => hh i (by rw [← hi]; exact rdBlk_congr fun x => feq.ev (get_set_same hu) x)) (hK' _ _ _ (feq.put (feq.symm (get_set_same (hget fr' ha))) _ _) hk), fun e => by simp at e⟩
        intro x hx
        rw [feq.ev (feq.symm (get_set_same (hget fr' ha))) x, ha.agree x hx, feq.ev (get_set_same hu) x]
      · have hb2 : b = !want := by cases b <;> cases want <;> simp_all
        obtain ⟨h1, h2⟩ := h.2 (by simpa using hb)
        subst hb2
        refine ⟨undef, hK _ _ _ (feq.put (get_set_same hu) _ _) h2, fun fr' H' K' hK' ha hh hk => ⟨t, ht, hN, .bool _, hget fr' ha, ?_⟩⟩
        exact ⟨fun e => absurd (by simpa using e) hb, fun _ => ⟨h1, hK' _ _ _ (feq.put (feq.symm (get_set_same (hget fr' ha))) _ _) hk⟩⟩
    · rename_i hnb
      obtain ⟨h1, h2⟩ := h
      refine ⟨undef, h2, fun fr' H' K' _ ha hh hk => ⟨t, ht, hN, u, hget fr' ha, ?_⟩⟩
      unfold guardC2
      split
      · exact absurd rfl (hnb _)
      · exact ⟨h1, hk⟩

end

def eKX (L : Nat) (fl : Bool) (H : Heap) (k : Fr → Heap → Prop) (f : Fr) (h : Heap) : Prop :=
  match fl with
  | true => andK (KeepL L H h) (k f h)
  | false => k f h

def vEX (P : Program) (N : Nat) (ops : Array Oper) (L : Nat) (K : Fr → Heap → Prop) : List (Nat × Bool) → Fr → Heap → Prop
  | [], fr, H => K fr H
  | (i, fl) :: l, fr, H => match ops[i]? with
    | none => False
    | some o => match isR o.op with
      | true => offL L o.op fr ∧ vstep P N ops o (vEX P N ops L K l) fr H
      | false => vstep P N ops o (eKX L fl H (vEX P N ops L K l)) fr H

section
variable {P : Program} {N : Nat} {ops : Array Oper} {L : Nat} {K : Fr → Heap → Prop}

theorem vEX_closed (hK : Closed K) : ∀ l, Closed (vEX P N ops L K l)
  | [] => hK
  | (i, fl) :: l => by
    intro f g H hfg h
    have ih := vEX_closed hK l
    simp only [vEX] at h ⊢
    split at h
    · exact h.elim
    · rename_i o ho
      cases hR : isR o.op with
      | true =>
        simp only [hR] at h ⊢
        obtain ⟨hoff, h⟩ := h
        obtain ⟨v, h1, h2⟩ := vstep_RX hR ih h
        exact ⟨offL_congr (fun x => feq.ev hfg x) hoff, h2 g H _ ih (agreeG.of_feq hfg) (fun _ _ _ h => h) (ih _ _ _ (hfg.put _ _) h1)⟩
      | false =>
        simp only [hR] at h ⊢
        have hc : Closed (eKX L fl H (vEX P N ops L K l)) := by
          intro f g h' hfg hk
          cases fl with
          | true => exact ⟨hk.1, ih _ _ _ hfg hk.2⟩
          | false => exact ih _ _ _ hfg hk
        refine vstep_weak (vstep_E hc h (agreeG.of_feq hfg)) ?_
        rintro f' h' ⟨v, h1, h2⟩
        exact hc _ _ _ ((hfg.put _ _).trans h1) h2

def relX (L : Nat) (o : Oper) (fl : Bool) (H h : Heap) : Prop := (isR o.op = true ∨ fl = true) → KeepL L H h

theorem vEX_head (hK : Closed K) {i : Nat} {fl : Bool} {l : List (Nat × Bool)} {fr : Fr} {H : Heap} {o : Oper} (ho : ops[i]? = some o) (h : vEX P N ops L K ((i, fl) :: l) fr H) :
    vstep P N ops o (fun f h => relX L o fl H h ∧ vEX P N ops L K l f h) fr H := by
  simp only [vEX, ho] at h
  cases hR : isR o.op with
  | true =>
    simp only [hR] at h
    obtain ⟨_, h⟩ := h
    obtain ⟨v, h1, h2⟩ := vstep_RX hR (vEX_closed hK l) h
    refine h2 fr H _ ?_ (fun _ _ => rfl) (fun _ _ _ h => h) ⟨fun _ _ _ => rfl, h1⟩
    intro f g h hfg hk
    exact ⟨hk.1, vEX_closed hK l _ _ _ hfg hk.2⟩
  | false =>
    simp only [hR] at h
    refine vstep_weak h ?_
    intro f h' hk
    cases fl with
    | true => exact ⟨fun _ => hk.1, hk.2⟩
    | false => exact ⟨fun e => by simp [hR] at e, hk⟩

/-- An operation that hangs on none of those ahead of it comes first. -/
theorem vEX_front (hK : Closed K) {i : Nat} {fl : Bool} {l2 : List (Nat × Bool)} {o : Oper} (ho : ops[i]? = some o) : ∀ (l1 : List (Nat × Bool)) (fr : Fr) (H : Heap),
    (∀ x ∈ l1, ∃ p, ops[x.1]? = some p ∧ isR p.op = true ∧ indep ops p o = true ∧ (readsH p.op = true → isR o.op = true ∨ fl = true)) →
    vEX P N ops L K (l1 ++ (i, fl) :: l2) fr H → vstep P N ops o (fun f h => relX L o fl H h ∧ vEX P N ops L K (l1 ++ l2) f h) fr H
  | [], fr, H, _, h => vEX_head hK ho h
  | (j, fj) :: l1, fr, H, hl, h => by
    obtain ⟨p, hp, hR, hin, hrd⟩ := hl (j, fj) (by simp)
    simp only [List.cons_append, vEX, hp, hR] at h ⊢
    have hc1 := vEX_closed (P := P) (N := N) (ops := ops) (L := L) hK (l1 ++ (i, fl) :: l2)
    have hc2 := vEX_closed (P := P) (N := N) (ops := ops) (L := L) hK (l1 ++ l2)
    obtain ⟨hoff, h⟩ := h
    obtain ⟨v, h1, h2⟩ := vstep_RX hR hc1 h
    have ih := vEX_front hK ho l1 (fr.put p.dst v) H (fun x hx => hl x (by simp [hx])) h1
    obtain ⟨i1, i2, i3⟩ := indep_spec hin
    have hcK : Closed (fun f h => relX L o fl H h ∧ vEX P N ops L K (l1 ++ l2) f h) := fun f g h hfg hk => ⟨hk.1, hc2 _ _ _ hfg hk.2⟩
    have hag : agreeG ops o (fr.put p.dst v) fr := agreeG.symm (agreeG.put i1)
    refine vstep_weak (vstep_E hcK ih hag) ?_
    rintro f h' ⟨u, hf, hrel, hv⟩
    refine ⟨hrel, ?_⟩
    have hvE : offL L p.op (fr.put o.dst u) ∧ vstep P N ops p (vEX P N ops L K (l1 ++ l2)) (fr.put o.dst u) h' := by
      refine ⟨offL_agree (agreeG.put i2).agree hoff, ?_⟩
      refine h2 (fr.put o.dst u) h' _ hc2 (agreeG.put i2) (fun i hi b hb => ?_) ?_
      · rw [hrel (hrd (by cases hr : readsH p.op with | true => rfl | false => rw [rdBlk_none hr] at hi; cases hi)) i (hoff i hi), hb]
      exact hc2 _ _ _ (put_comm fr i3 v u) hv
    have hfin := vEX_closed (P := P) (N := N) (ops := ops) (L := L) hK ((j, fj) :: (l1 ++ l2)) (fr.put o.dst u) f h' hf (by simp only [vEX, hp, hR]; exact hvE)
    simpa only [vEX, hp, hR] using hfin

theorem draw_anyX {B : Nat} {w0 : World} {Q : Exit → Act → World → Prop} (hK : Closed K) (hedge : edgesOK ops = true) : ∀ (n : Nat) (listed : Array Bool) (l : List (Nat × Bool)) (fr : Fr) (H : Heap) (ρ : Rho) (w : World) (a : Act),
    listed.size = ops.size → l.length = n → pairsOK ops (masksGo ops.toList []) l = true → (∀ x ∈ l, x.1 < ops.size ∧ listed.getD x.1 true = false) → (∀ i, i < ops.size → listed.getD i true = false → ∃ x ∈ l, x.1 = i) →
    (∀ (j : Nat) (o : Oper), ops[j]? = some o → listed.getD j false = true → ∀ e ∈ o.after.toList, Region.binds .any e = true → listed.getD e.on false = true) →
    vEX P N ops L K l fr H → R B w0 ρ H w → FR N ρ fr a →
    (∀ (ρ' : Rho) (fr' : Fr) (H' : Heap) (a' : Act) (w' : World), ρ <+: ρ' → K fr' H' → R B w0 ρ' H' w' → FR N ρ' fr' a' → Q .normal a' w') → wpAny P .any ops Q n listed a w := by
  intro n
  have getD2 : ∀ (listed : Array Bool) (i : Nat), listed.size = ops.size → i < ops.size → listed.getD i true = listed.getD i false := by
    intro listed i h1 h2
    simp [Array.getD_eq_getD_getElem?, h1, h2]
  induction n with
  | zero =>
    intro listed l fr H ρ w a hsz hl hp hin hall hcl hv hR hF hq
    have : l = [] := List.eq_nil_of_length_eq_zero hl
    subst this
    refine ⟨?_, hq ρ fr H a w (List.prefix_refl _) hv hR hF⟩
    rw [List.eq_nil_iff_forall_not_mem]
    intro i hi
    simp only [Region.ready, List.mem_filter, List.mem_range, Bool.and_eq_true, Bool.not_eq_true'] at hi
    obtain ⟨x, hx, _⟩ := hall i hi.1 hi.2.1
    simp at hx
  | succ n ih =>
    intro listed l fr H ρ w a hsz hl hp hin hall hcl hv hR hF hq
    refine ⟨?_, ?_⟩
    · intro hnil
      exfalso
      match l, hl with
      | (i, fl) :: l, hl =>
        obtain ⟨h1, h2⟩ := hin (i, fl) (by simp)
        have hi : i ∈ Region.ready .any ops listed := by
          simp only [Region.ready, List.mem_filter, List.mem_range, Bool.and_eq_true, Bool.not_eq_true']
          refine ⟨h1, h2, ?_⟩
          rw [Array.getElem?_eq_getElem h1]
          simp only [Option.map_some, Option.getD_some, Array.all_eq_true']
          intro e he
          rw [Bool.or_eq_true, Bool.not_eq_true']
          by_cases hb : Region.binds .any e = true
          · right
            have hedge' := List.all_eq_true.1 hedge i (by simpa using h1)
            simp only [Array.getElem?_eq_getElem h1, List.all_eq_true] at hedge'
            have he' := hedge' e (by simpa using he)
            simp only [hb, Bool.not_true, Bool.false_or, Bool.and_eq_true, decide_eq_true_eq, bne_iff_ne, ne_eq] at he'
            rw [← getD2 listed e.on hsz he'.1]
            cases hg : listed.getD e.on true with
            | true => rfl
            | false =>
              obtain ⟨x, hx, hxe⟩ := hall e.on he'.1 hg
              rcases List.mem_cons.1 hx with rfl | hx
              · exact absurd hxe.symm he'.2
              · have hpo := (pairsOK_spec (l1 := []) hp).2.1 x hx
                have hx1 := (hin x (by simp [hx])).1
                simp only [pairOK, Array.getElem?_eq_getElem h1, Array.getElem?_eq_getElem hx1, Bool.and_eq_true, Bool.not_eq_true'] at hpo
                have hd := hpo.1.1
                simp only [directTo, List.any_eq_false, Bool.and_eq_true, beq_iff_eq, not_and] at hd
                exact absurd hxe.symm (hd e (by simpa using he) hb)
          · left; simpa using hb
        rw [hnil] at hi
        simp at hi
    · intro i hi
      simp only [Region.ready, List.mem_filter, List.mem_range, Bool.and_eq_true, Bool.not_eq_true'] at hi
      obtain ⟨hilt, hnl, hrdy⟩ := hi
      rw [Array.getElem?_eq_getElem hilt] at hrdy
      simp only [Option.map_some, Option.getD_some, Array.all_eq_true'] at hrdy
      have ho : ops[i]? = some ops[i] := Array.getElem?_eq_getElem hilt
      obtain ⟨x, hx, hxi⟩ := hall i hilt hnl
      obtain ⟨l1, l2, rfl⟩ := List.append_of_mem hx
      obtain ⟨i', fl⟩ := x
      simp only at hxi
      subst hxi
      obtain ⟨hp1, hp2, hp3⟩ := pairsOK_spec hp
      have hpre : ∀ e ∈ (ops[i']).after.toList, Region.binds .any e = true → listed.getD e.on false = true := by
        intro e he hb
        have := hrdy e (by simpa using he)
        simpa [hb] using this
      have hdep : ∀ y ∈ l1, ¬ ((masksGo ops.toList []).getD i' 0).testBit y.1 = true := by
        intro y hy hb
        have := masks_sound (ops := ops) (fun j => listed.getD j false = true) hcl ops.toList [] (fun j _ => by simp) (fun j o p hj => by simp at hj) i' _ y.1 ho hb hpre
        obtain ⟨hy1, hy2⟩ := hin y (by simp [hy])
        rw [getD2 listed y.1 hsz hy1] at hy2
        rw [hy2] at this; cases this
      have hl1 : ∀ y ∈ l1, ∃ p, ops[y.1]? = some p ∧ isR p.op = true ∧ indep ops p ops[i'] = true ∧ (readsH p.op = true → isR (ops[i']).op = true ∨ fl = true) := by
        intro y hy
        have hy1 := (hin y (by simp [hy])).1
        have hpo := hp1 y hy
        have hd := hdep y hy
        refine ⟨ops[y.1], Array.getElem?_eq_getElem hy1, ?_⟩
        simp only [pairOK, Array.getElem?_eq_getElem hy1, ho, Bool.and_eq_true] at hpo
        have hpo2 := hpo.2
        simp only [Bool.not_eq_true] at hd
        cases hRp : isR (ops[y.1]).op with
        | false => simp only [hRp] at hpo2; rw [hd] at hpo2; cases hpo2
        | true =>
          simp only [hRp, hd, Bool.false_or, Bool.or_false, Bool.and_eq_true, Bool.or_eq_true, Bool.not_eq_true'] at hpo2
          refine ⟨rfl, hpo2.1, fun hr => ?_⟩
          rcases hpo2.2 with (h | h) | h
          · exact .inl h
          · exact .inr h
          · rw [hr] at h; cases h
      have hstep := vEX_front hK ho l1 fr H hl1 hv
      unfold wpOp
      rw [ho]
      have hnd : ∀ y ∈ l1 ++ l2, y.1 ≠ i' := by
        intro y hy e
        rcases List.mem_append.1 hy with hy | hy
        · have hpo := hp1 y hy
          have hy1 := (hin y (by simp [hy])).1
          simp [pairOK, Array.getElem?_eq_getElem hy1, ho, e] at hpo
        · have hpo := hp2 y hy
          have hy1 := (hin y (by simp [hy])).1
          simp [pairOK, Array.getElem?_eq_getElem hy1, ho, e] at hpo
      refine vstep_sound hstep hR hF Q ?_
      rintro ρ' fr' H' a' w' hpre' ⟨_, hv'⟩ hR' hF'
      refine ih (listed.setIfInBounds i' true) (l1 ++ l2) fr' H' ρ' w' a' (by simpa using hsz) (by simp at hl ⊢; omega) hp3 ?_ ?_ ?_ hv' hR' hF' (fun ρ'' f'' H'' a'' w'' h1 => hq ρ'' f'' H'' a'' w'' (hpre'.trans h1))
      · intro y hy
        have hne := hnd y hy
        obtain ⟨h1, h2⟩ := hin y (by rcases List.mem_append.1 hy with hy | hy <;> simp [hy])
        exact ⟨h1, by rw [getD_set_ne _ (fun e => hne e.symm)]; exact h2⟩
      · intro j hj hnj
        by_cases e : i' = j
        · subst e
          exfalso
          have : (listed.setIfInBounds i' true).getD i' true = true := by simp [Array.getD_eq_getD_getElem?]
          rw [this] at hnj; cases hnj
        · rw [getD_set_ne _ e] at hnj
          obtain ⟨y, hy, rfl⟩ := hall j hj hnj
          refine ⟨y, ?_, rfl⟩
          rcases List.mem_append.1 hy with hy | hy
          · simp [hy]
          · rcases List.mem_cons.1 hy with rfl | hy
            · exact absurd rfl e
            · simp [hy]
      · intro j o hj hlj e he hb
        by_cases e' : i' = j
        · subst e'
          rw [ho] at hj; cases hj
          exact getD_set_true (hpre e he hb)
        · rw [getD_set_ne _ e'] at hlj
          exact getD_set_true (hcl j o hj hlj e he hb)

/-- A region whose order is open: one order is enough. -/
theorem AWp.drawX (L : Nat) {id : Nat} {fr : Fr} {H : Heap} {Q : Exit → Fr → Heap → Prop} (hm : P.follows .mixedOrders = true) (canon : List (Nat × Bool)) (hok : drawOK ops canon = true) (h : vEX P N ops L (Q .normal) canon fr H) : AWp P N (.region id ops true) Q fr H := by
  intro B w0 ρ w a hR hF
  simp only [drawOK, Bool.and_eq_true, decide_eq_true_eq, List.all_eq_true, List.mem_range, List.contains_iff_mem, List.mem_map] at hok
  obtain ⟨⟨⟨⟨h1, h2⟩, h3⟩, h4⟩, h5⟩ := hok
  refine wp_region_any hm ?_
  let K : Fr → Heap → Prop := fun f h => ∃ g, feq g f ∧ Q .normal g h
  have hK : Closed K := fun f g h hfg ⟨k, hk, hq⟩ => ⟨k, hk.trans hfg, hq⟩
  have hv : vEX P N ops L K canon fr H := by
    have weak : ∀ (l : List (Nat × Bool)) (fr : Fr) (H : Heap), vEX P N ops L (Q .normal) l fr H → vEX P N ops L K l fr H := by
      intro l
      induction l with
      | nil => exact fun fr H h => ⟨fr, feq.rfl' _, h⟩
      | cons x l ih =>
        obtain ⟨i, fl⟩ := x
        intro fr H h
        simp only [vEX] at h ⊢
        split at h
        · exact h
        · rename_i o ho
          cases hR : isR o.op with
          | true => simp only [hR] at h ⊢; exact ⟨h.1, vstep_weak h.2 ih⟩
          | false =>
            simp only [hR] at h ⊢
            refine vstep_weak h ?_
            intro f h' hk
            cases fl with
            | true => exact ⟨hk.1, ih _ _ hk.2⟩
            | false => exact ih _ _ hk
    exact weak canon fr H h
  have hgt : ∀ i, i < ops.size → (Array.replicate ops.size false).getD i true = false := by
    intro i hi
    simp [Array.getD_eq_getD_getElem?, hi]
  refine draw_anyX (B := B) (w0 := w0) hK h2 ops.size (Array.replicate ops.size false) canon fr H ρ w.drew a (by simp) h3 h1 ?_ ?_ ?_ hv hR.drew hF ?_
  · intro x hx
    exact ⟨h4 x hx, hgt x.1 (h4 x hx)⟩
  · intro i hi _
    obtain ⟨x, hx, rfl⟩ := h5 i hi
    exact ⟨x, hx, rfl⟩
  · intro j o hj hl
    rw [Array.getD_eq_getD_getElem?, Array.getElem?_replicate] at hl
    split at hl <;> simp at hl
  · rintro ρ' fr' H' a' w' hp ⟨g, hg, hq⟩ hR' hF'
    exact ⟨ρ', g, H', hp, hR', hF'.feq hg.symm, hq⟩

/-! The words of such an order, for simp. -/

def vEXK (P : Program) (N : Nat) (ops : Array Oper) (L : Nat) (K : Fr → Heap → Prop) (l : List (Nat × Bool)) (fr : Fr) (H : Heap) : Prop := vEX P N ops L K l fr H
def eKXK (P : Program) (N : Nat) (ops : Array Oper) (L : Nat) (K : Fr → Heap → Prop) (l : List (Nat × Bool)) (fl : Bool) (H : Heap) (fr : Fr) (H' : Heap) : Prop :=
  match fl with
  | true => andK (KeepL L H H') (vEX P N ops L K l fr H')
  | false => vEX P N ops L K l fr H'
def offB (L : Nat) (o : Op) (fr : Fr) : Prop := match rdBlk o fr with
  | some i => i < L
  | none => True
theorem offB_iff {L : Nat} {o : Op} {fr : Fr} : offB L o fr = offL L o fr := by
  unfold offB offL
  cases rdBlk o fr with
  | none => simp
  | some i => simp
def vEXo (P : Program) (N : Nat) (ops : Array Oper) (L : Nat) (K : Fr → Heap → Prop) (l : List (Nat × Bool)) (fl : Bool) (fr : Fr) (H : Heap) (o : Oper) : Prop :=
  match isR o.op with
  | true => andK (offB L o.op fr) (vstep P N ops o (vEXK P N ops L K l) fr H)
  | false => vstep P N ops o (eKXK P N ops L K l fl H) fr H

theorem vEX_nil (K : Fr → Heap → Prop) (fr : Fr) (H : Heap) : vEX P N ops L K [] fr H = K fr H := rfl
theorem vEX_cons (K : Fr → Heap → Prop) (i : Nat) (fl : Bool) (l : List (Nat × Bool)) (fr : Fr) (H : Heap) : vEX P N ops L K ((i, fl) :: l) fr H = bindO ops[i]? (vEXo P N ops L K l fl fr H) := by
  have e : eKX L fl H (vEX P N ops L K l) = eKXK P N ops L K l fl H := by
    funext f h
    cases fl <;> rfl
  simp only [vEX]
  cases ops[i]? with
  | none => simp [bindO]
  | some o =>
    simp only [bindO_some, vEXo]
    cases isR o.op with
    | true => rw [offB_iff]; rfl
    | false => simp only [e]

attribute [go_sem] vEXK eKXK vEXo vEX_nil vEX_cons offB rdBlk blkOf

end
end Go.Ab
