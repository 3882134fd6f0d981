/- Part 6 of what the proof of the law FnSquares rests on: contracts of functions of the program, for every argument that each names; no statement of the seat is proved here. -/
import Derived.Test.YtfnegaedkomcgaaFnSquaresPart5

section
/- The same with blocks from L on that are this region's own: they may be changed in between. It holds for every program. -/
set_option linter.all false
namespace Go.Ab
open Go.RowKit (Below)

section
variable {P : Program} {N : Nat} {ops : Array Oper} {L : Nat} {K : Fr → Heap → Prop} {fs : List Nat}

/-- With both ways at each effect. -/
def vFX (P : Program) (N : Nat) (ops : Array Oper) (L : Nat) (fs : List Nat) (K : Fr → Heap → Prop) : Nat → List (Nat × Bool) → Fr → Heap → Prop
  | _, [], fr, H => K fr H
  | 0, _ :: _, _, _ => False
  | n + 1, (i, fl) :: l, fr, H => match ops[i]? with
    | none => False
    | some o => match isR o.op with
      | true => offL L o.op fr ∧ vstep P N ops o (vFX P N ops L fs K n l) fr H
      | false => vstep P N ops o (eKX L fl H (vFX P N ops L fs K n l)) fr H ∧
          ∀ f, f ∈ fs → f ∈ l.map (·.1) → ∃ o', ops[f]? = some o' ∧ isR o'.op = false ∧ vstep P N ops o' (eKX L true H (vFX P N ops L fs K n ((i, fl) :: l.filter fun y => y.1 != f))) fr H

theorem eKX_closed {fl : Bool} {H : Heap} {T : Fr → Heap → Prop} (hT : Closed T) : Closed (eKX L fl H T) := by
  intro f g h' hfg hk
  cases fl with
  | true => exact ⟨hk.1, hT _ _ _ hfg hk.2⟩
  | false => exact hT _ _ _ hfg hk
theorem vFX_closed (hK : Closed K) : ∀ n l, Closed (vFX P N ops L fs K n l)
  | 0, [] => hK
  | n + 1, [] => hK
  | 0, _ :: _ => fun _ _ _ _ h => h
  | n + 1, (i, fl) :: l => by
    intro f g H hfg h
    simp only [vFX] at h ⊢
    split at h
    · exact h.elim
    · rename_i o ho
      cases hR : isR o.op with
      | true => simp only [hR] at h ⊢; exact ⟨offL_congr (fun x => feq.ev hfg x) h.1, vstep_closed (vFX_closed hK n l) hfg h.2⟩
      | false =>
        simp only [hR] at h ⊢
        refine ⟨vstep_closed (eKX_closed (vFX_closed hK n l)) hfg h.1, fun f hf hm => ?_⟩
        obtain ⟨o', h1, h2, h3⟩ := h.2 f hf hm
        exact ⟨o', h1, h2, vstep_closed (eKX_closed (vFX_closed hK n _)) hfg h3⟩

/-- Reads one after the other. -/
def seqRX (P : Program) (N : Nat) (ops : Array Oper) (L : Nat) (T : Fr → Heap → Prop) : List (Nat × Bool) → Fr → Heap → Prop
  | [], fr, H => T fr H
  | (j, _) :: l, fr, H => match ops[j]? with
    | none => False
    | some p => offL L p.op fr ∧ vstep P N ops p (seqRX P N ops L T l) fr H
theorem seqRX_closed {T : Fr → Heap → Prop} (hT : Closed T) : ∀ l, Closed (seqRX P N ops L T l)
  | [] => hT
  | (j, fj) :: l => by
    intro f g H hfg h
    simp only [seqRX] at h ⊢
    split at h
    · exact h.elim
    · exact ⟨offL_congr (fun x => feq.ev hfg x) h.1, vstep_closed (seqRX_closed hT l) hfg h.2⟩
theorem vFX_seqRX {n : Nat} {rest : List (Nat × Bool)} : ∀ (l1 : List (Nat × Bool)) (fr : Fr) (H : Heap), (∀ x ∈ l1, ∃ p, ops[x.1]? = some p ∧ isR p.op = true) →
    (vFX P N ops L fs K (l1.length + n) (l1 ++ rest) fr H ↔ seqRX P N ops L (vFX P N ops L fs K n rest) l1 fr H)
  | [], fr, H, _ => by simp [seqRX]
  | (j, fj) :: l1, fr, H, hl => by
    obtain ⟨p, hp, hR⟩ := hl (j, fj) (by simp)
    have ih := fun fr H => vFX_seqRX (n := n) (rest := rest) l1 fr H fun x hx => hl x (by simp [hx])
    rw [show ((j, fj) :: l1).length + n = (l1.length + n) + 1 by simp; omega]
    simp only [List.cons_append, vFX, seqRX, hp, hR]
    exact ⟨fun h => ⟨h.1, vstep_weak h.2 fun f h => (ih f h).1⟩, fun h => ⟨h.1, vstep_weak h.2 fun f h => (ih f h).2⟩⟩

theorem frontX_gen {o : Oper} {fl : Bool} {T T' : Fr → Heap → Prop} (hT : Closed T) (hT' : Closed T') (hstep : ∀ fr H, T fr H → vstep P N ops o (fun f h => relX L o fl H h ∧ T' f h) fr H) : ∀ (l1 : List (Nat × Bool)) (fr : Fr) (H : Heap),
    (∀ x ∈ l1, ∃ p, ops[x.1]? = some p ∧ isR p.op = true ∧ indep ops p o = true ∧ (readsH p.op = true → isR o.op = true ∨ fl = true)) →
    seqRX P N ops L T l1 fr H → vstep P N ops o (fun f h => relX L o fl H h ∧ seqRX P N ops L T' l1 f h) fr H
  | [], fr, H, _, h => hstep fr H h
  | (j, fj) :: l1, fr, H, hl, h => by
    obtain ⟨p, hp, hR, hin, hrd⟩ := hl (j, fj) (by simp)
    simp only [seqRX, hp] at h ⊢
    have hc1 := seqRX_closed (P := P) (N := N) (ops := ops) (L := L) hT l1
    have hc2 := seqRX_closed (P := P) (N := N) (ops := ops) (L := L) hT' l1
    obtain ⟨hoff, h⟩ := h
    obtain ⟨v, h1, h2⟩ := vstep_RX hR hc1 h
    have ih := frontX_gen hT hT' hstep l1 (fr.put p.dst v) H (fun x hx => hl x (by simp [hx])) h1
    obtain ⟨i1, i2, i3⟩ := indep_spec hin
    have hcK : Closed (fun f h => relX L o fl H h ∧ seqRX P N ops L T' l1 f h) := fun f g h hfg hk => ⟨hk.1, hc2 _ _ _ hfg hk.2⟩
    have hag : agreeG ops o (fr.put p.dst v) fr := agreeG.symm (agreeG.put i1)
    refine vstep_weak (vstep_E hcK ih hag) ?_
    rintro f h' ⟨u, hf, hrel, hv⟩
    have hvE : vstep P N ops p (seqRX P N ops L T' l1) (fr.put o.dst u) h' := by
      refine h2 (fr.put o.dst u) h' _ hc2 (agreeG.put i2) (fun i hi b hb => ?_) ?_
      · rw [hrel (hrd (by cases hr : readsH p.op with | true => rfl | false => rw [rdBlk_none hr] at hi; cases hi)) i (hoff i hi), hb]
      exact hc2 _ _ _ (put_comm fr i3 v u) hv
    exact ⟨hrel, offL_congr (fun x => feq.ev hf x) (offL_agree (agreeG.put i2).agree hoff), vstep_closed hc2 hf hvE⟩

theorem eKX_rel {o : Oper} {fl : Bool} {T : Fr → Heap → Prop} {fr : Fr} {H : Heap} (hR : isR o.op = false) (h : vstep P N ops o (eKX L fl H T) fr H) : vstep P N ops o (fun f h => relX L o fl H h ∧ T f h) fr H := by
  refine vstep_weak h ?_
  intro f h' hk
  cases fl with
  | true => exact ⟨fun _ => hk.1, hk.2⟩
  | false => exact ⟨fun e => by simp [hR] at e, hk⟩

/-- What is behind reads only comes first. -/
theorem vFX_front (hK : Closed K) {n i : Nat} {fl : Bool} {l1 l2 : List (Nat × Bool)} {o : Oper} (ho : ops[i]? = some o) {fr : Fr} {H : Heap}
    (hl1 : ∀ x ∈ l1, ∃ p, ops[x.1]? = some p ∧ isR p.op = true ∧ indep ops p o = true ∧ (readsH p.op = true → isR o.op = true ∨ fl = true))
    (h : vFX P N ops L fs K (l1.length + (n + 1)) (l1 ++ (i, fl) :: l2) fr H) : vstep P N ops o (fun f h => relX L o fl H h ∧ vFX P N ops L fs K (l1.length + n) (l1 ++ l2) f h) fr H := by
  have hl1' : ∀ x ∈ l1, ∃ p, ops[x.1]? = some p ∧ isR p.op = true := fun x hx => by obtain ⟨p, h1, h2, _⟩ := hl1 x hx; exact ⟨p, h1, h2⟩
  rw [vFX_seqRX l1 fr H hl1'] at h
  have hstep : ∀ fr H, vFX P N ops L fs K (n + 1) ((i, fl) :: l2) fr H → vstep P N ops o (fun f h => relX L o fl H h ∧ vFX P N ops L fs K n l2 f h) fr H := by
    intro fr H h
    simp only [vFX, ho] at h
    cases hR : isR o.op with
    | true =>
      simp only [hR] at h
      obtain ⟨_, h⟩ := h
      obtain ⟨v, h1, h2⟩ := vstep_RX hR (vFX_closed hK n l2) h
      refine h2 fr H _ ?_ (fun _ _ => rfl) (fun _ _ _ h => h) ⟨fun _ _ _ => rfl, h1⟩
      intro f g h hfg hk
      exact ⟨hk.1, vFX_closed hK n l2 _ _ _ hfg hk.2⟩
    | false => simp only [hR] at h; exact eKX_rel hR h.1
  refine vstep_weak (frontX_gen (vFX_closed hK _ _) (vFX_closed hK n l2) hstep l1 fr H hl1 h) ?_
  rintro f h' ⟨h1, h2⟩
  exact ⟨h1, (vFX_seqRX l1 f h' hl1').2 h2⟩
/-- What hangs on nothing comes ahead of the first effect. -/
theorem vFX_float (hK : Closed K) {n i f : Nat} {fl : Bool} {r1 l2 : List (Nat × Bool)} {o o' : Oper} (ho : ops[i]? = some o) (hE : isR o.op = false) (hf : ops[f]? = some o') (hff : f ∈ fs) (hfl : f ∈ l2.map (·.1)) {fr : Fr} {H : Heap}
    (hl1 : ∀ x ∈ r1, ∃ p, ops[x.1]? = some p ∧ isR p.op = true ∧ indep ops p o' = true)
    (h : vFX P N ops L fs K (r1.length + (n + 1)) (r1 ++ (i, fl) :: l2) fr H) : vstep P N ops o' (fun f' h => relX L o' true H h ∧ vFX P N ops L fs K (r1.length + n) (r1 ++ (i, fl) :: l2.filter fun y => y.1 != f) f' h) fr H := by
  have hl1' : ∀ x ∈ r1, ∃ p, ops[x.1]? = some p ∧ isR p.op = true := fun x hx => by obtain ⟨p, h1, h2, _⟩ := hl1 x hx; exact ⟨p, h1, h2⟩
  rw [vFX_seqRX r1 fr H hl1'] at h
  have hstep : ∀ fr H, vFX P N ops L fs K (n + 1) ((i, fl) :: l2) fr H → vstep P N ops o' (fun f' h => relX L o' true H h ∧ vFX P N ops L fs K n ((i, fl) :: l2.filter fun y => y.1 != f) f' h) fr H := by
    intro fr H h
    simp only [vFX, ho, hE] at h
    obtain ⟨o2, h1, h2, h3⟩ := h.2 f hff hfl
    rw [hf] at h1; cases h1
    exact eKX_rel h2 h3
  refine vstep_weak (frontX_gen (vFX_closed hK _ _) (vFX_closed hK n _) hstep r1 fr H (fun x hx => by obtain ⟨p, h1, h2, h3⟩ := hl1 x hx; exact ⟨p, h1, h2, h3, fun _ => .inr rfl⟩) h) ?_
  rintro f h' ⟨h1, h2⟩
  exact ⟨h1, (vFX_seqRX r1 f h' hl1').2 h2⟩

theorem drawFX_any {B : Nat} {w0 : World} {Q : Exit → Act → World → Prop} (hK : Closed K) (hedge : edgesOK ops = true) : ∀ (n : Nat) (listed : Array Bool) (l : List (Nat × Bool)) (fr : Fr) (H : Heap) (ρ : Rho) (w : World) (a : Act),
    listed.size = ops.size → l.length = n → pairsOKF ops fs (masksGo ops.toList []) l = true → (∀ x ∈ l, x.1 < ops.size ∧ listed.getD x.1 true = false) → (∀ i, i < ops.size → listed.getD i true = false → ∃ x ∈ l, x.1 = i) →
    (∀ (j : Nat) (o : Oper), ops[j]? = some o → listed.getD j false = true → ∀ e ∈ o.after.toList, Region.binds .any e = true → listed.getD e.on false = true) →
    vFX P N ops L fs K n l fr H → R B w0 ρ H w → FR N ρ fr a →
    (∀ (ρ' : Rho) (fr' : Fr) (H' : Heap) (a' : Act) (w' : World), ρ <+: ρ' → K fr' H' → R B w0 ρ' H' w' → FR N ρ' fr' a' → Q .normal a' w') → wpAny P .any ops Q n listed a w := by
  intro n
  have getD2 : ∀ (listed : Array Bool) (i : Nat), listed.size = ops.size → i < ops.size → listed.getD i true = listed.getD i false := by
    intro listed i h1 h2
    simp [Array.getD_eq_getD_getElem?, h1, h2]
  induction n with
  | zero =>
    intro listed l fr H ρ w a hsz hl hp hin hall hcl hv hR hF hq
    have : l = [] := List.eq_nil_of_length_eq_zero hl
    subst this
    refine ⟨?_, hq ρ fr H a w (List.prefix_refl _) hv hR hF⟩
    rw [List.eq_nil_iff_forall_not_mem]
    intro i hi
    simp only [Region.ready, List.mem_filter, List.mem_range, Bool.and_eq_true, Bool.not_eq_true'] at hi
    obtain ⟨x, hx, _⟩ := hall i hi.1 hi.2.1
    simp at hx
  | succ n ih =>
    intro listed l fr H ρ w a hsz hl hp hin hall hcl hv hR hF hq
    refine ⟨?_, ?_⟩
    · intro hnil
      exfalso
      match l, hl with
      | (i, fl) :: l, hl =>
        obtain ⟨h1, h2⟩ := hin (i, fl) (by simp)
        have hi : i ∈ Region.ready .any ops listed := by
          simp only [Region.ready, List.mem_filter, List.mem_range, Bool.and_eq_true, Bool.not_eq_true']
          refine ⟨h1, h2, ?_⟩
          rw [Array.getElem?_eq_getElem h1]
          simp only [Option.map_some, Option.getD_some, Array.all_eq_true']
          intro e he
          rw [Bool.or_eq_true, Bool.not_eq_true']
          by_cases hb : Region.binds .any e = true
          · right
            have hedge' := List.all_eq_true.1 hedge i (by simpa using h1)
            simp only [Array.getElem?_eq_getElem h1, List.all_eq_true] at hedge'
            have he' := hedge' e (by simpa using he)
            simp only [hb, Bool.not_true, Bool.false_or, Bool.and_eq_true, decide_eq_true_eq, bne_iff_ne, ne_eq] at he'
            rw [← getD2 listed e.on hsz he'.1]
            cases hg : listed.getD e.on true with
            | true => rfl
            | false =>
              obtain ⟨x, hx, hxe⟩ := hall e.on he'.1 hg
              rcases List.mem_cons.1 hx with rfl | hx
              · exact absurd hxe.symm he'.2
              · have hpo := (pairsOKF_spec (l1 := []) hp).2.1 x hx
                have hx1 := (hin x (by simp [hx])).1
                simp only [pairOKF, Array.getElem?_eq_getElem h1, Array.getElem?_eq_getElem hx1, Bool.and_eq_true, Bool.not_eq_true'] at hpo
                have hd := hpo.1.1
                simp only [directTo, List.any_eq_false, Bool.and_eq_true, beq_iff_eq, not_and] at hd
                exact absurd hxe.symm (hd e (by simpa using he) hb)
          · left; simpa using hb
        rw [hnil] at hi
        simp at hi
    · intro i hi
      simp only [Region.ready, List.mem_filter, List.mem_range, Bool.and_eq_true, Bool.not_eq_true'] at hi
      obtain ⟨hilt, hnl, hrdy⟩ := hi
      rw [Array.getElem?_eq_getElem hilt] at hrdy
      simp only [Option.map_some, Option.getD_some, Array.all_eq_true'] at hrdy
      have ho : ops[i]? = some ops[i] := Array.getElem?_eq_getElem hilt
      obtain ⟨x, hx, hxi⟩ := hall i hilt hnl
      obtain ⟨l1, l2, rfl⟩ := List.append_of_mem hx
      obtain ⟨i', fl⟩ := x
      simp only at hxi
      subst hxi
      obtain ⟨hp1, hp2, hp3⟩ := pairsOKF_spec hp
      have hpre : ∀ e ∈ (ops[i']).after.toList, Region.binds .any e = true → listed.getD e.on false = true := by
        intro e he hb
        have := hrdy e (by simpa using he)
        simpa [hb] using this
      have hdep : ∀ y ∈ l1, ¬ ((masksGo ops.toList []).getD i' 0).testBit y.1 = true := by
        intro y hy hb
        have := masks_sound (ops := ops) (fun j => listed.getD j false = true) hcl ops.toList [] (fun j _ => by simp) (fun j o p hj => by simp at hj) i' _ y.1 ho hb hpre
        obtain ⟨hy1, hy2⟩ := hin y (by simp [hy])
        rw [getD2 listed y.1 hsz hy1] at hy2
        rw [hy2] at this; cases this
      have hR1 : ∀ y ∈ l1, ∀ p, ops[y.1]? = some p → isR p.op = true → indep ops p ops[i'] = true ∧ (readsH p.op = true → isR (ops[i']).op = true ∨ fl = true) := by
        intro y hy p hp' hRp
        have hy1 := (hin y (by simp [hy])).1
        have hpo := hp1 y hy
        have hd := hdep y hy
        simp only [pairOKF, hp', ho, Bool.and_eq_true] at hpo
        have hpo2 := hpo.2
        simp only [Bool.not_eq_true] at hd
        simp only [hRp, hd, Bool.false_or, Bool.or_false, Bool.and_eq_true, Bool.or_eq_true, Bool.not_eq_true'] at hpo2
        refine ⟨hpo2.1, fun hr => ?_⟩
        rcases hpo2.2 with (h | h) | h
        · exact .inl h
        · exact .inr h
        · rw [hr] at h; cases h
      have hE1 : ∀ y ∈ l1, ∀ p, ops[y.1]? = some p → isR p.op = false → i' ∈ fs ∧ fl = true ∧ isR (ops[i']).op = false := by
        intro y hy p hp' hRp
        have hpo := hp1 y hy
        have hd := hdep y hy
        simp only [pairOKF, hp', ho, Bool.and_eq_true] at hpo
        have hpo2 := hpo.2
        simp only [Bool.not_eq_true] at hd
        simp only [hRp, hd, Bool.false_or, Bool.and_eq_true, Bool.not_eq_true', List.contains_iff_mem] at hpo2
        exact ⟨hpo2.1.1, hpo2.1.2, hpo2.2⟩
      have hnd : ∀ y ∈ l1 ++ l2, y.1 ≠ i' := by
        intro y hy e
        rcases List.mem_append.1 hy with hy | hy
        · have hpo := hp1 y hy
          have hy1 := (hin y (by simp [hy])).1
          simp [pairOKF, Array.getElem?_eq_getElem hy1, ho, e] at hpo
        · have hpo := hp2 y hy
          have hy1 := (hin y (by simp [hy])).1
          simp [pairOKF, Array.getElem?_eq_getElem hy1, ho, e] at hpo
      have hstep : vstep P N ops ops[i'] (fun f h => relX L ops[i'] fl H h ∧ vFX P N ops L fs K n (l1 ++ l2) f h) fr H := by
        simp only [List.length_append, List.length_cons] at hl
        rcases first_effect (ops := ops) l1 (fun x hx => ⟨_, Array.getElem?_eq_getElem (hin x (by simp [hx])).1⟩) with hall1 | ⟨r1, e, oe, r2, rfl, he1, he2, he3⟩
        · rw [show n = l1.length + l2.length by omega]
          rw [show n + 1 = l1.length + (l2.length + 1) by omega] at hv
          exact vFX_front hK ho (fun x hx => by obtain ⟨p, h1, h2⟩ := hall1 x hx; obtain ⟨h3, h4⟩ := hR1 x hx p h1 h2; exact ⟨p, h1, h2, h3, h4⟩) hv
        · obtain ⟨hif, hfl, hEi⟩ := hE1 e (by simp) oe he1 he2
          subst hfl
          simp only [List.length_append, List.length_cons] at hl
          rw [show n + 1 = r1.length + ((r2.length + 1 + l2.length) + 1) by omega, List.append_assoc, List.cons_append] at hv
          have hfilt : (r2 ++ (i', true) :: l2).filter (fun y => y.1 != i') = r2 ++ l2 := by
            rw [List.filter_append, List.filter_cons]
            simp only [bne_self_eq_false, Bool.false_eq_true, if_false]
            rw [List.filter_eq_self.2, List.filter_eq_self.2]
            · intro y hy; simpa using hnd y (by simp [hy])
            · intro y hy; simpa using hnd y (by simp [hy])
          have := vFX_float (f := i') hK he1 he2 ho hif (by simp) (fun x hx => by
            obtain ⟨p, h1, h2⟩ := he3 x hx
            exact ⟨p, h1, h2, (hR1 x (by simp [hx]) p h1 h2).1⟩) hv
          rw [hfilt] at this
          rw [show n = r1.length + (r2.length + 1 + l2.length) by omega, List.append_assoc, List.cons_append]
          exact this
      unfold wpOp
      rw [ho]
      refine vstep_sound hstep hR hF Q ?_
      rintro ρ' fr' H' a' w' hpre' ⟨_, hv'⟩ hR' hF'
      refine ih (listed.setIfInBounds i' true) (l1 ++ l2) fr' H' ρ' w' a' (by simpa using hsz) (by simp at hl ⊢; omega) hp3 ?_ ?_ ?_ hv' hR' hF' (fun ρ'' f'' H'' a'' w'' h1 => hq ρ'' f'' H'' a'' w'' (hpre'.trans h1))
      · intro y hy
        have hne := hnd y hy
        obtain ⟨h1, h2⟩ := hin y (by rcases List.mem_append.1 hy with hy | hy <;> simp [hy])
        exact ⟨h1, by rw [getD_set_ne _ (fun e => hne e.symm)]; exact h2⟩
      · intro j hj hnj
        by_cases e : i' = j
        · subst e
          exfalso
          have : (listed.setIfInBounds i' true).getD i' true = true := by simp [Array.getD_eq_getD_getElem?]
          rw [this] at hnj; cases hnj
        · rw [getD_set_ne _ e] at hnj
          obtain ⟨y, hy, rfl⟩ := hall j hj hnj
          refine ⟨y, ?_, rfl⟩
          rcases List.mem_append.1 hy with hy | hy
          · simp [hy]
          · rcases List.mem_cons.1 hy with rfl | hy
            · exact absurd rfl e
            · simp [hy]
      · intro j o hj hlj e he hb
        by_cases e' : i' = j
        · subst e'
          rw [ho] at hj; cases hj
          exact getD_set_true (hpre e he hb)
        · rw [getD_set_ne _ e'] at hlj
          exact getD_set_true (hcl j o hj hlj e he hb)

def vTX (P : Program) (N : Nat) (ops : Array Oper) (L : Nat) (K : Fr → Heap → Prop) : Tree → Fr → Heap → Prop
  | .nil, fr, H => K fr H
  | .one i fl t, fr, H => match ops[i]? with
    | none => False
    | some o => match isR o.op with
      | true => offL L o.op fr ∧ vstep P N ops o (vTX P N ops L K t) fr H
      | false => vstep P N ops o (eKX L fl H (vTX P N ops L K t)) fr H
  | .two i fl t f t', fr, H => match ops[i]?, ops[f]? with
    | some o, some o' => vstep P N ops o (eKX L fl H (vTX P N ops L K t)) fr H ∧ vstep P N ops o' (eKX L true H (vTX P N ops L K t')) fr H
    | _, _ => False
theorem vTX_vFX : ∀ (t : Tree) (n : Nat) (l : List (Nat × Bool)) (fr : Fr) (H : Heap), l.length ≤ n → (∀ x y, x ∈ l → y ∈ l → x.1 = y.1 → x = y) → treeOK ops fs t l = true → vTX P N ops L K t fr H → vFX P N ops L fs K n l fr H := by
  intro t
  induction t with
  | nil =>
    intro n l fr H hn _ hok h
    cases l with
    | nil => cases n <;> exact h
    | cons x l => simp [treeOK] at hok
  | one i fl t ih =>
    intro n l fr H hn hu hok h
    cases l with
    | nil => simp [treeOK] at hok
    | cons x l =>
      obtain ⟨j, fl'⟩ := x
      simp only [treeOK, Bool.and_eq_true, beq_iff_eq] at hok
      obtain ⟨⟨⟨rfl, rfl⟩, hfl⟩, hok⟩ := hok
      cases n with
      | zero => simp at hn
      | succ n =>
        simp only [List.length_cons] at hn
        have hu' : ∀ x y, x ∈ l → y ∈ l → x.1 = y.1 → x = y := fun x y hx hy => hu x y (by simp [hx]) (by simp [hy])
        simp only [vTX] at h
        simp only [vFX]
        cases ho : ops[i]? with
        | none => simp [ho] at h
        | some o =>
          simp only [ho] at h hfl ⊢
          cases hR : isR o.op with
          | true => simp only [hR] at h ⊢; exact ⟨h.1, vstep_weak h.2 fun f h => ih n l f h (by omega) hu' hok⟩
          | false =>
            simp only [hR, Bool.false_or, List.all_eq_true] at h hfl ⊢
            refine ⟨vstep_weak h fun f h' hk => ?_, fun f hf hm => ?_⟩
            · cases fl with
              | true => exact ⟨hk.1, ih n l f h' (by omega) hu' hok hk.2⟩
              | false => exact ih n l f h' (by omega) hu' hok hk
            · have := hfl f hf
              simp only [Bool.not_eq_true', List.contains_eq_mem, decide_eq_false_iff_not] at this
              exact absurd hm this
  | two i fl t f t' ih ih' =>
    intro n l fr H hn hu hok h
    cases l with
    | nil => simp [treeOK] at hok
    | cons x l =>
      obtain ⟨j, fl'⟩ := x
      simp only [treeOK, Bool.and_eq_true, beq_iff_eq] at hok
      obtain ⟨⟨⟨⟨⟨rfl, rfl⟩, hE⟩, hfl⟩, hok⟩, hok'⟩ := hok
      cases n with
      | zero => simp at hn
      | succ n =>
        simp only [List.length_cons] at hn
        have hu' : ∀ x y, x ∈ l → y ∈ l → x.1 = y.1 → x = y := fun x y hx hy => hu x y (by simp [hx]) (by simp [hy])
        simp only [vTX] at h
        simp only [vFX]
        cases ho : ops[i]? with
        | none => simp [ho] at h
        | some o =>
          cases ho' : ops[f]? with
          | none => simp [ho, ho'] at h
          | some o' =>
            simp only [ho, ho', Bool.and_eq_true, Bool.not_eq_true'] at h hE ⊢
            simp only [hE.1]
            refine ⟨vstep_weak h.1 fun g h' hk => ?_, fun g hg hm => ?_⟩
            · cases fl with
              | true => exact ⟨hk.1, ih n l g h' (by omega) hu' hok hk.2⟩
              | false => exact ih n l g h' (by omega) hu' hok hk
            · rw [List.all_eq_true] at hfl
              have hgf := hfl g hg
              simp only [Bool.or_eq_true, beq_iff_eq, Bool.not_eq_true', List.contains_eq_mem, decide_eq_false_iff_not] at hgf
              have : g = f := hgf.resolve_right (fun e => e hm)
              subst this
              refine ⟨o', ho', hE.2, vstep_weak h.2 fun q h' hk => ⟨hk.1, ih' n _ q h' ?_ ?_ hok' hk.2⟩⟩
              · obtain ⟨z, hz, hzg⟩ := List.mem_map.1 hm
                have : (l.filter fun y => y.1 != g).length < l.length := by
                  rw [List.length_filter_lt_length_iff_exists]
                  exact ⟨z, hz, by simp [hzg]⟩
                simp only [List.length_cons]; omega
              · intro x y hx hy
                refine hu x y ?_ ?_
                · rcases List.mem_cons.1 hx with rfl | hx
                  · simp
                  · exact List.mem_cons_of_mem _ (List.mem_filter.1 hx).1
                · rcases List.mem_cons.1 hy with rfl | hy
                  · simp
                  · exact List.mem_cons_of_mem _ (List.mem_filter.1 hy).1

theorem AWp.drawFX (L : Nat) {id : Nat} {fr : Fr} {H : Heap} {Q : Exit → Fr → Heap → Prop} (hm : P.follows .mixedOrders = true) (fs : List Nat) (canon : List (Nat × Bool)) (t : Tree) (hok : (drawOKF ops fs canon && treeOK ops fs t canon) = true) (h : vTX P N ops L (Q .normal) t fr H) : AWp P N (.region id ops true) Q fr H := by
  intro B w0 ρ w a hR hF
  simp only [drawOKF, Bool.and_eq_true, decide_eq_true_eq, List.all_eq_true, List.mem_range, List.contains_iff_mem, List.mem_map] at hok
  obtain ⟨⟨⟨⟨⟨h1, h2⟩, h3⟩, h4⟩, h5⟩, h6⟩ := hok
  refine wp_region_any hm ?_
  let K : Fr → Heap → Prop := fun f h => ∃ g, feq g f ∧ Q .normal g h
  have hK : Closed K := fun f g h hfg ⟨k, hk, hq⟩ => ⟨k, hk.trans hfg, hq⟩
  have hu : ∀ x y, x ∈ canon → y ∈ canon → x.1 = y.1 → x = y := by
    intro x y hx hy e
    obtain ⟨l1, l2, rfl⟩ := List.append_of_mem hx
    obtain ⟨hp1, hp2, _⟩ := pairsOKF_spec h1
    rcases List.mem_append.1 hy with hy | hy
    · have := hp1 y hy
      unfold pairOKF at this
      split at this
      · simp [e] at this
      · cases this
    · rcases List.mem_cons.1 hy with rfl | hy
      · rfl
      · have := hp2 y hy
        unfold pairOKF at this
        split at this
        · simp [e] at this
        · cases this
  have hv : vFX P N ops L fs K ops.size canon fr H := by
    refine vTX_vFX t ops.size canon fr H (by omega) hu h6 ?_
    have weak : ∀ (t : Tree) (fr : Fr) (H : Heap), vTX P N ops L (Q .normal) t fr H → vTX P N ops L K t fr H := by
      intro t
      induction t with
      | nil => exact fun fr H h => ⟨fr, feq.rfl' _, h⟩
      | one i fl t ih =>
        intro fr H h
        simp only [vTX] at h ⊢
        split at h
        · exact h
        · rename_i o ho
          cases hR : isR o.op with
          | true => simp only [hR] at h ⊢; exact ⟨h.1, vstep_weak h.2 ih⟩
          | false =>
            simp only [hR] at h ⊢
            refine vstep_weak h ?_
            intro f h' hk
            cases fl with
            | true => exact ⟨hk.1, ih _ _ hk.2⟩
            | false => exact ih _ _ hk
      | two i fl t f t' ih ih' =>
        intro fr H h
        simp only [vTX] at h ⊢
        split at h
        · rename_i o o' ho ho'
          refine ⟨vstep_weak h.1 ?_, vstep_weak h.2 fun f h' hk => ⟨hk.1, ih' _ _ hk.2⟩⟩
          intro f h' hk
          cases fl with
          | true => exact ⟨hk.1, ih _ _ hk.2⟩
          | false => exact ih _ _ hk
        · exact h
    exact weak t fr H h
  have hgt : ∀ i, i < ops.size → (Array.replicate ops.size false).getD i true = false := by
    intro i hi
    simp [Array.getD_eq_getD_getElem?, hi]
  refine drawFX_any (B := B) (w0 := w0) hK h2 ops.size (Array.replicate ops.size false) canon fr H ρ w.drew a (by simp) h3 h1 ?_ ?_ ?_ hv hR.drew hF ?_
  · intro x hx
    exact ⟨h4 x hx, hgt x.1 (h4 x hx)⟩
  · intro i hi _
    obtain ⟨x, hx, rfl⟩ := h5 i hi
    exact ⟨x, hx, rfl⟩
  · intro j o hj hl
    rw [Array.getD_eq_getD_getElem?, Array.getElem?_replicate] at hl
    split at hl <;> simp at hl
  · rintro ρ' fr' H' a' w' hp ⟨g, hg, hq⟩ hR' hF'
    exact ⟨ρ', g, H', hp, hR', hF'.feq hg.symm, hq⟩

/-! The words of such a tree, for simp. -/

def vTXK (P : Program) (N : Nat) (ops : Array Oper) (L : Nat) (K : Fr → Heap → Prop) (t : Tree) (fr : Fr) (H : Heap) : Prop := vTX P N ops L K t fr H
def eTXK (P : Program) (N : Nat) (ops : Array Oper) (L : Nat) (K : Fr → Heap → Prop) (t : Tree) (fl : Bool) (H : Heap) (fr : Fr) (H' : Heap) : Prop :=
  match fl with
  | true => andK (KeepL L H H') (vTX P N ops L K t fr H')
  | false => vTX P N ops L K t fr H'
def vTXo (P : Program) (N : Nat) (ops : Array Oper) (L : Nat) (K : Fr → Heap → Prop) (t : Tree) (fl : Bool) (fr : Fr) (H : Heap) (o : Oper) : Prop :=
  match isR o.op with
  | true => andK (offB L o.op fr) (vstep P N ops o (vTXK P N ops L K t) fr H)
  | false => vstep P N ops o (eTXK P N ops L K t fl H) fr H
def vTXe (P : Program) (N : Nat) (ops : Array Oper) (L : Nat) (K : Fr → Heap → Prop) (t : Tree) (fl : Bool) (fr : Fr) (H : Heap) (o : Oper) : Prop := vstep P N ops o (eTXK P N ops L K t fl H) fr H

theorem vTX_nil (K : Fr → Heap → Prop) (fr : Fr) (H : Heap) : vTX P N ops L K .nil fr H = K fr H := rfl
theorem eTXK_eq (K : Fr → Heap → Prop) (t : Tree) (fl : Bool) (H : Heap) : eKX L fl H (vTX P N ops L K t) = eTXK P N ops L K t fl H := by
  funext f h
  cases fl <;> rfl
theorem vTX_one (K : Fr → Heap → Prop) (i : Nat) (fl : Bool) (t : Tree) (fr : Fr) (H : Heap) : vTX P N ops L K (.one i fl t) fr H = bindO ops[i]? (vTXo P N ops L K t fl fr H) := by
  simp only [vTX]
  cases ops[i]? with
  | none => simp [bindO]
  | some o =>
    simp only [bindO_some, vTXo]
    cases isR o.op with
    | true => rw [offB_iff]; rfl
    | false => simp only [eTXK_eq]
theorem vTX_two {i : Nat} {fl : Bool} {t : Tree} {f : Nat} {t' : Tree} {K : Fr → Heap → Prop} {fr : Fr} {H : Heap} (h1 : bindO ops[i]? (vTXe P N ops L K t fl fr H)) (h2 : bindO ops[f]? (vTXe P N ops L K t' true fr H)) : vTX P N ops L K (.two i fl t f t') fr H := by
  simp only [vTX]
  cases ho : ops[i]? with
  | none => simp [ho, bindO] at h1
  | some o =>
    cases ho' : ops[f]? with
    | none => simp [ho', bindO] at h2
    | some o' =>
      simp only [ho, ho', bindO_some, vTXe] at h1 h2 ⊢
      exact ⟨by rw [eTXK_eq]; exact h1, by rw [eTXK_eq]; exact h2⟩

attribute [go_sem] vTXK eTXK vTXo vTXe vTX_nil vTX_one

end
end Go.Ab
end

section
/- Draws: an order of the first numbers. -/
set_option linter.all false
set_option maxRecDepth 20000
set_option maxHeartbeats 8000000
namespace Go.Proofs.Ytfnegaedkomcgaa
open Go.Ab

theorem At.take_ints {H : Heap} {i o : Nat} {xs : List Int} (h : At H i o (ints xs)) {k : Nat} (hk : k ≤ xs.length) : At H i o (ints (xs.take k)) := by
  by_cases h0 : k = 0
  · subst h0; exact .inl rfl
  · right
    have e : ints (xs.take k) = (ints xs).take k := by simp [ints, List.map_take]
    have := h.sub (k := 0) (n := k) (by omega) (by rw [ints_length]; omega)
    rw [ints_length, List.length_take, Nat.min_eq_left hk, e]
    simpa using this
theorem At.drop_ints {H : Heap} {i o : Nat} {xs : List Int} (h : At H i o (ints xs)) {k : Nat} (hk : k ≤ xs.length) : At H i (o + k) (ints (xs.drop k)) := by
  by_cases h0 : k = xs.length
  · subst h0; left; simp [ints]
  · right
    have e : ints (xs.drop k) = (ints xs).drop k := by simp [ints, List.map_drop]
    have := h.sub (k := k) (n := xs.length - k) (by omega) (by rw [ints_length]; omega)
    rw [ints_length, List.length_drop, e, this, List.take_of_length_le (by rw [List.length_drop, ints_length]; omega)]
theorem ordL_insert {k r : Nat} {xs : List Int} (h : OrdL k xs) (hr : r ≤ k) : OrdL ((k + 1 : Nat) : Int) (xs.take r ++ [(k : Int)] ++ xs.drop r) := by
  obtain ⟨h1, h2, h3⟩ := h
  have hp : (xs.take r ++ [(k : Int)] ++ xs.drop r).Perm ((k : Int) :: xs) := by
    rw [List.append_assoc]
    have := List.perm_middle (a := (k : Int)) (l₁ := xs.take r) (l₂ := xs.drop r)
    rw [List.take_append_drop] at this
    exact this
  have hnk : (k : Int) ∉ xs := fun hm => by have := h3 _ hm; omega
  refine ⟨?_, hp.nodup_iff.2 (List.nodup_cons.2 ⟨hnk, h2⟩), fun x hx => ?_⟩
  · rw [hp.length_eq, List.length_cons]; omega
  · rcases List.mem_cons.1 (hp.mem_iff.1 hx) with rfl | hx
    · omega
    · have := h3 x hx; omega

theorem drawOrder_ok {L s : Nat} {H : Heap} (hs : Src L s H) {n : Nat} (hn : n ≤ 1000) (Post : Value → Heap → Prop)
    (h : ∀ (H' : Heap) (w : Value) (xs : List Int), Same (fun j => j = s) H H' → Src L s H' → IntsIn H.length H'.length H' w xs → OrdL n xs → Post w H') :
    ACalls Try.prog 40 [.pointer (some ⟨s, 0, none⟩), .int .i64 n] H Post := by
  refine ACalls.res ?_
  have hslt := hs.lt
  have hLs := hs.1
  refine acalls_vc (rs := [.tmp 4]) Try.func40 rfl rfl Try.ntmps40 rfl rfl ?_
  simp (maxSteps := 1000000) [go_sem]
  have hp0 : H <+: H ++ [⟨[], true, true⟩] := List.prefix_append _ _
  have hl0 : (H ++ [(⟨[], true, true⟩ : Blk)]).length = H.length + 1 := by simp
  generalize H ++ [(⟨[], true, true⟩ : Blk)] = H0 at hp0 hl0 ⊢
  refine AWp.loopVc (St := Nat × Nat × List Int) (fun q => [(0, .pointer (some ⟨s, 0, none⟩)), (1, .int .i64 n), (5, lv 1 q.2.1 0 q.2.2.length), (6, .int .i64 q.1)])
    (fun q H' => q.2.1 < H'.length ∧ q.1 ≤ n ∧ OrdL q.1 q.2.2 ∧ IntsIn H.length H'.length H' (lv 1 q.2.1 0 q.2.2.length) q.2.2 ∧ Same (fun j => j = s) H H' ∧ Src L s H') (fun q => n - q.1) (0, 0, []) ?_ ?_ ?_
  · simp [upF, Fr.get, Up.refl, Up.ex0]
  · exact ⟨by simp only; omega, by omega, ⟨by simp, by simp, by simp⟩, IntsIn.nil _ _ _, Same.of_prefix hp0, hs.pre hp0⟩
  · rintro K ⟨k, id, xs⟩ H1 ⟨hid, hk, hO, hI, hsm, hS⟩ hK
    simp only at hid hk hO hI
    have hxl : xs.length = k := by have := hO.1; omega
    by_cases hlt : k < n
    · have hw_k : IntKind.i64.wrap ((k : Int) + 1) = (k : Int) + 1 := i64w (by omega) (by omega)
      simp (maxSteps := 1000000) [go_sem, hlt, hw_k]
      refine next_ok hS _ ?_
      intro H2 r hs2 hl2 hS2 h0 h1
      obtain ⟨r, rfl⟩ : ∃ m : Nat, r = m := ⟨r.toNat, by omega⟩
      have hr : r ≤ k := by omega
      have hI2 := hI.keep hs2 (by rintro j ⟨a, b⟩ e; omega)
      obtain ⟨id0, ⟨e0, hat, hsz⟩, hsp⟩ := hI2
      have eid : id0 = id := by simp at e0; exact e0.symm
      subst eid
      have hat2 : At H2 id0 0 (ints xs) := by
        rcases hat with hat | hat
        · left; rw [hat]; rfl
        · exact Holds.at ⟨true, hat⟩
      have hr2 : r ≤ xs.length := by omega
      simp (maxSteps := 1000000) [go_sem]
      refine AWp.drawFX (H2.length) mixed [5] [(0, false), (1, false), (2, false), (4, false), (7, false), (8, false), (9, false), (3, true), (5, true), (6, true), (10, false), (11, false)] (.one 0 false (.one 1 false (.one 2 false (.one 4 false (.one 7 false (.one 8 false (.one 9 false (.two 3 true (.one 5 true (.one 6 true (.one 10 false (.one 11 false .nil)))) 5 (.one 3 true (.one 6 true (.one 10 false (.one 11 false .nil)))))))))))) (by kernel_rfl) ?_
      simp (maxSteps := 1000000) [go_sem, sliceV, boundV, hr2]
      have htl : (xs.take r).length = r := by rw [List.length_take]; omega
      have hinA : IntsAt H2 (.slice (some ⟨id0, 0, some 1⟩) r r) (xs.take r) := ⟨id0, 0, by rw [htl], At.take_ints hat2 hr2, by omega⟩
      have hil : id0 < H2.length := by omega
      refine andK_intro hil (andK_intro hil (vTX_two ?_ ?_))
      · simp (maxSteps := 1000000) [go_sem]
        refine l01Own_oe (xs := xs.take r) hinA (by rw [htl]; omega) _ ?_
        intro H3 w hp3 he3
        rw [htl] at he3
        obtain ⟨a3, rfl⟩ := he3.shape
        have hkA : KeepL H2.length H2 H3 := KeepL.of_prefix hp3 (Nat.le_refl _)
        have hle3 := hp3.length_le
        have hp4 : H3 <+: H3 ++ [⟨[.int .i64 k], true, true⟩] := List.prefix_append _ _
        have hkB : KeepL H2.length H3 (H3 ++ [⟨[.int .i64 k], true, true⟩]) := KeepL.of_prefix hp4 (by omega)
        have hc4 : cellsAt (H3 ++ [(⟨[.int .i64 k], true, true⟩ : Blk)]) H3.length 0 1 = some [.int .i64 k] := by rw [cellsAt_of (b := ⟨[.int .i64 k], true, true⟩) (by simp) rfl (by simp)]; rfl
        have he4 := he3.pre hp4
        simp (maxSteps := 1000000) [go_sem]
        refine andK_intro hkA ?_
        try simp (maxSteps := 1000000) [go_sem]
        generalize H3 ++ [(⟨[.int .i64 k], true, true⟩ : Blk)] = H4 at *
        refine andK_intro hkB ?_
        have hp24 : H2 <+: H4 := hp3.trans hp4
        have hle4 := hp24.length_le
        obtain ⟨v5, H5, hap5, he5, hk5, hl5⟩ := he4.append (m := 1) (news := [.int .i64 k]) (by omega) (by omega) rfl
        obtain ⟨a5, rfl⟩ := he5.shape
        have hp25 : H2 <+: H5 := KeepL.prefix hp24 (by omega) hk5 (by omega)
        have hs6 := ((At.drop_ints hat2 hr2).pre hp25).src (e := 1) (n := xs.length - r) (s := some 1) (by rw [ints_length, List.length_drop]; omega) (by omega) (xs.length - r)
        obtain ⟨v6, H6, hap6, he6, hk6, hl6⟩ := he5.append (m := xs.length - r) (news := ints (xs.drop r)) (by omega) (by have := hp25.length_le; omega) (by rw [ints_length, List.length_drop]; omega)
        obtain ⟨a6, rfl⟩ := he6.shape
        have hp26 : H2 <+: H6 := KeepL.prefix hp25 (by have := hp25.length_le; omega) hk6 (by omega)
        have hle6 := hp26.length_le
        simp only [srcCells, Nat.zero_add, Nat.mul_one] at hs6
        have hk5' : KeepL H2.length H4 H5 := fun j hj => hk5 j (by omega)
        have hk6' : KeepL H2.length H5 H6 := fun j hj => hk6 j (by omega)
        simp (maxSteps := 1000000) [go_sem, hc4, hap5]
        refine andK_intro (by omega) (andK_intro hk5' ?_)
        simp (maxSteps := 1000000) [go_sem, hs6, hap6, hw_k]
        refine andK_intro (by omega) ?_
        have et : ints (xs.take r) ++ [.int .i64 (k : Int)] ++ ints (xs.drop r) = ints (xs.take r ++ [(k : Int)] ++ xs.drop r) := by simp [ints]
        have el : r + 1 + (xs.length - r) = (xs.take r ++ [(k : Int)] ++ xs.drop r).length := by simp; omega
        have hO2 := ordL_insert hO hr
        generalize xs.take r ++ [(k : Int)] ++ xs.drop r = ys at *
        rw [et, el] at he6
        rw [el]
        obtain ⟨w6, hup6, id6, ⟨ew6, hat6, hsz6⟩, hsp6⟩ := he6.ints (by omega)
        subst ew6
        have hyl : ys.length = k + 1 := by have := hO2.1; omega
        have hsp6' := hsp6 (by intro e; rw [e] at hyl; simp at hyl)
        refine hK (k + 1, id6, ys) _ _ (by simp only; omega) (by simp [upF, Fr.get, Up.refl, hup6]) ⟨hsp6'.2, by simp only; omega, hO2, ⟨id6, ⟨rfl, hat6, hsz6⟩, fun _ => ⟨by have := hsp6'.1; have := hsm.1; omega, hsp6'.2⟩⟩, (hsm.trans hs2).trans (Same.of_prefix hp26), hS2.pre hp26⟩
      · have hp3 : H2 <+: H2 ++ [⟨[.int .i64 k], true, true⟩] := List.prefix_append _ _
        have hkA : KeepL H2.length H2 (H2 ++ [⟨[.int .i64 k], true, true⟩]) := KeepL.of_prefix hp3 (Nat.le_refl _)
        have hc3 : cellsAt (H2 ++ [(⟨[.int .i64 k], true, true⟩ : Blk)]) H2.length 0 1 = some [.int .i64 k] := by rw [cellsAt_of (b := ⟨[.int .i64 k], true, true⟩) (by simp) rfl (by simp)]; rfl
        simp (maxSteps := 1000000) [go_sem]
        generalize H2 ++ [(⟨[.int .i64 k], true, true⟩ : Blk)] = H3 at *
        refine andK_intro hkA ?_
        try simp (maxSteps := 1000000) [go_sem]
        refine l01Own_oe (xs := xs.take r) (hinA.pre hp3) (by rw [htl]; omega) _ ?_
        intro H4 w hp4 he4
        rw [htl] at he4
        obtain ⟨a3, rfl⟩ := he4.shape
        have hle3 := hp3.length_le
        have hkB : KeepL H2.length H3 H4 := KeepL.of_prefix hp4 (by omega)
        have hle34 := hp4.length_le
        have hc4 := cellsAt_pre hp4 hc3
        simp (maxSteps := 1000000) [go_sem]
        refine andK_intro hkB ?_
        have hp24 : H2 <+: H4 := hp3.trans hp4
        have hle4 := hp24.length_le
        obtain ⟨v5, H5, hap5, he5, hk5, hl5⟩ := he4.append (m := 1) (news := [.int .i64 k]) (by omega) (by omega) rfl
        obtain ⟨a5, rfl⟩ := he5.shape
        have hp25 : H2 <+: H5 := KeepL.prefix hp24 (by omega) hk5 (by omega)
        have hs6 := ((At.drop_ints hat2 hr2).pre hp25).src (e := 1) (n := xs.length - r) (s := some 1) (by rw [ints_length, List.length_drop]; omega) (by omega) (xs.length - r)
        obtain ⟨v6, H6, hap6, he6, hk6, hl6⟩ := he5.append (m := xs.length - r) (news := ints (xs.drop r)) (by omega) (by have := hp25.length_le; omega) (by rw [ints_length, List.length_drop]; omega)
        obtain ⟨a6, rfl⟩ := he6.shape
        have hp26 : H2 <+: H6 := KeepL.prefix hp25 (by have := hp25.length_le; omega) hk6 (by omega)
        have hle6 := hp26.length_le
        simp only [srcCells, Nat.zero_add, Nat.mul_one] at hs6
        have hk5' : KeepL H2.length H4 H5 := fun j hj => hk5 j (by omega)
        have hk6' : KeepL H2.length H5 H6 := fun j hj => hk6 j (by omega)
        simp (maxSteps := 1000000) [go_sem, hc4, hap5]
        refine andK_intro (by omega) (andK_intro hk5' ?_)
        simp (maxSteps := 1000000) [go_sem, hs6, hap6, hw_k]
        refine andK_intro (by omega) ?_
        have et : ints (xs.take r) ++ [.int .i64 (k : Int)] ++ ints (xs.drop r) = ints (xs.take r ++ [(k : Int)] ++ xs.drop r) := by simp [ints]
        have el : r + 1 + (xs.length - r) = (xs.take r ++ [(k : Int)] ++ xs.drop r).length := by simp; omega
        have hO2 := ordL_insert hO hr
        generalize xs.take r ++ [(k : Int)] ++ xs.drop r = ys at *
        rw [et, el] at he6
        rw [el]
        obtain ⟨w6, hup6, id6, ⟨ew6, hat6, hsz6⟩, hsp6⟩ := he6.ints (by omega)
        subst ew6
        have hyl : ys.length = k + 1 := by have := hO2.1; omega
        have hsp6' := hsp6 (by intro e; rw [e] at hyl; simp at hyl)
        refine hK (k + 1, id6, ys) _ _ (by simp only; omega) (by simp [upF, Fr.get, Up.refl, hup6]) ⟨hsp6'.2, by simp only; omega, hO2, ⟨id6, ⟨rfl, hat6, hsz6⟩, fun _ => ⟨by have := hsp6'.1; have := hsm.1; omega, hsp6'.2⟩⟩, (hsm.trans hs2).trans (Same.of_prefix hp26), hS2.pre hp26⟩
    · have : k = n := by omega
      subst this
      have hn1 : ¬ k < k := by omega
      simp (maxSteps := 1000000) [go_sem]
      exact ⟨_, Up.refl _ _, h H1 _ xs hsm hS hI hO⟩

end Go.Proofs.Ytfnegaedkomcgaa
end

section
/- Draws: a square, changed in some ways. -/
set_option linter.all false
set_option maxRecDepth 20000
set_option maxHeartbeats 8000000
namespace Go.Proofs.Ytfnegaedkomcgaa
open Go.Ab

theorem l02MadeB_ok {H : Heap} {m : Nat} (h2 : 2 ≤ m) (h5 : m ≤ 5) (Post : Value → Heap → Prop)
    (hgood : ∀ (H' : Heap) (oid : Nat) (rows : List (Nat × List Int)), Build H H' oid rows → rows.length = m → rows.map (·.2) = sqRows m m → Post (lv 1 oid 0 m) H') :
    ACalls Try.prog 37 [.int .i64 m] H Post := by
  refine ACalls.res ?_
  refine acalls_vc (rs := [.tmp 2]) Try.func37 rfl rfl Try.ntmps37 rfl rfl ?_
  simp (maxSteps := 1000000) [go_sem]
  refine AWp.loopVc (St := Nat × Nat × List (Nat × List Int)) (fun s => [(0, .int .i64 m), (3, lv 1 s.2.1 0 s.1), (4, .int .i64 s.1)])
    (fun s H' => s.1 ≤ m ∧ s.2.2.length = s.1 ∧ Build H H' s.2.1 s.2.2 ∧ s.2.2.map (·.2) = sqRows m s.1) (fun s => m - s.1) (0, H.length, []) ?_ ?_ ?_
  · simp [upF, Fr.get, Up.refl, Up.ex0]
  · exact ⟨by omega, rfl, Build.of_ol (List.prefix_append _ _) ⟨rfl, .inr (by simp)⟩ (Nat.le_refl _), by simp [sqRows]⟩
  · rintro K ⟨x, oid, rows⟩ H1 ⟨hx, hlen, hb, hcont⟩ hK
    simp only at hx hlen hb hcont
    by_cases hlt : x < m
    · simp (maxSteps := 1000000) [go_sem, hlt]
      refine AWp.loopVc (St := Nat × Nat) (fun s => [(0, .int .i64 m), (3, lv 1 oid 0 x), (4, .int .i64 x), (5, lv 1 s.2 0 s.1), (6, .int .i64 s.1)])
        (fun s H' => s.1 ≤ m ∧ H1 <+: H' ∧ OL 1 H' s.2 (ints (sqRow m x s.1)) s.1 ∧ H1.length ≤ s.2) (fun s => m - s.1) (0, H1.length) ?_ ?_ ?_
      · simp [upF, Fr.get, Up.refl, Up.ex0]
      · exact ⟨by omega, List.prefix_append _ _, ⟨rfl, .inr (by simp [sqRow, ints])⟩, Nat.le_refl _⟩
      · rintro K2 ⟨y, rid⟩ H2 ⟨hy, hpre2, hol2, hrid⟩ hK2
        simp only at hy hpre2 hol2 hrid
        by_cases hly : y < m
        · obtain ⟨hsrc, H3, hap, hol3, hsame3, hlen3⟩ := hol2.push (xs := [.int .i64 (sqCell m x y)]) (by omega) rfl
          obtain ⟨t, ht⟩ : ∃ t, t = (x + y) % m := ⟨_, rfl⟩
          have hm0 : ¬ m = 0 := by omega
          have ht5 : t < m := by rw [ht]; exact Nat.mod_lt _ (by omega)
          have hw1 : (IntKind.i64.wrap ((x : Int) + (y : Int))).tmod (m : Int) = (t : Int) := by
            rw [i64w (by omega) (by omega), ht]
            rw [Int.tmod_eq_emod_of_nonneg (by omega), Int.natCast_emod, Int.natCast_add]
          have hw2 : IntKind.i64.wrap ((y : Int) + 1) = (y : Int) + 1 := i64w (by omega) (by omega)
          have hw3 : ((t : Int).tmod 2 == 0) = decide (t % 2 = 0) := by
            rw [Int.tmod_eq_emod_of_nonneg (by omega)]
            apply Bool.eq_iff_iff.2
            simp; omega
          have hw4 : ((m : Int).tmod 2 == 1) = decide (¬ m % 2 = 0) := by
            rw [Int.tmod_eq_emod_of_nonneg (by omega)]
            apply Bool.eq_iff_iff.2
            simp; omega
          have hpre3 : H1 <+: H3 := (show Same (fun j => j = rid) H1 H3 from (Same.of_prefix hpre2).trans hsame3).prefix (by omega)
          have fin : ∀ fr', upF H3 [(0, .int .i64 m), (3, lv 1 oid 0 x), (4, .int .i64 x), (5, lv 1 (H2.length + 1) 0 (y + 1)), (6, .int .i64 ((y : Int) + 1))] fr' → K2 fr' H3 := by
            intro fr' hf
            refine hK2 (y + 1, H2.length + 1) fr' H3 (by simp only; omega) (by simpa using hf) ⟨by simp only; omega, hpre3, ?_, ?_⟩
            · rw [sqRow_succ, ← ints_append]; exact hol3
            · have := hpre2.length_le; simp only; omega
          by_cases h1 : t % 2 = 0
          · have hv : IntKind.i64.wrap ((t : Int) / 2) = sqCell m x y := by
              rw [i64w (by omega) (by omega)]
              simp only [sqCell, ← ht, h1, if_true]; omega
            simp (maxSteps := 1000000) [go_sem, hly, srcCells, hm0, hw1, hw2, hw3, h1, hv, hsrc, hap, Value.oneCell']
            refine andK_intro (by omega) (fin _ ?_)
            simp [upF, Fr.get, Up.refl]
          · by_cases h2' : m % 2 = 0
            · have hv : IntKind.i64.wrap ((IntKind.i64.wrap (IntKind.i64.wrap ((t : Int) + (m : Int)) - 1)).tdiv 2) = sqCell m x y := by
                rw [i64w (n := (t : Int) + (m : Int)) (by omega) (by omega), i64w (n := (t : Int) + (m : Int) - 1) (by omega) (by omega), Int.tdiv_eq_ediv_of_nonneg (by omega), i64w (by omega) (by omega)]
                simp only [sqCell, ← ht, h1, h2', if_true, if_false]; omega
              simp (maxSteps := 1000000) [go_sem, hly, srcCells, hm0, hw1, hw2, hw3, hw4, h1, h2', hv, hsrc, hap, Value.oneCell']
              refine andK_intro (by omega) (fin _ ?_)
              simp [upF, Fr.get, Up.refl]
            · have hv : IntKind.i64.wrap ((IntKind.i64.wrap ((t : Int) + (m : Int))).tdiv 2) = sqCell m x y := by
                rw [i64w (n := (t : Int) + (m : Int)) (by omega) (by omega), Int.tdiv_eq_ediv_of_nonneg (by omega), i64w (by omega) (by omega)]
                simp only [sqCell, ← ht, h1, h2', if_false]; omega
              have h3 : m % 2 = 1 := by omega
              simp (maxSteps := 1000000) [go_sem, hly, srcCells, hm0, hw1, hw2, hw3, hw4, h1, h3, hv, hsrc, hap, Value.oneCell']
              refine andK_intro (by omega) (fin _ ?_)
              simp [upF, Fr.get, Up.refl]
        · have : y = m := by omega
          subst this
          have hol2' : OL 1 H2 rid (ints (sqRow y x y)) (sqRow y x y).length := by rw [sqRow_length]; exact hol2
          obtain ⟨hsrc, H4, hap, hb4⟩ := hb.push hpre2 hol2' hrid
          rw [sqRow_length] at hsrc hap
          rw [hlen] at hap
          have hw2 : IntKind.i64.wrap ((x : Int) + 1) = (x : Int) + 1 := i64w (by omega) (by omega)
          simp (maxSteps := 1000000) [go_sem, srcCells, hsrc, hap, Value.oneCell', hw2]
          exact andK_intro (by omega) (hK (x + 1, H2.length + 1, rows ++ [(rid, sqRow y x y)]) _ _ (by simp only; omega) (by simp [upF, Fr.get, Up.refl]) ⟨by simp only; omega, by simp [hlen], hb4, by simp [hcont, sqRows_succ]⟩)
    · have : x = m := by omega
      subst this
      simp (maxSteps := 1000000) [go_sem]
      exact ⟨_, Up.refl _ _, hgood H1 oid rows hb hlen (by simpa using hcont)⟩

/-- Rows that may be written, behind lo. -/
structure SqAt (lo : Nat) (H : Heap) (id : Nat) (rows : List (Nat × List Int)) (n : Nat) : Prop where
  head : H[id]? = some ⟨rows.map rowVal, true, true⟩
  ge : lo ≤ id
  row : ∀ r ∈ rows, r.2.length = n ∧ H[r.1]? = some ⟨ints r.2, true, true⟩ ∧ lo ≤ r.1 ∧ r.1 ≠ id
  apart : ∀ (a b : Nat) (r t : Nat × List Int), rows[a]? = some r → rows[b]? = some t → a ≠ b → r.1 ≠ t.1
  nums : ∀ r ∈ rows, ∀ x ∈ r.2, 0 ≤ x ∧ x ≤ 1000
theorem SqAt.of_build {H H' : Heap} {oid n : Nat} {rows : List (Nat × List Int)} (h : Build H H' oid rows) (hn : 0 < n) (hl : 0 < rows.length) (hr : ∀ r ∈ rows, r.2.length = n) (hx : ∀ r ∈ rows, ∀ x ∈ r.2, 0 ≤ x ∧ x ≤ 1000) : SqAt H.length H' oid rows n := by
  have hne : ∀ r ∈ rows, r.2 ≠ [] := fun r hm e => by have := hr r hm; rw [e] at this; simp at this; omega
  refine ⟨?_, h.ge, fun r hm => ⟨hr r hm, (h.rows1.1 r hm).resolve_left (hne r hm), (h.ids r hm).1, (h.ids r hm).2.2⟩, fun a b r t ha hb hab => h.rows1.2 a b r t ha hb hab (hne r (List.mem_of_getElem? ha)) (hne t (List.mem_of_getElem? hb)), hx⟩
  rcases h.ol.2 with ⟨h0, _⟩ | h0
  · omega
  · exact h0
theorem SqAt.keep {lo : Nat} {H H' : Heap} {id n : Nat} {rows : List (Nat × List Int)} (h : SqAt lo H id rows n) {S : Nat → Prop} (hs : Same S H H') (hd : ∀ j, lo ≤ j → ¬ S j) : SqAt lo H' id rows n :=
  ⟨hs.get h.head (hd _ h.ge), h.ge, fun r hr => ⟨(h.row r hr).1, hs.get (h.row r hr).2.1 (hd _ (h.row r hr).2.2.1), (h.row r hr).2.2⟩, h.apart, h.nums⟩
theorem SqAt.lt {lo : Nat} {H : Heap} {id n : Nat} {rows : List (Nat × List Int)} (h : SqAt lo H id rows n) : id < H.length := (List.getElem?_eq_some_iff.1 h.head).1
theorem SqAt.cell {lo : Nat} {H : Heap} {id n : Nat} {rows : List (Nat × List Int)} (h : SqAt lo H id rows n) {k : Nat} {r : Nat × List Int} (hr : rows[k]? = some r) : cellsAt H id k 1 = some [lv 1 r.1 0 n] := by
  have := Holds.cell (i := id) (cs := rows.map rowVal) (H := H) ⟨true, h.head⟩ (o := k) (v := rowVal r) (by simp [hr])
  rw [this]; simp only [rowVal, (h.row r (List.mem_of_getElem? hr)).1]
theorem same_block {j i : Nat} {H : Heap} {b : Blk} (h : j ≠ i) : (H.set i b)[j]? = H[j]? := List.getElem?_set_ne (fun e => h e.symm)
theorem setL_same {α : Type} {l : List α} {k : Nat} {v : α} (h : l[k]? = some v) : l.set k v = l := by
  obtain ⟨hl, e⟩ := List.getElem?_eq_some_iff.1 h
  rw [← e]; exact List.set_getElem_self hl
/-- A number of a row written over. -/
theorem SqAt.put {lo : Nat} {H : Heap} {id n : Nat} {rows : List (Nat × List Int)} (h : SqAt lo H id rows n) {k : Nat} {r : Nat × List Int} (hr : rows[k]? = some r) {j : Nat} (hj : j < n) {x : Int} (hx : 0 ≤ x ∧ x ≤ 1000) :
    storeAt H r.1 j [.int .i64 x] = some (H.set r.1 ⟨ints (r.2.set j x), true, true⟩) ∧ SqAt lo (H.set r.1 ⟨ints (r.2.set j x), true, true⟩) id (rows.set k (r.1, r.2.set j x)) n := by
  have hm := List.mem_of_getElem? hr
  obtain ⟨h1, h2, h3, h4⟩ := h.row r hm
  have hkl := (List.getElem?_eq_some_iff.1 hr).1
  have hlt := (List.getElem?_eq_some_iff.1 h2).1
  have other : ∀ (a : Nat) (t : Nat × List Int), rows[a]? = some t → a ≠ k → t.1 ≠ r.1 := fun a t ha hak => h.apart a k t r ha hr hak
  have get : ∀ (a : Nat) (t : Nat × List Int), (rows.set k (r.1, r.2.set j x))[a]? = some t → (a = k ∧ t = (r.1, r.2.set j x)) ∨ (a ≠ k ∧ rows[a]? = some t) := by
    intro a t ha
    rw [List.getElem?_set] at ha
    by_cases e : k = a
    · subst e; simp [hkl] at ha; exact .inl ⟨rfl, ha.symm⟩
    · rw [if_neg e] at ha; exact .inr ⟨fun e' => e e'.symm, ha⟩
  refine ⟨?_, ?_, h.ge, ?_, ?_, ?_⟩
  · rw [storeAt_of h2 rfl rfl (by rw [ints_length, List.length_singleton]; omega) (by simp [Value.oneCell'])]
    rw [over_one (by rw [ints_length]; omega), ints_set]
  · rw [same_block h4.symm, h.head]
    congr 2
    rw [List.map_set]
    have : rowVal (r.1, r.2.set j x) = rowVal r := by simp [rowVal]
    rw [this]
    exact (setL_same (by simp [hr])).symm
  · intro t ht
    obtain ⟨a, ha⟩ := List.mem_iff_getElem?.1 ht
    rcases get a t ha with ⟨_, e⟩ | ⟨hne, ha'⟩
    · subst e; exact ⟨by simp [h1], List.getElem?_set_self hlt, h3, h4⟩
    · have := h.row t (List.mem_of_getElem? ha')
      exact ⟨this.1, by rw [same_block (other a t ha' hne)]; exact this.2.1, this.2.2⟩
  · intro a b t u ha hb hab
    rcases get a t ha with ⟨e1, e2⟩ | ⟨hne, ha'⟩
    · rcases get b u hb with ⟨e3, e4⟩ | ⟨hne', hb'⟩
      · exact absurd (e1.trans e3.symm) hab
      · subst e2; exact (other b u hb' hne').symm
    · rcases get b u hb with ⟨e3, e4⟩ | ⟨hne', hb'⟩
      · subst e4; exact other a t ha' hne
      · exact h.apart a b t u ha' hb' hab
  · intro t ht y hy
    obtain ⟨a, ha⟩ := List.mem_iff_getElem?.1 ht
    rcases get a t ha with ⟨_, e⟩ | ⟨hne, ha'⟩
    · subst e
      rcases List.mem_or_eq_of_mem_set hy with hy | rfl
      · exact h.nums r hm y hy
      · exact hx
    · exact h.nums t (List.mem_of_getElem? ha') y hy
theorem apart_nodup {rows : List (Nat × List Int)} : (∀ (a b : Nat) (r t : Nat × List Int), rows[a]? = some r → rows[b]? = some t → a ≠ b → r.1 ≠ t.1) ↔ (rows.map (·.1)).Nodup := by
  unfold List.Nodup
  rw [List.pairwise_map, List.pairwise_iff_getElem]
  constructor
  · intro h i j hi hj hij
    exact h i j _ _ (List.getElem?_eq_getElem hi) (List.getElem?_eq_getElem hj) (by omega)
  · intro h a b r t ha hb hab
    obtain ⟨h1, rfl⟩ := List.getElem?_eq_some_iff.1 ha
    obtain ⟨h2, rfl⟩ := List.getElem?_eq_some_iff.1 hb
    rcases Nat.lt_or_ge a b with h3 | h3
    · exact h a b h1 h2 h3
    · exact fun e => h b a h2 h1 (by omega) e.symm
/-- The rows in another order. -/
theorem SqAt.perm {lo : Nat} {H : Heap} {id n : Nat} {rows rows' : List (Nat × List Int)} (h : SqAt lo H id rows n) (hp : rows'.Perm rows) : SqAt lo (H.set id ⟨rows'.map rowVal, true, true⟩) id rows' n := by
  refine ⟨List.getElem?_set_self h.lt, h.ge, fun r hr => ?_, apart_nodup.2 ((hp.map (·.1)).nodup_iff.2 (apart_nodup.1 h.apart)), fun r hr => h.nums r (hp.mem_iff.1 hr)⟩
  have := h.row r (hp.mem_iff.1 hr)
  exact ⟨this.1, by rw [same_block this.2.2.2]; exact this.2.1, this.2.2⟩
theorem SqAt.wider {lo lo' : Nat} {H : Heap} {id n : Nat} {rows : List (Nat × List Int)} (h : SqAt lo H id rows n) (hl : lo' ≤ lo) : SqAt lo' H id rows n :=
  ⟨h.head, Nat.le_trans hl h.ge, fun r hr => ⟨(h.row r hr).1, (h.row r hr).2.1, Nat.le_trans hl (h.row r hr).2.2.1, (h.row r hr).2.2.2⟩, h.apart, h.nums⟩
theorem flat_bound {m : Nat} : ∀ {l : List (List Int)}, (∀ xs ∈ l, xs.length ≤ m) → l.flatten.length ≤ l.length * m
  | [], _ => by simp
  | xs :: l, h => by
    have h1 := h xs (by simp)
    have h2 := flat_bound (l := l) (fun ys hy => h ys (by simp [hy]))
    rw [List.flatten_cons, List.length_append, List.length_cons, Nat.add_mul]; omega
theorem SqAt.rowsIn {lo : Nat} {H : Heap} {id n : Nat} {rows : List (Nat × List Int)} (h : SqAt lo H id rows n) (hn : n ≤ 5) (hl : rows.length ≤ 6) :
    RowsIn lo H.length H (lv 1 id 0 rows.length) (rows.map (·.2)) ∧ (rows.map (·.2)).length + (rows.map (·.2)).flatten.length ≤ 36 ∧ ∀ xs ∈ rows.map (·.2), ∀ x ∈ xs, In64 x := by
  have hfl : (rows.map (·.2)).flatten.length ≤ (rows.map (·.2)).length * 5 := flat_bound (fun xs hx => by
    obtain ⟨r, hr, rfl⟩ := List.mem_map.1 hx
    exact (h.row r hr).1 ▸ hn)
  rw [List.length_map] at hfl
  refine ⟨⟨id, rows, rfl, Holds.at ⟨true, h.head⟩, ⟨fun r hr => .inr (h.row r hr).2.1, fun a b r t ha hb hab _ _ => h.apart a b r t ha hb hab⟩, fun r hr _ => ⟨(h.row r hr).2.2.2, (h.row r hr).2.2.1, (List.getElem?_eq_some_iff.1 (h.row r hr).2.1).1⟩, rfl, fun _ => ⟨h.ge, h.lt⟩, by omega, by omega⟩, by rw [List.length_map]; omega, ?_⟩
  intro xs hx x hxx
  obtain ⟨r, hr, rfl⟩ := List.mem_map.1 hx
  have := h.nums r hr x hxx
  unfold In64; omega

end Go.Proofs.Ytfnegaedkomcgaa
end

section
/- Lists of lists that are built by literals; heaps of which less is said. No statement of the seat is proved here; it holds for every program. -/
set_option linter.all false
namespace Go.Ab

def upH (H H' : Heap) : Prop := ∀ B w0 ρ w, R B w0 ρ H w → R B w0 ρ H' w
theorem upH.refl (H : Heap) : upH H H := fun _ _ _ _ h => h
theorem upH.cells {H : Heap} {id : Nat} {cs cs' : List Value} {li ow : Bool} (hb : H[id]? = some ⟨cs, li, ow⟩) (hl : cs'.length = cs.length)
    (hu : ∀ (k : Nat) (v v' : Value), cs[k]? = some v → cs'[k]? = some v' → Up H v v') : upH H (H.set id ⟨cs', li, ow⟩) := by
  intro B w0 ρ w hR
  have hlt := (List.getElem?_eq_some_iff.1 hb).1
  have key : ∀ (i : Nat) (b : Blk), (H.set id ⟨cs', li, ow⟩)[i]? = some b → (i = id ∧ b = ⟨cs', li, ow⟩) ∨ (i ≠ id ∧ H[i]? = some b) := by
    intro i b h
    by_cases e : i = id
    · subst e; rw [List.getElem?_set_self hlt] at h; exact .inl ⟨rfl, (Option.some.inj h).symm⟩
    · rw [List.getElem?_set_ne (fun h => e h.symm)] at h; exact .inr ⟨e, h⟩
  -- the block that stood there
  have old : ∀ (i : Nat) (b : Blk), (H.set id ⟨cs', li, ow⟩)[i]? = some b → ∃ b', H[i]? = some b' ∧ b'.live = b.live ∧ b'.own = b.own := by
    intro i b h
    rcases key i b h with ⟨rfl, rfl⟩ | ⟨_, h⟩
    · exact ⟨_, hb, rfl, rfl⟩
    · exact ⟨b, h, rfl, rfl⟩
  refine ⟨by rw [List.length_set]; exact hR.len, hR.below, hR.base, ?_, ?_, ?_⟩
  · intro i b l h hl' hlive
    rcases key i b h with ⟨rfl, rfl⟩ | ⟨_, h⟩
    · obtain ⟨arr, elem, fz, h1, h2, h3, h4⟩ := hR.blk i _ l hb hl' hlive
      refine ⟨arr, elem, fz, h1, h2, ?_, h4⟩
      intro k v hk
      have hk' : k < cs.length := by have := (List.getElem?_eq_some_iff.1 hk).1; simp only at this; omega
      obtain ⟨h5, cv, h6, h7⟩ := h3 k cs[k] (List.getElem?_eq_getElem hk')
      have h8 := hu k _ v (List.getElem?_eq_getElem hk') hk _ _ _ _ _ hR h7
      exact ⟨by rw [h8.oneCell, ← h7.oneCell]; exact h5, cv, h6, h8⟩
    · exact hR.blk i b l h hl' hlive
  · intro i j b c l m hij h1 h2 h3 h4 h5 h6 h7
    obtain ⟨b', e1, e2, e3⟩ := old i b h1
    obtain ⟨c', f1, f2, f3⟩ := old j c h2
    exact hR.apart i j b' c' l m hij e1 f1 h3 h4 (by rw [e2]; exact h5) (by rw [f2]; exact h6) (by rw [e3]; exact h7)
  · intro i b l h1 h2 h3 h4
    obtain ⟨b', e1, e2, e3⟩ := old i b h1
    exact hR.ghost i b' l e1 h2 (by rw [e2]; exact h3) (by rw [e3]; exact h4)

/-- The result and the memory may be said less of. -/
theorem ACalls.resH {P : Program} {f : FuncId} {args : List Value} {H : Heap} {Post : Value → Heap → Prop} (h : ACalls P f args H fun v H' => ∃ v' H2, Up H' v v' ∧ upH H' H2 ∧ Post v' H2) : ACalls P f args H Post :=
  ⟨h.1, fun B w0 ρ w cargs hR hv => (h.2 B w0 ρ w cargs hR hv).mono fun e w' hp => by
    obtain ⟨ρ', H', v, cv, h1, h2, h3, h4, v', H2, h5, h6, h7⟩ := hp
    exact ⟨ρ', H2, v', cv, h1, h2, h6 _ _ _ _ h3, h5 _ _ _ _ _ h3 h4, h7⟩⟩

def rowX (r : Nat × List Int) : Value := .slice (some ⟨r.1, 0, none⟩) r.2.length r.2.length

/-- A list of lists while it is built. -/
structure BuildX (H0 H : Heap) (oid : Nat) (rows : List (Nat × List Int)) : Prop where
  pre : H0 <+: H
  ol : OL 1 H oid (rows.map rowX) rows.length
  ge : H0.length ≤ oid
  rows1 : Rows1 H rows
  ids : ∀ r ∈ rows, H0.length ≤ r.1 ∧ r.1 < H.length ∧ r.1 ≠ oid

theorem BuildX.start (H : Heap) : BuildX H (H ++ [⟨[], false, false⟩]) H.length [] :=
  ⟨List.prefix_append _ _, OL.ghost 1 H, Nat.le_refl _, ⟨by simp, by simp⟩, by simp⟩

theorem BuildX.of_ol {H0 H : Heap} {oid : Nat} (hp : H0 <+: H) (h : OL 1 H oid [] 0) (hg : H0.length ≤ oid) : BuildX H0 H oid [] :=
  ⟨hp, h, hg, ⟨by simp, by simp⟩, by simp⟩

theorem BuildX.push {H0 H1 H2 : Heap} {oid rid : Nat} {rows : List (Nat × List Int)} {xs : List Int} (h : BuildX H0 H1 oid rows) (hp : H1 <+: H2) (hr : OL 1 H2 rid (ints xs) xs.length) (hrid : H1.length ≤ rid) :
    cellsAt (H2 ++ [⟨[(.slice (some ⟨rid, 0, none⟩) xs.length xs.length)], true, true⟩]) H2.length 0 1 = some [(.slice (some ⟨rid, 0, none⟩) xs.length xs.length)] ∧
    ∃ H4, appendH (H2 ++ [⟨[(.slice (some ⟨rid, 0, none⟩) xs.length xs.length)], true, true⟩]) 1 (lv 1 oid 0 rows.length) 1 [(.slice (some ⟨rid, 0, none⟩) xs.length xs.length)] = some (lv 1 (H2.length + 1) 0 (rows.length + 1), H4) ∧ BuildX H0 H4 (H2.length + 1) (rows ++ [(rid, xs)]) := by
  have hol' : OL 1 H2 oid (rows.map rowX) rows.length := h.ol.keep (S := fun _ => False) (Same.of_prefix hp) (fun h => h)
  obtain ⟨hsrc, H4, hap, hol4, hsame4, hlen4⟩ := hol'.push (xs := [(.slice (some ⟨rid, 0, none⟩) xs.length xs.length)]) (by omega) rfl
  have hoid := h.ol.lt
  have hle := hp.length_le
  have hle0 := h.pre.length_le
  have hlt := hr.lt
  refine ⟨hsrc, H4, hap, ⟨(show Same (fun j => j = oid) H0 H4 from (Same.of_prefix (h.pre.trans hp)).trans hsame4).prefix (by have := h.ge; omega), by simpa [rowX] using hol4, by omega, ⟨?_, ?_⟩, ?_⟩⟩
  · intro r hm
    rcases List.mem_append.1 hm with hm | hm
    · refine (h.rows1.1 r hm).imp (fun h => h) fun hb => ?_
      exact hsame4.get (Same.get (S := fun _ => False) (Same.of_prefix hp) hb (fun h => h)) (h.ids r hm).2.2
    · simp at hm; subst hm
      rcases hr.2 with ⟨h0, _⟩ | h0
      · exact .inl (List.eq_nil_of_length_eq_zero h0)
      · right
        exact hsame4.get h0 (by simp only; omega)
  · intro a b r t ha hb hab hrn htn
    have key : ∀ (a : Nat) (r : Nat × List Int), (rows ++ [(rid, xs)])[a]? = some r → (a < rows.length ∧ rows[a]? = some r) ∨ (a = rows.length ∧ r = (rid, xs)) := by
      intro a r ha
      rcases Nat.lt_or_ge a rows.length with h | h
      · rw [List.getElem?_append_left h] at ha; exact .inl ⟨h, ha⟩
      · rw [List.getElem?_append_right h] at ha
        cases hk : a - rows.length with
        | zero => rw [hk] at ha; simp at ha; exact .inr ⟨by omega, ha.symm⟩
        | succ k => rw [hk] at ha; simp at ha
    rcases key a r ha with ⟨h1, h1'⟩ | ⟨h1, rfl⟩
    · rcases key b t hb with ⟨h2, h2'⟩ | ⟨h2, rfl⟩
      · exact h.rows1.2 a b r t h1' h2' hab hrn htn
      · have := (h.ids r (List.mem_of_getElem? h1')).2.1; simp only; omega
    · rcases key b t hb with ⟨h2, h2'⟩ | ⟨h2, rfl⟩
      · have := (h.ids t (List.mem_of_getElem? h2')).2.1; simp only; omega
      · omega
  · intro r hm
    rcases List.mem_append.1 hm with hm | hm
    · have := h.ids r hm
      omega
    · simp at hm; subst hm; simp only; omega


theorem BuildX.pushRow {H0 H1 : Heap} {oid : Nat} {rows : List (Nat × List Int)} {xs : List Int} (h : BuildX H0 H1 oid rows) :
    cellsAt (H1 ++ [⟨ints xs, true, true⟩, ⟨[.slice (some ⟨H1.length, 0, none⟩) xs.length xs.length], true, true⟩]) (H1.length + 1) 0 1 = some [.slice (some ⟨H1.length, 0, none⟩) xs.length xs.length] ∧
    ∃ H4, appendH (H1 ++ [⟨ints xs, true, true⟩, ⟨[.slice (some ⟨H1.length, 0, none⟩) xs.length xs.length], true, true⟩]) 1 (lv 1 oid 0 rows.length) 1 [.slice (some ⟨H1.length, 0, none⟩) xs.length xs.length] = some (lv 1 (H1.length + 2) 0 (rows.length + 1), H4) ∧ BuildX H0 H4 (H1.length + 2) (rows ++ [(H1.length, xs)]) := by
  have := h.push (H2 := H1 ++ [⟨ints xs, true, true⟩]) (rid := H1.length) (xs := xs) (List.prefix_append _ _) ⟨by simp [ints], .inr (by simp)⟩ (Nat.le_refl _)
  simpa using this
theorem BuildX.keep {H0 H H' : Heap} {oid : Nat} {rows : List (Nat × List Int)} (h : BuildX H0 H oid rows) (hp : H <+: H') : BuildX H0 H' oid rows :=
  ⟨h.pre.trans hp, h.ol.keep (S := fun _ => False) (Same.of_prefix hp) (fun h => h), h.ge, ⟨fun r hr => (h.rows1.1 r hr).imp (fun h => h) fun hb => Same.get (S := fun _ => False) (Same.of_prefix hp) hb (fun h => h), h.rows1.2⟩,
    fun r hr => ⟨(h.ids r hr).1, Nat.lt_of_lt_of_le (h.ids r hr).2.1 hp.length_le, (h.ids r hr).2.2⟩⟩
/-- The list built, its rows as slices of unknown room. -/
theorem BuildX.fin {H0 H : Heap} {oid : Nat} {rows : List (Nat × List Int)} (h : BuildX H0 H oid rows) : ∃ H2, upH H H2 ∧ Build H0 H2 oid rows := by
  obtain ⟨hl, h0 | hb⟩ := h.ol
  · have : rows = [] := List.eq_nil_of_length_eq_zero h0.1
    subst this
    exact ⟨H, upH.refl H, Build.of_ol h.pre ⟨rfl, .inl ⟨rfl, h0.2⟩⟩ h.ge⟩
  · have hlt := (List.getElem?_eq_some_iff.1 hb).1
    refine ⟨H.set oid ⟨rows.map rowVal, true, true⟩, upH.cells hb (by simp) ?_, ?_, ⟨by simp, .inr (List.getElem?_set_self hlt)⟩, h.ge, ⟨?_, h.rows1.2⟩, ?_⟩
    · intro k v v' hv hv'
      simp only [List.getElem?_map, Option.map_eq_some_iff] at hv hv'
      obtain ⟨r, hr, rfl⟩ := hv
      obtain ⟨r', hr', rfl⟩ := hv'
      rw [hr] at hr'; cases hr'
      refine Up.ex (by omega) ?_
      rcases h.rows1.1 r (List.mem_of_getElem? hr) with e | e
      · left; rw [e]; rfl
      · right
        rw [cellsAt_of e rfl (by simp [ints])]; rfl
    · have hs : Same (fun j => j = oid) H (H.set oid ⟨rows.map rowVal, true, true⟩) := ⟨by simp, fun j hj hS => List.getElem?_set_ne (fun e => hS e.symm)⟩
      exact ((Same.of_prefix h.pre).trans hs).prefix (by intro j hj e; have := h.ge; omega)
    · intro r hr
      refine (h.rows1.1 r hr).imp (fun h => h) fun hb' => ?_
      rw [List.getElem?_set_ne (fun e => (h.ids r hr).2.2 e.symm)]; exact hb'
    · intro r hr
      have := h.ids r hr
      rw [List.length_set]; exact this

end Go.Ab
end

section
/- Draws: a square, changed in some ways: the walk. -/
set_option linter.all false
set_option maxRecDepth 20000
set_option maxHeartbeats 8000000
namespace Go.Proofs.Ytfnegaedkomcgaa
open Go.Ab

theorem AWp.upH {P : Program} {N : Nat} {c : Code} {Q : Exit → Fr → Heap → Prop} {fr : Fr} {H H2 : Heap} (hu : Go.Ab.upH H H2) (h : AWp P N c Q fr H2) : AWp P N c Q fr H :=
  fun B w0 ρ w a hR hF => h B w0 ρ w a (hu _ _ _ _ hR) hF
theorem sqRows_facts {m : Nat} (h2 : 2 ≤ m) (h5 : m ≤ 5) : ∀ xs ∈ sqRows m m, xs.length = m ∧ ∀ x ∈ xs, 0 ≤ x ∧ x < m := by
  have : m = 2 ∨ m = 3 ∨ m = 4 ∨ m = 5 := by omega
  rcases this with rfl | rfl | rfl | rfl <;> decide +kernel

/-- What is written behind the start does not count. -/
theorem sameLo {s : Nat} {H H' H2 : Heap} {i : Nat} (h : Same (fun j => j = s) H H') (h2 : Same (fun j => j = i) H' H2) (hi : H.length ≤ i) : Same (fun j => j = s) H H2 :=
  ⟨Nat.le_trans h.1 h2.1, fun j hj hS => (h2.2 j (Nat.lt_of_lt_of_le hj h.1) (by omega)).trans (h.2 j hj hS)⟩
theorem drawSquare_ok {L s : Nat} {H : Heap} (hs : Src L s H) (Post : Value → Heap → Prop)
    (h : ∀ (H' : Heap) (w : Value) (sq : List (List Int)), Same (fun j => j = s) H H' → RowsIn H.length H'.length H' w sq → sq.length + sq.flatten.length ≤ 36 → (∀ xs ∈ sq, ∀ x ∈ xs, In64 x) → Post w H') :
    ACalls Try.prog 19 [.pointer (some ⟨s, 0, none⟩)] H Post := by
  refine ACalls.resH ?_
  have hslt := hs.lt
  refine acalls_vc (rs := [.tmp 2]) Try.func19 rfl rfl Try.ntmps19 rfl rfl ?_
  simp (maxSteps := 1000000) [go_sem]
  refine next_ok hs _ ?_
  intro H1 r hs1 hl1 hS1 h0 h1
  obtain ⟨m, hm⟩ : ∃ m : Nat, (m : Int) = 2 + r := ⟨(2 + r).toNat, by omega⟩
  have wr : IntKind.i64.wrap (2 + r) = m := by rw [i64w (by omega) (by omega)]; exact hm.symm
  have hm2 : 2 ≤ m := by omega
  have hm5 : m ≤ 5 := by omega
  clear hm
  simp (maxSteps := 1000000) [go_sem, wr]
  refine l02MadeB_ok hm2 hm5 _ ?_
  intro H2 oid rows hb hrl hrows
  have hfac := sqRows_facts hm2 hm5
  have hrf : ∀ r ∈ rows, r.2.length = m ∧ ∀ x ∈ r.2, 0 ≤ x ∧ x < m := fun r hr => hfac r.2 (hrows ▸ List.mem_map_of_mem (f := fun r : Nat × List Int => r.2) hr)
  have hsq := SqAt.of_build hb (n := m) (by omega) (by omega) (fun r hr => (hrf r hr).1) (fun r hr x hx => by have := (hrf r hr).2 x hx; omega)
  have hp12 := hb.pre
  have hS2 := hS1.pre hp12
  have hle12 := hp12.length_le
  simp (maxSteps := 1000000) [go_sem]
  refine next_ok hS2 _ ?_
  intro H3 q hs3 hl3 hS3 hq0 hq1
  have hsq3 := hsq.keep hs3 (by intro j hj e; omega)
  have hs03 : Same (fun j => j = s) H H3 := (hs1.trans (Same.of_prefix hp12)).trans hs3
  have hn3 : rows.length = m := hrl
  -- the end
  have fin : ∀ (H' : Heap) (id : Nat) (rs : List (Nat × List Int)), Same (fun j => j = s) H H' → SqAt H.length H' id rs m → rs.length = m → Post (lv 1 id 0 m) H' := by
    intro H' id rs a b c
    obtain ⟨e1, e2, e3⟩ := b.rowsIn hm5 (by omega)
    rw [c] at e1
    exact h H' _ _ a e1 e2 e3
  by_cases c0 : q = 0
  · subst c0
    simp (maxSteps := 1000000) [go_sem]
    refine drawOrder_ok hS3 (n := m) (by omega) _ ?_
    intro H4 w order hs4 hS4 hI4 hO4
    obtain ⟨ow, ⟨rfl, hoat, hosz⟩, hosp⟩ := hI4
    have hol : order.length = m := by have := hO4.1; omega
    have hosp' := hosp (by intro e; rw [e] at hol; simp at hol; omega)
    have hob : H4[ow]? = some ⟨ints order, true, true⟩ := hoat.resolve_left (by intro e; rw [e] at hol; simp at hol; omega)
    have hsq4 := hsq3.keep hs4 (by intro j hj e; omega)
    have hs04 : Same (fun j => j = s) H H4 := hs03.trans hs4
    have hge4 := hsq3.ge
    have hle34 := hs4.1
    have hrl4 : ∀ r ∈ rows, r.1 < H4.length := fun r hr => (List.getElem?_eq_some_iff.1 (hsq4.row r hr).2.1).1
    have hlt4 := hsq4.lt
    have rdO : ∀ H' : Heap, KeepL H4.length H4 H' → ∀ x, x < m → ∃ v : Nat, v < m ∧ cellsAt H' ow x 1 = some [.int .i64 v] := by
      intro H' hk x hx
      have h1 := hO4.2.2 order[x] (List.getElem_mem (by omega))
      obtain ⟨v, hv⟩ : ∃ v : Nat, order[x] = v := ⟨order[x].toNat, by omega⟩
      refine ⟨v, by omega, ?_⟩
      have hb : H'[ow]? = some ⟨ints order, true, true⟩ := by rw [hk ow hosp'.2]; exact hob
      exact Holds.cell (o := x) ⟨true, hb⟩ (by simp [ints, show x < order.length by omega, hv])
    have rdS : ∀ H' : Heap, KeepL H4.length H4 H' → ∀ x, x < m → ∃ r : Nat × List Int, cellsAt H' oid x 1 = some [lv 1 r.1 0 m] ∧ ∀ y, y < m → ∃ v : Nat, v < m ∧ cellsAt H' r.1 y 1 = some [.int .i64 v] := by
      intro H' hk x hx
      have hr : rows[x]? = some (rows[x]'(by omega)) := List.getElem?_eq_getElem (by omega)
      generalize rows[x]'(by omega) = r at hr
      have hm := List.mem_of_getElem? hr
      refine ⟨r, ?_, fun y hy => ?_⟩
      · have hb : H'[oid]? = some ⟨rows.map rowVal, true, true⟩ := by rw [hk oid hlt4]; exact hsq4.head
        have := Holds.cell (o := x) (i := oid) (H := H') (cs := rows.map rowVal) ⟨true, hb⟩ (v := rowVal r) (by simp [hr])
        rw [this]; simp only [rowVal, (hsq4.row r hm).1]
      · have hl := (hrf r hm).1
        have h1 := (hrf r hm).2 r.2[y] (List.getElem_mem (by omega))
        obtain ⟨v, hv⟩ : ∃ v : Nat, r.2[y] = v := ⟨(r.2[y]).toNat, by omega⟩
        refine ⟨v, by omega, ?_⟩
        have hb : H'[r.1]? = some ⟨ints r.2, true, true⟩ := by rw [hk r.1 (hrl4 r hm)]; exact (hsq4.row r hm).2.1
        exact Holds.cell (o := y) ⟨true, hb⟩ (by simp [ints, show y < r.2.length by omega, hv])
    rw [hol]
    have hbX := BuildX.of_ol (H0 := H4) (H := H4 ++ [⟨[], true, true⟩]) (oid := H4.length) (List.prefix_append _ _) ⟨rfl, .inr (by simp)⟩ (Nat.le_refl _)
    have hmc : ∀ n, (madeCells #[Value.int .i64 0] n).toList = ints (List.replicate n 0) := by
      intro n
      rw [made_same (v := .int .i64 0) (by simp) (by intro i hi; simp at hi; subst hi; rfl)]
      simp [ints]
    simp (maxSteps := 1000000) [go_sem]
    generalize H4 ++ [(⟨[], true, true⟩ : Blk)] = HA at hbX ⊢
    refine AWp.loopVc (St := Nat × Nat × List (Nat × List Int)) (fun q => [(3, .int .i64 m), (4, lv 1 oid 0 m), (5, lv 1 ow 0 m), (6, lv 1 q.2.1 0 q.2.2.length), (7, .int .i64 q.1)])
      (fun q H' => q.1 ≤ m ∧ q.2.2.length = q.1 ∧ BuildX H4 H' q.2.1 q.2.2 ∧ ∀ r ∈ q.2.2, r.2 = List.replicate m 0) (fun q => m - q.1) (0, H4.length, []) ?_ ?_ ?_
    · simp [upF, Fr.get, Up.refl, Up.ex0]
    · exact ⟨by omega, rfl, hbX, by simp⟩
    · rintro K ⟨x, o1, rs⟩ HB ⟨hx, hrs, hB, hz⟩ hK
      simp only at hx hrs hB hz
      by_cases hxm : x < m
      · obtain ⟨hsrc, HC, hap, hBC⟩ := hB.pushRow (xs := List.replicate m 0)
        rw [List.length_replicate] at hsrc hap
        have hcl : (ints (List.replicate m 0)).length = m := by simp [ints]
        have hw_x : IntKind.i64.wrap ((x : Int) + 1) = (x : Int) + 1 := i64w (by omega) (by omega)
        simp (maxSteps := 1000000) [go_sem, hxm, hmc, hsrc, hap, hw_x, hcl]
        refine andK_intro (by omega) (andK_intro (by omega) ?_)
        refine hK (x + 1, HB.length + 2, rs ++ [(HB.length, List.replicate m 0)]) _ _ (by simp only; omega) (by simp [upF, Fr.get, Up.refl]) ⟨by simp only; omega, by simp [hrs], hBC, ?_⟩
        intro r hr
        rcases List.mem_append.1 hr with hr | hr
        · exact hz r hr
        · simp at hr; subst hr; rfl
      · have hxe : m = x := by omega
        subst hxe
        obtain ⟨H6, hup6, hb6⟩ := hB.fin
        have hsq6 := SqAt.of_build hb6 (n := m) (by omega) (by omega) (fun r hr => by rw [hz r hr]; simp) (fun r hr y hy => by rw [hz r hr] at hy; have := List.eq_of_mem_replicate hy; omega)
        have hk46 : KeepL H4.length H4 H6 := KeepL.of_prefix hb6.pre (Nat.le_refl _)
        have hle46 := hb6.pre.length_le
        simp (maxSteps := 1000000) [go_sem]
        rw [hrs]
        refine AWp.upH hup6 ?_
        refine AWp.loopVc (St := Nat × List (Nat × List Int)) (fun q => [(3, .int .i64 m), (4, lv 1 oid 0 m), (5, lv 1 ow 0 m), (6, lv 1 o1 0 m), (8, .int .i64 q.1)])
          (fun q H' => q.1 ≤ m ∧ q.2.length = m ∧ SqAt H4.length H' o1 q.2 m ∧ KeepL H4.length H4 H' ∧ H'.length = H6.length) (fun q => m - q.1) (0, rs) ?_ ?_ ?_
        · simp [upF, Fr.get, Up.refl]
        · exact ⟨by omega, hrs, hsq6, hk46, rfl⟩
        · rintro K2 ⟨x, rs2⟩ HC ⟨hx2, hrs2, hsqC, hkC, hlC⟩ hK2
          simp only at hx2 hrs2 hsqC hkC hlC
          by_cases hxm2 : x < m
          · have hw_x : IntKind.i64.wrap ((x : Int) + 1) = (x : Int) + 1 := i64w (by omega) (by omega)
            simp (maxSteps := 1000000) [go_sem, hxm2]
            refine AWp.loopVc (St := Nat × List (Nat × List Int)) (fun q => [(3, .int .i64 m), (4, lv 1 oid 0 m), (5, lv 1 ow 0 m), (6, lv 1 o1 0 m), (8, .int .i64 x), (9, .int .i64 q.1)])
              (fun q H' => q.1 ≤ m ∧ q.2.length = m ∧ SqAt H4.length H' o1 q.2 m ∧ KeepL H4.length H4 H' ∧ H'.length = H6.length) (fun q => m - q.1) (0, rs2) ?_ ?_ ?_
            · simp [upF, Fr.get, Up.refl]
            · exact ⟨by omega, hrs2, hsqC, hkC, hlC⟩
            · rintro K3 ⟨y, rs3⟩ HD ⟨hy3, hrs3, hsqD, hkD, hlD⟩ hK3
              simp only at hy3 hrs3 hsqD hkD hlD
              by_cases hym : y < m
              · have hw_y : IntKind.i64.wrap ((y : Int) + 1) = (y : Int) + 1 := i64w (by omega) (by omega)
                obtain ⟨a, ha, la⟩ := rdO HD hkD x hxm2
                obtain ⟨b, hb', lb⟩ := rdO HD hkD y hym
                obtain ⟨r, lr, hrow⟩ := rdS HD hkD x hxm2
                obtain ⟨v, hv, lv1⟩ := hrow y hym
                obtain ⟨c, hc, lc⟩ := rdO HD hkD v hv
                have har : rs3[a]? = some (rs3[a]'(by omega)) := List.getElem?_eq_getElem (by omega)
                generalize rs3[a]'(by omega) = ra at har
                have lra := hsqD.cell har
                obtain ⟨st, hput⟩ := hsqD.put har hb' (x := c) (by omega)
                have hrage := (hsqD.row ra (List.mem_of_getElem? har)).2.2.1
                simp (maxSteps := 1000000) [go_sem, hym, hxm2, la, ha, lra]
                refine AWp.draw mixed [(0, false), (1, false), (2, false), (3, false), (4, false), (5, false), (6, false), (7, false), (8, false), (9, false), (10, false), (11, false), (12, false), (13, false), (14, false), (15, false), (16, false)] (by kernel_rfl) ?_
                simp (maxSteps := 1000000) [go_sem, hym, hxm2, lb, lr, lv1, lc, hv, hc, hb', st, hw_y]
                refine hK3 (y + 1, rs3.set a (ra.1, ra.2.set b c)) _ _ (by simp only; omega) (by simp [upF, Fr.get, Up.refl]) ⟨by simp only; omega, by simp [hrs3], hput, ?_, by simp [hlD]⟩
                intro k hk
                rw [same_block (by omega)]; exact hkD k hk
              · have hye : m = y := by omega
                subst hye
                simp (maxSteps := 1000000) [go_sem, hw_x]
                exact hK2 (x + 1, rs3) _ _ (by simp only; omega) (by simp [upF, Fr.get, Up.refl]) ⟨by simp only; omega, hrs3, hsqD, hkD, hlD⟩
          · have hxe2 : m = x := by omega
            subst hxe2
            simp (maxSteps := 1000000) [go_sem]
            refine ⟨_, Up.refl _ _, _, upH.refl _, fin _ _ _ ?_ (hsqC.wider (by omega)) hrs2⟩
            exact ⟨by omega, fun j hj hS => (hkC j (by omega)).trans (hs04.2 j hj hS)⟩
  · by_cases c1 : q = 1
    · subst c1
      simp (maxSteps := 1000000) [go_sem]
      obtain ⟨r0, r1, rest, er⟩ : ∃ r0 r1 rest, rows = r0 :: r1 :: rest := by
        match rows, hrl with
        | [], e => simp at e; omega
        | [_], e => simp at e; omega
        | r0 :: r1 :: rest, _ => exact ⟨r0, r1, rest, rfl⟩
      have g0 := hsq3.cell (k := 0) (r := r0) (by rw [er]; rfl)
      have g1 := hsq3.cell (k := 1) (r := r1) (by rw [er]; rfl)
      have e0 : rowVal r0 = lv 1 r0.1 0 m := by simp only [rowVal, (hsq3.row r0 (by simp [er])).1]
      have e1 : rowVal r1 = lv 1 r1.1 0 m := by simp only [rowVal, (hsq3.row r1 (by simp [er])).1]
      have s1 : storeAt H3 oid 0 [lv 1 r1.1 0 m] = some (H3.set oid ⟨(r1 :: r1 :: rest).map rowVal, true, true⟩) := by
        rw [storeAt_of hsq3.head rfl rfl (by simp; omega) (by simp [Value.oneCell']), over_one (by simp; omega), er, ← e1]; rfl
      have hlt3 := hsq3.lt
      have s2 : storeAt (H3.set oid ⟨(r1 :: r1 :: rest).map rowVal, true, true⟩) oid 1 [lv 1 r0.1 0 m] = some (H3.set oid ⟨(r1 :: r0 :: rest).map rowVal, true, true⟩) := by
        rw [storeAt_of (List.getElem?_set_self hlt3) rfl rfl (by simp) (by simp [Value.oneCell']), over_one (by simp), ← e0]; simp
      have hsw := hsq3.perm (rows' := r1 :: r0 :: rest) (by rw [er]; exact List.Perm.swap _ _ _)
      have hss : Same (fun j => j = s) H (H3.set oid ⟨(r1 :: r0 :: rest).map rowVal, true, true⟩) := sameLo hs03 same_set (by have := hsq3.ge; omega)
      have fin2 := fin _ _ _ hss (hsw.wider (by omega)) (by rw [er] at hrl; simpa using hrl)
      generalize H3.set oid ⟨(r1 :: r0 :: rest).map rowVal, true, true⟩ = H5 at *
      generalize H3.set oid ⟨(r1 :: r1 :: rest).map rowVal, true, true⟩ = H4 at *
      have q0 : 0 < m := by omega
      have q1 : 1 < m := by omega
      simp (maxSteps := 1000000) [go_sem, g0, g1, s1, s2, q0, q1]
      exact andK_intro (by omega) (andK_intro (by omega) ⟨_, Up.refl _ _, _, upH.refl _, fin2⟩)
    · by_cases c2 : q = 2
      · subst c2
        simp (maxSteps := 1000000) [go_sem]
        refine next_ok hS3 _ ?_
        intro H4 k hs4 hl4 hS4 hk0 hk1
        obtain ⟨k, rfl⟩ : ∃ n : Nat, k = n := ⟨k.toNat, by omega⟩
        have hk : k < m := by omega
        have hsq4 := hsq3.keep hs4 (by intro j hj e; omega)
        have hkr : rows[k]? = some (rows[k]'(by omega)) := List.getElem?_eq_getElem (by omega)
        obtain ⟨rk, hrk⟩ : ∃ rk, rows[k]'(by omega) = rk := ⟨_, rfl⟩
        rw [hrk] at hkr
        have l4 := hsq4.cell hkr
        simp (maxSteps := 1000000) [go_sem, hk, l4]
        refine next_ok hS4 _ ?_
        intro H5 j hs5 hl5 hS5 hj0 hj1
        obtain ⟨j, rfl⟩ : ∃ n : Nat, j = n := ⟨j.toNat, by omega⟩
        have hj : j < m := by omega
        have hsq5 := hsq4.keep hs5 (by intro j hj e; omega)
        have hw_m : IntKind.i64.wrap ((m : Int) + 1) = (m : Int) + 1 := i64w (by omega) (by omega)
        simp (maxSteps := 1000000) [go_sem, hw_m, hj]
        refine next_ok hS5 _ ?_
        intro H6 x hs6 hl6 hS6 hx0 hx1
        have hsq6 := hsq5.keep hs6 (by intro j hj e; omega)
        obtain ⟨t6, u6⟩ := hsq6.put hkr hj (x := x) (by omega)
        simp (maxSteps := 1000000) [go_sem, hj, t6]
        refine ⟨_, Up.refl _ _, _, upH.refl _, fin _ _ _ ?_ (u6.wider (by omega)) (by simp [hrl])⟩
        exact sameLo (((hs03.trans hs4).trans hs5).trans hs6) same_set (by have := (hsq6.row rk (List.mem_of_getElem? hkr)).2.2.1; omega)
      · by_cases c3 : q = 3
        · subst c3
          have hol : OL 1 H3 oid (rows.map rowVal) m := ⟨by simp [hrl], .inr hsq3.head⟩
          have hpx : H3 <+: H3 ++ [⟨[.int .i64 0], true, true⟩, ⟨[.slice (some ⟨H3.length, 0, none⟩) 1 1], true, true⟩] := List.prefix_append _ _
          have hlx : (H3 ++ [(⟨[.int .i64 0], true, true⟩ : Blk), ⟨[.slice (some ⟨H3.length, 0, none⟩) 1 1], true, true⟩]).length = H3.length + 2 := by simp
          have hbx : (H3 ++ [(⟨[.int .i64 0], true, true⟩ : Blk), ⟨[.slice (some ⟨H3.length, 0, none⟩) 1 1], true, true⟩])[H3.length]? = some ⟨ints [0], true, true⟩ := by simp [ints]
          have hcx : cellsAt (H3 ++ [(⟨[.int .i64 0], true, true⟩ : Blk), ⟨[.slice (some ⟨H3.length, 0, none⟩) 1 1], true, true⟩]) (H3.length + 1) 0 1 = some [.slice (some ⟨H3.length, 0, none⟩) 1 1] := by
            rw [cellsAt_of (b := ⟨[.slice (some ⟨H3.length, 0, none⟩) 1 1], true, true⟩) (by simp) rfl (by simp)]; rfl
          have holx := hol.keep (S := fun _ => False) (Same.of_prefix hpx) (fun e => e)
          have hsqx := hsq3.keep (S := fun _ => False) (Same.of_prefix hpx) (fun _ _ e => e)
          simp (maxSteps := 1000000) [go_sem]
          generalize H3 ++ [(⟨[.int .i64 0], true, true⟩ : Blk), ⟨[.slice (some ⟨H3.length, 0, none⟩) 1 1], true, true⟩] = Hx at *
          obtain ⟨H4, hap, hol4, hs4, hl4⟩ := holx.append (by omega) (m := 1) (by omega) (news := [.slice (some ⟨H3.length, 0, none⟩) 1 1]) rfl
          refine andK_intro (by omega) ?_
          simp (maxSteps := 1000000) [go_sem, hap, hcx]
          have hb4 : H4[Hx.length]? = some ⟨rows.map rowVal ++ [.slice (some ⟨H3.length, 0, none⟩) 1 1], true, true⟩ := hol4.2.resolve_left (by omega)
          have hlt4 := (List.getElem?_eq_some_iff.1 hb4).1
          have hbx4 := hs4.get hbx (by have := hsqx.lt; have := hsq3.lt; omega)
          have hup : upH H4 (H4.set Hx.length ⟨(rows ++ [((H3.length, [0]) : Nat × List Int)]).map rowVal, true, true⟩) := by
            refine upH.cells hb4 (by simp) ?_
            intro k v v' hv hv'
            rw [List.map_append] at hv'
            by_cases hk : k < (rows.map rowVal).length
            · rw [List.getElem?_append_left hk] at hv hv'
              rw [hv] at hv'; cases hv'
              exact Up.refl _ _
            · rw [List.getElem?_append_right (by omega)] at hv hv'
              cases hkk : k - (rows.map rowVal).length with
              | zero =>
                rw [hkk] at hv hv'
                simp at hv hv'
                subst hv
                subst hv'
                exact Up.ex (by omega) (.inr (by rw [cellsAt_of hbx4 rfl (by simp [ints])]; rfl))
              | succ n => rw [hkk] at hv; simp at hv
          have hss5 : Same (fun j => j = Hx.length) H4 (H4.set Hx.length ⟨(rows ++ [((H3.length, [0]) : Nat × List Int)]).map rowVal, true, true⟩) := same_set
          have hb5 : (H4.set Hx.length ⟨(rows ++ [((H3.length, [0]) : Nat × List Int)]).map rowVal, true, true⟩)[Hx.length]? = some ⟨(rows ++ [((H3.length, [0]) : Nat × List Int)]).map rowVal, true, true⟩ := List.getElem?_set_self hlt4
          have hl5 : (H4.set Hx.length ⟨(rows ++ [((H3.length, [0]) : Nat × List Int)]).map rowVal, true, true⟩).length = H4.length := by simp
          generalize H4.set Hx.length ⟨(rows ++ [((H3.length, [0]) : Nat × List Int)]).map rowVal, true, true⟩ = H5 at *
          have hge := hsq3.ge
          have hlt3 := hsq3.lt
          have hrow5 : ∀ r ∈ rows, r.2.length = m ∧ H5[r.1]? = some ⟨ints r.2, true, true⟩ ∧ H1.length ≤ r.1 ∧ r.1 ≠ Hx.length ∧ r.1 < H3.length := by
            intro r hr
            obtain ⟨a, b, c, d⟩ := hsqx.row r hr
            have hrl3 := (List.getElem?_eq_some_iff.1 (hsq3.row r hr).2.1).1
            exact ⟨a, hss5.get (hs4.get b (by omega)) (by omega), c, by omega, hrl3⟩
          have hx5 := hss5.get hbx4 (by omega)
          refine ⟨_, Up.refl _ _, _, hup, ?_⟩
          have hfl : ((rows ++ [((H3.length, [0]) : Nat × List Int)]).map (·.2)).flatten.length ≤ ((rows ++ [((H3.length, [0]) : Nat × List Int)]).map (·.2)).length * 5 := flat_bound (fun xs hx => by
            obtain ⟨r, hr, rfl⟩ := List.mem_map.1 hx
            rcases List.mem_append.1 hr with hr | hr
            · have := (hrow5 r hr).1; omega
            · simp at hr; subst hr; simp)
          have hll : ((rows ++ [((H3.length, [0]) : Nat × List Int)]).map (·.2)).length = m + 1 := by simp [hrl]
          have hs05 : Same (fun j => j = s) H H5 := sameLo (sameLo (hs03.trans (Same.of_prefix hpx)) hs4 (by omega)) hss5 (by omega)
          refine h H5 _ ((rows ++ [((H3.length, [0]) : Nat × List Int)]).map (·.2)) hs05 ⟨Hx.length, rows ++ [((H3.length, [0]) : Nat × List Int)], by simp [hrl], Holds.at ⟨true, hb5⟩, ⟨?_, ?_⟩, ?_, rfl, fun _ => ⟨by omega, by omega⟩, by omega, by simp; omega⟩ (by omega) ?_
          · intro r hr
            right
            rcases List.mem_append.1 hr with hr | hr
            · exact (hrow5 r hr).2.1
            · simp at hr; subst hr; exact hx5
          · intro a b r t ha hb' hab _ _
            refine apart_nodup.2 ?_ a b r t ha hb' hab
            rw [List.map_append, List.nodup_append]
            refine ⟨apart_nodup.1 hsq3.apart, by simp, ?_⟩
            intro x hx y hy e
            obtain ⟨r, hr, rfl⟩ := List.mem_map.1 hx
            simp at hy
            have := (hrow5 r hr).2.2.2.2
            omega
          · intro r hr _
            rcases List.mem_append.1 hr with hr | hr
            · have := hrow5 r hr
              exact ⟨this.2.2.2.1, by omega, by omega⟩
            · simp at hr; subst hr
              exact ⟨by simp only; omega, by simp only; omega, by simp only; omega⟩
          · intro xs hx x hxx
            obtain ⟨r, hr, rfl⟩ := List.mem_map.1 hx
            rcases List.mem_append.1 hr with hr | hr
            · have := hsq3.nums r hr x hxx
              unfold In64; omega
            · simp at hr; subst hr
              simp at hxx; subst hxx
              unfold In64; omega
        · have b0 : (q == 0) = false := by simpa using c0
          have b1 : (q == 1) = false := by simpa using c1
          have b2 : (q == 2) = false := by simpa using c2
          have b3 : (q == 3) = false := by simpa using c3
          simp (maxSteps := 1000000) [go_sem, b0, b1, b2, b3]
          exact ⟨_, Up.refl _ _, _, upH.refl _, fin _ _ _ hs03 (hsq3.wider (by omega)) hrl⟩

theorem drawThree_ok {H : Heap} {u : Value} {xs : List Int} (hu : BytesAt H u xs) (Post : Value → Heap → Prop)
    (h : ∀ (H' : Heap) (w : Value) (sq : List (List Int)), H <+: H' → RowsIn H.length H'.length H' w sq → sq.length + sq.flatten.length ≤ 36 → (∀ xs ∈ sq, ∀ x ∈ xs, In64 x) → Post w H') :
    ACalls Try.prog 5 [u] H Post := by
  refine acalls_vc (rs := [.tmp 2]) Try.func5 rfl rfl Try.ntmps5 rfl rfl ?_
  simp (maxSteps := 1000000) [go_sem]
  refine from_ok hu _ ?_
  intro H1 hp hl hs
  simp (maxSteps := 1000000) [go_sem]
  refine drawSquare_ok hs _ ?_
  intro H2 w sq hs2 h1 h2 h3
  simp (maxSteps := 1000000) [go_sem]
  exact h H2 w sq (((Same.of_prefix (S := fun j => j = H.length) hp).trans hs2).prefix (by omega)) (h1.wider (by omega)) h2 h3

end Go.Proofs.Ytfnegaedkomcgaa
end

section
/- Two involutions without fixed points: going round by them in turn. Plain Lean, no program in sight. -/
set_option linter.all false
namespace Go.Ab

theorem nodup_len : ∀ (v : Nat) (l : List Nat), l.Nodup → (∀ x ∈ l, x < v) → l.length ≤ v
  | 0, l, _, h => by
    cases l with
    | nil => simp
    | cons x l => exact absurd (h x List.mem_cons_self) (by omega)
  | v + 1, l, hn, h => by
    by_cases hv : v ∈ l
    · have h1 := nodup_len v (l.erase v) (hn.erase v) fun x hx => by
        have := (List.Nodup.mem_erase_iff hn).1 hx
        have := h x this.2
        omega
      rw [List.length_erase_of_mem hv] at h1
      omega
    · have := nodup_len v l hn fun x hx => by
        have h2 := h x hx
        have : x ≠ v := fun e => hv (e ▸ hx)
        omega
      omega

/-- By f and by g in turn. -/
def alt (f g : Nat → Nat) (p : Nat) : Nat → Nat
  | 0 => p
  | k + 1 => if k % 2 = 0 then f (alt f g p k) else g (alt f g p k)

structure Turn (f g : Nat → Nat) (S : Nat → Prop) : Prop where
  fS : ∀ x, S x → S (f x)
  gS : ∀ x, S x → S (g x)
  ff : ∀ x, S x → f (f x) = x
  gg : ∀ x, S x → g (g x) = x
  fne : ∀ x, S x → f x ≠ x
  gne : ∀ x, S x → g x ≠ x

theorem alt_S {f g : Nat → Nat} {S : Nat → Prop} (h : Turn f g S) {p : Nat} (hp : S p) : ∀ k, S (alt f g p k)
  | 0 => hp
  | k + 1 => by
    simp only [alt]
    split
    · exact h.fS _ (alt_S h hp k)
    · exact h.gS _ (alt_S h hp k)
/-- As long as all are different, what comes next is new, or it is the first one, at an even place. -/
theorem alt_next {f g : Nat → Nat} {S : Nat → Prop} (h : Turn f g S) {p n : Nat} (hp : S p) (hd : ∀ i j, i < j → j ≤ n → alt f g p i ≠ alt f g p j) :
    (∀ j, j ≤ n → alt f g p j ≠ alt f g p (n + 1)) ∨ (alt f g p (n + 1) = p ∧ n % 2 = 1) := by
  by_cases hx : ∃ j, j ≤ n ∧ alt f g p j = alt f g p (n + 1)
  · obtain ⟨j, hj, e⟩ := hx
    right
    have inj : ∀ i k, i ≤ n → k ≤ n → alt f g p i = alt f g p k → i = k := by
      intro i k hi hk e
      rcases Nat.lt_trichotomy i k with h1 | h1 | h1
      · exact absurd e (hd i k h1 hk)
      · exact h1
      · exact absurd e.symm (hd k i h1 hi)
    have hS := alt_S h hp
    by_cases hn : n % 2 = 0
    · -- by f
      exfalso
      have e1 : alt f g p (n + 1) = f (alt f g p n) := by simp [alt, hn]
      rw [e1] at e
      by_cases hj2 : j % 2 = 0
      · -- j even: f of it is the next one
        have e2 : alt f g p (j + 1) = f (alt f g p j) := by simp [alt, hj2]
        have e3 : f (alt f g p j) = alt f g p n := by rw [e, h.ff _ (hS n)]
        by_cases hjn : j = n
        · subst hjn; exact h.fne _ (hS j) (by rw [e3])
        · rw [← e2] at e3
          have := inj (j + 1) n (by omega) (by omega) e3
          omega
      · obtain ⟨i, rfl⟩ : ∃ i, j = i + 1 := ⟨j - 1, by omega⟩
        have e2 : alt f g p (i + 1) = f (alt f g p i) := by simp only [alt]; rw [if_pos (by omega)]
        rw [e2] at e
        have := congrArg f e
        rw [h.ff _ (hS i), h.ff _ (hS n)] at this
        have := inj i n (by omega) (by omega) this
        omega
    · have e1 : alt f g p (n + 1) = g (alt f g p n) := by simp [alt, hn]
      rw [e1] at e ⊢
      by_cases hj0 : j = 0
      · subst hj0; exact ⟨e.symm, by omega⟩
      · exfalso
        by_cases hj2 : j % 2 = 1
        · have e2 : alt f g p (j + 1) = g (alt f g p j) := by simp only [alt]; rw [if_neg (by omega)]
          have e3 : g (alt f g p j) = alt f g p n := by rw [e, h.gg _ (hS n)]
          by_cases hjn : j = n
          · subst hjn; exact h.gne _ (hS j) (by rw [e3])
          · rw [← e2] at e3
            have := inj (j + 1) n (by omega) (by omega) e3
            omega
        · obtain ⟨i, rfl⟩ : ∃ i, j = i + 1 := ⟨j - 1, by omega⟩
          have e2 : alt f g p (i + 1) = g (alt f g p i) := by simp only [alt]; rw [if_neg (by omega)]
          rw [e2] at e
          have := congrArg g e
          rw [h.gg _ (hS i), h.gg _ (hS n)] at this
          have := inj i n (by omega) (by omega) this
          omega
  · left
    intro j hj e
    exact hx ⟨j, hj, e⟩
/-- The way comes back to its first point, at an even place, and all ahead are different. -/
theorem alt_back {f g : Nat → Nat} {S : Nat → Prop} (h : Turn f g S) {p v : Nat} (hp : S p) (hv : ∀ x, S x → x < v) :
    ∃ n, 2 ≤ n ∧ n % 2 = 0 ∧ n ≤ v ∧ alt f g p n = p ∧ ∀ i j, i < j → j < n → alt f g p i ≠ alt f g p j := by
  have len : ∀ n, (∀ i j, i < j → j < n → alt f g p i ≠ alt f g p j) → n ≤ v := by
    intro n hd
    have := nodup_len v ((List.range n).map (alt f g p)) ?_ ?_
    · simpa using this
    · refine List.pairwise_map.2 ?_
      rw [List.pairwise_iff_getElem]
      intro i j hi hj hij
      simp only [List.getElem_range]
      exact hd i j hij (by simpa using hj)
    · intro x hx
      obtain ⟨k, _, rfl⟩ := List.mem_map.1 hx
      exact hv _ (alt_S h hp k)
  -- going on until it comes back
  have go : ∀ m n, n + m = v → (∀ i j, i < j → j < n + 1 → alt f g p i ≠ alt f g p j) → ∃ n, 2 ≤ n ∧ n % 2 = 0 ∧ n ≤ v ∧ alt f g p n = p ∧ ∀ i j, i < j → j < n → alt f g p i ≠ alt f g p j := by
    intro m
    induction m with
    | zero => intro n hn hd; have := len (n + 1) hd; omega
    | succ m ih =>
      intro n hn hd
      rcases alt_next h hp (n := n) (fun i j hij hj => hd i j hij (by omega)) with h1 | ⟨h1, h2⟩
      · refine ih (n + 1) (by omega) ?_
        intro i j hij hj
        by_cases e : j = n + 1
        · subst e; exact h1 i (by omega)
        · exact hd i j hij (by omega)
      · exact ⟨n + 1, by omega, by omega, by have := len (n + 1) hd; omega, h1, hd⟩
  have hv0 := len 1 (by intro i j h1 h2; omega)
  exact go v 0 (by omega) (by intro i j h1 h2; omega)

end Go.Ab
end

section
/- When a sorted list of blocks is a system. Plain Lean. -/
set_option linter.all false
set_option maxRecDepth 20000
namespace Go.Proofs.Ytfnegaedkomcgaa
open Go.Ab Go.Sort

theorem common_self {v : Int} {x : Bk} (h : good v x = true) : common x x = 3 := by
  simp only [good, Bool.and_eq_true, decide_eq_true_eq] at h
  have e1 : x.a ≠ x.b := by omega
  have e2 : x.a ≠ x.c := by omega
  have e3 : x.b ≠ x.c := by omega
  simp [common, eq01, e1, e2, e3, e1.symm, e2.symm, e3.symm]
theorem before_tri {x y : Bk} (h1 : before x y = false) (h2 : before y x = false) : x = y := by
  rw [before_false] at h1 h2
  obtain ⟨a, b, c⟩ := x
  obtain ⟨d, e, f⟩ := y
  simp only at h1 h2
  have : a = d ∧ b = e ∧ c = f := by omega
  obtain ⟨rfl, rfl, rfl⟩ := this
  rfl
theorem fits_of_pair {l : List Bk} (h : l.Pairwise fun x y => common x y ≤ 1) : Fits l := by
  intro i k x y hki hx hy
  obtain ⟨hi, rfl⟩ := List.getElem?_eq_some_iff.1 hx
  obtain ⟨hk, rfl⟩ := List.getElem?_eq_some_iff.1 hy
  rw [common_comm]
  exact (List.pairwise_iff_getElem.1 h) k i hk hi hki
theorem sys_of_list {p : Int} {l : List Bk} (hp : 3 ≤ p ∧ p ≤ 15) (hl : l.length ≤ 35) (hg : ∀ b ∈ l, good p b = true) (hc : l.Pairwise fun x y => common x y ≤ 1) (hs : l.Pairwise fun x y => before y x = false) : IsSys p l := by
  refine ⟨hp, hl, ?_, fits_of_pair hc⟩
  intro i x hx
  refine ⟨hg x (List.mem_of_getElem? hx), fun y hi hy => ?_⟩
  obtain ⟨h1, rfl⟩ := List.getElem?_eq_some_iff.1 hx
  obtain ⟨h2, rfl⟩ := List.getElem?_eq_some_iff.1 hy
  have ha := (List.pairwise_iff_getElem.1 hs) (i - 1) i h2 h1 (by omega)
  have hb := (List.pairwise_iff_getElem.1 hc) (i - 1) i h2 h1 (by omega)
  cases e : before l[i - 1] l[i] with
  | true => rfl
  | false =>
    have := before_tri e ha
    rw [this, common_self (hg _ (List.getElem_mem _))] at hb
    omega
theorem sys_of_perm {p : Int} {l : List Bk} (hp : 3 ≤ p ∧ p ≤ 15) (hl : l.length ≤ 35) (hg : ∀ b ∈ l, good p b = true) (hc : l.Pairwise fun x y => common x y ≤ 1) : IsSys p (sortB l) := by
  have hperm := sortB_perm _ l rfl
  refine sys_of_list hp (by rw [hperm.length_eq]; exact hl) (fun b hb => hg b (hperm.mem_iff.1 hb)) ?_ (sortB_sorted _ l rfl)
  exact (hperm.symm.pairwise_iff (fun h => by rw [common_comm]; exact h)).1 hc

/-- The same by a check that can be reckoned. -/
def pairOk : List Bk → Bool
  | [] => true
  | x :: l => l.all (fun y => decide (common x y ≤ 1)) && pairOk l
theorem pairOk_iff : ∀ {l : List Bk}, pairOk l = true ↔ l.Pairwise fun x y => common x y ≤ 1
  | [] => by simp [pairOk]
  | x :: l => by simp [pairOk, pairOk_iff (l := l)]
def stsOk (p : Int) (l : List Bk) : Bool := decide (3 ≤ p) && decide (p ≤ 15) && decide (l.length ≤ 35) && l.all (good p) && pairOk l && fullB p l
theorem stsOk_sys {p : Int} {l : List Bk} (h : stsOk p l = true) : IsSys p (sortB l) ∧ fullB p (sortB l) = true := by
  simp only [stsOk, Bool.and_eq_true, decide_eq_true_eq, List.all_eq_true] at h
  obtain ⟨⟨⟨⟨⟨h1, h2⟩, h3⟩, h4⟩, h5⟩, h6⟩ := h
  refine ⟨sys_of_perm ⟨h1, h2⟩ h3 h4 (pairOk_iff.1 h5), ?_⟩
  simpa [fullB, sortB_length _ l rfl] using h6

end Go.Proofs.Ytfnegaedkomcgaa
end

section
/- Squares: rows and columns have the numbers below n, each once. Plain Lean. -/
set_option linter.all false
set_option maxRecDepth 20000
namespace Go.Proofs.Ytfnegaedkomcgaa
open Go.Ab Go.Sort

/-- The number at a place of a list (0 behind its end). -/
def nthN (xs : List Int) (k : Nat) : Int := xs.getD k 0
theorem nthN_in {xs : List Int} {k : Nat} (h : k < xs.length) : xs[k]? = some (nthN xs k) := by
  rw [nthN, List.getD_eq_getElem?_getD, List.getElem?_eq_getElem h]; rfl
def rowN (sq : List (List Int)) (x : Nat) : List Int := sq.getD x []
theorem rowN_in {sq : List (List Int)} {x : Nat} (h : x < sq.length) : sq[x]? = some (rowN sq x) := by
  rw [rowN, List.getD_eq_getElem?_getD, List.getElem?_eq_getElem h]; rfl
theorem rowN_mem {sq : List (List Int)} {x : Nat} (h : x < sq.length) : rowN sq x ∈ sq := List.mem_of_getElem? (rowN_in h)
/-- The entry at x, y. -/
def atN (sq : List (List Int)) (x y : Nat) : Int := nthN (rowN sq x) y
def colN (sq : List (List Int)) (k : Nat) : List Int := sq.map fun r => nthN r k
theorem colN_length (sq : List (List Int)) (k : Nat) : (colN sq k).length = sq.length := by simp [colN]
theorem colN_get {sq : List (List Int)} {k y : Nat} (h : y < sq.length) : (colN sq k)[y]? = some (atN sq y k) := by
  simp only [colN, List.getElem?_map, rowN_in h, Option.map_some]; rfl
def IsSq (sq : List (List Int)) : Prop := (2 ≤ sq.length ∧ sq.length ≤ 5) ∧ (∀ x, x < sq.length → OrdL sq.length (rowN sq x)) ∧ ∀ k, k < sq.length → OrdL sq.length (colN sq k)
open Classical in
noncomputable def sqB (sq : List (List Int)) : Bool := decide (IsSq sq)
theorem sqB_iff {sq : List (List Int)} : sqB sq = true ↔ IsSq sq := by simp [sqB]
theorem sqB_no {sq : List (List Int)} (h : ¬ IsSq sq) : sqB sq = false := by simp [sqB, h]
theorem sqB_yes {sq : List (List Int)} (h : IsSq sq) : sqB sq = true := by simp [sqB, h]
open Classical in
noncomputable def ordB (n : Int) (xs : List Int) : Bool := decide (OrdL n xs)
theorem ordB_iff {n : Int} {xs : List Int} : ordB n xs = true ↔ OrdL n xs := by simp [ordB]
theorem ordB_eq {n : Int} {xs : List Int} {b : Bool} (h : b = true ↔ OrdL n xs) : b = ordB n xs := by
  rw [← ordB_iff] at h
  cases b <;> cases ho : ordB n xs <;> simp_all
theorem rows_all {sq : List (List Int)} {P : List Int → Prop} : (∀ r ∈ sq, P r) ↔ ∀ x, x < sq.length → P (rowN sq x) := by
  constructor
  · intro h x hx; exact h _ (rowN_mem hx)
  · intro h r hr
    obtain ⟨x, hx⟩ := List.mem_iff_getElem?.1 hr
    have hlt := (List.getElem?_eq_some_iff.1 hx).1
    have := rowN_in hlt
    rw [hx] at this
    cases this
    exact h x hlt
theorem ordL_in {n : Nat} {xs : List Int} (h : OrdL n xs) {y : Nat} (hy : y < n) : 0 ≤ nthN xs y ∧ nthN xs y < n := by
  have hl : xs.length = n := by have := h.1; omega
  exact h.2.2 _ (List.mem_of_getElem? (nthN_in (by omega)))
/-- A list of n numbers below n has each of them if its mask is full. -/
theorem ordL_mask {n : Nat} {xs : List Int} (hl : xs.length = n) (hin : ∀ x ∈ xs, 0 ≤ x ∧ x < n) : OrdL n xs ↔ maskL xs = 2 ^ n - 1 := by
  rw [ordL_iff hl hin, maskL_full hin]
theorem take_in {xs : List Int} {n y : Nat} (h : ∀ j, j < y → 0 ≤ nthN xs j ∧ nthN xs j < n) : ∀ x ∈ xs.take y, 0 ≤ x ∧ x < n := by
  intro x hx
  obtain ⟨j, hj⟩ := List.mem_iff_getElem?.1 hx
  have hlt := (List.getElem?_eq_some_iff.1 hj).1
  rw [List.length_take] at hlt
  rw [List.getElem?_take, if_pos (by omega), nthN_in (by omega)] at hj
  cases hj
  exact h j (by omega)
theorem mask_step {xs : List Int} {y : Nat} (hy : y < xs.length) : maskL (xs.take (y + 1)) = maskL (xs.take y) ||| 2 ^ (nthN xs y).toNat := by
  have e := nthN_in hy
  rw [List.getElem?_eq_getElem hy] at e
  rw [List.take_succ_eq_append_getElem hy, maskL_snoc, Option.some.inj e]

end Go.Proofs.Ytfnegaedkomcgaa
end
