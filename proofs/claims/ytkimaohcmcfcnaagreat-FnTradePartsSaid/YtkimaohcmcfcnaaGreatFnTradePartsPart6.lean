/- Part 6 of what the proof of the law FnTradeParts rests on: contracts of functions of the program, for every argument that each names; no statement of the seat is proved here. -/
import Derived.RangeFuncBox
import Derived.RangeFuncLeaves
import Derived.Shelf.Abstract
import Derived.WalkKit
import Derived.OwnWalkIn
import Derived.TacticsInMore
import Derived.LoopNIn
import Derived.LoopIn
import Derived.Maps.AppendAt
import Derived.Test.YtkimaohcmcfcnaaGreatProg
import Derived.Test.YtkimaohcmcfcnaaGreatFnTradePartsPart5

set_option linter.all false
set_option maxRecDepth 20000
set_option maxHeartbeats 8000000
section
namespace Go.Ab
open Go.RowKit (Below)

section
variable {P : Program} {N : Nat} {ops : Array Oper} {L : Nat} {K : Fr -> Heap -> Prop} {fs : List Nat}

def vFX (P : Program) (N : Nat) (ops : Array Oper) (L : Nat) (fs : List Nat) (K : Fr -> Heap -> Prop) : Nat -> List (Nat × Bool) -> Fr -> Heap -> Prop
  | _, [], fr, H => K fr H
  | 0, _ :: _, _, _ => False
  | n + 1, (i, fl) :: l, fr, H => match ops[i]? with
    | none => False
    | some o => match isR o.op with
      | true => offL L o.op fr /\ vstep P N ops o (vFX P N ops L fs K n l) fr H
      | false => vstep P N ops o (eKX L fl H (vFX P N ops L fs K n l)) fr H /\
          ∀ f, f ∈ fs -> f ∈ l.map (·.1) -> ∃ o', ops[f]? = some o' /\ isR o'.op = false /\ vstep P N ops o' (eKX L true H (vFX P N ops L fs K n ((i, fl) :: l.filter fun y => y.1 != f))) fr H

theorem eKX_closed {fl : Bool} {H : Heap} {T : Fr -> Heap -> Prop} (hT : Closed T) : Closed (eKX L fl H T) := by
  intro f g h' hfg hk
  cases fl with
  | true => exact ⟨hk.1, hT _ _ _ hfg hk.2⟩
  | false => exact hT _ _ _ hfg hk
theorem vFX_closed (hK : Closed K) : ∀ n l, Closed (vFX P N ops L fs K n l)
  | 0, [] => hK
  | n + 1, [] => hK
  | 0, _ :: _ => fun _ _ _ _ h => h
  | n + 1, (i, fl) :: l => by
    intro f g H hfg h
    simp only [vFX] at h ⊢
    split at h
    · exact h.elim
    · rename_i o ho
      cases hR : isR o.op with
      | true => simp only [hR] at h ⊢; exact ⟨offL_congr (fun x => feq.ev hfg x) h.1, vstep_closed (vFX_closed hK n l) hfg h.2⟩
      | false =>
        simp only [hR] at h ⊢
        refine ⟨vstep_closed (eKX_closed (vFX_closed hK n l)) hfg h.1, fun f hf hm => ?_⟩
        obtain ⟨o', h1, h2, h3⟩ := h.2 f hf hm
        exact ⟨o', h1, h2, vstep_closed (eKX_closed (vFX_closed hK n _)) hfg h3⟩

def seqRX (P : Program) (N : Nat) (ops : Array Oper) (L : Nat) (T : Fr -> Heap -> Prop) : List (Nat × Bool) -> Fr -> Heap -> Prop
  | [], fr, H => T fr H
  | (j, _) :: l, fr, H => match ops[j]? with
    | none => False
    | some p => offL L p.op fr /\ vstep P N ops p (seqRX P N ops L T l) fr H
theorem seqRX_closed {T : Fr -> Heap -> Prop} (hT : Closed T) : ∀ l, Closed (seqRX P N ops L T l)
  | [] => hT
  | (j, fj) :: l => by
    intro f g H hfg h
    simp only [seqRX] at h ⊢
    split at h
    · exact h.elim
    · exact ⟨offL_congr (fun x => feq.ev hfg x) h.1, vstep_closed (seqRX_closed hT l) hfg h.2⟩
theorem vFX_seqRX {n : Nat} {rest : List (Nat × Bool)} : ∀ (l1 : List (Nat × Bool)) (fr : Fr) (H : Heap), (∀ x ∈ l1, ∃ p, ops[x.1]? = some p /\ isR p.op = true) ->
    (vFX P N ops L fs K (l1.length + n) (l1 ++ rest) fr H ↔ seqRX P N ops L (vFX P N ops L fs K n rest) l1 fr H)
  | [], fr, H, _ => by simp [seqRX]
  | (j, fj) :: l1, fr, H, hl => by
    obtain ⟨p, hp, hR⟩ := hl (j, fj) (by simp)
    have ih := fun fr H => vFX_seqRX (n := n) (rest := rest) l1 fr H fun x hx => hl x (by simp [hx])
    rw [show ((j, fj) :: l1).length + n = (l1.length + n) + 1 by simp; omega]
    simp only [List.cons_append, vFX, seqRX, hp, hR]
    exact ⟨fun h => ⟨h.1, vstep_weak h.2 fun f h => (ih f h).1⟩, fun h => ⟨h.1, vstep_weak h.2 fun f h => (ih f h).2⟩⟩

theorem frontX_gen {o : Oper} {fl : Bool} {T T' : Fr -> Heap -> Prop} (hT : Closed T) (hT' : Closed T') (hstep : ∀ fr H, T fr H -> vstep P N ops o (fun f h => relX L o fl H h /\ T' f h) fr H) : ∀ (l1 : List (Nat × Bool)) (fr : Fr) (H : Heap),
    (∀ x ∈ l1, ∃ p, ops[x.1]? = some p /\ isR p.op = true /\ indep ops p o = true /\ (readsH p.op = true -> isR o.op = true \/ fl = true)) ->
    seqRX P N ops L T l1 fr H -> vstep P N ops o (fun f h => relX L o fl H h /\ seqRX P N ops L T' l1 f h) fr H
  | [], fr, H, _, h => hstep fr H h
  | (j, fj) :: l1, fr, H, hl, h => by
    obtain ⟨p, hp, hR, hin, hrd⟩ := hl (j, fj) (by simp)
    simp only [seqRX, hp] at h ⊢
    have hc1 := seqRX_closed (P := P) (N := N) (ops := ops) (L := L) hT l1
    have hc2 := seqRX_closed (P := P) (N := N) (ops := ops) (L := L) hT' l1
    obtain ⟨hoff, h⟩ := h
    obtain ⟨v, h1, h2⟩ := vstep_RX hR hc1 h
    have ih := frontX_gen hT hT' hstep l1 (fr.put p.dst v) H (fun x hx => hl x (by simp [hx])) h1
    obtain ⟨i1, i2, i3⟩ := indep_spec hin
    have hcK : Closed (fun f h => relX L o fl H h /\ seqRX P N ops L T' l1 f h) := fun f g h hfg hk => ⟨hk.1, hc2 _ _ _ hfg hk.2⟩
    have hag : agreeG ops o (fr.put p.dst v) fr := agreeG.symm (agreeG.put i1)
    refine vstep_weak (vstep_E hcK ih hag) ?_
    rintro f h' ⟨u, hf, hrel, hv⟩
    have hvE : vstep P N ops p (seqRX P N ops L T' l1) (fr.put o.dst u) h' := by
      refine h2 (fr.put o.dst u) h' _ hc2 (agreeG.put i2) (fun i hi b hb => ?_) ?_
      · rw [hrel (hrd (by cases hr : readsH p.op with | true => rfl | false => rw [rdBlk_none hr] at hi; cases hi)) i (hoff i hi), hb]
      exact hc2 _ _ _ (put_comm fr i3 v u) hv
    exact ⟨hrel, offL_congr (fun x => feq.ev hf x) (offL_agree (agreeG.put i2).agree hoff), vstep_closed hc2 hf hvE⟩

theorem eKX_rel {o : Oper} {fl : Bool} {T : Fr -> Heap -> Prop} {fr : Fr} {H : Heap} (hR : isR o.op = false) (h : vstep P N ops o (eKX L fl H T) fr H) : vstep P N ops o (fun f h => relX L o fl H h /\ T f h) fr H := by
  refine vstep_weak h ?_
  intro f h' hk
  cases fl with
  | true => exact ⟨fun _ => hk.1, hk.2⟩
  | false => exact ⟨fun e => by simp [hR] at e, hk⟩

theorem vFX_front (hK : Closed K) {n i : Nat} {fl : Bool} {l1 l2 : List (Nat × Bool)} {o : Oper} (ho : ops[i]? = some o) {fr : Fr} {H : Heap}
    (hl1 : ∀ x ∈ l1, ∃ p, ops[x.1]? = some p /\ isR p.op = true /\ indep ops p o = true /\ (readsH p.op = true -> isR o.op = true \/ fl = true))
    (h : vFX P N ops L fs K (l1.length + (n + 1)) (l1 ++ (i, fl) :: l2) fr H) : vstep P N ops o (fun f h => relX L o fl H h /\ vFX P N ops L fs K (l1.length + n) (l1 ++ l2) f h) fr H := by
  have hl1' : ∀ x ∈ l1, ∃ p, ops[x.1]? = some p /\ isR p.op = true := fun x hx => by obtain ⟨p, h1, h2, _⟩ := hl1 x hx; exact ⟨p, h1, h2⟩
  rw [vFX_seqRX l1 fr H hl1'] at h
  have hstep : ∀ fr H, vFX P N ops L fs K (n + 1) ((i, fl) :: l2) fr H -> vstep P N ops o (fun f h => relX L o fl H h /\ vFX P N ops L fs K n l2 f h) fr H := by
    intro fr H h
    simp only [vFX, ho] at h
    cases hR : isR o.op with
    | true =>
      simp only [hR] at h
      obtain ⟨_, h⟩ := h
      obtain ⟨v, h1, h2⟩ := vstep_RX hR (vFX_closed hK n l2) h
      refine h2 fr H _ ?_ (fun _ _ => rfl) (fun _ _ _ h => h) ⟨fun _ _ _ => rfl, h1⟩
      intro f g h hfg hk
      exact ⟨hk.1, vFX_closed hK n l2 _ _ _ hfg hk.2⟩
    | false => simp only [hR] at h; exact eKX_rel hR h.1
  refine vstep_weak (frontX_gen (vFX_closed hK _ _) (vFX_closed hK n l2) hstep l1 fr H hl1 h) ?_
  rintro f h' ⟨h1, h2⟩
  exact ⟨h1, (vFX_seqRX l1 f h' hl1').2 h2⟩
theorem vFX_float (hK : Closed K) {n i f : Nat} {fl : Bool} {r1 l2 : List (Nat × Bool)} {o o' : Oper} (ho : ops[i]? = some o) (hE : isR o.op = false) (hf : ops[f]? = some o') (hff : f ∈ fs) (hfl : f ∈ l2.map (·.1)) {fr : Fr} {H : Heap}
    (hl1 : ∀ x ∈ r1, ∃ p, ops[x.1]? = some p /\ isR p.op = true /\ indep ops p o' = true)
    (h : vFX P N ops L fs K (r1.length + (n + 1)) (r1 ++ (i, fl) :: l2) fr H) : vstep P N ops o' (fun f' h => relX L o' true H h /\ vFX P N ops L fs K (r1.length + n) (r1 ++ (i, fl) :: l2.filter fun y => y.1 != f) f' h) fr H := by
  have hl1' : ∀ x ∈ r1, ∃ p, ops[x.1]? = some p /\ isR p.op = true := fun x hx => by obtain ⟨p, h1, h2, _⟩ := hl1 x hx; exact ⟨p, h1, h2⟩
  rw [vFX_seqRX r1 fr H hl1'] at h
  have hstep : ∀ fr H, vFX P N ops L fs K (n + 1) ((i, fl) :: l2) fr H -> vstep P N ops o' (fun f' h => relX L o' true H h /\ vFX P N ops L fs K n ((i, fl) :: l2.filter fun y => y.1 != f) f' h) fr H := by
    intro fr H h
    simp only [vFX, ho, hE] at h
    obtain ⟨o2, h1, h2, h3⟩ := h.2 f hff hfl
    rw [hf] at h1; cases h1
    exact eKX_rel h2 h3
  refine vstep_weak (frontX_gen (vFX_closed hK _ _) (vFX_closed hK n _) hstep r1 fr H (fun x hx => by obtain ⟨p, h1, h2, h3⟩ := hl1 x hx; exact ⟨p, h1, h2, h3, fun _ => .inr rfl⟩) h) ?_
  rintro f h' ⟨h1, h2⟩
  exact ⟨h1, (vFX_seqRX r1 f h' hl1').2 h2⟩

theorem drawFX_any {B : Nat} {w0 : World} {Q : Exit -> Act -> World -> Prop} (hK : Closed K) (hedge : edgesOK ops = true) : ∀ (n : Nat) (listed : Array Bool) (l : List (Nat × Bool)) (fr : Fr) (H : Heap) (ρ : Rho) (w : World) (a : Act),
    listed.size = ops.size -> l.length = n -> pairsOKF ops fs (masksGo ops.toList []) l = true -> (∀ x ∈ l, x.1 < ops.size /\ listed.getD x.1 true = false) -> (∀ i, i < ops.size -> listed.getD i true = false -> ∃ x ∈ l, x.1 = i) ->
    (∀ (j : Nat) (o : Oper), ops[j]? = some o -> listed.getD j false = true -> ∀ e ∈ o.after.toList, Region.binds .any e = true -> listed.getD e.on false = true) ->
    vFX P N ops L fs K n l fr H -> R B w0 ρ H w -> FR N ρ fr a ->
    (∀ (ρ' : Rho) (fr' : Fr) (H' : Heap) (a' : Act) (w' : World), ρ <+: ρ' -> K fr' H' -> R B w0 ρ' H' w' -> FR N ρ' fr' a' -> Q .normal a' w') -> wpAny P .any ops Q n listed a w := by
  intro n
  have getD2 : ∀ (listed : Array Bool) (i : Nat), listed.size = ops.size -> i < ops.size -> listed.getD i true = listed.getD i false := by
    intro listed i h1 h2
    simp [Array.getD_eq_getD_getElem?, h1, h2]
  induction n with
  | zero =>
    intro listed l fr H ρ w a hsz hl hp hin hall hcl hv hR hF hq
    have : l = [] := List.eq_nil_of_length_eq_zero hl
    subst this
    refine ⟨?_, hq ρ fr H a w (List.prefix_refl _) hv hR hF⟩
    rw [List.eq_nil_iff_forall_not_mem]
    intro i hi
    simp only [Region.ready, List.mem_filter, List.mem_range, Bool.and_eq_true, Bool.not_eq_true'] at hi
    obtain ⟨x, hx, _⟩ := hall i hi.1 hi.2.1
    simp at hx
  | succ n ih =>
    intro listed l fr H ρ w a hsz hl hp hin hall hcl hv hR hF hq
    refine ⟨?_, ?_⟩
    · intro hnil
      exfalso
      match l, hl with
      | (i, fl) :: l, hl =>
        obtain ⟨h1, h2⟩ := hin (i, fl) (by simp)
        have hi : i ∈ Region.ready .any ops listed := by
          simp only [Region.ready, List.mem_filter, List.mem_range, Bool.and_eq_true, Bool.not_eq_true']
          refine ⟨h1, h2, ?_⟩
          rw [Array.getElem?_eq_getElem h1]
          simp only [Option.map_some, Option.getD_some, Array.all_eq_true']
          intro e he
          rw [Bool.or_eq_true, Bool.not_eq_true']
          by_cases hb : Region.binds .any e = true
          · right
            have hedge' := List.all_eq_true.1 hedge i (by simpa using h1)
            simp only [Array.getElem?_eq_getElem h1, List.all_eq_true] at hedge'
            have he' := hedge' e (by simpa using he)
            simp only [hb, Bool.not_true, Bool.false_or, Bool.and_eq_true, decide_eq_true_eq, bne_iff_ne, ne_eq] at he'
            rw [<- getD2 listed e.on hsz he'.1]
            cases hg : listed.getD e.on true with
            | true => rfl
            | false =>
              obtain ⟨x, hx, hxe⟩ := hall e.on he'.1 hg
              rcases List.mem_cons.1 hx with rfl | hx
              · exact absurd hxe.symm he'.2
              · have hpo := (pairsOKF_spec (l1 := []) hp).2.1 x hx
                have hx1 := (hin x (by simp [hx])).1
                simp only [pairOKF, Array.getElem?_eq_getElem h1, Array.getElem?_eq_getElem hx1, Bool.and_eq_true, Bool.not_eq_true'] at hpo
                have hd := hpo.1.1
                simp only [directTo, List.any_eq_false, Bool.and_eq_true, beq_iff_eq, not_and] at hd
                exact absurd hxe.symm (hd e (by simpa using he) hb)
          · left; simpa using hb
        rw [hnil] at hi
        simp at hi
    · intro i hi
      simp only [Region.ready, List.mem_filter, List.mem_range, Bool.and_eq_true, Bool.not_eq_true'] at hi
      obtain ⟨hilt, hnl, hrdy⟩ := hi
      rw [Array.getElem?_eq_getElem hilt] at hrdy
      simp only [Option.map_some, Option.getD_some, Array.all_eq_true'] at hrdy
      have ho : ops[i]? = some ops[i] := Array.getElem?_eq_getElem hilt
      obtain ⟨x, hx, hxi⟩ := hall i hilt hnl
      obtain ⟨l1, l2, rfl⟩ := List.append_of_mem hx
      obtain ⟨i', fl⟩ := x
      simp only at hxi
      subst hxi
      obtain ⟨hp1, hp2, hp3⟩ := pairsOKF_spec hp
      have hpre : ∀ e ∈ (ops[i']).after.toList, Region.binds .any e = true -> listed.getD e.on false = true := by
        intro e he hb
        have := hrdy e (by simpa using he)
        simpa [hb] using this
      have hdep : ∀ y ∈ l1, ¬ ((masksGo ops.toList []).getD i' 0).testBit y.1 = true := by
        intro y hy hb
        have := masks_sound (ops := ops) (fun j => listed.getD j false = true) hcl ops.toList [] (fun j _ => by simp) (fun j o p hj => by simp at hj) i' _ y.1 ho hb hpre
        obtain ⟨hy1, hy2⟩ := hin y (by simp [hy])
        rw [getD2 listed y.1 hsz hy1] at hy2
        rw [hy2] at this; cases this
      have hR1 : ∀ y ∈ l1, ∀ p, ops[y.1]? = some p -> isR p.op = true -> indep ops p ops[i'] = true /\ (readsH p.op = true -> isR (ops[i']).op = true \/ fl = true) := by
        intro y hy p hp' hRp
        have hy1 := (hin y (by simp [hy])).1
        have hpo := hp1 y hy
        have hd := hdep y hy
        simp only [pairOKF, hp', ho, Bool.and_eq_true] at hpo
        have hpo2 := hpo.2
        simp only [Bool.not_eq_true] at hd
        simp only [hRp, hd, Bool.false_or, Bool.or_false, Bool.and_eq_true, Bool.or_eq_true, Bool.not_eq_true'] at hpo2
        refine ⟨hpo2.1, fun hr => ?_⟩
        rcases hpo2.2 with (h | h) | h
        · exact .inl h
        · exact .inr h
        · rw [hr] at h; cases h
      have hE1 : ∀ y ∈ l1, ∀ p, ops[y.1]? = some p -> isR p.op = false -> i' ∈ fs /\ fl = true /\ isR (ops[i']).op = false := by
        intro y hy p hp' hRp
        have hpo := hp1 y hy
        have hd := hdep y hy
        simp only [pairOKF, hp', ho, Bool.and_eq_true] at hpo
        have hpo2 := hpo.2
        simp only [Bool.not_eq_true] at hd
        simp only [hRp, hd, Bool.false_or, Bool.and_eq_true, Bool.not_eq_true', List.contains_iff_mem] at hpo2
        exact ⟨hpo2.1.1, hpo2.1.2, hpo2.2⟩
      have hnd : ∀ y ∈ l1 ++ l2, y.1 ≠ i' := by
        intro y hy e
        rcases List.mem_append.1 hy with hy | hy
        · have hpo := hp1 y hy
          have hy1 := (hin y (by simp [hy])).1
          simp [pairOKF, Array.getElem?_eq_getElem hy1, ho, e] at hpo
        · have hpo := hp2 y hy
          have hy1 := (hin y (by simp [hy])).1
          simp [pairOKF, Array.getElem?_eq_getElem hy1, ho, e] at hpo
      have hstep : vstep P N ops ops[i'] (fun f h => relX L ops[i'] fl H h /\ vFX P N ops L fs K n (l1 ++ l2) f h) fr H := by
        simp only [List.length_append, List.length_cons] at hl
        rcases first_effect (ops := ops) l1 (fun x hx => ⟨_, Array.getElem?_eq_getElem (hin x (by simp [hx])).1⟩) with hall1 | ⟨r1, e, oe, r2, rfl, he1, he2, he3⟩
        · rw [show n = l1.length + l2.length by omega]
          rw [show n + 1 = l1.length + (l2.length + 1) by omega] at hv
          exact vFX_front hK ho (fun x hx => by obtain ⟨p, h1, h2⟩ := hall1 x hx; obtain ⟨h3, h4⟩ := hR1 x hx p h1 h2; exact ⟨p, h1, h2, h3, h4⟩) hv
        · obtain ⟨hif, hfl, hEi⟩ := hE1 e (by simp) oe he1 he2
          subst hfl
          simp only [List.length_append, List.length_cons] at hl
          rw [show n + 1 = r1.length + ((r2.length + 1 + l2.length) + 1) by omega, List.append_assoc, List.cons_append] at hv
          have hfilt : (r2 ++ (i', true) :: l2).filter (fun y => y.1 != i') = r2 ++ l2 := by
            rw [List.filter_append, List.filter_cons]
            simp only [bne_self_eq_false, Bool.false_eq_true, if_false]
            rw [List.filter_eq_self.2, List.filter_eq_self.2]
            · intro y hy; simpa using hnd y (by simp [hy])
            · intro y hy; simpa using hnd y (by simp [hy])
          have := vFX_float (f := i') hK he1 he2 ho hif (by simp) (fun x hx => by
            obtain ⟨p, h1, h2⟩ := he3 x hx
            exact ⟨p, h1, h2, (hR1 x (by simp [hx]) p h1 h2).1⟩) hv
          rw [hfilt] at this
          rw [show n = r1.length + (r2.length + 1 + l2.length) by omega, List.append_assoc, List.cons_append]
          exact this
      unfold wpOp
      rw [ho]
      refine vstep_sound hstep hR hF Q ?_
      rintro ρ' fr' H' a' w' hpre' ⟨_, hv'⟩ hR' hF'
      refine ih (listed.setIfInBounds i' true) (l1 ++ l2) fr' H' ρ' w' a' (by simpa using hsz) (by simp at hl ⊢; omega) hp3 ?_ ?_ ?_ hv' hR' hF' (fun ρ'' f'' H'' a'' w'' h1 => hq ρ'' f'' H'' a'' w'' (hpre'.trans h1))
      · intro y hy
        have hne := hnd y hy
        obtain ⟨h1, h2⟩ := hin y (by rcases List.mem_append.1 hy with hy | hy <;> simp [hy])
        exact ⟨h1, by rw [getD_set_ne _ (fun e => hne e.symm)]; exact h2⟩
      · intro j hj hnj
        by_cases e : i' = j
        · subst e
          exfalso
          have : (listed.setIfInBounds i' true).getD i' true = true := by simp [Array.getD_eq_getD_getElem?]
          rw [this] at hnj; cases hnj
        · rw [getD_set_ne _ e] at hnj
          obtain ⟨y, hy, rfl⟩ := hall j hj hnj
          refine ⟨y, ?_, rfl⟩
          rcases List.mem_append.1 hy with hy | hy
          · simp [hy]
          · rcases List.mem_cons.1 hy with rfl | hy
            · exact absurd rfl e
            · simp [hy]
      · intro j o hj hlj e he hb
        by_cases e' : i' = j
        · subst e'
          rw [ho] at hj; cases hj
          exact getD_set_true (hpre e he hb)
        · rw [getD_set_ne _ e'] at hlj
          exact getD_set_true (hcl j o hj hlj e he hb)

def vTX (P : Program) (N : Nat) (ops : Array Oper) (L : Nat) (K : Fr -> Heap -> Prop) : Tree -> Fr -> Heap -> Prop
  | .nil, fr, H => K fr H
  | .one i fl t, fr, H => match ops[i]? with
    | none => False
    | some o => match isR o.op with
      | true => offL L o.op fr /\ vstep P N ops o (vTX P N ops L K t) fr H
      | false => vstep P N ops o (eKX L fl H (vTX P N ops L K t)) fr H
  | .two i fl t f t', fr, H => match ops[i]?, ops[f]? with
    | some o, some o' => vstep P N ops o (eKX L fl H (vTX P N ops L K t)) fr H /\ vstep P N ops o' (eKX L true H (vTX P N ops L K t')) fr H
    | _, _ => False
theorem vTX_vFX : ∀ (t : Tree) (n : Nat) (l : List (Nat × Bool)) (fr : Fr) (H : Heap), l.length <= n -> (∀ x y, x ∈ l -> y ∈ l -> x.1 = y.1 -> x = y) -> treeOK ops fs t l = true -> vTX P N ops L K t fr H -> vFX P N ops L fs K n l fr H := by
  intro t
  induction t with
  | nil =>
    intro n l fr H hn _ hok h
    cases l with
    | nil => cases n <;> exact h
    | cons x l => simp [treeOK] at hok
  | one i fl t ih =>
    intro n l fr H hn hu hok h
    cases l with
    | nil => simp [treeOK] at hok
    | cons x l =>
      obtain ⟨j, fl'⟩ := x
      simp only [treeOK, Bool.and_eq_true, beq_iff_eq] at hok
      obtain ⟨⟨⟨rfl, rfl⟩, hfl⟩, hok⟩ := hok
      cases n with
      | zero => simp at hn
      | succ n =>
        simp only [List.length_cons] at hn
        have hu' : ∀ x y, x ∈ l -> y ∈ l -> x.1 = y.1 -> x = y := fun x y hx hy => hu x y (by simp [hx]) (by simp [hy])
        simp only [vTX] at h
        simp only [vFX]
        cases ho : ops[i]? with
        | none => simp [ho] at h
        | some o =>
          simp only [ho] at h hfl ⊢
          cases hR : isR o.op with
          | true => simp only [hR] at h ⊢; exact ⟨h.1, vstep_weak h.2 fun f h => ih n l f h (by omega) hu' hok⟩
          | false =>
            simp only [hR, Bool.false_or, List.all_eq_true] at h hfl ⊢
            refine ⟨vstep_weak h fun f h' hk => ?_, fun f hf hm => ?_⟩
            · cases fl with
              | true => exact ⟨hk.1, ih n l f h' (by omega) hu' hok hk.2⟩
              | false => exact ih n l f h' (by omega) hu' hok hk
            · have := hfl f hf
              simp only [Bool.not_eq_true', List.contains_eq_mem, decide_eq_false_iff_not] at this
              exact absurd hm this
  | two i fl t f t' ih ih' =>
    intro n l fr H hn hu hok h
    cases l with
    | nil => simp [treeOK] at hok
    | cons x l =>
      obtain ⟨j, fl'⟩ := x
      simp only [treeOK, Bool.and_eq_true, beq_iff_eq] at hok
      obtain ⟨⟨⟨⟨⟨rfl, rfl⟩, hE⟩, hfl⟩, hok⟩, hok'⟩ := hok
      cases n with
      | zero => simp at hn
      | succ n =>
        simp only [List.length_cons] at hn
        have hu' : ∀ x y, x ∈ l -> y ∈ l -> x.1 = y.1 -> x = y := fun x y hx hy => hu x y (by simp [hx]) (by simp [hy])
        simp only [vTX] at h
        simp only [vFX]
        cases ho : ops[i]? with
        | none => simp [ho] at h
        | some o =>
          cases ho' : ops[f]? with
          | none => simp [ho, ho'] at h
          | some o' =>
            simp only [ho, ho', Bool.and_eq_true, Bool.not_eq_true'] at h hE ⊢
            simp only [hE.1]
            refine ⟨vstep_weak h.1 fun g h' hk => ?_, fun g hg hm => ?_⟩
            · cases fl with
              | true => exact ⟨hk.1, ih n l g h' (by omega) hu' hok hk.2⟩
              | false => exact ih n l g h' (by omega) hu' hok hk
            · rw [List.all_eq_true] at hfl
              have hgf := hfl g hg
              simp only [Bool.or_eq_true, beq_iff_eq, Bool.not_eq_true', List.contains_eq_mem, decide_eq_false_iff_not] at hgf
              have : g = f := hgf.resolve_right (fun e => e hm)
              subst this
              refine ⟨o', ho', hE.2, vstep_weak h.2 fun q h' hk => ⟨hk.1, ih' n _ q h' ?_ ?_ hok' hk.2⟩⟩
              · obtain ⟨z, hz, hzg⟩ := List.mem_map.1 hm
                have : (l.filter fun y => y.1 != g).length < l.length := by
                  rw [List.length_filter_lt_length_iff_exists]
                  exact ⟨z, hz, by simp [hzg]⟩
                simp only [List.length_cons]; omega
              · intro x y hx hy
                refine hu x y ?_ ?_
                · rcases List.mem_cons.1 hx with rfl | hx
                  · simp
                  · exact List.mem_cons_of_mem _ (List.mem_filter.1 hx).1
                · rcases List.mem_cons.1 hy with rfl | hy
                  · simp
                  · exact List.mem_cons_of_mem _ (List.mem_filter.1 hy).1

theorem AWp.drawFX (L : Nat) {id : Nat} {fr : Fr} {H : Heap} {Q : Exit -> Fr -> Heap -> Prop} (hm : P.follows .mixedOrders = true) (fs : List Nat) (canon : List (Nat × Bool)) (t : Tree) (hok : (drawOKF ops fs canon && treeOK ops fs t canon) = true) (h : vTX P N ops L (Q .normal) t fr H) : AWp P N (.region id ops true) Q fr H := by
  intro B w0 ρ w a hR hF
  simp only [drawOKF, Bool.and_eq_true, decide_eq_true_eq, List.all_eq_true, List.mem_range, List.contains_iff_mem, List.mem_map] at hok
  obtain ⟨⟨⟨⟨⟨h1, h2⟩, h3⟩, h4⟩, h5⟩, h6⟩ := hok
  refine wp_region_any hm ?_
  let K : Fr -> Heap -> Prop := fun f h => ∃ g, feq g f /\ Q .normal g h
  have hK : Closed K := fun f g h hfg ⟨k, hk, hq⟩ => ⟨k, hk.trans hfg, hq⟩
  have hu : ∀ x y, x ∈ canon -> y ∈ canon -> x.1 = y.1 -> x = y := by
    intro x y hx hy e
    obtain ⟨l1, l2, rfl⟩ := List.append_of_mem hx
    obtain ⟨hp1, hp2, _⟩ := pairsOKF_spec h1
    rcases List.mem_append.1 hy with hy | hy
    · have := hp1 y hy
      unfold pairOKF at this
      split at this
      · simp [e] at this
      · cases this
    · rcases List.mem_cons.1 hy with rfl | hy
      · rfl
      · have := hp2 y hy
        unfold pairOKF at this
        split at this
        · simp [e] at this
        · cases this
  have hv : vFX P N ops L fs K ops.size canon fr H := by
    refine vTX_vFX t ops.size canon fr H (by omega) hu h6 ?_
    have weak : ∀ (t : Tree) (fr : Fr) (H : Heap), vTX P N ops L (Q .normal) t fr H -> vTX P N ops L K t fr H := by
      intro t
      induction t with
      | nil => exact fun fr H h => ⟨fr, feq.rfl' _, h⟩
      | one i fl t ih =>
        intro fr H h
        simp only [vTX] at h ⊢
        split at h
        · exact h
        · rename_i o ho
          cases hR : isR o.op with
          | true => simp only [hR] at h ⊢; exact ⟨h.1, vstep_weak h.2 ih⟩
          | false =>
            simp only [hR] at h ⊢
            refine vstep_weak h ?_
            intro f h' hk
            cases fl with
            | true => exact ⟨hk.1, ih _ _ hk.2⟩
            | false => exact ih _ _ hk
      | two i fl t f t' ih ih' =>
        intro fr H h
        simp only [vTX] at h ⊢
        split at h
        · rename_i o o' ho ho'
          refine ⟨vstep_weak h.1 ?_, vstep_weak h.2 fun f h' hk => ⟨hk.1, ih' _ _ hk.2⟩⟩
          intro f h' hk
          cases fl with
          | true => exact ⟨hk.1, ih _ _ hk.2⟩
          | false => exact ih _ _ hk
        · exact h
    exact weak t fr H h
  have hgt : ∀ i, i < ops.size -> (Array.replicate ops.size false).getD i true = false := by
    intro i hi
    simp [Array.getD_eq_getD_getElem?, hi]
  refine drawFX_any (B := B) (w0 := w0) hK h2 ops.size (Array.replicate ops.size false) canon fr H ρ w.drew a (by simp) h3 h1 ?_ ?_ ?_ hv hR.drew hF ?_
  · intro x hx
    exact ⟨h4 x hx, hgt x.1 (h4 x hx)⟩
  · intro i hi _
    obtain ⟨x, hx, rfl⟩ := h5 i hi
    exact ⟨x, hx, rfl⟩
  · intro j o hj hl
    rw [Array.getD_eq_getD_getElem?, Array.getElem?_replicate] at hl
    split at hl <;> simp at hl
  · rintro ρ' fr' H' a' w' hp ⟨g, hg, hq⟩ hR' hF'
    exact ⟨ρ', g, H', hp, hR', hF'.feq hg.symm, hq⟩

/-! The words of such a tree, for simp. -/

def vTXK (P : Program) (N : Nat) (ops : Array Oper) (L : Nat) (K : Fr -> Heap -> Prop) (t : Tree) (fr : Fr) (H : Heap) : Prop := vTX P N ops L K t fr H
def eTXK (P : Program) (N : Nat) (ops : Array Oper) (L : Nat) (K : Fr -> Heap -> Prop) (t : Tree) (fl : Bool) (H : Heap) (fr : Fr) (H' : Heap) : Prop :=
  match fl with
  | true => andK (KeepL L H H') (vTX P N ops L K t fr H')
  | false => vTX P N ops L K t fr H'
def vTXo (P : Program) (N : Nat) (ops : Array Oper) (L : Nat) (K : Fr -> Heap -> Prop) (t : Tree) (fl : Bool) (fr : Fr) (H : Heap) (o : Oper) : Prop :=
  match isR o.op with
  | true => andK (offB L o.op fr) (vstep P N ops o (vTXK P N ops L K t) fr H)
  | false => vstep P N ops o (eTXK P N ops L K t fl H) fr H
def vTXe (P : Program) (N : Nat) (ops : Array Oper) (L : Nat) (K : Fr -> Heap -> Prop) (t : Tree) (fl : Bool) (fr : Fr) (H : Heap) (o : Oper) : Prop := vstep P N ops o (eTXK P N ops L K t fl H) fr H

theorem vTX_nil (K : Fr -> Heap -> Prop) (fr : Fr) (H : Heap) : vTX P N ops L K .nil fr H = K fr H := rfl
theorem eTXK_eq (K : Fr -> Heap -> Prop) (t : Tree) (fl : Bool) (H : Heap) : eKX L fl H (vTX P N ops L K t) = eTXK P N ops L K t fl H := by
  funext f h
  cases fl <;> rfl
theorem vTX_one (K : Fr -> Heap -> Prop) (i : Nat) (fl : Bool) (t : Tree) (fr : Fr) (H : Heap) : vTX P N ops L K (.one i fl t) fr H = bindO ops[i]? (vTXo P N ops L K t fl fr H) := by
  simp only [vTX]
  cases ops[i]? with
  | none => simp [bindO]
  | some o =>
    simp only [bindO_some, vTXo]
    cases isR o.op with
    | true => rw [offB_iff]; rfl
    | false => simp only [eTXK_eq]
theorem vTX_two {i : Nat} {fl : Bool} {t : Tree} {f : Nat} {t' : Tree} {K : Fr -> Heap -> Prop} {fr : Fr} {H : Heap} (h1 : bindO ops[i]? (vTXe P N ops L K t fl fr H)) (h2 : bindO ops[f]? (vTXe P N ops L K t' true fr H)) : vTX P N ops L K (.two i fl t f t') fr H := by
  simp only [vTX]
  cases ho : ops[i]? with
  | none => simp [ho, bindO] at h1
  | some o =>
    cases ho' : ops[f]? with
    | none => simp [ho', bindO] at h2
    | some o' =>
      simp only [ho, ho', bindO_some, vTXe] at h1 h2 ⊢
      exact ⟨by rw [eTXK_eq]; exact h1, by rw [eTXK_eq]; exact h2⟩

attribute [go_sem] vTXK eTXK vTXo vTXe vTX_nil vTX_one

end
end Go.Ab
end

section
namespace Go.Proofs.YtkimaohcmcfcnaaGreat
open Go.Ab

theorem At.take_ints {H : Heap} {i o : Nat} {xs : List Int} (h : At H i o (ints xs)) {k : Nat} (hk : k <= xs.length) : At H i o (ints (xs.take k)) := by
  by_cases h0 : k = 0
  · subst h0; exact .inl rfl
  · right
    have e : ints (xs.take k) = (ints xs).take k := by simp [ints, List.map_take]
    have := h.sub (k := 0) (n := k) (by omega) (by rw [ints_length]; omega)
    rw [ints_length, List.length_take, Nat.min_eq_left hk, e]
    simpa using this
theorem At.drop_ints {H : Heap} {i o : Nat} {xs : List Int} (h : At H i o (ints xs)) {k : Nat} (hk : k <= xs.length) : At H i (o + k) (ints (xs.drop k)) := by
  by_cases h0 : k = xs.length
  · subst h0; left; simp [ints]
  · right
    have e : ints (xs.drop k) = (ints xs).drop k := by simp [ints, List.map_drop]
    have := h.sub (k := k) (n := xs.length - k) (by omega) (by rw [ints_length]; omega)
    rw [ints_length, List.length_drop, e, this, List.take_of_length_le (by rw [List.length_drop, ints_length]; omega)]
theorem ordL_insert {k r : Nat} {xs : List Int} (h : OrdL k xs) (hr : r <= k) : OrdL ((k + 1 : Nat) : Int) (xs.take r ++ [(k : Int)] ++ xs.drop r) := by
  obtain ⟨h1, h2, h3⟩ := h
  have hp : (xs.take r ++ [(k : Int)] ++ xs.drop r).Perm ((k : Int) :: xs) := by
    rw [List.append_assoc]
    have := List.perm_middle (a := (k : Int)) (l₁ := xs.take r) (l₂ := xs.drop r)
    rw [List.take_append_drop] at this
    exact this
  have hnk : (k : Int) ∉ xs := fun hm => by have := h3 _ hm; omega
  refine ⟨?_, hp.nodup_iff.2 (List.nodup_cons.2 ⟨hnk, h2⟩), fun x hx => ?_⟩
  · rw [hp.length_eq, List.length_cons]; omega
  · rcases List.mem_cons.1 (hp.mem_iff.1 hx) with rfl | hx
    · omega
    · have := h3 x hx; omega

theorem drawOrder_ok {L s : Nat} {H : Heap} (hs : Src L s H) {n : Nat} (hn : n <= 1000) (Post : Value -> Heap -> Prop)
    (h : ∀ (H' : Heap) (w : Value) (xs : List Int), Same (fun j => j = s) H H' -> Src L s H' -> IntsIn H.length H'.length H' w xs -> OrdL n xs -> Post w H') :
    ACalls Tryz.prog 70 [.pointer (some ⟨s, 0, none⟩), .int .i64 n] H Post := by
  refine ACalls.res ?_
  have hslt := hs.lt
  have hLs := hs.1
  refine acalls_vc (rs := [.tmp 4]) Tryz.func70 rfl rfl Tryz.ntmps70 rfl rfl ?_
  simp (maxSteps := 1000000) [go_sem]
  have hp0 : H <+: H ++ [⟨[], true, true⟩] := List.prefix_append _ _
  have hl0 : (H ++ [(⟨[], true, true⟩ : Blk)]).length = H.length + 1 := by simp
  generalize H ++ [(⟨[], true, true⟩ : Blk)] = H0 at hp0 hl0 ⊢
  refine AWp.loopVc (St := Nat × Nat × List Int) (fun q => [(0, .pointer (some ⟨s, 0, none⟩)), (1, .int .i64 n), (5, lv 1 q.2.1 0 q.2.2.length), (6, .int .i64 q.1)])
    (fun q H' => q.2.1 < H'.length /\ q.1 <= n /\ OrdL q.1 q.2.2 /\ IntsIn H.length H'.length H' (lv 1 q.2.1 0 q.2.2.length) q.2.2 /\ Same (fun j => j = s) H H' /\ Src L s H') (fun q => n - q.1) (0, 0, []) ?_ ?_ ?_
  · simp [upF, Fr.get, Up.refl, Up.ex0]
  · exact ⟨by simp only; omega, by omega, ⟨by simp, by simp, by simp⟩, IntsIn.nil _ _ _, Same.of_prefix hp0, hs.pre hp0⟩
  · rintro K ⟨k, id, xs⟩ H1 ⟨hid, hk, hO, hI, hsm, hS⟩ hK
    simp only at hid hk hO hI
    have hxl : xs.length = k := by have := hO.1; omega
    by_cases hlt : k < n
    · have hw_k : IntKind.i64.wrap ((k : Int) + 1) = (k : Int) + 1 := i64w (by omega) (by omega)
      simp (maxSteps := 1000000) [go_sem, hlt, hw_k]
      refine next_ok hS _ ?_
      intro H2 r hs2 hl2 hS2 h0 h1
      obtain ⟨r, rfl⟩ : ∃ m : Nat, r = m := ⟨r.toNat, by omega⟩
      have hr : r <= k := by omega
      have hI2 := hI.keep hs2 (by rintro j ⟨a, b⟩ e; omega)
      obtain ⟨id0, ⟨e0, hat, hsz⟩, hsp⟩ := hI2
      have eid : id0 = id := by simp at e0; exact e0.symm
      subst eid
      have hat2 : At H2 id0 0 (ints xs) := by
        rcases hat with hat | hat
        · left; rw [hat]; rfl
        · exact Holds.at ⟨true, hat⟩
      have hr2 : r <= xs.length := by omega
      simp (maxSteps := 1000000) [go_sem]
      refine AWp.drawFX (H2.length) mixed [5] [(0, false), (1, false), (2, false), (4, false), (7, false), (8, false), (9, false), (3, true), (5, true), (6, true), (10, false), (11, false)] (.one 0 false (.one 1 false (.one 2 false (.one 4 false (.one 7 false (.one 8 false (.one 9 false (.two 3 true (.one 5 true (.one 6 true (.one 10 false (.one 11 false .nil)))) 5 (.one 3 true (.one 6 true (.one 10 false (.one 11 false .nil)))))))))))) (by kernel_rfl) ?_
      simp (maxSteps := 1000000) [go_sem, sliceV, boundV, hr2]
      have htl : (xs.take r).length = r := by rw [List.length_take]; omega
      have hinA : IntsAt H2 (.slice (some ⟨id0, 0, some 1⟩) r r) (xs.take r) := ⟨id0, 0, by rw [htl], At.take_ints hat2 hr2, by omega⟩
      have hil : id0 < H2.length := by omega
      refine andK_intro hil (andK_intro hil (vTX_two ?_ ?_))
      · simp (maxSteps := 1000000) [go_sem]
        refine l01Own_oe (xs := xs.take r) hinA (by rw [htl]; omega) _ ?_
        intro H3 w hp3 he3
        rw [htl] at he3
        obtain ⟨a3, rfl⟩ := he3.shape
        have hkA : KeepL H2.length H2 H3 := KeepL.of_prefix hp3 (Nat.le_refl _)
        have hle3 := hp3.length_le
        have hp4 : H3 <+: H3 ++ [⟨[.int .i64 k], true, true⟩] := List.prefix_append _ _
        have hkB : KeepL H2.length H3 (H3 ++ [⟨[.int .i64 k], true, true⟩]) := KeepL.of_prefix hp4 (by omega)
        have hc4 : cellsAt (H3 ++ [(⟨[.int .i64 k], true, true⟩ : Blk)]) H3.length 0 1 = some [.int .i64 k] := by rw [cellsAt_of (b := ⟨[.int .i64 k], true, true⟩) (by simp) rfl (by simp)]; rfl
        have he4 := he3.pre hp4
        simp (maxSteps := 1000000) [go_sem]
        refine andK_intro hkA ?_
        try simp (maxSteps := 1000000) [go_sem]
        generalize H3 ++ [(⟨[.int .i64 k], true, true⟩ : Blk)] = H4 at *
        refine andK_intro hkB ?_
        have hp24 : H2 <+: H4 := hp3.trans hp4
        have hle4 := hp24.length_le
        obtain ⟨v5, H5, hap5, he5, hk5, hl5⟩ := he4.append (m := 1) (news := [.int .i64 k]) (by omega) (by omega) rfl
        obtain ⟨a5, rfl⟩ := he5.shape
        have hp25 : H2 <+: H5 := KeepL.prefix hp24 (by omega) hk5 (by omega)
        have hs6 := ((At.drop_ints hat2 hr2).pre hp25).src (e := 1) (n := xs.length - r) (s := some 1) (by rw [ints_length, List.length_drop]; omega) (by omega) (xs.length - r)
        obtain ⟨v6, H6, hap6, he6, hk6, hl6⟩ := he5.append (m := xs.length - r) (news := ints (xs.drop r)) (by omega) (by have := hp25.length_le; omega) (by rw [ints_length, List.length_drop]; omega)
        obtain ⟨a6, rfl⟩ := he6.shape
        have hp26 : H2 <+: H6 := KeepL.prefix hp25 (by have := hp25.length_le; omega) hk6 (by omega)
        have hle6 := hp26.length_le
        simp only [srcCells, Nat.zero_add, Nat.mul_one] at hs6
        have hk5' : KeepL H2.length H4 H5 := fun j hj => hk5 j (by omega)
        have hk6' : KeepL H2.length H5 H6 := fun j hj => hk6 j (by omega)
        simp (maxSteps := 1000000) [go_sem, hc4, hap5]
        refine andK_intro (by omega) (andK_intro hk5' ?_)
        simp (maxSteps := 1000000) [go_sem, hs6, hap6, hw_k]
        refine andK_intro (by omega) ?_
        have et : ints (xs.take r) ++ [.int .i64 (k : Int)] ++ ints (xs.drop r) = ints (xs.take r ++ [(k : Int)] ++ xs.drop r) := by simp [ints]
        have el : r + 1 + (xs.length - r) = (xs.take r ++ [(k : Int)] ++ xs.drop r).length := by simp; omega
        have hO2 := ordL_insert hO hr
        generalize xs.take r ++ [(k : Int)] ++ xs.drop r = ys at *
        rw [et, el] at he6
        rw [el]
        obtain ⟨w6, hup6, id6, ⟨ew6, hat6, hsz6⟩, hsp6⟩ := he6.ints (by omega)
        subst ew6
        have hyl : ys.length = k + 1 := by have := hO2.1; omega
        have hsp6' := hsp6 (by intro e; rw [e] at hyl; simp at hyl)
        refine hK (k + 1, id6, ys) _ _ (by simp only; omega) (by simp [upF, Fr.get, Up.refl, hup6]) ⟨hsp6'.2, by simp only; omega, hO2, ⟨id6, ⟨rfl, hat6, hsz6⟩, fun _ => ⟨by have := hsp6'.1; have := hsm.1; omega, hsp6'.2⟩⟩, (hsm.trans hs2).trans (Same.of_prefix hp26), hS2.pre hp26⟩
      · have hp3 : H2 <+: H2 ++ [⟨[.int .i64 k], true, true⟩] := List.prefix_append _ _
        have hkA : KeepL H2.length H2 (H2 ++ [⟨[.int .i64 k], true, true⟩]) := KeepL.of_prefix hp3 (Nat.le_refl _)
        have hc3 : cellsAt (H2 ++ [(⟨[.int .i64 k], true, true⟩ : Blk)]) H2.length 0 1 = some [.int .i64 k] := by rw [cellsAt_of (b := ⟨[.int .i64 k], true, true⟩) (by simp) rfl (by simp)]; rfl
        simp (maxSteps := 1000000) [go_sem]
        generalize H2 ++ [(⟨[.int .i64 k], true, true⟩ : Blk)] = H3 at *
        refine andK_intro hkA ?_
        try simp (maxSteps := 1000000) [go_sem]
        refine l01Own_oe (xs := xs.take r) (hinA.pre hp3) (by rw [htl]; omega) _ ?_
        intro H4 w hp4 he4
        rw [htl] at he4
        obtain ⟨a3, rfl⟩ := he4.shape
        have hle3 := hp3.length_le
        have hkB : KeepL H2.length H3 H4 := KeepL.of_prefix hp4 (by omega)
        have hle34 := hp4.length_le
        have hc4 := cellsAt_pre hp4 hc3
        simp (maxSteps := 1000000) [go_sem]
        refine andK_intro hkB ?_
        have hp24 : H2 <+: H4 := hp3.trans hp4
        have hle4 := hp24.length_le
        obtain ⟨v5, H5, hap5, he5, hk5, hl5⟩ := he4.append (m := 1) (news := [.int .i64 k]) (by omega) (by omega) rfl
        obtain ⟨a5, rfl⟩ := he5.shape
        have hp25 : H2 <+: H5 := KeepL.prefix hp24 (by omega) hk5 (by omega)
        have hs6 := ((At.drop_ints hat2 hr2).pre hp25).src (e := 1) (n := xs.length - r) (s := some 1) (by rw [ints_length, List.length_drop]; omega) (by omega) (xs.length - r)
        obtain ⟨v6, H6, hap6, he6, hk6, hl6⟩ := he5.append (m := xs.length - r) (news := ints (xs.drop r)) (by omega) (by have := hp25.length_le; omega) (by rw [ints_length, List.length_drop]; omega)
        obtain ⟨a6, rfl⟩ := he6.shape
        have hp26 : H2 <+: H6 := KeepL.prefix hp25 (by have := hp25.length_le; omega) hk6 (by omega)
        have hle6 := hp26.length_le
        simp only [srcCells, Nat.zero_add, Nat.mul_one] at hs6
        have hk5' : KeepL H2.length H4 H5 := fun j hj => hk5 j (by omega)
        have hk6' : KeepL H2.length H5 H6 := fun j hj => hk6 j (by omega)
        simp (maxSteps := 1000000) [go_sem, hc4, hap5]
        refine andK_intro (by omega) (andK_intro hk5' ?_)
        simp (maxSteps := 1000000) [go_sem, hs6, hap6, hw_k]
        refine andK_intro (by omega) ?_
        have et : ints (xs.take r) ++ [.int .i64 (k : Int)] ++ ints (xs.drop r) = ints (xs.take r ++ [(k : Int)] ++ xs.drop r) := by simp [ints]
        have el : r + 1 + (xs.length - r) = (xs.take r ++ [(k : Int)] ++ xs.drop r).length := by simp; omega
        have hO2 := ordL_insert hO hr
        generalize xs.take r ++ [(k : Int)] ++ xs.drop r = ys at *
        rw [et, el] at he6
        rw [el]
        obtain ⟨w6, hup6, id6, ⟨ew6, hat6, hsz6⟩, hsp6⟩ := he6.ints (by omega)
        subst ew6
        have hyl : ys.length = k + 1 := by have := hO2.1; omega
        have hsp6' := hsp6 (by intro e; rw [e] at hyl; simp at hyl)
        refine hK (k + 1, id6, ys) _ _ (by simp only; omega) (by simp [upF, Fr.get, Up.refl, hup6]) ⟨hsp6'.2, by simp only; omega, hO2, ⟨id6, ⟨rfl, hat6, hsz6⟩, fun _ => ⟨by have := hsp6'.1; have := hsm.1; omega, hsp6'.2⟩⟩, (hsm.trans hs2).trans (Same.of_prefix hp26), hS2.pre hp26⟩
    · have : k = n := by omega
      subst this
      have hn1 : ¬ k < k := by omega
      simp (maxSteps := 1000000) [go_sem]
      exact ⟨_, Up.refl _ _, h H1 _ xs hsm hS hI hO⟩

end Go.Proofs.YtkimaohcmcfcnaaGreat
end

section
namespace Go.Proofs.YtkimaohcmcfcnaaGreat
open Go.RowKit Go.Shelf

attribute [local go_sem] Oper.semAt_some

end Go.Proofs.YtkimaohcmcfcnaaGreat
end

section
namespace Go.Ab
open Go.Sort

instance : Inhabited Bk := ⟨⟨0, 0, 0⟩⟩
def cellsP (x : Int × Int) : List Value := [.int .i64 x.1, .int .i64 x.2]
def valP (x : Int × Int) : Value := .agg #[.int .i64 x.1, .int .i64 x.2]
theorem cellsP_len (x : Int × Int) : (cellsP x).length = 2 := rfl
theorem cellsP_one (x : Int × Int) : (cellsP x).all Value.oneCell' = true := by simp [cellsP, Value.oneCell']

structure Row where
  id : Nat
  o : Nat
  xs : List Int
instance : Inhabited Row := ⟨⟨0, 0, []⟩⟩
def Row.val (r : Row) : Value := lv 1 r.id r.o r.xs.length
end Go.Ab
end

section
namespace Go.Ab
open Go.RowKit (Below)

def exitA (id : Nat) (K : Fr -> Heap -> Prop) (Q : Exit -> Fr -> Heap -> Prop) : Exit -> Fr -> Heap -> Prop
  | .normal => Q .normal
  | .exit i => fun fr H => (i = id /\ K fr H) \/ (i ≠ id /\ Q (.exit i) fr H)
  | .goto l => Q (.goto l)
  | .ret => Q .ret
  | .panic c => Q (.panic c)
  | .outgrown => Q .outgrown
attribute [go_sem] exitA

section
variable {P : Program} {N : Nat} {H : Heap} {fr : Fr} {Q : Exit -> Fr -> Heap -> Prop}

theorem Lift.weak {B : Nat} {w0 : World} {ρ : Rho} {e : Exit} {a : Act} {w : World} {Q Q' : Exit -> Fr -> Heap -> Prop} (h : ∀ e fr H, Q e fr H -> ∃ f0, upF H f0 fr /\ Q' e f0 H) (hl : Lift B w0 N ρ Q e a w) : Lift B w0 N ρ Q' e a w := by
  obtain ⟨ρ', f, H, h1, h2, h3, h4⟩ := hl
  obtain ⟨f0, h5, h6⟩ := h e f H h4
  exact ⟨ρ', f0, H, h1, h2, FR.up h2 h5 h3, h6⟩

theorem AWp.weak {c : Code} {Q Q' : Exit -> Fr -> Heap -> Prop} (h : ∀ e fr H, Q e fr H -> ∃ f0, upF H f0 fr /\ Q' e f0 H) (hw : AWp P N c Q fr H) : AWp P N c Q' fr H :=
  fun B w0 ρ w a hR hF => wp_mono (hw B w0 ρ w a hR hF) fun _ _ _ hl => Lift.weak h hl

theorem AWp.loopCut {St St' : Type} {c : Code} (id : Nat) (L : St -> Fr) (I : St -> Heap -> Prop) (m : St -> Nat) (s0 : St) (L' : St' -> Fr) (E : St' -> Heap -> Prop) (h0 : upF H (L s0) fr) (hI : I s0 H)
    (round : ∀ (K KE : Fr -> Heap -> Prop) (s : St) (H : Heap), I s H -> (∀ (s' : St) (fr' : Fr) (H' : Heap), m s' < m s -> upF H' (L s') fr' -> I s' H' -> K fr' H') ->
      (∀ (s' : St') (fr' : Fr) (H' : Heap), upF H' (L' s') fr' -> E s' H' -> KE fr' H') -> vc P N c (thenA K (exitA id KE Q)) (L s) H)
    (after : ∀ (s' : St') (H' : Heap), E s' H' -> Q (.exit id) (L' s') H') : AWp P N (.loop c) Q fr H := by
  let KE : Fr -> Heap -> Prop := fun fr' H' => ∃ s', upF H' (L' s') fr' /\ E s' H'
  let Q1 : Exit -> Fr -> Heap -> Prop := fun e fr' H' => (∃ f0, upF H' f0 fr' /\ Q e f0 H') \/ Q e fr' H'
  have h1 : AWp P N (.loop c) (exitA id KE Q) fr H :=
    AWp.loopVc L I m s0 h0 hI fun K s H hI hK => round K KE s H hI hK fun s' _ _ h2 h3 => ⟨s', h2, h3⟩
  have h2 : ∀ e fr H, exitA id KE Q e fr H -> (∃ f0, upF H f0 fr /\ Q e f0 H) \/ Q e fr H := by
    intro e fr H h
    cases e with
    | exit i =>
      rcases h with ⟨rfl, s', h3, h4⟩ | ⟨_, h⟩
      · exact .inl ⟨_, h3, after s' H h4⟩
      · exact .inr h
    | normal => exact .inr h
    | goto l => exact .inr h
    | ret => exact .inr h
    | panic c => exact .inr h
    | outgrown => exact .inr h
  intro B w0 ρ w a hR hF
  refine wp_mono (h1 B w0 ρ w a hR hF) fun e a' w' hl => ?_
  obtain ⟨ρ', f, H2, g1, g2, g3, g4⟩ := hl
  rcases h2 e f H2 g4 with ⟨f0, h5, h6⟩ | h6
  · exact ⟨ρ', f0, H2, g1, g2, FR.up g2 h5 g3, h6⟩
  · exact ⟨ρ', f, H2, g1, g2, g3, h6⟩

theorem AWp.ofVc {x y : Code} (h : vc P N x (thenA (AWp P N y Q) Q) fr H) : AWp P N (.seq x y) Q fr H := AWp.seq (vc_sound _ _ _ _ h)
theorem AWp.seqCut {St : Type} {x y : Code} (L : St -> Fr) (E : St -> Heap -> Prop)
    (hx : ∀ KE : Fr -> Heap -> Prop, (∀ (s : St) (fr' : Fr) (H' : Heap), upF H' (L s) fr' -> E s H' -> KE fr' H') -> vc P N x (thenA KE Q) fr H)
    (hy : ∀ (s : St) (H' : Heap), E s H' -> AWp P N y Q (L s) H') : AWp P N (.seq x y) Q fr H :=
  AWp.seq (vc_sound _ _ _ _ (hx (AWp P N y Q) fun s _ _ hu he => AWp.up hu (hy s _ he)))
theorem AWp.loopA {St : Type} {c : Code} (L : St -> Fr) (I : St -> Heap -> Prop) (m : St -> Nat) (s0 : St) (h0 : upF H (L s0) fr) (hI : I s0 H)
    (round : ∀ (K : Fr -> Heap -> Prop) (s : St) (H : Heap), I s H -> (∀ (s' : St) (fr' : Fr) (H' : Heap), m s' < m s -> upF H' (L s') fr' -> I s' H' -> K fr' H') -> AWp P N c (thenA K Q) (L s) H) : AWp P N (.loop c) Q fr H :=
  AWp.loopUp L I m s0 h0 hI fun s H hI => round _ s H hI fun s' _ _ h1 h2 h3 => ⟨s', h1, h2, h3⟩

end
end Go.Ab
end

section
namespace Go.Proofs.YtkimaohcmcfcnaaGreat
open Go.Ab Go.Sort

theorem l01Block_ok {H : Heap} {a b c : Int} (ha : 0 <= a /\ a <= 1000) (hb : 0 <= b /\ b <= 1000) (hc : 0 <= c /\ c <= 1000) (Post : Value -> Heap -> Prop) (h : ∀ H', H <+: H' -> Post (blk a b c).val H') : ACalls Tryz.prog 74 [.int .i64 a, .int .i64 b, .int .i64 c] H Post := by
  refine acalls_vc (rs := [.cell 6 36]) Tryz.func74 rfl rfl Tryz.ntmps74 rfl rfl ?_
  have e1 : (if c < (if b < a then b else a) then c else if b < a then b else a) = (blk a b c).a := by
    simp only [blk]; by_cases h1 : b < a <;> simp only [h1, if_true, if_false] <;> split <;> omega
  have e3 : (if (if a < b then b else a) < c then c else if a < b then b else a) = (blk a b c).c := by
    simp only [blk]; by_cases h1 : a < b <;> simp only [h1, if_true, if_false] <;> split <;> omega
  have e2 : IntKind.i64.wrap (IntKind.i64.wrap (IntKind.i64.wrap (IntKind.i64.wrap (a + b) + c) - (blk a b c).a) - (blk a b c).c) = (blk a b c).b := by
    have h1 : 0 <= (blk a b c).a /\ (blk a b c).a <= 1000 := by simp only [blk]; omega
    have h3 : 0 <= (blk a b c).c /\ (blk a b c).c <= 1000 := by simp only [blk]; omega
    rw [i64w (n := a + b) (by omega) (by omega), i64w (n := a + b + c) (by omega) (by omega), i64w (n := a + b + c - (blk a b c).a) (by omega) (by omega), i64w (by omega) (by omega)]
    simp only [blk]
  have fin := h (H ++ [⟨[.int .i64 (blk a b c).a, .int .i64 (blk a b c).b, .int .i64 (blk a b c).c], true, true⟩]) (List.prefix_append _ _)
  unfold Bk.val at fin
  generalize blk a b c = q at *
  simp (maxSteps := 1000000) [go_sem, e1, e2, e3]
  exact fin

end Go.Proofs.YtkimaohcmcfcnaaGreat
end

section
namespace Go.Ab

def upH (H H' : Heap) : Prop := ∀ B w0 ρ w, R B w0 ρ H w -> R B w0 ρ H' w
theorem upH.refl (H : Heap) : upH H H := fun _ _ _ _ h => h
theorem ACalls.resH {P : Program} {f : FuncId} {args : List Value} {H : Heap} {Post : Value -> Heap -> Prop} (h : ACalls P f args H fun v H' => ∃ v' H2, Up H' v v' /\ upH H' H2 /\ Post v' H2) : ACalls P f args H Post :=
  ⟨h.1, fun B w0 ρ w cargs hR hv => (h.2 B w0 ρ w cargs hR hv).mono fun e w' hp => by
    obtain ⟨ρ', H', v, cv, h1, h2, h3, h4, v', H2, h5, h6, h7⟩ := hp
    exact ⟨ρ', H2, v', cv, h1, h2, h6 _ _ _ _ h3, h5 _ _ _ _ _ h3 h4, h7⟩⟩

end Go.Ab
end

section
namespace Go.Ab

theorem nodup_len : ∀ (v : Nat) (l : List Nat), l.Nodup -> (∀ x ∈ l, x < v) -> l.length <= v
  | 0, l, _, h => by
    cases l with
    | nil => simp
    | cons x l => exact absurd (h x List.mem_cons_self) (by omega)
  | v + 1, l, hn, h => by
    by_cases hv : v ∈ l
    · have h1 := nodup_len v (l.erase v) (hn.erase v) fun x hx => by
        have := (List.Nodup.mem_erase_iff hn).1 hx
        have := h x this.2
        omega
      rw [List.length_erase_of_mem hv] at h1
      omega
    · have := nodup_len v l hn fun x hx => by
        have h2 := h x hx
        have : x ≠ v := fun e => hv (e ▸ hx)
        omega
      omega

def alt (f g : Nat -> Nat) (p : Nat) : Nat -> Nat
  | 0 => p
  | k + 1 => if k % 2 = 0 then f (alt f g p k) else g (alt f g p k)

structure Turn (f g : Nat -> Nat) (S : Nat -> Prop) : Prop where
  fS : ∀ x, S x -> S (f x)
  gS : ∀ x, S x -> S (g x)
  ff : ∀ x, S x -> f (f x) = x
  gg : ∀ x, S x -> g (g x) = x
  fne : ∀ x, S x -> f x ≠ x
  gne : ∀ x, S x -> g x ≠ x

theorem alt_S {f g : Nat -> Nat} {S : Nat -> Prop} (h : Turn f g S) {p : Nat} (hp : S p) : ∀ k, S (alt f g p k)
  | 0 => hp
  | k + 1 => by
    simp only [alt]
    split
    · exact h.fS _ (alt_S h hp k)
    · exact h.gS _ (alt_S h hp k)
theorem alt_next {f g : Nat -> Nat} {S : Nat -> Prop} (h : Turn f g S) {p n : Nat} (hp : S p) (hd : ∀ i j, i < j -> j <= n -> alt f g p i ≠ alt f g p j) :
    (∀ j, j <= n -> alt f g p j ≠ alt f g p (n + 1)) \/ (alt f g p (n + 1) = p /\ n % 2 = 1) := by
  by_cases hx : ∃ j, j <= n /\ alt f g p j = alt f g p (n + 1)
  · obtain ⟨j, hj, e⟩ := hx
    right
    have inj : ∀ i k, i <= n -> k <= n -> alt f g p i = alt f g p k -> i = k := by
      intro i k hi hk e
      rcases Nat.lt_trichotomy i k with h1 | h1 | h1
      · exact absurd e (hd i k h1 hk)
      · exact h1
      · exact absurd e.symm (hd k i h1 hi)
    have hS := alt_S h hp
    by_cases hn : n % 2 = 0
    · -- by f
      exfalso
      have e1 : alt f g p (n + 1) = f (alt f g p n) := by simp [alt, hn]
      rw [e1] at e
      by_cases hj2 : j % 2 = 0
      · -- j even: f of it is the next one
        have e2 : alt f g p (j + 1) = f (alt f g p j) := by simp [alt, hj2]
        have e3 : f (alt f g p j) = alt f g p n := by rw [e, h.ff _ (hS n)]
        by_cases hjn : j = n
        · subst hjn; exact h.fne _ (hS j) (by rw [e3])
        · rw [<- e2] at e3
          have := inj (j + 1) n (by omega) (by omega) e3
          omega
      · obtain ⟨i, rfl⟩ : ∃ i, j = i + 1 := ⟨j - 1, by omega⟩
        have e2 : alt f g p (i + 1) = f (alt f g p i) := by simp only [alt]; rw [if_pos (by omega)]
        rw [e2] at e
        have := congrArg f e
        rw [h.ff _ (hS i), h.ff _ (hS n)] at this
        have := inj i n (by omega) (by omega) this
        omega
    · have e1 : alt f g p (n + 1) = g (alt f g p n) := by simp [alt, hn]
      rw [e1] at e ⊢
      by_cases hj0 : j = 0
      · subst hj0; exact ⟨e.symm, by omega⟩
      · exfalso
        by_cases hj2 : j % 2 = 1
        · have e2 : alt f g p (j + 1) = g (alt f g p j) := by simp only [alt]; rw [if_neg (by omega)]
          have e3 : g (alt f g p j) = alt f g p n := by rw [e, h.gg _ (hS n)]
          by_cases hjn : j = n
          · subst hjn; exact h.gne _ (hS j) (by rw [e3])
          · rw [<- e2] at e3
            have := inj (j + 1) n (by omega) (by omega) e3
            omega
        · obtain ⟨i, rfl⟩ : ∃ i, j = i + 1 := ⟨j - 1, by omega⟩
          have e2 : alt f g p (i + 1) = g (alt f g p i) := by simp only [alt]; rw [if_neg (by omega)]
          rw [e2] at e
          have := congrArg g e
          rw [h.gg _ (hS i), h.gg _ (hS n)] at this
          have := inj i n (by omega) (by omega) this
          omega
  · left
    intro j hj e
    exact hx ⟨j, hj, e⟩
theorem alt_back {f g : Nat -> Nat} {S : Nat -> Prop} (h : Turn f g S) {p v : Nat} (hp : S p) (hv : ∀ x, S x -> x < v) :
    ∃ n, 2 <= n /\ n % 2 = 0 /\ n <= v /\ alt f g p n = p /\ ∀ i j, i < j -> j < n -> alt f g p i ≠ alt f g p j := by
  have len : ∀ n, (∀ i j, i < j -> j < n -> alt f g p i ≠ alt f g p j) -> n <= v := by
    intro n hd
    have := nodup_len v ((List.range n).map (alt f g p)) ?_ ?_
    · simpa using this
    · refine List.pairwise_map.2 ?_
      rw [List.pairwise_iff_getElem]
      intro i j hi hj hij
      simp only [List.getElem_range]
      exact hd i j hij (by simpa using hj)
    · intro x hx
      obtain ⟨k, _, rfl⟩ := List.mem_map.1 hx
      exact hv _ (alt_S h hp k)
  have go : ∀ m n, n + m = v -> (∀ i j, i < j -> j < n + 1 -> alt f g p i ≠ alt f g p j) -> ∃ n, 2 <= n /\ n % 2 = 0 /\ n <= v /\ alt f g p n = p /\ ∀ i j, i < j -> j < n -> alt f g p i ≠ alt f g p j := by
    intro m
    induction m with
    | zero => intro n hn hd; have := len (n + 1) hd; omega
    | succ m ih =>
      intro n hn hd
      rcases alt_next h hp (n := n) (fun i j hij hj => hd i j hij (by omega)) with h1 | ⟨h1, h2⟩
      · refine ih (n + 1) (by omega) ?_
        intro i j hij hj
        by_cases e : j = n + 1
        · subst e; exact h1 i (by omega)
        · exact hd i j hij (by omega)
      · exact ⟨n + 1, by omega, by omega, by have := len (n + 1) hd; omega, h1, hd⟩
  have hv0 := len 1 (by intro i j h1 h2; omega)
  exact go v 0 (by omega) (by intro i j h1 h2; omega)

end Go.Ab
end

section
namespace Go.Proofs.YtkimaohcmcfcnaaGreat
open Go.Ab

theorem sub_len : ∀ (l m : List Nat), l.Nodup -> (∀ x ∈ l, x ∈ m) -> l.length <= m.length
  | [], m, _, _ => by simp
  | x :: l, m, hn, h => by
    have hn' := List.nodup_cons.1 hn
    have hx := h x List.mem_cons_self
    have h1 := sub_len l (m.erase x) hn'.2 fun y hy => by
      have hne : y ≠ x := fun e => hn'.1 (e ▸ hy)
      exact (List.mem_erase_of_ne hne).2 (h y (List.mem_cons_of_mem _ hy))
    rw [List.length_erase_of_mem hx] at h1
    have := List.length_pos_of_mem hx
    rw [List.length_cons]; omega
theorem sub_all {l m : List Nat} (hn : l.Nodup) (h : ∀ x ∈ l, x ∈ m) (hlen : m.length <= l.length) {x : Nat} (hx : x ∈ m) : x ∈ l := by
  by_cases hxl : x ∈ l
  · exact hxl
  · have := sub_len (x :: l) m (List.nodup_cons.2 ⟨hxl, hn⟩) fun y hy => by
      rcases List.mem_cons.1 hy with rfl | hy
      · exact hx
      · exact h y hy
    rw [List.length_cons] at this; omega

def allP (v : Nat) : List Nat := (List.range v).flatMap fun i => (upTo (i + 1) v).map fun j => i * 15 + j
def blkP (b : Bk) : List Nat := [b.a.toNat * 15 + b.b.toNat, b.a.toNat * 15 + b.c.toNat, b.b.toNat * 15 + b.c.toNat]
theorem allP_length : ∀ v, v < 16 -> (allP v).length * 2 = v * (v - 1) := by decide +kernel
theorem mem_allP {v i j : Nat} (h1 : i < j) (h2 : j < v) : i * 15 + j ∈ allP v := by
  simp only [allP, List.mem_flatMap, List.mem_range, List.mem_map, mem_upTo]
  exact ⟨i, by omega, j, by omega, rfl⟩
theorem flatP_length (bs : List Bk) : (bs.flatMap blkP).length = bs.length * 3 := by
  induction bs with
  | nil => rfl
  | cons b bs ih => rw [List.flatMap_cons, List.length_append, ih, List.length_cons]; simp only [blkP, List.length_cons, List.length_nil]; omega

theorem full_cover {v : Nat} {bs : List Bk} (hS : IsSys v bs) (hf : fullB v bs = true) {p q : Nat} (hpq : p < q) (hq : q < v) : third bs p q ≠ -1 := by
  obtain ⟨hp, hlen, hsort, hfit⟩ := hS
  have hg : ∀ x ∈ bs, good (v : Int) x = true := fun x hx => by
    obtain ⟨i, hi⟩ := List.mem_iff_getElem?.1 hx
    exact (hsort i x hi).1
  have hnd : (bs.flatMap blkP).Nodup := by
    unfold List.Nodup
    rw [List.pairwise_flatMap]
    constructor
    · intro b hb
      have := good_iff.1 (hg b hb)
      refine List.pairwise_cons.2 ⟨?_, List.pairwise_cons.2 ⟨?_, List.pairwise_singleton _ _⟩⟩
      · intro x hx
        simp only [List.mem_cons, List.not_mem_nil, or_false] at hx
        rcases hx with rfl | rfl <;> omega
      · intro x hx
        simp only [List.mem_cons, List.not_mem_nil, or_false] at hx
        subst hx; omega
    · rw [List.pairwise_iff_getElem]
      intro i j hi hj hij
      have gx := good_iff.1 (hg _ (List.getElem_mem hi))
      have gy := good_iff.1 (hg _ (List.getElem_mem hj))
      have hc := (common_le_one (w := v) (hg _ (List.getElem_mem hj))).1 (hfit j i bs[j] bs[i] hij (List.getElem?_eq_getElem hj) (List.getElem?_eq_getElem hi))
      simp only [Bk.has_iff] at hc
      generalize bs[i] = y at *
      generalize bs[j] = x at *
      intro m hm n hn e
      subst e
      simp only [blkP, List.mem_cons, List.not_mem_nil, or_false] at hm hn
      obtain ⟨c1, c2, c3⟩ := hc
      rcases hm with hm | hm | hm
      · refine c1 ⟨?_, ?_⟩ <;> rcases hn with hn | hn | hn <;> omega
      · refine c2 ⟨?_, ?_⟩ <;> rcases hn with hn | hn | hn <;> omega
      · refine c3 ⟨?_, ?_⟩ <;> rcases hn with hn | hn | hn <;> omega
  have hsub : ∀ x ∈ bs.flatMap blkP, x ∈ allP v := by
    intro x hx
    obtain ⟨b, hb, hx⟩ := List.mem_flatMap.1 hx
    have := good_iff.1 (hg b hb)
    simp only [blkP, List.mem_cons, List.not_mem_nil, or_false] at hx
    rcases hx with rfl | rfl | rfl
    · exact mem_allP (by omega) (by omega)
    · exact mem_allP (by omega) (by omega)
    · exact mem_allP (by omega) (by omega)
  have hv := allP_length v (by omega)
  have hcnt : 6 * (bs.length : Int) = (v : Int) * ((v : Int) - 1) := by simpa [fullB] using hf
  have hcnt2 : 6 * bs.length = v * (v - 1) := by
    have e : ((v * (v - 1) : Nat) : Int) = (v : Int) * ((v : Int) - 1) := by rw [Int.natCast_mul, Int.natCast_sub (by omega)]; rfl
    omega
  have hin := sub_all hnd hsub (by rw [flatP_length]; omega) (mem_allP hpq hq)
  obtain ⟨b, hb, hx⟩ := List.mem_flatMap.1 hin
  have gb := good_iff.1 (hg b hb)
  rw [Ne, third_neg hg (by omega)]
  intro hno
  refine hno b hb ?_
  simp only [Bk.has_iff]
  simp only [blkP, List.mem_cons, List.not_mem_nil, or_false] at hx
  rcases hx with hx | hx | hx <;> constructor <;> omega

end Go.Proofs.YtkimaohcmcfcnaaGreat
end

section
namespace Go.Proofs.YtkimaohcmcfcnaaGreat
open Go.Ab

theorem fits_same {v : Int} {bs : List Bk} (hg : ∀ x ∈ bs, good v x = true) (hF : Fits bs) {x y : Bk} (hx : x ∈ bs) (hy : y ∈ bs) {p q : Int} (hpq : p ≠ q) (h1 : x.has p = true) (h2 : x.has q = true) (h3 : y.has p = true) (h4 : y.has q = true) : x = y := by
  obtain ⟨i, hi⟩ := List.mem_iff_getElem?.1 hx
  obtain ⟨j, hj⟩ := List.mem_iff_getElem?.1 hy
  have key : ∀ {i j : Nat} {x y : Bk}, j < i -> bs[i]? = some x -> bs[j]? = some y -> x.has p = true -> x.has q = true -> y.has p = true -> y.has q = true -> False := by
    intro i j x y hij hi hj h1 h2 h3 h4
    have hc := (common_le_one (w := v) (hg x (List.mem_of_getElem? hi))).1 (hF i j x y hij hi hj)
    obtain ⟨c1, c2, c3⟩ := hc
    rw [Bk.has_iff] at h3 h4
    rcases h3 with h3 | h3 | h3 <;> rcases h4 with h4 | h4 | h4 <;> subst h3 <;> first
      | exact hpq h4
      | (subst h4; first | exact c1 ⟨h1, h2⟩ | exact c1 ⟨h2, h1⟩ | exact c2 ⟨h1, h2⟩ | exact c2 ⟨h2, h1⟩ | exact c3 ⟨h1, h2⟩ | exact c3 ⟨h2, h1⟩)
  rcases Nat.lt_trichotomy i j with h | h | h
  · exact (key h hj hi h3 h4 h1 h2).elim
  · subst h; rw [hi] at hj; exact Option.some.inj hj
  · exact (key h hi hj h1 h2 h3 h4).elim

theorem third_back {v : Int} {bs : List Bk} (hg : ∀ x ∈ bs, good v x = true) (hF : Fits bs) {p q : Int} (hpq : p ≠ q) (h : third bs p q ≠ -1) : third bs p (third bs p q) = q := by
  obtain ⟨c, hc, h1, h2, h3, h4, h5, h6, h7, h8⟩ := third_some hg hpq h
  have hne : p ≠ third bs p q := fun e => h7 e.symm
  have hn2 : third bs p (third bs p q) ≠ -1 := by
    rw [Ne, third_neg hg hne]
    intro hno; exact hno c hc ⟨h1, h6⟩
  obtain ⟨d, hd, g1, g2, g3, _⟩ := third_some hg hne hn2
  have e := fits_same hg hF hc hd hne h1 h6 g1 g2
  subst e
  rw [g3]; omega

def thr (bs : List Bk) (a x : Nat) : Nat := (third bs a x).toNat
theorem thr_spec {v : Nat} {bs : List Bk} (hS : IsSys v bs) (hf : fullB v bs = true) {p q : Nat} (hpq : p ≠ q) (hp : p < v) (hq : q < v) :
    third bs p q = (thr bs p q : Int) /\ thr bs p q < v /\ thr bs p q ≠ p /\ thr bs p q ≠ q /\ thr bs p (thr bs p q) = q := by
  have hg : ∀ x ∈ bs, good (v : Int) x = true := hS.good
  have hne : third bs p q ≠ -1 := by
    rcases Nat.lt_or_gt_of_ne hpq with h | h
    · exact full_cover hS hf h hq
    · rw [third_comm]; exact full_cover hS hf h hp
  have hb := third_back hg hS.2.2.2 (show (p : Int) ≠ q by omega) hne
  obtain ⟨c, hc, h1, h2, h3, h4, h5, h6, h7, h8⟩ := third_some hg (show (p : Int) ≠ q by omega) hne
  have e : third bs p q = (thr bs p q : Int) := by unfold thr; omega
  refine ⟨e, by omega, by omega, by omega, ?_⟩
  rw [e] at hb
  unfold thr at hb ⊢
  rw [hb]; rfl

def cycS (v : Nat) (bs : List Bk) (a b x : Nat) : Prop := x < v /\ x ≠ a /\ x ≠ b /\ x ≠ thr bs a b
theorem thr_comm (bs : List Bk) (a b : Nat) : thr bs a b = thr bs b a := by unfold thr; rw [third_comm]
theorem turn_of {v : Nat} {bs : List Bk} (hS : IsSys v bs) (hf : fullB v bs = true) {a b : Nat} (hab : a ≠ b) (ha : a < v) (hb : b < v) : Turn (thr bs a) (thr bs b) (cycS v bs a b) := by
  obtain ⟨_, c1, c2, c3, c4⟩ := thr_spec hS hf hab ha hb
  obtain ⟨_, _, _, _, c5⟩ := thr_spec hS hf (Ne.symm hab) hb ha
  have key : ∀ {a b : Nat}, a ≠ b -> a < v -> b < v -> ∀ x, cycS v bs a b x -> cycS v bs a b (thr bs a x) /\ thr bs a (thr bs a x) = x /\ thr bs a x ≠ x := by
    intro a b hab ha hb x ⟨h1, h2, h3, h4⟩
    obtain ⟨_, c1, c2, c3, c4⟩ := thr_spec hS hf hab ha hb
    obtain ⟨_, d1, d2, d3, d4⟩ := thr_spec hS hf (Ne.symm h2) ha h1
    refine ⟨⟨d1, d2, ?_, ?_⟩, d4, d3⟩
    · intro e; rw [e] at d4; exact h4 d4.symm
    · intro e; rw [e, c4] at d4; exact h3 d4.symm
  have sw : ∀ x, cycS v bs a b x ↔ cycS v bs b a x := by
    intro x; unfold cycS; rw [thr_comm bs a b]
    constructor <;> rintro ⟨h1, h2, h3, h4⟩ <;> exact ⟨h1, h3, h2, h4⟩
  exact ⟨fun x hx => (key hab ha hb x hx).1, fun x hx => (sw _).2 (key (Ne.symm hab) hb ha x ((sw x).1 hx)).1, fun x hx => (key hab ha hb x hx).2.1, fun x hx => (key (Ne.symm hab) hb ha x ((sw x).1 hx)).2.1,
    fun x hx => (key hab ha hb x hx).2.2, fun x hx => (key (Ne.symm hab) hb ha x ((sw x).1 hx)).2.2⟩

end Go.Proofs.YtkimaohcmcfcnaaGreat
end

section
namespace Go.Proofs.YtkimaohcmcfcnaaGreat
open Go.Ab

theorem put2 {H H0 H' : Heap} {id : Nat} {cs0 cs : List Value} (hp0 : H <+: H0) (hid : H.length <= id) (hb0 : H0[id]? = some ⟨cs0, true, true⟩) (h2 : cs0.length = 2) (hp : H0 <+: H') (hcl : cs.length = 2) (ho : cs.all Value.oneCell' = true) :
    storeAt H' id 0 cs = some (H'.set id ⟨cs, true, true⟩) /\ cellsAt (H'.set id ⟨cs, true, true⟩) id 0 2 = some cs /\ H <+: H'.set id ⟨cs, true, true⟩ /\ Same (fun j => j = id) H' (H'.set id ⟨cs, true, true⟩) := by
  have hb' := pget hp hb0
  have hsame : Same (fun j => j = id) H' (H'.set id ⟨cs, true, true⟩) := ⟨by simp, fun j hj hS => List.getElem?_set_ne (fun e => hS e.symm)⟩
  refine ⟨?_, ?_, ((Same.of_prefix (hp0.trans hp)).trans hsame).prefix (by intro j hj he; omega), hsame⟩
  · rw [storeAt_of hb' rfl rfl (by simp [hcl, h2]) ho]
    match cs, hcl, cs0, h2 with
    | [x, y], _, [z, w], _ => simp [over]
  · have := Holds.cells (n := 2) (o := 0) (H := H'.set id ⟨cs, true, true⟩) ⟨true, List.getElem?_set_self (List.getElem?_eq_some_iff.1 hb').1⟩ (by omega)
    rw [this, List.drop_zero, List.take_of_length_le (by omega)]

end Go.Proofs.YtkimaohcmcfcnaaGreat
end

section
namespace Go.Proofs.YtkimaohcmcfcnaaGreat
open Go.Ab Go.Sort

theorem tri_src {H : Heap} {i o : Nat} {bs : List Bk} (h : At H i o (tri bs)) : srcCells H 3 (lv 3 i o bs.length) = some (tri bs) := h.src (by rw [tri_length]) (by omega) _

theorem cloneB_oe {H : Heap} {u : Value} {xs : List Bk} (hu : BlocksAt H u xs) (hl : xs.length <= 1048576) (Post : Value -> Heap -> Prop) (h : ∀ H' w, H <+: H' -> OE 3 H.length H' w (tri xs) xs.length -> Post w H') :
    ACalls Tryz.prog 16 [u] H Post := by
  obtain ⟨i, o, rfl, h1, h2⟩ := hu
  by_cases hx : xs = []
  · subst hx
    refine acalls_body Tryz.func16 rfl rfl (by rw [Tryz.ntmps16]; exact Nat.le_of_ble_eq_true rfl) ?_
    rw [Tryz.ntmps16]
    refine AWp.seq (vc_sound _ _ _ _ ?_)
    simp (maxSteps := 1000000) [go_sem]
    refine AWp.seq (AWp.seq (AWp.regionS ?_))
    refine StepOK.of_v ?_
    simp (maxSteps := 1000000) [go_sem]
    refine StepOK.of_op rfl (ok_eqlNil2 rfl Tryz.underlying24 rfl rfl (by show (4 : Nat) < 8; decide) (fun b => ?_))
    refine AWp.cond (b := b) (by cases b <;> rfl) (fun _ => ?_) (fun _ => ?_)
    · refine vc_sound _ _ _ _ ?_
      simp (maxSteps := 1000000) [go_sem]
      exact h H _ (List.prefix_refl _) (OE.nil _ _ _)
    · refine vc_sound _ _ _ _ ?_
      simp (maxSteps := 1000000) [go_sem]
      refine vc_sound _ _ _ _ ?_
      simp (maxSteps := 1000000) [go_sem, appendH]
      exact h _ _ (List.prefix_append _ _) (OE.empty (Nat.le_refl _) (by simp))
  · have hp0 : H <+: H ++ [⟨[], true, true⟩] := List.prefix_append _ _
    have hsrc := tri_src (h1.pre hp0)
    have hm0 : xs.length ≠ 0 := by simpa using hx
    simp only [srcCells] at hsrc
    have he0 : OE 3 H.length (H ++ [(⟨[], true, true⟩ : Blk)]) (.slice (some ⟨H.length, 0, none⟩) 0 0) [] 0 := OE.empty (Nat.le_refl _) (by simp)
    obtain ⟨v, H2, hap, he2, hk2, hl2⟩ := he0.append (m := xs.length) (news := tri xs) (by omega) (by simp) (by rw [tri_length])
    generalize hm : xs.length = m at *
    refine acalls_vc (rs := [.tmp 2]) Tryz.func16 rfl rfl Tryz.ntmps16 rfl rfl ?_
    have hnil : nilOK (some ⟨i, o, some 3⟩) m = true := by simpa [nilOK] using hm0
    simp (maxSteps := 1000000) [go_sem, hnil, hsrc, hap]
    refine andK_intro (by omega) ?_
    simp only [List.nil_append, Nat.zero_add] at he2
    exact h H2 v (KeepL.prefix hp0 (Nat.le_refl _) hk2 hl2) he2
theorem cloneB_ok {H : Heap} {u : Value} {xs : List Bk} (hu : BlocksAt H u xs) (hl : xs.length <= 1048576) (Post : Value -> Heap -> Prop) (h : ∀ H' w, H <+: H' -> BlocksIn H.length H'.length H' w xs -> Post w H') :
    ACalls Tryz.prog 16 [u] H Post := by
  refine ACalls.res (cloneB_oe hu hl _ fun H' v hp he => ?_)
  obtain ⟨w, hup, hw⟩ := he.blocks (by omega)
  exact ⟨w, hup, h H' w hp hw⟩

end Go.Proofs.YtkimaohcmcfcnaaGreat
end

section
namespace Go.Proofs.YtkimaohcmcfcnaaGreat
open Go.Ab Go.Sort

def nthI (xs : List Int) (p : Int) : Int := xs.getD p.toNat 0
def renB (xs : List Int) (b : Bk) : Bk := blk (nthI xs b.a) (nthI xs b.b) (nthI xs b.c)
theorem nthI_in {xs : List Int} {n : Nat} (h : n < xs.length) : xs[n]? = some (nthI xs n) := by
  rw [nthI, Int.toNat_natCast, List.getD_eq_getElem?_getD, List.getElem?_eq_getElem h]; rfl
theorem OrdL.bound {p : Int} {xs : List Int} (h : OrdL p xs) (hp : p <= 15) {n : Nat} (hn : n < xs.length) : 0 <= nthI xs n /\ nthI xs n < 15 := by
  have := h.2.2 _ (List.mem_of_getElem? (nthI_in hn)); omega

end Go.Proofs.YtkimaohcmcfcnaaGreat
end

section
namespace Go.Ab
open Go.RowKit (Below)
def offS (L : Nat -> Prop) (o : Op) (fr : Fr) : Prop := ∀ i, rdBlk o fr = some i -> L i
theorem offS_congr {L : Nat -> Prop} {o : Op} {fr fr' : Fr} (h : ∀ x, ev fr' x = ev fr x) (hoff : offS L o fr) : offS L o fr' := fun i hi => hoff i (by rw [<- hi]; exact rdBlk_congr fun x => (h x).symm)
theorem offS_agree {L : Nat -> Prop} {o : Op} {fr fr' : Fr} (h : agree o fr fr') (hoff : offS L o fr) : offS L o fr' := fun i hi => hoff i (by rw [<- hi]; exact (rdBlk_agree h).symm)
def KeepS (L : Nat -> Prop) (H h : Heap) : Prop := ∀ i, L i -> h[i]? = H[i]?

def eKS (L : Nat -> Prop) (fl : Bool) (H : Heap) (k : Fr -> Heap -> Prop) (f : Fr) (h : Heap) : Prop :=
  match fl with
  | true => andK (KeepS L H h) (k f h)
  | false => k f h

def vES (P : Program) (N : Nat) (ops : Array Oper) (L : Nat -> Prop) (K : Fr -> Heap -> Prop) : List (Nat × Bool) -> Fr -> Heap -> Prop
  | [], fr, H => K fr H
  | (i, fl) :: l, fr, H => match ops[i]? with
    | none => False
    | some o => match isR o.op with
      | true => offS L o.op fr /\ vstep P N ops o (vES P N ops L K l) fr H
      | false => vstep P N ops o (eKS L fl H (vES P N ops L K l)) fr H

section
variable {P : Program} {N : Nat} {ops : Array Oper} {L : Nat -> Prop} {K : Fr -> Heap -> Prop}

theorem vES_closed (hK : Closed K) : ∀ l, Closed (vES P N ops L K l)
  | [] => hK
  | (i, fl) :: l => by
    intro f g H hfg h
    have ih := vES_closed hK l
    simp only [vES] at h ⊢
    split at h
    · exact h.elim
    · rename_i o ho
      cases hR : isR o.op with
      | true =>
        simp only [hR] at h ⊢
        obtain ⟨hoff, h⟩ := h
        obtain ⟨v, h1, h2⟩ := vstep_RX hR ih h
        exact ⟨offS_congr (fun x => feq.ev hfg x) hoff, h2 g H _ ih (agreeG.of_feq hfg) (fun _ _ _ h => h) (ih _ _ _ (hfg.put _ _) h1)⟩
      | false =>
        simp only [hR] at h ⊢
        have hc : Closed (eKS L fl H (vES P N ops L K l)) := by
          intro f g h' hfg hk
          cases fl with
          | true => exact ⟨hk.1, ih _ _ _ hfg hk.2⟩
          | false => exact ih _ _ _ hfg hk
        refine vstep_weak (vstep_E hc h (agreeG.of_feq hfg)) ?_
        rintro f' h' ⟨v, h1, h2⟩
        exact hc _ _ _ ((hfg.put _ _).trans h1) h2

def relS (L : Nat -> Prop) (o : Oper) (fl : Bool) (H h : Heap) : Prop := (isR o.op = true \/ fl = true) -> KeepS L H h

theorem vES_head (hK : Closed K) {i : Nat} {fl : Bool} {l : List (Nat × Bool)} {fr : Fr} {H : Heap} {o : Oper} (ho : ops[i]? = some o) (h : vES P N ops L K ((i, fl) :: l) fr H) :
    vstep P N ops o (fun f h => relS L o fl H h /\ vES P N ops L K l f h) fr H := by
  simp only [vES, ho] at h
  cases hR : isR o.op with
  | true =>
    simp only [hR] at h
    obtain ⟨_, h⟩ := h
    obtain ⟨v, h1, h2⟩ := vstep_RX hR (vES_closed hK l) h
    refine h2 fr H _ ?_ (fun _ _ => rfl) (fun _ _ _ h => h) ⟨fun _ _ _ => rfl, h1⟩
    intro f g h hfg hk
    exact ⟨hk.1, vES_closed hK l _ _ _ hfg hk.2⟩
  | false =>
    simp only [hR] at h
    refine vstep_weak h ?_
    intro f h' hk
    cases fl with
    | true => exact ⟨fun _ => hk.1, hk.2⟩
    | false => exact ⟨fun e => by simp [hR] at e, hk⟩

theorem vES_front (hK : Closed K) {i : Nat} {fl : Bool} {l2 : List (Nat × Bool)} {o : Oper} (ho : ops[i]? = some o) : ∀ (l1 : List (Nat × Bool)) (fr : Fr) (H : Heap),
    (∀ x ∈ l1, ∃ p, ops[x.1]? = some p /\ isR p.op = true /\ indep ops p o = true /\ (readsH p.op = true -> isR o.op = true \/ fl = true)) ->
    vES P N ops L K (l1 ++ (i, fl) :: l2) fr H -> vstep P N ops o (fun f h => relS L o fl H h /\ vES P N ops L K (l1 ++ l2) f h) fr H
  | [], fr, H, _, h => vES_head hK ho h
  | (j, fj) :: l1, fr, H, hl, h => by
    obtain ⟨p, hp, hR, hin, hrd⟩ := hl (j, fj) (by simp)
    simp only [List.cons_append, vES, hp, hR] at h ⊢
    have hc1 := vES_closed (P := P) (N := N) (ops := ops) (L := L) hK (l1 ++ (i, fl) :: l2)
    have hc2 := vES_closed (P := P) (N := N) (ops := ops) (L := L) hK (l1 ++ l2)
    obtain ⟨hoff, h⟩ := h
    obtain ⟨v, h1, h2⟩ := vstep_RX hR hc1 h
    have ih := vES_front hK ho l1 (fr.put p.dst v) H (fun x hx => hl x (by simp [hx])) h1
    obtain ⟨i1, i2, i3⟩ := indep_spec hin
    have hcK : Closed (fun f h => relS L o fl H h /\ vES P N ops L K (l1 ++ l2) f h) := fun f g h hfg hk => ⟨hk.1, hc2 _ _ _ hfg hk.2⟩
    have hag : agreeG ops o (fr.put p.dst v) fr := agreeG.symm (agreeG.put i1)
    refine vstep_weak (vstep_E hcK ih hag) ?_
    rintro f h' ⟨u, hf, hrel, hv⟩
    refine ⟨hrel, ?_⟩
    have hvE : offS L p.op (fr.put o.dst u) /\ vstep P N ops p (vES P N ops L K (l1 ++ l2)) (fr.put o.dst u) h' := by
      refine ⟨offS_agree (agreeG.put i2).agree hoff, ?_⟩
      refine h2 (fr.put o.dst u) h' _ hc2 (agreeG.put i2) (fun i hi b hb => ?_) ?_
      · rw [hrel (hrd (by cases hr : readsH p.op with | true => rfl | false => rw [rdBlk_none hr] at hi; cases hi)) i (hoff i hi), hb]
      exact hc2 _ _ _ (put_comm fr i3 v u) hv
    have hfin := vES_closed (P := P) (N := N) (ops := ops) (L := L) hK ((j, fj) :: (l1 ++ l2)) (fr.put o.dst u) f h' hf (by simp only [vES, hp, hR]; exact hvE)
    simpa only [vES, hp, hR] using hfin

theorem draw_anyS {B : Nat} {w0 : World} {Q : Exit -> Act -> World -> Prop} (hK : Closed K) (hedge : edgesOK ops = true) : ∀ (n : Nat) (listed : Array Bool) (l : List (Nat × Bool)) (fr : Fr) (H : Heap) (ρ : Rho) (w : World) (a : Act),
    listed.size = ops.size -> l.length = n -> pairsOK ops (masksGo ops.toList []) l = true -> (∀ x ∈ l, x.1 < ops.size /\ listed.getD x.1 true = false) -> (∀ i, i < ops.size -> listed.getD i true = false -> ∃ x ∈ l, x.1 = i) ->
    (∀ (j : Nat) (o : Oper), ops[j]? = some o -> listed.getD j false = true -> ∀ e ∈ o.after.toList, Region.binds .any e = true -> listed.getD e.on false = true) ->
    vES P N ops L K l fr H -> R B w0 ρ H w -> FR N ρ fr a ->
    (∀ (ρ' : Rho) (fr' : Fr) (H' : Heap) (a' : Act) (w' : World), ρ <+: ρ' -> K fr' H' -> R B w0 ρ' H' w' -> FR N ρ' fr' a' -> Q .normal a' w') -> wpAny P .any ops Q n listed a w := by
  intro n
  have getD2 : ∀ (listed : Array Bool) (i : Nat), listed.size = ops.size -> i < ops.size -> listed.getD i true = listed.getD i false := by
    intro listed i h1 h2
    simp [Array.getD_eq_getD_getElem?, h1, h2]
  induction n with
  | zero =>
    intro listed l fr H ρ w a hsz hl hp hin hall hcl hv hR hF hq
    have : l = [] := List.eq_nil_of_length_eq_zero hl
    subst this
    refine ⟨?_, hq ρ fr H a w (List.prefix_refl _) hv hR hF⟩
    rw [List.eq_nil_iff_forall_not_mem]
    intro i hi
    simp only [Region.ready, List.mem_filter, List.mem_range, Bool.and_eq_true, Bool.not_eq_true'] at hi
    obtain ⟨x, hx, _⟩ := hall i hi.1 hi.2.1
    simp at hx
  | succ n ih =>
    intro listed l fr H ρ w a hsz hl hp hin hall hcl hv hR hF hq
    refine ⟨?_, ?_⟩
    · intro hnil
      exfalso
      match l, hl with
      | (i, fl) :: l, hl =>
        obtain ⟨h1, h2⟩ := hin (i, fl) (by simp)
        have hi : i ∈ Region.ready .any ops listed := by
          simp only [Region.ready, List.mem_filter, List.mem_range, Bool.and_eq_true, Bool.not_eq_true']
          refine ⟨h1, h2, ?_⟩
          rw [Array.getElem?_eq_getElem h1]
          simp only [Option.map_some, Option.getD_some, Array.all_eq_true']
          intro e he
          rw [Bool.or_eq_true, Bool.not_eq_true']
          by_cases hb : Region.binds .any e = true
          · right
            have hedge' := List.all_eq_true.1 hedge i (by simpa using h1)
            simp only [Array.getElem?_eq_getElem h1, List.all_eq_true] at hedge'
            have he' := hedge' e (by simpa using he)
            simp only [hb, Bool.not_true, Bool.false_or, Bool.and_eq_true, decide_eq_true_eq, bne_iff_ne, ne_eq] at he'
            rw [<- getD2 listed e.on hsz he'.1]
            cases hg : listed.getD e.on true with
            | true => rfl
            | false =>
              obtain ⟨x, hx, hxe⟩ := hall e.on he'.1 hg
              rcases List.mem_cons.1 hx with rfl | hx
              · exact absurd hxe.symm he'.2
              · have hpo := (pairsOK_spec (l1 := []) hp).2.1 x hx
                have hx1 := (hin x (by simp [hx])).1
                simp only [pairOK, Array.getElem?_eq_getElem h1, Array.getElem?_eq_getElem hx1, Bool.and_eq_true, Bool.not_eq_true'] at hpo
                have hd := hpo.1.1
                simp only [directTo, List.any_eq_false, Bool.and_eq_true, beq_iff_eq, not_and] at hd
                exact absurd hxe.symm (hd e (by simpa using he) hb)
          · left; simpa using hb
        rw [hnil] at hi
        simp at hi
    · intro i hi
      simp only [Region.ready, List.mem_filter, List.mem_range, Bool.and_eq_true, Bool.not_eq_true'] at hi
      obtain ⟨hilt, hnl, hrdy⟩ := hi
      rw [Array.getElem?_eq_getElem hilt] at hrdy
      simp only [Option.map_some, Option.getD_some, Array.all_eq_true'] at hrdy
      have ho : ops[i]? = some ops[i] := Array.getElem?_eq_getElem hilt
      obtain ⟨x, hx, hxi⟩ := hall i hilt hnl
      obtain ⟨l1, l2, rfl⟩ := List.append_of_mem hx
      obtain ⟨i', fl⟩ := x
      simp only at hxi
      subst hxi
      obtain ⟨hp1, hp2, hp3⟩ := pairsOK_spec hp
      have hpre : ∀ e ∈ (ops[i']).after.toList, Region.binds .any e = true -> listed.getD e.on false = true := by
        intro e he hb
        have := hrdy e (by simpa using he)
        simpa [hb] using this
      have hdep : ∀ y ∈ l1, ¬ ((masksGo ops.toList []).getD i' 0).testBit y.1 = true := by
        intro y hy hb
        have := masks_sound (ops := ops) (fun j => listed.getD j false = true) hcl ops.toList [] (fun j _ => by simp) (fun j o p hj => by simp at hj) i' _ y.1 ho hb hpre
        obtain ⟨hy1, hy2⟩ := hin y (by simp [hy])
        rw [getD2 listed y.1 hsz hy1] at hy2
        rw [hy2] at this; cases this
      have hl1 : ∀ y ∈ l1, ∃ p, ops[y.1]? = some p /\ isR p.op = true /\ indep ops p ops[i'] = true /\ (readsH p.op = true -> isR (ops[i']).op = true \/ fl = true) := by
        intro y hy
        have hy1 := (hin y (by simp [hy])).1
        have hpo := hp1 y hy
        have hd := hdep y hy
        refine ⟨ops[y.1], Array.getElem?_eq_getElem hy1, ?_⟩
        simp only [pairOK, Array.getElem?_eq_getElem hy1, ho, Bool.and_eq_true] at hpo
        have hpo2 := hpo.2
        simp only [Bool.not_eq_true] at hd
        cases hRp : isR (ops[y.1]).op with
        | false => simp only [hRp] at hpo2; rw [hd] at hpo2; cases hpo2
        | true =>
          simp only [hRp, hd, Bool.false_or, Bool.or_false, Bool.and_eq_true, Bool.or_eq_true, Bool.not_eq_true'] at hpo2
          refine ⟨rfl, hpo2.1, fun hr => ?_⟩
          rcases hpo2.2 with (h | h) | h
          · exact .inl h
          · exact .inr h
          · rw [hr] at h; cases h
      have hstep := vES_front hK ho l1 fr H hl1 hv
      unfold wpOp
      rw [ho]
      have hnd : ∀ y ∈ l1 ++ l2, y.1 ≠ i' := by
        intro y hy e
        rcases List.mem_append.1 hy with hy | hy
        · have hpo := hp1 y hy
          have hy1 := (hin y (by simp [hy])).1
          simp [pairOK, Array.getElem?_eq_getElem hy1, ho, e] at hpo
        · have hpo := hp2 y hy
          have hy1 := (hin y (by simp [hy])).1
          simp [pairOK, Array.getElem?_eq_getElem hy1, ho, e] at hpo
      refine vstep_sound hstep hR hF Q ?_
      rintro ρ' fr' H' a' w' hpre' ⟨_, hv'⟩ hR' hF'
      refine ih (listed.setIfInBounds i' true) (l1 ++ l2) fr' H' ρ' w' a' (by simpa using hsz) (by simp at hl ⊢; omega) hp3 ?_ ?_ ?_ hv' hR' hF' (fun ρ'' f'' H'' a'' w'' h1 => hq ρ'' f'' H'' a'' w'' (hpre'.trans h1))
      · intro y hy
        have hne := hnd y hy
        obtain ⟨h1, h2⟩ := hin y (by rcases List.mem_append.1 hy with hy | hy <;> simp [hy])
        exact ⟨h1, by rw [getD_set_ne _ (fun e => hne e.symm)]; exact h2⟩
      · intro j hj hnj
        by_cases e : i' = j
        · subst e
          exfalso
          have : (listed.setIfInBounds i' true).getD i' true = true := by simp [Array.getD_eq_getD_getElem?]
          rw [this] at hnj; cases hnj
        · rw [getD_set_ne _ e] at hnj
          obtain ⟨y, hy, rfl⟩ := hall j hj hnj
          refine ⟨y, ?_, rfl⟩
          rcases List.mem_append.1 hy with hy | hy
          · simp [hy]
          · rcases List.mem_cons.1 hy with rfl | hy
            · exact absurd rfl e
            · simp [hy]
      · intro j o hj hlj e he hb
        by_cases e' : i' = j
        · subst e'
          rw [ho] at hj; cases hj
          exact getD_set_true (hpre e he hb)
        · rw [getD_set_ne _ e'] at hlj
          exact getD_set_true (hcl j o hj hlj e he hb)

theorem AWp.drawS (L : Nat -> Prop) {id : Nat} {fr : Fr} {H : Heap} {Q : Exit -> Fr -> Heap -> Prop} (hm : P.follows .mixedOrders = true) (canon : List (Nat × Bool)) (hok : drawOK ops canon = true) (h : vES P N ops L (Q .normal) canon fr H) : AWp P N (.region id ops true) Q fr H := by
  intro B w0 ρ w a hR hF
  simp only [drawOK, Bool.and_eq_true, decide_eq_true_eq, List.all_eq_true, List.mem_range, List.contains_iff_mem, List.mem_map] at hok
  obtain ⟨⟨⟨⟨h1, h2⟩, h3⟩, h4⟩, h5⟩ := hok
  refine wp_region_any hm ?_
  let K : Fr -> Heap -> Prop := fun f h => ∃ g, feq g f /\ Q .normal g h
  have hK : Closed K := fun f g h hfg ⟨k, hk, hq⟩ => ⟨k, hk.trans hfg, hq⟩
  have hv : vES P N ops L K canon fr H := by
    have weak : ∀ (l : List (Nat × Bool)) (fr : Fr) (H : Heap), vES P N ops L (Q .normal) l fr H -> vES P N ops L K l fr H := by
      intro l
      induction l with
      | nil => exact fun fr H h => ⟨fr, feq.rfl' _, h⟩
      | cons x l ih =>
        obtain ⟨i, fl⟩ := x
        intro fr H h
        simp only [vES] at h ⊢
        split at h
        · exact h
        · rename_i o ho
          cases hR : isR o.op with
          | true => simp only [hR] at h ⊢; exact ⟨h.1, vstep_weak h.2 ih⟩
          | false =>
            simp only [hR] at h ⊢
            refine vstep_weak h ?_
            intro f h' hk
            cases fl with
            | true => exact ⟨hk.1, ih _ _ hk.2⟩
            | false => exact ih _ _ hk
    exact weak canon fr H h
  have hgt : ∀ i, i < ops.size -> (Array.replicate ops.size false).getD i true = false := by
    intro i hi
    simp [Array.getD_eq_getD_getElem?, hi]
  refine draw_anyS (B := B) (w0 := w0) hK h2 ops.size (Array.replicate ops.size false) canon fr H ρ w.drew a (by simp) h3 h1 ?_ ?_ ?_ hv hR.drew hF ?_
  · intro x hx
    exact ⟨h4 x hx, hgt x.1 (h4 x hx)⟩
  · intro i hi _
    obtain ⟨x, hx, rfl⟩ := h5 i hi
    exact ⟨x, hx, rfl⟩
  · intro j o hj hl
    rw [Array.getD_eq_getD_getElem?, Array.getElem?_replicate] at hl
    split at hl <;> simp at hl
  · rintro ρ' fr' H' a' w' hp ⟨g, hg, hq⟩ hR' hF'
    exact ⟨ρ', g, H', hp, hR', hF'.feq hg.symm, hq⟩

/-! The words of such an order, for simp. -/

def vESK (P : Program) (N : Nat) (ops : Array Oper) (L : Nat -> Prop) (K : Fr -> Heap -> Prop) (l : List (Nat × Bool)) (fr : Fr) (H : Heap) : Prop := vES P N ops L K l fr H
def eKSK (P : Program) (N : Nat) (ops : Array Oper) (L : Nat -> Prop) (K : Fr -> Heap -> Prop) (l : List (Nat × Bool)) (fl : Bool) (H : Heap) (fr : Fr) (H' : Heap) : Prop :=
  match fl with
  | true => andK (KeepS L H H') (vES P N ops L K l fr H')
  | false => vES P N ops L K l fr H'
def offBS (L : Nat -> Prop) (o : Op) (fr : Fr) : Prop := match rdBlk o fr with
  | some i => L i
  | none => True
theorem offBS_iff {L : Nat -> Prop} {o : Op} {fr : Fr} : offBS L o fr = offS L o fr := by
  unfold offBS offS
  cases rdBlk o fr with
  | none => simp
  | some i => simp
def vESo (P : Program) (N : Nat) (ops : Array Oper) (L : Nat -> Prop) (K : Fr -> Heap -> Prop) (l : List (Nat × Bool)) (fl : Bool) (fr : Fr) (H : Heap) (o : Oper) : Prop :=
  match isR o.op with
  | true => andK (offBS L o.op fr) (vstep P N ops o (vESK P N ops L K l) fr H)
  | false => vstep P N ops o (eKSK P N ops L K l fl H) fr H

theorem vES_nil (K : Fr -> Heap -> Prop) (fr : Fr) (H : Heap) : vES P N ops L K [] fr H = K fr H := rfl
theorem vES_cons (K : Fr -> Heap -> Prop) (i : Nat) (fl : Bool) (l : List (Nat × Bool)) (fr : Fr) (H : Heap) : vES P N ops L K ((i, fl) :: l) fr H = bindO ops[i]? (vESo P N ops L K l fl fr H) := by
  have e : eKS L fl H (vES P N ops L K l) = eKSK P N ops L K l fl H := by
    funext f h
    cases fl <;> rfl
  simp only [vES]
  cases ops[i]? with
  | none => simp [bindO]
  | some o =>
    simp only [bindO_some, vESo]
    cases isR o.op with
    | true => rw [offBS_iff]; rfl
    | false => simp only [e]

attribute [go_sem] vESK eKSK vESo vES_nil vES_cons offBS

end
end Go.Ab
end

section
namespace Go.Ab
open Go.RowKit (Below)

section
variable {P : Program} {N : Nat} {ops : Array Oper} {L : Nat -> Prop} {K : Fr -> Heap -> Prop} {fs : List Nat}

def vFS (P : Program) (N : Nat) (ops : Array Oper) (L : Nat -> Prop) (fs : List Nat) (K : Fr -> Heap -> Prop) : Nat -> List (Nat × Bool) -> Fr -> Heap -> Prop
  | _, [], fr, H => K fr H
  | 0, _ :: _, _, _ => False
  | n + 1, (i, fl) :: l, fr, H => match ops[i]? with
    | none => False
    | some o => match isR o.op with
      | true => offS L o.op fr /\ vstep P N ops o (vFS P N ops L fs K n l) fr H
      | false => vstep P N ops o (eKS L fl H (vFS P N ops L fs K n l)) fr H /\
          ∀ f, f ∈ fs -> f ∈ l.map (·.1) -> ∃ o', ops[f]? = some o' /\ isR o'.op = false /\ vstep P N ops o' (eKS L true H (vFS P N ops L fs K n ((i, fl) :: l.filter fun y => y.1 != f))) fr H

theorem eKS_closed {fl : Bool} {H : Heap} {T : Fr -> Heap -> Prop} (hT : Closed T) : Closed (eKS L fl H T) := by
  intro f g h' hfg hk
  cases fl with
  | true => exact ⟨hk.1, hT _ _ _ hfg hk.2⟩
  | false => exact hT _ _ _ hfg hk
theorem vFS_closed (hK : Closed K) : ∀ n l, Closed (vFS P N ops L fs K n l)
  | 0, [] => hK
  | n + 1, [] => hK
  | 0, _ :: _ => fun _ _ _ _ h => h
  | n + 1, (i, fl) :: l => by
    intro f g H hfg h
    simp only [vFS] at h ⊢
    split at h
    · exact h.elim
    · rename_i o ho
      cases hR : isR o.op with
      | true => simp only [hR] at h ⊢; exact ⟨offS_congr (fun x => feq.ev hfg x) h.1, vstep_closed (vFS_closed hK n l) hfg h.2⟩
      | false =>
        simp only [hR] at h ⊢
        refine ⟨vstep_closed (eKS_closed (vFS_closed hK n l)) hfg h.1, fun f hf hm => ?_⟩
        obtain ⟨o', h1, h2, h3⟩ := h.2 f hf hm
        exact ⟨o', h1, h2, vstep_closed (eKS_closed (vFS_closed hK n _)) hfg h3⟩

def seqRS (P : Program) (N : Nat) (ops : Array Oper) (L : Nat -> Prop) (T : Fr -> Heap -> Prop) : List (Nat × Bool) -> Fr -> Heap -> Prop
  | [], fr, H => T fr H
  | (j, _) :: l, fr, H => match ops[j]? with
    | none => False
    | some p => offS L p.op fr /\ vstep P N ops p (seqRS P N ops L T l) fr H
theorem seqRS_closed {T : Fr -> Heap -> Prop} (hT : Closed T) : ∀ l, Closed (seqRS P N ops L T l)
  | [] => hT
  | (j, fj) :: l => by
    intro f g H hfg h
    simp only [seqRS] at h ⊢
    split at h
    · exact h.elim
    · exact ⟨offS_congr (fun x => feq.ev hfg x) h.1, vstep_closed (seqRS_closed hT l) hfg h.2⟩
theorem vFS_seqRS {n : Nat} {rest : List (Nat × Bool)} : ∀ (l1 : List (Nat × Bool)) (fr : Fr) (H : Heap), (∀ x ∈ l1, ∃ p, ops[x.1]? = some p /\ isR p.op = true) ->
    (vFS P N ops L fs K (l1.length + n) (l1 ++ rest) fr H ↔ seqRS P N ops L (vFS P N ops L fs K n rest) l1 fr H)
  | [], fr, H, _ => by simp [seqRS]
  | (j, fj) :: l1, fr, H, hl => by
    obtain ⟨p, hp, hR⟩ := hl (j, fj) (by simp)
    have ih := fun fr H => vFS_seqRS (n := n) (rest := rest) l1 fr H fun x hx => hl x (by simp [hx])
    rw [show ((j, fj) :: l1).length + n = (l1.length + n) + 1 by simp; omega]
    simp only [List.cons_append, vFS, seqRS, hp, hR]
    exact ⟨fun h => ⟨h.1, vstep_weak h.2 fun f h => (ih f h).1⟩, fun h => ⟨h.1, vstep_weak h.2 fun f h => (ih f h).2⟩⟩

theorem frontS_gen {o : Oper} {fl : Bool} {T T' : Fr -> Heap -> Prop} (hT : Closed T) (hT' : Closed T') (hstep : ∀ fr H, T fr H -> vstep P N ops o (fun f h => relS L o fl H h /\ T' f h) fr H) : ∀ (l1 : List (Nat × Bool)) (fr : Fr) (H : Heap),
    (∀ x ∈ l1, ∃ p, ops[x.1]? = some p /\ isR p.op = true /\ indep ops p o = true /\ (readsH p.op = true -> isR o.op = true \/ fl = true)) ->
    seqRS P N ops L T l1 fr H -> vstep P N ops o (fun f h => relS L o fl H h /\ seqRS P N ops L T' l1 f h) fr H
  | [], fr, H, _, h => hstep fr H h
  | (j, fj) :: l1, fr, H, hl, h => by
    obtain ⟨p, hp, hR, hin, hrd⟩ := hl (j, fj) (by simp)
    simp only [seqRS, hp] at h ⊢
    have hc1 := seqRS_closed (P := P) (N := N) (ops := ops) (L := L) hT l1
    have hc2 := seqRS_closed (P := P) (N := N) (ops := ops) (L := L) hT' l1
    obtain ⟨hoff, h⟩ := h
    obtain ⟨v, h1, h2⟩ := vstep_RX hR hc1 h
    have ih := frontS_gen hT hT' hstep l1 (fr.put p.dst v) H (fun x hx => hl x (by simp [hx])) h1
    obtain ⟨i1, i2, i3⟩ := indep_spec hin
    have hcK : Closed (fun f h => relS L o fl H h /\ seqRS P N ops L T' l1 f h) := fun f g h hfg hk => ⟨hk.1, hc2 _ _ _ hfg hk.2⟩
    have hag : agreeG ops o (fr.put p.dst v) fr := agreeG.symm (agreeG.put i1)
    refine vstep_weak (vstep_E hcK ih hag) ?_
    rintro f h' ⟨u, hf, hrel, hv⟩
    have hvE : vstep P N ops p (seqRS P N ops L T' l1) (fr.put o.dst u) h' := by
      refine h2 (fr.put o.dst u) h' _ hc2 (agreeG.put i2) (fun i hi b hb => ?_) ?_
      · rw [hrel (hrd (by cases hr : readsH p.op with | true => rfl | false => rw [rdBlk_none hr] at hi; cases hi)) i (hoff i hi), hb]
      exact hc2 _ _ _ (put_comm fr i3 v u) hv
    exact ⟨hrel, offS_congr (fun x => feq.ev hf x) (offS_agree (agreeG.put i2).agree hoff), vstep_closed hc2 hf hvE⟩

theorem eKS_rel {o : Oper} {fl : Bool} {T : Fr -> Heap -> Prop} {fr : Fr} {H : Heap} (hR : isR o.op = false) (h : vstep P N ops o (eKS L fl H T) fr H) : vstep P N ops o (fun f h => relS L o fl H h /\ T f h) fr H := by
  refine vstep_weak h ?_
  intro f h' hk
  cases fl with
  | true => exact ⟨fun _ => hk.1, hk.2⟩
  | false => exact ⟨fun e => by simp [hR] at e, hk⟩

theorem vFS_front (hK : Closed K) {n i : Nat} {fl : Bool} {l1 l2 : List (Nat × Bool)} {o : Oper} (ho : ops[i]? = some o) {fr : Fr} {H : Heap}
    (hl1 : ∀ x ∈ l1, ∃ p, ops[x.1]? = some p /\ isR p.op = true /\ indep ops p o = true /\ (readsH p.op = true -> isR o.op = true \/ fl = true))
    (h : vFS P N ops L fs K (l1.length + (n + 1)) (l1 ++ (i, fl) :: l2) fr H) : vstep P N ops o (fun f h => relS L o fl H h /\ vFS P N ops L fs K (l1.length + n) (l1 ++ l2) f h) fr H := by
  have hl1' : ∀ x ∈ l1, ∃ p, ops[x.1]? = some p /\ isR p.op = true := fun x hx => by obtain ⟨p, h1, h2, _⟩ := hl1 x hx; exact ⟨p, h1, h2⟩
  rw [vFS_seqRS l1 fr H hl1'] at h
  have hstep : ∀ fr H, vFS P N ops L fs K (n + 1) ((i, fl) :: l2) fr H -> vstep P N ops o (fun f h => relS L o fl H h /\ vFS P N ops L fs K n l2 f h) fr H := by
    intro fr H h
    simp only [vFS, ho] at h
    cases hR : isR o.op with
    | true =>
      simp only [hR] at h
      obtain ⟨_, h⟩ := h
      obtain ⟨v, h1, h2⟩ := vstep_RX hR (vFS_closed hK n l2) h
      refine h2 fr H _ ?_ (fun _ _ => rfl) (fun _ _ _ h => h) ⟨fun _ _ _ => rfl, h1⟩
      intro f g h hfg hk
      exact ⟨hk.1, vFS_closed hK n l2 _ _ _ hfg hk.2⟩
    | false => simp only [hR] at h; exact eKS_rel hR h.1
  refine vstep_weak (frontS_gen (vFS_closed hK _ _) (vFS_closed hK n l2) hstep l1 fr H hl1 h) ?_
  rintro f h' ⟨h1, h2⟩
  exact ⟨h1, (vFS_seqRS l1 f h' hl1').2 h2⟩
theorem vFS_float (hK : Closed K) {n i f : Nat} {fl : Bool} {r1 l2 : List (Nat × Bool)} {o o' : Oper} (ho : ops[i]? = some o) (hE : isR o.op = false) (hf : ops[f]? = some o') (hff : f ∈ fs) (hfl : f ∈ l2.map (·.1)) {fr : Fr} {H : Heap}
    (hl1 : ∀ x ∈ r1, ∃ p, ops[x.1]? = some p /\ isR p.op = true /\ indep ops p o' = true)
    (h : vFS P N ops L fs K (r1.length + (n + 1)) (r1 ++ (i, fl) :: l2) fr H) : vstep P N ops o' (fun f' h => relS L o' true H h /\ vFS P N ops L fs K (r1.length + n) (r1 ++ (i, fl) :: l2.filter fun y => y.1 != f) f' h) fr H := by
  have hl1' : ∀ x ∈ r1, ∃ p, ops[x.1]? = some p /\ isR p.op = true := fun x hx => by obtain ⟨p, h1, h2, _⟩ := hl1 x hx; exact ⟨p, h1, h2⟩
  rw [vFS_seqRS r1 fr H hl1'] at h
  have hstep : ∀ fr H, vFS P N ops L fs K (n + 1) ((i, fl) :: l2) fr H -> vstep P N ops o' (fun f' h => relS L o' true H h /\ vFS P N ops L fs K n ((i, fl) :: l2.filter fun y => y.1 != f) f' h) fr H := by
    intro fr H h
    simp only [vFS, ho, hE] at h
    obtain ⟨o2, h1, h2, h3⟩ := h.2 f hff hfl
    rw [hf] at h1; cases h1
    exact eKS_rel h2 h3
  refine vstep_weak (frontS_gen (vFS_closed hK _ _) (vFS_closed hK n _) hstep r1 fr H (fun x hx => by obtain ⟨p, h1, h2, h3⟩ := hl1 x hx; exact ⟨p, h1, h2, h3, fun _ => .inr rfl⟩) h) ?_
  rintro f h' ⟨h1, h2⟩
  exact ⟨h1, (vFS_seqRS r1 f h' hl1').2 h2⟩

theorem drawFS_any {B : Nat} {w0 : World} {Q : Exit -> Act -> World -> Prop} (hK : Closed K) (hedge : edgesOK ops = true) : ∀ (n : Nat) (listed : Array Bool) (l : List (Nat × Bool)) (fr : Fr) (H : Heap) (ρ : Rho) (w : World) (a : Act),
    listed.size = ops.size -> l.length = n -> pairsOKF ops fs (masksGo ops.toList []) l = true -> (∀ x ∈ l, x.1 < ops.size /\ listed.getD x.1 true = false) -> (∀ i, i < ops.size -> listed.getD i true = false -> ∃ x ∈ l, x.1 = i) ->
    (∀ (j : Nat) (o : Oper), ops[j]? = some o -> listed.getD j false = true -> ∀ e ∈ o.after.toList, Region.binds .any e = true -> listed.getD e.on false = true) ->
    vFS P N ops L fs K n l fr H -> R B w0 ρ H w -> FR N ρ fr a ->
    (∀ (ρ' : Rho) (fr' : Fr) (H' : Heap) (a' : Act) (w' : World), ρ <+: ρ' -> K fr' H' -> R B w0 ρ' H' w' -> FR N ρ' fr' a' -> Q .normal a' w') -> wpAny P .any ops Q n listed a w := by
  intro n
  have getD2 : ∀ (listed : Array Bool) (i : Nat), listed.size = ops.size -> i < ops.size -> listed.getD i true = listed.getD i false := by
    intro listed i h1 h2
    simp [Array.getD_eq_getD_getElem?, h1, h2]
  induction n with
  | zero =>
    intro listed l fr H ρ w a hsz hl hp hin hall hcl hv hR hF hq
    have : l = [] := List.eq_nil_of_length_eq_zero hl
    subst this
    refine ⟨?_, hq ρ fr H a w (List.prefix_refl _) hv hR hF⟩
    rw [List.eq_nil_iff_forall_not_mem]
    intro i hi
    simp only [Region.ready, List.mem_filter, List.mem_range, Bool.and_eq_true, Bool.not_eq_true'] at hi
    obtain ⟨x, hx, _⟩ := hall i hi.1 hi.2.1
    simp at hx
  | succ n ih =>
    intro listed l fr H ρ w a hsz hl hp hin hall hcl hv hR hF hq
    refine ⟨?_, ?_⟩
    · intro hnil
      exfalso
      match l, hl with
      | (i, fl) :: l, hl =>
        obtain ⟨h1, h2⟩ := hin (i, fl) (by simp)
        have hi : i ∈ Region.ready .any ops listed := by
          simp only [Region.ready, List.mem_filter, List.mem_range, Bool.and_eq_true, Bool.not_eq_true']
          refine ⟨h1, h2, ?_⟩
          rw [Array.getElem?_eq_getElem h1]
          simp only [Option.map_some, Option.getD_some, Array.all_eq_true']
          intro e he
          rw [Bool.or_eq_true, Bool.not_eq_true']
          by_cases hb : Region.binds .any e = true
          · right
            have hedge' := List.all_eq_true.1 hedge i (by simpa using h1)
            simp only [Array.getElem?_eq_getElem h1, List.all_eq_true] at hedge'
            have he' := hedge' e (by simpa using he)
            simp only [hb, Bool.not_true, Bool.false_or, Bool.and_eq_true, decide_eq_true_eq, bne_iff_ne, ne_eq] at he'
            rw [<- getD2 listed e.on hsz he'.1]
            cases hg : listed.getD e.on true with
            | true => rfl
            | false =>
              obtain ⟨x, hx, hxe⟩ := hall e.on he'.1 hg
              rcases List.mem_cons.1 hx with rfl | hx
              · exact absurd hxe.symm he'.2
              · have hpo := (pairsOKF_spec (l1 := []) hp).2.1 x hx
                have hx1 := (hin x (by simp [hx])).1
                simp only [pairOKF, Array.getElem?_eq_getElem h1, Array.getElem?_eq_getElem hx1, Bool.and_eq_true, Bool.not_eq_true'] at hpo
                have hd := hpo.1.1
                simp only [directTo, List.any_eq_false, Bool.and_eq_true, beq_iff_eq, not_and] at hd
                exact absurd hxe.symm (hd e (by simpa using he) hb)
          · left; simpa using hb
        rw [hnil] at hi
        simp at hi
    · intro i hi
      simp only [Region.ready, List.mem_filter, List.mem_range, Bool.and_eq_true, Bool.not_eq_true'] at hi
      obtain ⟨hilt, hnl, hrdy⟩ := hi
      rw [Array.getElem?_eq_getElem hilt] at hrdy
      simp only [Option.map_some, Option.getD_some, Array.all_eq_true'] at hrdy
      have ho : ops[i]? = some ops[i] := Array.getElem?_eq_getElem hilt
      obtain ⟨x, hx, hxi⟩ := hall i hilt hnl
      obtain ⟨l1, l2, rfl⟩ := List.append_of_mem hx
      obtain ⟨i', fl⟩ := x
      simp only at hxi
      subst hxi
      obtain ⟨hp1, hp2, hp3⟩ := pairsOKF_spec hp
      have hpre : ∀ e ∈ (ops[i']).after.toList, Region.binds .any e = true -> listed.getD e.on false = true := by
        intro e he hb
        have := hrdy e (by simpa using he)
        simpa [hb] using this
      have hdep : ∀ y ∈ l1, ¬ ((masksGo ops.toList []).getD i' 0).testBit y.1 = true := by
        intro y hy hb
        have := masks_sound (ops := ops) (fun j => listed.getD j false = true) hcl ops.toList [] (fun j _ => by simp) (fun j o p hj => by simp at hj) i' _ y.1 ho hb hpre
        obtain ⟨hy1, hy2⟩ := hin y (by simp [hy])
        rw [getD2 listed y.1 hsz hy1] at hy2
        rw [hy2] at this; cases this
      have hR1 : ∀ y ∈ l1, ∀ p, ops[y.1]? = some p -> isR p.op = true -> indep ops p ops[i'] = true /\ (readsH p.op = true -> isR (ops[i']).op = true \/ fl = true) := by
        intro y hy p hp' hRp
        have hy1 := (hin y (by simp [hy])).1
        have hpo := hp1 y hy
        have hd := hdep y hy
        simp only [pairOKF, hp', ho, Bool.and_eq_true] at hpo
        have hpo2 := hpo.2
        simp only [Bool.not_eq_true] at hd
        simp only [hRp, hd, Bool.false_or, Bool.or_false, Bool.and_eq_true, Bool.or_eq_true, Bool.not_eq_true'] at hpo2
        refine ⟨hpo2.1, fun hr => ?_⟩
        rcases hpo2.2 with (h | h) | h
        · exact .inl h
        · exact .inr h
        · rw [hr] at h; cases h
      have hE1 : ∀ y ∈ l1, ∀ p, ops[y.1]? = some p -> isR p.op = false -> i' ∈ fs /\ fl = true /\ isR (ops[i']).op = false := by
        intro y hy p hp' hRp
        have hpo := hp1 y hy
        have hd := hdep y hy
        simp only [pairOKF, hp', ho, Bool.and_eq_true] at hpo
        have hpo2 := hpo.2
        simp only [Bool.not_eq_true] at hd
        simp only [hRp, hd, Bool.false_or, Bool.and_eq_true, Bool.not_eq_true', List.contains_iff_mem] at hpo2
        exact ⟨hpo2.1.1, hpo2.1.2, hpo2.2⟩
      have hnd : ∀ y ∈ l1 ++ l2, y.1 ≠ i' := by
        intro y hy e
        rcases List.mem_append.1 hy with hy | hy
        · have hpo := hp1 y hy
          have hy1 := (hin y (by simp [hy])).1
          simp [pairOKF, Array.getElem?_eq_getElem hy1, ho, e] at hpo
        · have hpo := hp2 y hy
          have hy1 := (hin y (by simp [hy])).1
          simp [pairOKF, Array.getElem?_eq_getElem hy1, ho, e] at hpo
      have hstep : vstep P N ops ops[i'] (fun f h => relS L ops[i'] fl H h /\ vFS P N ops L fs K n (l1 ++ l2) f h) fr H := by
        simp only [List.length_append, List.length_cons] at hl
        rcases first_effect (ops := ops) l1 (fun x hx => ⟨_, Array.getElem?_eq_getElem (hin x (by simp [hx])).1⟩) with hall1 | ⟨r1, e, oe, r2, rfl, he1, he2, he3⟩
        · rw [show n = l1.length + l2.length by omega]
          rw [show n + 1 = l1.length + (l2.length + 1) by omega] at hv
          exact vFS_front hK ho (fun x hx => by obtain ⟨p, h1, h2⟩ := hall1 x hx; obtain ⟨h3, h4⟩ := hR1 x hx p h1 h2; exact ⟨p, h1, h2, h3, h4⟩) hv
        · obtain ⟨hif, hfl, hEi⟩ := hE1 e (by simp) oe he1 he2
          subst hfl
          simp only [List.length_append, List.length_cons] at hl
          rw [show n + 1 = r1.length + ((r2.length + 1 + l2.length) + 1) by omega, List.append_assoc, List.cons_append] at hv
          have hfilt : (r2 ++ (i', true) :: l2).filter (fun y => y.1 != i') = r2 ++ l2 := by
            rw [List.filter_append, List.filter_cons]
            simp only [bne_self_eq_false, Bool.false_eq_true, if_false]
            rw [List.filter_eq_self.2, List.filter_eq_self.2]
            · intro y hy; simpa using hnd y (by simp [hy])
            · intro y hy; simpa using hnd y (by simp [hy])
          have := vFS_float (f := i') hK he1 he2 ho hif (by simp) (fun x hx => by
            obtain ⟨p, h1, h2⟩ := he3 x hx
            exact ⟨p, h1, h2, (hR1 x (by simp [hx]) p h1 h2).1⟩) hv
          rw [hfilt] at this
          rw [show n = r1.length + (r2.length + 1 + l2.length) by omega, List.append_assoc, List.cons_append]
          exact this
      unfold wpOp
      rw [ho]
      refine vstep_sound hstep hR hF Q ?_
      rintro ρ' fr' H' a' w' hpre' ⟨_, hv'⟩ hR' hF'
      refine ih (listed.setIfInBounds i' true) (l1 ++ l2) fr' H' ρ' w' a' (by simpa using hsz) (by simp at hl ⊢; omega) hp3 ?_ ?_ ?_ hv' hR' hF' (fun ρ'' f'' H'' a'' w'' h1 => hq ρ'' f'' H'' a'' w'' (hpre'.trans h1))
      · intro y hy
        have hne := hnd y hy
        obtain ⟨h1, h2⟩ := hin y (by rcases List.mem_append.1 hy with hy | hy <;> simp [hy])
        exact ⟨h1, by rw [getD_set_ne _ (fun e => hne e.symm)]; exact h2⟩
      · intro j hj hnj
        by_cases e : i' = j
        · subst e
          exfalso
          have : (listed.setIfInBounds i' true).getD i' true = true := by simp [Array.getD_eq_getD_getElem?]
          rw [this] at hnj; cases hnj
        · rw [getD_set_ne _ e] at hnj
          obtain ⟨y, hy, rfl⟩ := hall j hj hnj
          refine ⟨y, ?_, rfl⟩
          rcases List.mem_append.1 hy with hy | hy
          · simp [hy]
          · rcases List.mem_cons.1 hy with rfl | hy
            · exact absurd rfl e
            · simp [hy]
      · intro j o hj hlj e he hb
        by_cases e' : i' = j
        · subst e'
          rw [ho] at hj; cases hj
          exact getD_set_true (hpre e he hb)
        · rw [getD_set_ne _ e'] at hlj
          exact getD_set_true (hcl j o hj hlj e he hb)

def vTS (P : Program) (N : Nat) (ops : Array Oper) (L : Nat -> Prop) (K : Fr -> Heap -> Prop) : Tree -> Fr -> Heap -> Prop
  | .nil, fr, H => K fr H
  | .one i fl t, fr, H => match ops[i]? with
    | none => False
    | some o => match isR o.op with
      | true => offS L o.op fr /\ vstep P N ops o (vTS P N ops L K t) fr H
      | false => vstep P N ops o (eKS L fl H (vTS P N ops L K t)) fr H
  | .two i fl t f t', fr, H => match ops[i]?, ops[f]? with
    | some o, some o' => vstep P N ops o (eKS L fl H (vTS P N ops L K t)) fr H /\ vstep P N ops o' (eKS L true H (vTS P N ops L K t')) fr H
    | _, _ => False
theorem vTS_vFS : ∀ (t : Tree) (n : Nat) (l : List (Nat × Bool)) (fr : Fr) (H : Heap), l.length <= n -> (∀ x y, x ∈ l -> y ∈ l -> x.1 = y.1 -> x = y) -> treeOK ops fs t l = true -> vTS P N ops L K t fr H -> vFS P N ops L fs K n l fr H := by
  intro t
  induction t with
  | nil =>
    intro n l fr H hn _ hok h
    cases l with
    | nil => cases n <;> exact h
    | cons x l => simp [treeOK] at hok
  | one i fl t ih =>
    intro n l fr H hn hu hok h
    cases l with
    | nil => simp [treeOK] at hok
    | cons x l =>
      obtain ⟨j, fl'⟩ := x
      simp only [treeOK, Bool.and_eq_true, beq_iff_eq] at hok
      obtain ⟨⟨⟨rfl, rfl⟩, hfl⟩, hok⟩ := hok
      cases n with
      | zero => simp at hn
      | succ n =>
        simp only [List.length_cons] at hn
        have hu' : ∀ x y, x ∈ l -> y ∈ l -> x.1 = y.1 -> x = y := fun x y hx hy => hu x y (by simp [hx]) (by simp [hy])
        simp only [vTS] at h
        simp only [vFS]
        cases ho : ops[i]? with
        | none => simp [ho] at h
        | some o =>
          simp only [ho] at h hfl ⊢
          cases hR : isR o.op with
          | true => simp only [hR] at h ⊢; exact ⟨h.1, vstep_weak h.2 fun f h => ih n l f h (by omega) hu' hok⟩
          | false =>
            simp only [hR, Bool.false_or, List.all_eq_true] at h hfl ⊢
            refine ⟨vstep_weak h fun f h' hk => ?_, fun f hf hm => ?_⟩
            · cases fl with
              | true => exact ⟨hk.1, ih n l f h' (by omega) hu' hok hk.2⟩
              | false => exact ih n l f h' (by omega) hu' hok hk
            · have := hfl f hf
              simp only [Bool.not_eq_true', List.contains_eq_mem, decide_eq_false_iff_not] at this
              exact absurd hm this
  | two i fl t f t' ih ih' =>
    intro n l fr H hn hu hok h
    cases l with
    | nil => simp [treeOK] at hok
    | cons x l =>
      obtain ⟨j, fl'⟩ := x
      simp only [treeOK, Bool.and_eq_true, beq_iff_eq] at hok
      obtain ⟨⟨⟨⟨⟨rfl, rfl⟩, hE⟩, hfl⟩, hok⟩, hok'⟩ := hok
      cases n with
      | zero => simp at hn
      | succ n =>
        simp only [List.length_cons] at hn
        have hu' : ∀ x y, x ∈ l -> y ∈ l -> x.1 = y.1 -> x = y := fun x y hx hy => hu x y (by simp [hx]) (by simp [hy])
        simp only [vTS] at h
        simp only [vFS]
        cases ho : ops[i]? with
        | none => simp [ho] at h
        | some o =>
          cases ho' : ops[f]? with
          | none => simp [ho, ho'] at h
          | some o' =>
            simp only [ho, ho', Bool.and_eq_true, Bool.not_eq_true'] at h hE ⊢
            simp only [hE.1]
            refine ⟨vstep_weak h.1 fun g h' hk => ?_, fun g hg hm => ?_⟩
            · cases fl with
              | true => exact ⟨hk.1, ih n l g h' (by omega) hu' hok hk.2⟩
              | false => exact ih n l g h' (by omega) hu' hok hk
            · rw [List.all_eq_true] at hfl
              have hgf := hfl g hg
              simp only [Bool.or_eq_true, beq_iff_eq, Bool.not_eq_true', List.contains_eq_mem, decide_eq_false_iff_not] at hgf
              have : g = f := hgf.resolve_right (fun e => e hm)
              subst this
              refine ⟨o', ho', hE.2, vstep_weak h.2 fun q h' hk => ⟨hk.1, ih' n _ q h' ?_ ?_ hok' hk.2⟩⟩
              · obtain ⟨z, hz, hzg⟩ := List.mem_map.1 hm
                have : (l.filter fun y => y.1 != g).length < l.length := by
                  rw [List.length_filter_lt_length_iff_exists]
                  exact ⟨z, hz, by simp [hzg]⟩
                simp only [List.length_cons]; omega
              · intro x y hx hy
                refine hu x y ?_ ?_
                · rcases List.mem_cons.1 hx with rfl | hx
                  · simp
                  · exact List.mem_cons_of_mem _ (List.mem_filter.1 hx).1
                · rcases List.mem_cons.1 hy with rfl | hy
                  · simp
                  · exact List.mem_cons_of_mem _ (List.mem_filter.1 hy).1

theorem AWp.drawFS (L : Nat -> Prop) {id : Nat} {fr : Fr} {H : Heap} {Q : Exit -> Fr -> Heap -> Prop} (hm : P.follows .mixedOrders = true) (fs : List Nat) (canon : List (Nat × Bool)) (t : Tree) (hok : (drawOKF ops fs canon && treeOK ops fs t canon) = true) (h : vTS P N ops L (Q .normal) t fr H) : AWp P N (.region id ops true) Q fr H := by
  intro B w0 ρ w a hR hF
  simp only [drawOKF, Bool.and_eq_true, decide_eq_true_eq, List.all_eq_true, List.mem_range, List.contains_iff_mem, List.mem_map] at hok
  obtain ⟨⟨⟨⟨⟨h1, h2⟩, h3⟩, h4⟩, h5⟩, h6⟩ := hok
  refine wp_region_any hm ?_
  let K : Fr -> Heap -> Prop := fun f h => ∃ g, feq g f /\ Q .normal g h
  have hK : Closed K := fun f g h hfg ⟨k, hk, hq⟩ => ⟨k, hk.trans hfg, hq⟩
  have hu : ∀ x y, x ∈ canon -> y ∈ canon -> x.1 = y.1 -> x = y := by
    intro x y hx hy e
    obtain ⟨l1, l2, rfl⟩ := List.append_of_mem hx
    obtain ⟨hp1, hp2, _⟩ := pairsOKF_spec h1
    rcases List.mem_append.1 hy with hy | hy
    · have := hp1 y hy
      unfold pairOKF at this
      split at this
      · simp [e] at this
      · cases this
    · rcases List.mem_cons.1 hy with rfl | hy
      · rfl
      · have := hp2 y hy
        unfold pairOKF at this
        split at this
        · simp [e] at this
        · cases this
  have hv : vFS P N ops L fs K ops.size canon fr H := by
    refine vTS_vFS t ops.size canon fr H (by omega) hu h6 ?_
    have weak : ∀ (t : Tree) (fr : Fr) (H : Heap), vTS P N ops L (Q .normal) t fr H -> vTS P N ops L K t fr H := by
      intro t
      induction t with
      | nil => exact fun fr H h => ⟨fr, feq.rfl' _, h⟩
      | one i fl t ih =>
        intro fr H h
        simp only [vTS] at h ⊢
        split at h
        · exact h
        · rename_i o ho
          cases hR : isR o.op with
          | true => simp only [hR] at h ⊢; exact ⟨h.1, vstep_weak h.2 ih⟩
          | false =>
            simp only [hR] at h ⊢
            refine vstep_weak h ?_
            intro f h' hk
            cases fl with
            | true => exact ⟨hk.1, ih _ _ hk.2⟩
            | false => exact ih _ _ hk
      | two i fl t f t' ih ih' =>
        intro fr H h
        simp only [vTS] at h ⊢
        split at h
        · rename_i o o' ho ho'
          refine ⟨vstep_weak h.1 ?_, vstep_weak h.2 fun f h' hk => ⟨hk.1, ih' _ _ hk.2⟩⟩
          intro f h' hk
          cases fl with
          | true => exact ⟨hk.1, ih _ _ hk.2⟩
          | false => exact ih _ _ hk
        · exact h
    exact weak t fr H h
  have hgt : ∀ i, i < ops.size -> (Array.replicate ops.size false).getD i true = false := by
    intro i hi
    simp [Array.getD_eq_getD_getElem?, hi]
  refine drawFS_any (B := B) (w0 := w0) hK h2 ops.size (Array.replicate ops.size false) canon fr H ρ w.drew a (by simp) h3 h1 ?_ ?_ ?_ hv hR.drew hF ?_
  · intro x hx
    exact ⟨h4 x hx, hgt x.1 (h4 x hx)⟩
  · intro i hi _
    obtain ⟨x, hx, rfl⟩ := h5 i hi
    exact ⟨x, hx, rfl⟩
  · intro j o hj hl
    rw [Array.getD_eq_getD_getElem?, Array.getElem?_replicate] at hl
    split at hl <;> simp at hl
  · rintro ρ' fr' H' a' w' hp ⟨g, hg, hq⟩ hR' hF'
    exact ⟨ρ', g, H', hp, hR', hF'.feq hg.symm, hq⟩

/-! The words of such a tree, for simp. -/

def vTSK (P : Program) (N : Nat) (ops : Array Oper) (L : Nat -> Prop) (K : Fr -> Heap -> Prop) (t : Tree) (fr : Fr) (H : Heap) : Prop := vTS P N ops L K t fr H
def eTSK (P : Program) (N : Nat) (ops : Array Oper) (L : Nat -> Prop) (K : Fr -> Heap -> Prop) (t : Tree) (fl : Bool) (H : Heap) (fr : Fr) (H' : Heap) : Prop :=
  match fl with
  | true => andK (KeepS L H H') (vTS P N ops L K t fr H')
  | false => vTS P N ops L K t fr H'
def vTSo (P : Program) (N : Nat) (ops : Array Oper) (L : Nat -> Prop) (K : Fr -> Heap -> Prop) (t : Tree) (fl : Bool) (fr : Fr) (H : Heap) (o : Oper) : Prop :=
  match isR o.op with
  | true => andK (offBS L o.op fr) (vstep P N ops o (vTSK P N ops L K t) fr H)
  | false => vstep P N ops o (eTSK P N ops L K t fl H) fr H
def vTSe (P : Program) (N : Nat) (ops : Array Oper) (L : Nat -> Prop) (K : Fr -> Heap -> Prop) (t : Tree) (fl : Bool) (fr : Fr) (H : Heap) (o : Oper) : Prop := vstep P N ops o (eTSK P N ops L K t fl H) fr H

theorem vTS_nil (K : Fr -> Heap -> Prop) (fr : Fr) (H : Heap) : vTS P N ops L K .nil fr H = K fr H := rfl
theorem eTSK_eq (K : Fr -> Heap -> Prop) (t : Tree) (fl : Bool) (H : Heap) : eKS L fl H (vTS P N ops L K t) = eTSK P N ops L K t fl H := by
  funext f h
  cases fl <;> rfl
theorem vTS_one (K : Fr -> Heap -> Prop) (i : Nat) (fl : Bool) (t : Tree) (fr : Fr) (H : Heap) : vTS P N ops L K (.one i fl t) fr H = bindO ops[i]? (vTSo P N ops L K t fl fr H) := by
  simp only [vTS]
  cases ops[i]? with
  | none => simp [bindO]
  | some o =>
    simp only [bindO_some, vTSo]
    cases isR o.op with
    | true => rw [offBS_iff]; rfl
    | false => simp only [eTSK_eq]
theorem vTS_two {i : Nat} {fl : Bool} {t : Tree} {f : Nat} {t' : Tree} {K : Fr -> Heap -> Prop} {fr : Fr} {H : Heap} (h1 : bindO ops[i]? (vTSe P N ops L K t fl fr H)) (h2 : bindO ops[f]? (vTSe P N ops L K t' true fr H)) : vTS P N ops L K (.two i fl t f t') fr H := by
  simp only [vTS]
  cases ho : ops[i]? with
  | none => simp [ho, bindO] at h1
  | some o =>
    cases ho' : ops[f]? with
    | none => simp [ho', bindO] at h2
    | some o' =>
      simp only [ho, ho', bindO_some, vTSe] at h1 h2 ⊢
      exact ⟨by rw [eTSK_eq]; exact h1, by rw [eTSK_eq]; exact h2⟩

attribute [go_sem] vTSK eTSK vTSo vTSe vTS_nil vTS_one

end
end Go.Ab
end
