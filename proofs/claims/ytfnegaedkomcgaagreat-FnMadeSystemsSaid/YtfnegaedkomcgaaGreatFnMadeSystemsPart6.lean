/- Part 6 of what the proof of the law FnMadeSystems rests on: contracts of functions of the program, for every argument that each names; no statement of the seat is proved here. -/
import Derived.RangeFuncBox
import Derived.RangeFuncLeaves
import Derived.Shelf.Abstract
import Derived.WalkKit
import Derived.OwnWalkIn
import Derived.TacticsInMore
import Derived.LoopNIn
import Derived.LoopIn
import Derived.Maps.AppendAt
import Derived.Test.YtfnegaedkomcgaaGreatProg
import Derived.Test.YtfnegaedkomcgaaGreatFnMadeSystemsPart5

set_option linter.all false
set_option maxRecDepth 20000
set_option maxHeartbeats 8000000
section
namespace Go.Ab
open Go.RowKit (Below)

def pairOKF (ops : Array Oper) (fs : List Nat) (ms : List Nat) (x y : Nat × Bool) : Bool :=
  match ops[x.1]?, ops[y.1]? with
  | some p, some q =>
    let d := (ms.getD y.1 0).testBit x.1
    !directTo p y.1 && x.1 != y.1 &&
    (match isR p.op with
     | true => (d || indep ops p q) && (isR q.op || y.2 || !readsH p.op || d)
     | false => d || (fs.contains y.1 && y.2 && !isR q.op))
  | _, _ => false
def pairsOKF (ops : Array Oper) (fs : List Nat) (ms : List Nat) : List (Nat × Bool) -> Bool
  | [] => true
  | x :: l => l.all (pairOKF ops fs ms x) && pairsOKF ops fs ms l
def drawOKF (ops : Array Oper) (fs : List Nat) (canon : List (Nat × Bool)) : Bool :=
  let ms := masksGo ops.toList []
  pairsOKF ops fs ms canon && edgesOK ops && decide (canon.length = ops.size) && canon.all (fun x => decide (x.1 < ops.size)) && (List.range ops.size).all (fun i => (canon.map (·.1)).contains i)

section
variable {P : Program} {N : Nat} {ops : Array Oper} {K : Fr -> Heap -> Prop} {fs : List Nat}

def vF (P : Program) (N : Nat) (ops : Array Oper) (fs : List Nat) (K : Fr -> Heap -> Prop) : Nat -> List (Nat × Bool) -> Fr -> Heap -> Prop
  | _, [], fr, H => K fr H
  | 0, _ :: _, _, _ => False
  | n + 1, (i, fl) :: l, fr, H => match ops[i]? with
    | none => False
    | some o => match isR o.op with
      | true => vstep P N ops o (vF P N ops fs K n l) fr H
      | false => vstep P N ops o (eK fl H (vF P N ops fs K n l)) fr H /\
          ∀ f, f ∈ fs -> f ∈ l.map (·.1) -> ∃ o', ops[f]? = some o' /\ isR o'.op = false /\ vstep P N ops o' (eK true H (vF P N ops fs K n ((i, fl) :: l.filter fun y => y.1 != f))) fr H

theorem vstep_closed {o : Oper} {T : Fr -> Heap -> Prop} (hT : Closed T) {f g : Fr} {H : Heap} (hfg : feq f g) (h : vstep P N ops o T f H) : vstep P N ops o T g H := by
  cases hR : isR o.op with
  | true =>
    obtain ⟨v, h1, h2⟩ := vstep_R hR hT h
    exact h2 g H _ hT (agreeG.of_feq hfg) (fun _ => List.prefix_refl _) (hT _ _ _ (hfg.put _ _) h1)
  | false =>
    refine vstep_weak (vstep_E hT h (agreeG.of_feq hfg)) ?_
    rintro f' h' ⟨v, h1, h2⟩
    exact hT _ _ _ ((hfg.put _ _).trans h1) h2
theorem eK_closed {fl : Bool} {H : Heap} {T : Fr -> Heap -> Prop} (hT : Closed T) : Closed (eK fl H T) := by
  intro f g h' hfg hk
  cases fl with
  | true => exact ⟨hk.1, hT _ _ _ hfg hk.2⟩
  | false => exact hT _ _ _ hfg hk
theorem vF_closed (hK : Closed K) : ∀ n l, Closed (vF P N ops fs K n l)
  | 0, [] => hK
  | n + 1, [] => hK
  | 0, _ :: _ => fun _ _ _ _ h => h
  | n + 1, (i, fl) :: l => by
    intro f g H hfg h
    simp only [vF] at h ⊢
    split at h
    · exact h.elim
    · rename_i o ho
      cases hR : isR o.op with
      | true => simp only [hR] at h ⊢; exact vstep_closed (vF_closed hK n l) hfg h
      | false =>
        simp only [hR] at h ⊢
        refine ⟨vstep_closed (eK_closed (vF_closed hK n l)) hfg h.1, fun f hf hm => ?_⟩
        obtain ⟨o', h1, h2, h3⟩ := h.2 f hf hm
        exact ⟨o', h1, h2, vstep_closed (eK_closed (vF_closed hK n _)) hfg h3⟩

def seqR (P : Program) (N : Nat) (ops : Array Oper) (T : Fr -> Heap -> Prop) : List (Nat × Bool) -> Fr -> Heap -> Prop
  | [], fr, H => T fr H
  | (j, _) :: l, fr, H => match ops[j]? with
    | none => False
    | some p => vstep P N ops p (seqR P N ops T l) fr H
theorem seqR_closed {T : Fr -> Heap -> Prop} (hT : Closed T) : ∀ l, Closed (seqR P N ops T l)
  | [] => hT
  | (j, fj) :: l => by
    intro f g H hfg h
    simp only [seqR] at h ⊢
    split at h
    · exact h.elim
    · exact vstep_closed (seqR_closed hT l) hfg h
theorem vF_seqR {n : Nat} {rest : List (Nat × Bool)} : ∀ (l1 : List (Nat × Bool)) (fr : Fr) (H : Heap), (∀ x ∈ l1, ∃ p, ops[x.1]? = some p /\ isR p.op = true) ->
    (vF P N ops fs K (l1.length + n) (l1 ++ rest) fr H ↔ seqR P N ops (vF P N ops fs K n rest) l1 fr H)
  | [], fr, H, _ => by simp [seqR]
  | (j, fj) :: l1, fr, H, hl => by
    obtain ⟨p, hp, hR⟩ := hl (j, fj) (by simp)
    have ih := fun fr H => vF_seqR (n := n) (rest := rest) l1 fr H fun x hx => hl x (by simp [hx])
    rw [show ((j, fj) :: l1).length + n = (l1.length + n) + 1 by simp; omega]
    simp only [List.cons_append, vF, seqR, hp, hR]
    exact ⟨fun h => vstep_weak h fun f h => (ih f h).1, fun h => vstep_weak h fun f h => (ih f h).2⟩

theorem front_gen {o : Oper} {fl : Bool} {T T' : Fr -> Heap -> Prop} (hT : Closed T) (hT' : Closed T') (hstep : ∀ fr H, T fr H -> vstep P N ops o (fun f h => rel o fl H h /\ T' f h) fr H) : ∀ (l1 : List (Nat × Bool)) (fr : Fr) (H : Heap),
    (∀ x ∈ l1, ∃ p, ops[x.1]? = some p /\ isR p.op = true /\ indep ops p o = true /\ (readsH p.op = true -> isR o.op = true \/ fl = true)) ->
    seqR P N ops T l1 fr H -> vstep P N ops o (fun f h => rel o fl H h /\ seqR P N ops T' l1 f h) fr H
  | [], fr, H, _, h => hstep fr H h
  | (j, fj) :: l1, fr, H, hl, h => by
    obtain ⟨p, hp, hR, hin, hrd⟩ := hl (j, fj) (by simp)
    simp only [seqR, hp] at h ⊢
    have hc1 := seqR_closed (P := P) (N := N) (ops := ops) hT l1
    have hc2 := seqR_closed (P := P) (N := N) (ops := ops) hT' l1
    obtain ⟨v, h1, h2⟩ := vstep_R hR hc1 h
    have ih := front_gen hT hT' hstep l1 (fr.put p.dst v) H (fun x hx => hl x (by simp [hx])) h1
    obtain ⟨i1, i2, i3⟩ := indep_spec hin
    have hcK : Closed (fun f h => rel o fl H h /\ seqR P N ops T' l1 f h) := fun f g h hfg hk => ⟨hk.1, hc2 _ _ _ hfg hk.2⟩
    have hag : agreeG ops o (fr.put p.dst v) fr := agreeG.symm (agreeG.put i1)
    refine vstep_weak (vstep_E hcK ih hag) ?_
    rintro f h' ⟨u, hf, hrel, hv⟩
    refine ⟨hrel, ?_⟩
    have hvE : vstep P N ops p (seqR P N ops T' l1) (fr.put o.dst u) h' := by
      refine h2 (fr.put o.dst u) h' _ hc2 (agreeG.put i2) (fun hr => hrel (hrd hr)) ?_
      exact hc2 _ _ _ (put_comm fr i3 v u) hv
    exact vstep_closed hc2 hf hvE

theorem eK_rel {o : Oper} {fl : Bool} {T : Fr -> Heap -> Prop} {fr : Fr} {H : Heap} (hR : isR o.op = false) (h : vstep P N ops o (eK fl H T) fr H) : vstep P N ops o (fun f h => rel o fl H h /\ T f h) fr H := by
  refine vstep_weak h ?_
  intro f h' hk
  cases fl with
  | true => exact ⟨fun _ => hk.1, hk.2⟩
  | false => exact ⟨fun e => by simp [hR] at e, hk⟩

theorem vF_front (hK : Closed K) {n i : Nat} {fl : Bool} {l1 l2 : List (Nat × Bool)} {o : Oper} (ho : ops[i]? = some o) {fr : Fr} {H : Heap}
    (hl1 : ∀ x ∈ l1, ∃ p, ops[x.1]? = some p /\ isR p.op = true /\ indep ops p o = true /\ (readsH p.op = true -> isR o.op = true \/ fl = true))
    (h : vF P N ops fs K (l1.length + (n + 1)) (l1 ++ (i, fl) :: l2) fr H) : vstep P N ops o (fun f h => rel o fl H h /\ vF P N ops fs K (l1.length + n) (l1 ++ l2) f h) fr H := by
  have hl1' : ∀ x ∈ l1, ∃ p, ops[x.1]? = some p /\ isR p.op = true := fun x hx => by obtain ⟨p, h1, h2, _⟩ := hl1 x hx; exact ⟨p, h1, h2⟩
  rw [vF_seqR l1 fr H hl1'] at h
  have hstep : ∀ fr H, vF P N ops fs K (n + 1) ((i, fl) :: l2) fr H -> vstep P N ops o (fun f h => rel o fl H h /\ vF P N ops fs K n l2 f h) fr H := by
    intro fr H h
    simp only [vF, ho] at h
    cases hR : isR o.op with
    | true =>
      simp only [hR] at h
      obtain ⟨v, h1, h2⟩ := vstep_R hR (vF_closed hK n l2) h
      refine h2 fr H _ ?_ (fun _ _ => rfl) (fun _ => List.prefix_refl _) ⟨fun _ => List.prefix_refl _, h1⟩
      intro f g h hfg hk
      exact ⟨hk.1, vF_closed hK n l2 _ _ _ hfg hk.2⟩
    | false => simp only [hR] at h; exact eK_rel hR h.1
  refine vstep_weak (front_gen (vF_closed hK _ _) (vF_closed hK n l2) hstep l1 fr H hl1 h) ?_
  rintro f h' ⟨h1, h2⟩
  exact ⟨h1, (vF_seqR l1 f h' hl1').2 h2⟩
theorem vF_float (hK : Closed K) {n i f : Nat} {fl : Bool} {r1 l2 : List (Nat × Bool)} {o o' : Oper} (ho : ops[i]? = some o) (hE : isR o.op = false) (hf : ops[f]? = some o') (hff : f ∈ fs) (hfl : f ∈ l2.map (·.1)) {fr : Fr} {H : Heap}
    (hl1 : ∀ x ∈ r1, ∃ p, ops[x.1]? = some p /\ isR p.op = true /\ indep ops p o' = true)
    (h : vF P N ops fs K (r1.length + (n + 1)) (r1 ++ (i, fl) :: l2) fr H) : vstep P N ops o' (fun f' h => rel o' true H h /\ vF P N ops fs K (r1.length + n) (r1 ++ (i, fl) :: l2.filter fun y => y.1 != f) f' h) fr H := by
  have hl1' : ∀ x ∈ r1, ∃ p, ops[x.1]? = some p /\ isR p.op = true := fun x hx => by obtain ⟨p, h1, h2, _⟩ := hl1 x hx; exact ⟨p, h1, h2⟩
  rw [vF_seqR r1 fr H hl1'] at h
  have hstep : ∀ fr H, vF P N ops fs K (n + 1) ((i, fl) :: l2) fr H -> vstep P N ops o' (fun f' h => rel o' true H h /\ vF P N ops fs K n ((i, fl) :: l2.filter fun y => y.1 != f) f' h) fr H := by
    intro fr H h
    simp only [vF, ho, hE] at h
    obtain ⟨o2, h1, h2, h3⟩ := h.2 f hff hfl
    rw [hf] at h1; cases h1
    exact eK_rel h2 h3
  refine vstep_weak (front_gen (vF_closed hK _ _) (vF_closed hK n _) hstep r1 fr H (fun x hx => by obtain ⟨p, h1, h2, h3⟩ := hl1 x hx; exact ⟨p, h1, h2, h3, fun _ => .inr rfl⟩) h) ?_
  rintro f h' ⟨h1, h2⟩
  exact ⟨h1, (vF_seqR r1 f h' hl1').2 h2⟩

theorem pairsOKF_spec {ms : List Nat} : ∀ {l1 : List (Nat × Bool)} {y : Nat × Bool} {l2 : List (Nat × Bool)}, pairsOKF ops fs ms (l1 ++ y :: l2) = true -> (∀ x ∈ l1, pairOKF ops fs ms x y = true) /\ (∀ z ∈ l2, pairOKF ops fs ms y z = true) /\ pairsOKF ops fs ms (l1 ++ l2) = true
  | [], y, l2, h => by
    simp only [List.nil_append, pairsOKF, Bool.and_eq_true, List.all_eq_true] at h
    exact ⟨by simp, h.1, h.2⟩
  | x :: l1, y, l2, h => by
    simp only [List.cons_append, pairsOKF, Bool.and_eq_true, List.all_eq_true] at h ⊢
    obtain ⟨h1, h2⟩ := h
    obtain ⟨h3, h4, h5⟩ := pairsOKF_spec h2
    refine ⟨fun z hz => ?_, h4, fun z hz => h1 z ?_, h5⟩
    · rcases List.mem_cons.1 hz with rfl | hz
      · exact h1 y (by simp)
      · exact h3 z hz
    · rcases List.mem_append.1 hz with hz | hz
      · simp [hz]
      · simp [hz]

theorem first_effect : ∀ (l : List (Nat × Bool)), (∀ x ∈ l, ∃ p, ops[x.1]? = some p) -> (∀ x ∈ l, ∃ p, ops[x.1]? = some p /\ isR p.op = true) \/
    ∃ r1 e o r2, l = r1 ++ e :: r2 /\ ops[e.1]? = some o /\ isR o.op = false /\ ∀ x ∈ r1, ∃ p, ops[x.1]? = some p /\ isR p.op = true
  | [], _ => .inl (by simp)
  | x :: l, h => by
    obtain ⟨p, hp⟩ := h x (by simp)
    cases hR : isR p.op with
    | false => exact .inr ⟨[], x, p, l, rfl, hp, hR, by simp⟩
    | true =>
      rcases first_effect l fun y hy => h y (by simp [hy]) with h1 | ⟨r1, e, o, r2, rfl, h2, h3, h4⟩
      · left
        intro y hy
        rcases List.mem_cons.1 hy with rfl | hy
        · exact ⟨p, hp, hR⟩
        · exact h1 y hy
      · refine .inr ⟨x :: r1, e, o, r2, rfl, h2, h3, fun y hy => ?_⟩
        rcases List.mem_cons.1 hy with rfl | hy
        · exact ⟨p, hp, hR⟩
        · exact h4 y hy

theorem drawF_any {B : Nat} {w0 : World} {Q : Exit -> Act -> World -> Prop} (hK : Closed K) (hedge : edgesOK ops = true) : ∀ (n : Nat) (listed : Array Bool) (l : List (Nat × Bool)) (fr : Fr) (H : Heap) (ρ : Rho) (w : World) (a : Act),
    listed.size = ops.size -> l.length = n -> pairsOKF ops fs (masksGo ops.toList []) l = true -> (∀ x ∈ l, x.1 < ops.size /\ listed.getD x.1 true = false) -> (∀ i, i < ops.size -> listed.getD i true = false -> ∃ x ∈ l, x.1 = i) ->
    (∀ (j : Nat) (o : Oper), ops[j]? = some o -> listed.getD j false = true -> ∀ e ∈ o.after.toList, Region.binds .any e = true -> listed.getD e.on false = true) ->
    vF P N ops fs K n l fr H -> R B w0 ρ H w -> FR N ρ fr a ->
    (∀ (ρ' : Rho) (fr' : Fr) (H' : Heap) (a' : Act) (w' : World), ρ <+: ρ' -> K fr' H' -> R B w0 ρ' H' w' -> FR N ρ' fr' a' -> Q .normal a' w') -> wpAny P .any ops Q n listed a w := by
  intro n
  have getD2 : ∀ (listed : Array Bool) (i : Nat), listed.size = ops.size -> i < ops.size -> listed.getD i true = listed.getD i false := by
    intro listed i h1 h2
    simp [Array.getD_eq_getD_getElem?, h1, h2]
  induction n with
  | zero =>
    intro listed l fr H ρ w a hsz hl hp hin hall hcl hv hR hF hq
    have : l = [] := List.eq_nil_of_length_eq_zero hl
    subst this
    refine ⟨?_, hq ρ fr H a w (List.prefix_refl _) hv hR hF⟩
    rw [List.eq_nil_iff_forall_not_mem]
    intro i hi
    simp only [Region.ready, List.mem_filter, List.mem_range, Bool.and_eq_true, Bool.not_eq_true'] at hi
    obtain ⟨x, hx, _⟩ := hall i hi.1 hi.2.1
    simp at hx
  | succ n ih =>
    intro listed l fr H ρ w a hsz hl hp hin hall hcl hv hR hF hq
    refine ⟨?_, ?_⟩
    · intro hnil
      exfalso
      match l, hl with
      | (i, fl) :: l, hl =>
        obtain ⟨h1, h2⟩ := hin (i, fl) (by simp)
        have hi : i ∈ Region.ready .any ops listed := by
          simp only [Region.ready, List.mem_filter, List.mem_range, Bool.and_eq_true, Bool.not_eq_true']
          refine ⟨h1, h2, ?_⟩
          rw [Array.getElem?_eq_getElem h1]
          simp only [Option.map_some, Option.getD_some, Array.all_eq_true']
          intro e he
          rw [Bool.or_eq_true, Bool.not_eq_true']
          by_cases hb : Region.binds .any e = true
          · right
            have hedge' := List.all_eq_true.1 hedge i (by simpa using h1)
            simp only [Array.getElem?_eq_getElem h1, List.all_eq_true] at hedge'
            have he' := hedge' e (by simpa using he)
            simp only [hb, Bool.not_true, Bool.false_or, Bool.and_eq_true, decide_eq_true_eq, bne_iff_ne, ne_eq] at he'
            rw [<- getD2 listed e.on hsz he'.1]
            cases hg : listed.getD e.on true with
            | true => rfl
            | false =>
              obtain ⟨x, hx, hxe⟩ := hall e.on he'.1 hg
              rcases List.mem_cons.1 hx with rfl | hx
              · exact absurd hxe.symm he'.2
              · have hpo := (pairsOKF_spec (l1 := []) hp).2.1 x hx
                have hx1 := (hin x (by simp [hx])).1
                simp only [pairOKF, Array.getElem?_eq_getElem h1, Array.getElem?_eq_getElem hx1, Bool.and_eq_true, Bool.not_eq_true'] at hpo
                have hd := hpo.1.1
                simp only [directTo, List.any_eq_false, Bool.and_eq_true, beq_iff_eq, not_and] at hd
                exact absurd hxe.symm (hd e (by simpa using he) hb)
          · left; simpa using hb
        rw [hnil] at hi
        simp at hi
    · intro i hi
      simp only [Region.ready, List.mem_filter, List.mem_range, Bool.and_eq_true, Bool.not_eq_true'] at hi
      obtain ⟨hilt, hnl, hrdy⟩ := hi
      rw [Array.getElem?_eq_getElem hilt] at hrdy
      simp only [Option.map_some, Option.getD_some, Array.all_eq_true'] at hrdy
      have ho : ops[i]? = some ops[i] := Array.getElem?_eq_getElem hilt
      obtain ⟨x, hx, hxi⟩ := hall i hilt hnl
      obtain ⟨l1, l2, rfl⟩ := List.append_of_mem hx
      obtain ⟨i', fl⟩ := x
      simp only at hxi
      subst hxi
      obtain ⟨hp1, hp2, hp3⟩ := pairsOKF_spec hp
      have hpre : ∀ e ∈ (ops[i']).after.toList, Region.binds .any e = true -> listed.getD e.on false = true := by
        intro e he hb
        have := hrdy e (by simpa using he)
        simpa [hb] using this
      have hdep : ∀ y ∈ l1, ¬ ((masksGo ops.toList []).getD i' 0).testBit y.1 = true := by
        intro y hy hb
        have := masks_sound (ops := ops) (fun j => listed.getD j false = true) hcl ops.toList [] (fun j _ => by simp) (fun j o p hj => by simp at hj) i' _ y.1 ho hb hpre
        obtain ⟨hy1, hy2⟩ := hin y (by simp [hy])
        rw [getD2 listed y.1 hsz hy1] at hy2
        rw [hy2] at this; cases this
      have hR1 : ∀ y ∈ l1, ∀ p, ops[y.1]? = some p -> isR p.op = true -> indep ops p ops[i'] = true /\ (readsH p.op = true -> isR (ops[i']).op = true \/ fl = true) := by
        intro y hy p hp' hRp
        have hy1 := (hin y (by simp [hy])).1
        have hpo := hp1 y hy
        have hd := hdep y hy
        simp only [pairOKF, hp', ho, Bool.and_eq_true] at hpo
        have hpo2 := hpo.2
        simp only [Bool.not_eq_true] at hd
        simp only [hRp, hd, Bool.false_or, Bool.or_false, Bool.and_eq_true, Bool.or_eq_true, Bool.not_eq_true'] at hpo2
        refine ⟨hpo2.1, fun hr => ?_⟩
        rcases hpo2.2 with (h | h) | h
        · exact .inl h
        · exact .inr h
        · rw [hr] at h; cases h
      have hE1 : ∀ y ∈ l1, ∀ p, ops[y.1]? = some p -> isR p.op = false -> i' ∈ fs /\ fl = true /\ isR (ops[i']).op = false := by
        intro y hy p hp' hRp
        have hpo := hp1 y hy
        have hd := hdep y hy
        simp only [pairOKF, hp', ho, Bool.and_eq_true] at hpo
        have hpo2 := hpo.2
        simp only [Bool.not_eq_true] at hd
        simp only [hRp, hd, Bool.false_or, Bool.and_eq_true, Bool.not_eq_true', List.contains_iff_mem] at hpo2
        exact ⟨hpo2.1.1, hpo2.1.2, hpo2.2⟩
      have hnd : ∀ y ∈ l1 ++ l2, y.1 ≠ i' := by
        intro y hy e
        rcases List.mem_append.1 hy with hy | hy
        · have hpo := hp1 y hy
          have hy1 := (hin y (by simp [hy])).1
          simp [pairOKF, Array.getElem?_eq_getElem hy1, ho, e] at hpo
        · have hpo := hp2 y hy
          have hy1 := (hin y (by simp [hy])).1
          simp [pairOKF, Array.getElem?_eq_getElem hy1, ho, e] at hpo
      have hstep : vstep P N ops ops[i'] (fun f h => rel ops[i'] fl H h /\ vF P N ops fs K n (l1 ++ l2) f h) fr H := by
        simp only [List.length_append, List.length_cons] at hl
        rcases first_effect (ops := ops) l1 (fun x hx => ⟨_, Array.getElem?_eq_getElem (hin x (by simp [hx])).1⟩) with hall1 | ⟨r1, e, oe, r2, rfl, he1, he2, he3⟩
        · rw [show n = l1.length + l2.length by omega]
          rw [show n + 1 = l1.length + (l2.length + 1) by omega] at hv
          exact vF_front hK ho (fun x hx => by obtain ⟨p, h1, h2⟩ := hall1 x hx; obtain ⟨h3, h4⟩ := hR1 x hx p h1 h2; exact ⟨p, h1, h2, h3, h4⟩) hv
        · obtain ⟨hif, hfl, hEi⟩ := hE1 e (by simp) oe he1 he2
          subst hfl
          simp only [List.length_append, List.length_cons] at hl
          rw [show n + 1 = r1.length + ((r2.length + 1 + l2.length) + 1) by omega, List.append_assoc, List.cons_append] at hv
          have hfilt : (r2 ++ (i', true) :: l2).filter (fun y => y.1 != i') = r2 ++ l2 := by
            rw [List.filter_append, List.filter_cons]
            simp only [bne_self_eq_false, Bool.false_eq_true, if_false]
            rw [List.filter_eq_self.2, List.filter_eq_self.2]
            · intro y hy; simpa using hnd y (by simp [hy])
            · intro y hy; simpa using hnd y (by simp [hy])
          have := vF_float (f := i') hK he1 he2 ho hif (by simp) (fun x hx => by
            obtain ⟨p, h1, h2⟩ := he3 x hx
            exact ⟨p, h1, h2, (hR1 x (by simp [hx]) p h1 h2).1⟩) hv
          rw [hfilt] at this
          rw [show n = r1.length + (r2.length + 1 + l2.length) by omega, List.append_assoc, List.cons_append]
          exact this
      unfold wpOp
      rw [ho]
      refine vstep_sound hstep hR hF Q ?_
      rintro ρ' fr' H' a' w' hpre' ⟨_, hv'⟩ hR' hF'
      refine ih (listed.setIfInBounds i' true) (l1 ++ l2) fr' H' ρ' w' a' (by simpa using hsz) (by simp at hl ⊢; omega) hp3 ?_ ?_ ?_ hv' hR' hF' (fun ρ'' f'' H'' a'' w'' h1 => hq ρ'' f'' H'' a'' w'' (hpre'.trans h1))
      · intro y hy
        have hne := hnd y hy
        obtain ⟨h1, h2⟩ := hin y (by rcases List.mem_append.1 hy with hy | hy <;> simp [hy])
        exact ⟨h1, by rw [getD_set_ne _ (fun e => hne e.symm)]; exact h2⟩
      · intro j hj hnj
        by_cases e : i' = j
        · subst e
          exfalso
          have : (listed.setIfInBounds i' true).getD i' true = true := by simp [Array.getD_eq_getD_getElem?]
          rw [this] at hnj; cases hnj
        · rw [getD_set_ne _ e] at hnj
          obtain ⟨y, hy, rfl⟩ := hall j hj hnj
          refine ⟨y, ?_, rfl⟩
          rcases List.mem_append.1 hy with hy | hy
          · simp [hy]
          · rcases List.mem_cons.1 hy with rfl | hy
            · exact absurd rfl e
            · simp [hy]
      · intro j o hj hlj e he hb
        by_cases e' : i' = j
        · subst e'
          rw [ho] at hj; cases hj
          exact getD_set_true (hpre e he hb)
        · rw [getD_set_ne _ e'] at hlj
          exact getD_set_true (hcl j o hj hlj e he hb)

inductive Tree
  | nil
  | one (i : Nat) (fl : Bool) (t : Tree)
  | two (i : Nat) (fl : Bool) (t : Tree) (f : Nat) (t' : Tree)

def vT (P : Program) (N : Nat) (ops : Array Oper) (K : Fr -> Heap -> Prop) : Tree -> Fr -> Heap -> Prop
  | .nil, fr, H => K fr H
  | .one i fl t, fr, H => match ops[i]? with
    | none => False
    | some o => match isR o.op with
      | true => vstep P N ops o (vT P N ops K t) fr H
      | false => vstep P N ops o (eK fl H (vT P N ops K t)) fr H
  | .two i fl t f t', fr, H => match ops[i]?, ops[f]? with
    | some o, some o' => vstep P N ops o (eK fl H (vT P N ops K t)) fr H /\ vstep P N ops o' (eK true H (vT P N ops K t')) fr H
    | _, _ => False
def treeOK (ops : Array Oper) (fs : List Nat) : Tree -> List (Nat × Bool) -> Bool
  | .nil, l => l.isEmpty
  | .one i fl t, (j, fl') :: l => i == j && fl == fl' && ((match ops[i]? with | some o => isR o.op | none => false) || fs.all fun f => !(l.map (·.1)).contains f) && treeOK ops fs t l
  | .two i fl t f t', (j, fl') :: l => i == j && fl == fl' && (match ops[i]?, ops[f]? with | some o, some o' => !isR o.op && !isR o'.op | _, _ => false) && (fs.all fun g => g == f || !(l.map (·.1)).contains g) && treeOK ops fs t l && treeOK ops fs t' ((j, fl') :: l.filter fun y => y.1 != f)
  | _, [] => false
theorem vT_vF : ∀ (t : Tree) (n : Nat) (l : List (Nat × Bool)) (fr : Fr) (H : Heap), l.length <= n -> (∀ x y, x ∈ l -> y ∈ l -> x.1 = y.1 -> x = y) -> treeOK ops fs t l = true -> vT P N ops K t fr H -> vF P N ops fs K n l fr H := by
  intro t
  induction t with
  | nil =>
    intro n l fr H hn _ hok h
    cases l with
    | nil => cases n <;> exact h
    | cons x l => simp [treeOK] at hok
  | one i fl t ih =>
    intro n l fr H hn hu hok h
    cases l with
    | nil => simp [treeOK] at hok
    | cons x l =>
      obtain ⟨j, fl'⟩ := x
      simp only [treeOK, Bool.and_eq_true, beq_iff_eq] at hok
      obtain ⟨⟨⟨rfl, rfl⟩, hfl⟩, hok⟩ := hok
      cases n with
      | zero => simp at hn
      | succ n =>
        simp only [List.length_cons] at hn
        have hu' : ∀ x y, x ∈ l -> y ∈ l -> x.1 = y.1 -> x = y := fun x y hx hy => hu x y (by simp [hx]) (by simp [hy])
        simp only [vT] at h
        simp only [vF]
        cases ho : ops[i]? with
        | none => simp [ho] at h
        | some o =>
          simp only [ho] at h hfl ⊢
          cases hR : isR o.op with
          | true => simp only [hR] at h ⊢; exact vstep_weak h fun f h => ih n l f h (by omega) hu' hok
          | false =>
            simp only [hR, Bool.false_or, List.all_eq_true] at h hfl ⊢
            refine ⟨vstep_weak h fun f h' hk => ?_, fun f hf hm => ?_⟩
            · cases fl with
              | true => exact ⟨hk.1, ih n l f h' (by omega) hu' hok hk.2⟩
              | false => exact ih n l f h' (by omega) hu' hok hk
            · have := hfl f hf
              simp only [Bool.not_eq_true', List.contains_eq_mem, decide_eq_false_iff_not] at this
              exact absurd hm this
  | two i fl t f t' ih ih' =>
    intro n l fr H hn hu hok h
    cases l with
    | nil => simp [treeOK] at hok
    | cons x l =>
      obtain ⟨j, fl'⟩ := x
      simp only [treeOK, Bool.and_eq_true, beq_iff_eq] at hok
      obtain ⟨⟨⟨⟨⟨rfl, rfl⟩, hE⟩, hfl⟩, hok⟩, hok'⟩ := hok
      cases n with
      | zero => simp at hn
      | succ n =>
        simp only [List.length_cons] at hn
        have hu' : ∀ x y, x ∈ l -> y ∈ l -> x.1 = y.1 -> x = y := fun x y hx hy => hu x y (by simp [hx]) (by simp [hy])
        simp only [vT] at h
        simp only [vF]
        cases ho : ops[i]? with
        | none => simp [ho] at h
        | some o =>
          cases ho' : ops[f]? with
          | none => simp [ho, ho'] at h
          | some o' =>
            simp only [ho, ho', Bool.and_eq_true, Bool.not_eq_true'] at h hE ⊢
            simp only [hE.1]
            refine ⟨vstep_weak h.1 fun g h' hk => ?_, fun g hg hm => ?_⟩
            · cases fl with
              | true => exact ⟨hk.1, ih n l g h' (by omega) hu' hok hk.2⟩
              | false => exact ih n l g h' (by omega) hu' hok hk
            · rw [List.all_eq_true] at hfl
              have hgf := hfl g hg
              simp only [Bool.or_eq_true, beq_iff_eq, Bool.not_eq_true', List.contains_eq_mem, decide_eq_false_iff_not] at hgf
              have : g = f := hgf.resolve_right (fun e => e hm)
              subst this
              refine ⟨o', ho', hE.2, vstep_weak h.2 fun q h' hk => ⟨hk.1, ih' n _ q h' ?_ ?_ hok' hk.2⟩⟩
              · obtain ⟨z, hz, hzg⟩ := List.mem_map.1 hm
                have : (l.filter fun y => y.1 != g).length < l.length := by
                  rw [List.length_filter_lt_length_iff_exists]
                  exact ⟨z, hz, by simp [hzg]⟩
                simp only [List.length_cons]; omega
              · intro x y hx hy
                refine hu x y ?_ ?_
                · rcases List.mem_cons.1 hx with rfl | hx
                  · simp
                  · exact List.mem_cons_of_mem _ (List.mem_filter.1 hx).1
                · rcases List.mem_cons.1 hy with rfl | hy
                  · simp
                  · exact List.mem_cons_of_mem _ (List.mem_filter.1 hy).1

theorem AWp.drawF {id : Nat} {fr : Fr} {H : Heap} {Q : Exit -> Fr -> Heap -> Prop} (hm : P.follows .mixedOrders = true) (fs : List Nat) (canon : List (Nat × Bool)) (t : Tree) (hok : (drawOKF ops fs canon && treeOK ops fs t canon) = true) (h : vT P N ops (Q .normal) t fr H) : AWp P N (.region id ops true) Q fr H := by
  intro B w0 ρ w a hR hF
  simp only [drawOKF, Bool.and_eq_true, decide_eq_true_eq, List.all_eq_true, List.mem_range, List.contains_iff_mem, List.mem_map] at hok
  obtain ⟨⟨⟨⟨⟨h1, h2⟩, h3⟩, h4⟩, h5⟩, h6⟩ := hok
  refine wp_region_any hm ?_
  let K : Fr -> Heap -> Prop := fun f h => ∃ g, feq g f /\ Q .normal g h
  have hK : Closed K := fun f g h hfg ⟨k, hk, hq⟩ => ⟨k, hk.trans hfg, hq⟩
  have hu : ∀ x y, x ∈ canon -> y ∈ canon -> x.1 = y.1 -> x = y := by
    intro x y hx hy e
    obtain ⟨l1, l2, rfl⟩ := List.append_of_mem hx
    obtain ⟨hp1, hp2, _⟩ := pairsOKF_spec h1
    rcases List.mem_append.1 hy with hy | hy
    · have := hp1 y hy
      unfold pairOKF at this
      split at this
      · simp [e] at this
      · cases this
    · rcases List.mem_cons.1 hy with rfl | hy
      · rfl
      · have := hp2 y hy
        unfold pairOKF at this
        split at this
        · simp [e] at this
        · cases this
  have hv : vF P N ops fs K ops.size canon fr H := by
    refine vT_vF t ops.size canon fr H (by omega) hu h6 ?_
    have weak : ∀ (t : Tree) (fr : Fr) (H : Heap), vT P N ops (Q .normal) t fr H -> vT P N ops K t fr H := by
      intro t
      induction t with
      | nil => exact fun fr H h => ⟨fr, feq.rfl' _, h⟩
      | one i fl t ih =>
        intro fr H h
        simp only [vT] at h ⊢
        split at h
        · exact h
        · rename_i o ho
          cases hR : isR o.op with
          | true => simp only [hR] at h ⊢; exact vstep_weak h ih
          | false =>
            simp only [hR] at h ⊢
            refine vstep_weak h ?_
            intro f h' hk
            cases fl with
            | true => exact ⟨hk.1, ih _ _ hk.2⟩
            | false => exact ih _ _ hk
      | two i fl t f t' ih ih' =>
        intro fr H h
        simp only [vT] at h ⊢
        split at h
        · rename_i o o' ho ho'
          refine ⟨vstep_weak h.1 ?_, vstep_weak h.2 fun f h' hk => ⟨hk.1, ih' _ _ hk.2⟩⟩
          intro f h' hk
          cases fl with
          | true => exact ⟨hk.1, ih _ _ hk.2⟩
          | false => exact ih _ _ hk
        · exact h
    exact weak t fr H h
  have hgt : ∀ i, i < ops.size -> (Array.replicate ops.size false).getD i true = false := by
    intro i hi
    simp [Array.getD_eq_getD_getElem?, hi]
  refine drawF_any (B := B) (w0 := w0) hK h2 ops.size (Array.replicate ops.size false) canon fr H ρ w.drew a (by simp) h3 h1 ?_ ?_ ?_ hv hR.drew hF ?_
  · intro x hx
    exact ⟨h4 x hx, hgt x.1 (h4 x hx)⟩
  · intro i hi _
    obtain ⟨x, hx, rfl⟩ := h5 i hi
    exact ⟨x, hx, rfl⟩
  · intro j o hj hl
    rw [Array.getD_eq_getD_getElem?, Array.getElem?_replicate] at hl
    split at hl <;> simp at hl
  · rintro ρ' fr' H' a' w' hp ⟨g, hg, hq⟩ hR' hF'
    exact ⟨ρ', g, H', hp, hR', hF'.feq hg.symm, hq⟩

/-! The words of such a tree, for simp. -/

def vTK (P : Program) (N : Nat) (ops : Array Oper) (K : Fr -> Heap -> Prop) (t : Tree) (fr : Fr) (H : Heap) : Prop := vT P N ops K t fr H
def eTK (P : Program) (N : Nat) (ops : Array Oper) (K : Fr -> Heap -> Prop) (t : Tree) (fl : Bool) (H : Heap) (fr : Fr) (H' : Heap) : Prop :=
  match fl with
  | true => andK (H <+: H') (vT P N ops K t fr H')
  | false => vT P N ops K t fr H'
def vTo (P : Program) (N : Nat) (ops : Array Oper) (K : Fr -> Heap -> Prop) (t : Tree) (fl : Bool) (fr : Fr) (H : Heap) (o : Oper) : Prop :=
  match isR o.op with
  | true => vstep P N ops o (vTK P N ops K t) fr H
  | false => vstep P N ops o (eTK P N ops K t fl H) fr H
def vTe (P : Program) (N : Nat) (ops : Array Oper) (K : Fr -> Heap -> Prop) (t : Tree) (fl : Bool) (fr : Fr) (H : Heap) (o : Oper) : Prop := vstep P N ops o (eTK P N ops K t fl H) fr H

theorem vT_nil (K : Fr -> Heap -> Prop) (fr : Fr) (H : Heap) : vT P N ops K .nil fr H = K fr H := rfl
theorem eTK_eq (K : Fr -> Heap -> Prop) (t : Tree) (fl : Bool) (H : Heap) : eK fl H (vT P N ops K t) = eTK P N ops K t fl H := by
  funext f h
  cases fl <;> rfl
theorem vT_one (K : Fr -> Heap -> Prop) (i : Nat) (fl : Bool) (t : Tree) (fr : Fr) (H : Heap) : vT P N ops K (.one i fl t) fr H = bindO ops[i]? (vTo P N ops K t fl fr H) := by
  simp only [vT]
  cases ops[i]? with
  | none => simp [bindO]
  | some o =>
    simp only [bindO_some, vTo]
    cases isR o.op with
    | true => rfl
    | false => simp only [eTK_eq]
theorem vT_two {i : Nat} {fl : Bool} {t : Tree} {f : Nat} {t' : Tree} {K : Fr -> Heap -> Prop} {fr : Fr} {H : Heap} (h1 : bindO ops[i]? (vTe P N ops K t fl fr H)) (h2 : bindO ops[f]? (vTe P N ops K t' true fr H)) : vT P N ops K (.two i fl t f t') fr H := by
  simp only [vT]
  cases ho : ops[i]? with
  | none => simp [ho, bindO] at h1
  | some o =>
    cases ho' : ops[f]? with
    | none => simp [ho', bindO] at h2
    | some o' =>
      simp only [ho, ho', bindO_some, vTe] at h1 h2 ⊢
      exact ⟨by rw [eTK_eq]; exact h1, by rw [eTK_eq]; exact h2⟩

attribute [go_sem] vTK eTK vTo vTe vT_nil vT_one

end
end Go.Ab
end

section
namespace Go.Ab
open Go.RowKit (Below)

section
variable {P : Program} {N : Nat} {ops : Array Oper} {L : Nat} {K : Fr -> Heap -> Prop} {fs : List Nat}

def vFX (P : Program) (N : Nat) (ops : Array Oper) (L : Nat) (fs : List Nat) (K : Fr -> Heap -> Prop) : Nat -> List (Nat × Bool) -> Fr -> Heap -> Prop
  | _, [], fr, H => K fr H
  | 0, _ :: _, _, _ => False
  | n + 1, (i, fl) :: l, fr, H => match ops[i]? with
    | none => False
    | some o => match isR o.op with
      | true => offL L o.op fr /\ vstep P N ops o (vFX P N ops L fs K n l) fr H
      | false => vstep P N ops o (eKX L fl H (vFX P N ops L fs K n l)) fr H /\
          ∀ f, f ∈ fs -> f ∈ l.map (·.1) -> ∃ o', ops[f]? = some o' /\ isR o'.op = false /\ vstep P N ops o' (eKX L true H (vFX P N ops L fs K n ((i, fl) :: l.filter fun y => y.1 != f))) fr H

theorem eKX_closed {fl : Bool} {H : Heap} {T : Fr -> Heap -> Prop} (hT : Closed T) : Closed (eKX L fl H T) := by
  intro f g h' hfg hk
  cases fl with
  | true => exact ⟨hk.1, hT _ _ _ hfg hk.2⟩
  | false => exact hT _ _ _ hfg hk
theorem vFX_closed (hK : Closed K) : ∀ n l, Closed (vFX P N ops L fs K n l)
  | 0, [] => hK
  | n + 1, [] => hK
  | 0, _ :: _ => fun _ _ _ _ h => h
  | n + 1, (i, fl) :: l => by
    intro f g H hfg h
    simp only [vFX] at h ⊢
    split at h
    · exact h.elim
    · rename_i o ho
      cases hR : isR o.op with
      | true => simp only [hR] at h ⊢; exact ⟨offL_congr (fun x => feq.ev hfg x) h.1, vstep_closed (vFX_closed hK n l) hfg h.2⟩
      | false =>
        simp only [hR] at h ⊢
        refine ⟨vstep_closed (eKX_closed (vFX_closed hK n l)) hfg h.1, fun f hf hm => ?_⟩
        obtain ⟨o', h1, h2, h3⟩ := h.2 f hf hm
        exact ⟨o', h1, h2, vstep_closed (eKX_closed (vFX_closed hK n _)) hfg h3⟩

def seqRX (P : Program) (N : Nat) (ops : Array Oper) (L : Nat) (T : Fr -> Heap -> Prop) : List (Nat × Bool) -> Fr -> Heap -> Prop
  | [], fr, H => T fr H
  | (j, _) :: l, fr, H => match ops[j]? with
    | none => False
    | some p => offL L p.op fr /\ vstep P N ops p (seqRX P N ops L T l) fr H
theorem seqRX_closed {T : Fr -> Heap -> Prop} (hT : Closed T) : ∀ l, Closed (seqRX P N ops L T l)
  | [] => hT
  | (j, fj) :: l => by
    intro f g H hfg h
    simp only [seqRX] at h ⊢
    split at h
    · exact h.elim
    · exact ⟨offL_congr (fun x => feq.ev hfg x) h.1, vstep_closed (seqRX_closed hT l) hfg h.2⟩
theorem vFX_seqRX {n : Nat} {rest : List (Nat × Bool)} : ∀ (l1 : List (Nat × Bool)) (fr : Fr) (H : Heap), (∀ x ∈ l1, ∃ p, ops[x.1]? = some p /\ isR p.op = true) ->
    (vFX P N ops L fs K (l1.length + n) (l1 ++ rest) fr H ↔ seqRX P N ops L (vFX P N ops L fs K n rest) l1 fr H)
  | [], fr, H, _ => by simp [seqRX]
  | (j, fj) :: l1, fr, H, hl => by
    obtain ⟨p, hp, hR⟩ := hl (j, fj) (by simp)
    have ih := fun fr H => vFX_seqRX (n := n) (rest := rest) l1 fr H fun x hx => hl x (by simp [hx])
    rw [show ((j, fj) :: l1).length + n = (l1.length + n) + 1 by simp; omega]
    simp only [List.cons_append, vFX, seqRX, hp, hR]
    exact ⟨fun h => ⟨h.1, vstep_weak h.2 fun f h => (ih f h).1⟩, fun h => ⟨h.1, vstep_weak h.2 fun f h => (ih f h).2⟩⟩

theorem frontX_gen {o : Oper} {fl : Bool} {T T' : Fr -> Heap -> Prop} (hT : Closed T) (hT' : Closed T') (hstep : ∀ fr H, T fr H -> vstep P N ops o (fun f h => relX L o fl H h /\ T' f h) fr H) : ∀ (l1 : List (Nat × Bool)) (fr : Fr) (H : Heap),
    (∀ x ∈ l1, ∃ p, ops[x.1]? = some p /\ isR p.op = true /\ indep ops p o = true /\ (readsH p.op = true -> isR o.op = true \/ fl = true)) ->
    seqRX P N ops L T l1 fr H -> vstep P N ops o (fun f h => relX L o fl H h /\ seqRX P N ops L T' l1 f h) fr H
  | [], fr, H, _, h => hstep fr H h
  | (j, fj) :: l1, fr, H, hl, h => by
    obtain ⟨p, hp, hR, hin, hrd⟩ := hl (j, fj) (by simp)
    simp only [seqRX, hp] at h ⊢
    have hc1 := seqRX_closed (P := P) (N := N) (ops := ops) (L := L) hT l1
    have hc2 := seqRX_closed (P := P) (N := N) (ops := ops) (L := L) hT' l1
    obtain ⟨hoff, h⟩ := h
    obtain ⟨v, h1, h2⟩ := vstep_RX hR hc1 h
    have ih := frontX_gen hT hT' hstep l1 (fr.put p.dst v) H (fun x hx => hl x (by simp [hx])) h1
    obtain ⟨i1, i2, i3⟩ := indep_spec hin
    have hcK : Closed (fun f h => relX L o fl H h /\ seqRX P N ops L T' l1 f h) := fun f g h hfg hk => ⟨hk.1, hc2 _ _ _ hfg hk.2⟩
    have hag : agreeG ops o (fr.put p.dst v) fr := agreeG.symm (agreeG.put i1)
    refine vstep_weak (vstep_E hcK ih hag) ?_
    rintro f h' ⟨u, hf, hrel, hv⟩
    have hvE : vstep P N ops p (seqRX P N ops L T' l1) (fr.put o.dst u) h' := by
      refine h2 (fr.put o.dst u) h' _ hc2 (agreeG.put i2) (fun i hi b hb => ?_) ?_
      · rw [hrel (hrd (by cases hr : readsH p.op with | true => rfl | false => rw [rdBlk_none hr] at hi; cases hi)) i (hoff i hi), hb]
      exact hc2 _ _ _ (put_comm fr i3 v u) hv
    exact ⟨hrel, offL_congr (fun x => feq.ev hf x) (offL_agree (agreeG.put i2).agree hoff), vstep_closed hc2 hf hvE⟩

theorem eKX_rel {o : Oper} {fl : Bool} {T : Fr -> Heap -> Prop} {fr : Fr} {H : Heap} (hR : isR o.op = false) (h : vstep P N ops o (eKX L fl H T) fr H) : vstep P N ops o (fun f h => relX L o fl H h /\ T f h) fr H := by
  refine vstep_weak h ?_
  intro f h' hk
  cases fl with
  | true => exact ⟨fun _ => hk.1, hk.2⟩
  | false => exact ⟨fun e => by simp [hR] at e, hk⟩

theorem vFX_front (hK : Closed K) {n i : Nat} {fl : Bool} {l1 l2 : List (Nat × Bool)} {o : Oper} (ho : ops[i]? = some o) {fr : Fr} {H : Heap}
    (hl1 : ∀ x ∈ l1, ∃ p, ops[x.1]? = some p /\ isR p.op = true /\ indep ops p o = true /\ (readsH p.op = true -> isR o.op = true \/ fl = true))
    (h : vFX P N ops L fs K (l1.length + (n + 1)) (l1 ++ (i, fl) :: l2) fr H) : vstep P N ops o (fun f h => relX L o fl H h /\ vFX P N ops L fs K (l1.length + n) (l1 ++ l2) f h) fr H := by
  have hl1' : ∀ x ∈ l1, ∃ p, ops[x.1]? = some p /\ isR p.op = true := fun x hx => by obtain ⟨p, h1, h2, _⟩ := hl1 x hx; exact ⟨p, h1, h2⟩
  rw [vFX_seqRX l1 fr H hl1'] at h
  have hstep : ∀ fr H, vFX P N ops L fs K (n + 1) ((i, fl) :: l2) fr H -> vstep P N ops o (fun f h => relX L o fl H h /\ vFX P N ops L fs K n l2 f h) fr H := by
    intro fr H h
    simp only [vFX, ho] at h
    cases hR : isR o.op with
    | true =>
      simp only [hR] at h
      obtain ⟨_, h⟩ := h
      obtain ⟨v, h1, h2⟩ := vstep_RX hR (vFX_closed hK n l2) h
      refine h2 fr H _ ?_ (fun _ _ => rfl) (fun _ _ _ h => h) ⟨fun _ _ _ => rfl, h1⟩
      intro f g h hfg hk
      exact ⟨hk.1, vFX_closed hK n l2 _ _ _ hfg hk.2⟩
    | false => simp only [hR] at h; exact eKX_rel hR h.1
  refine vstep_weak (frontX_gen (vFX_closed hK _ _) (vFX_closed hK n l2) hstep l1 fr H hl1 h) ?_
  rintro f h' ⟨h1, h2⟩
  exact ⟨h1, (vFX_seqRX l1 f h' hl1').2 h2⟩
theorem vFX_float (hK : Closed K) {n i f : Nat} {fl : Bool} {r1 l2 : List (Nat × Bool)} {o o' : Oper} (ho : ops[i]? = some o) (hE : isR o.op = false) (hf : ops[f]? = some o') (hff : f ∈ fs) (hfl : f ∈ l2.map (·.1)) {fr : Fr} {H : Heap}
    (hl1 : ∀ x ∈ r1, ∃ p, ops[x.1]? = some p /\ isR p.op = true /\ indep ops p o' = true)
    (h : vFX P N ops L fs K (r1.length + (n + 1)) (r1 ++ (i, fl) :: l2) fr H) : vstep P N ops o' (fun f' h => relX L o' true H h /\ vFX P N ops L fs K (r1.length + n) (r1 ++ (i, fl) :: l2.filter fun y => y.1 != f) f' h) fr H := by
  have hl1' : ∀ x ∈ r1, ∃ p, ops[x.1]? = some p /\ isR p.op = true := fun x hx => by obtain ⟨p, h1, h2, _⟩ := hl1 x hx; exact ⟨p, h1, h2⟩
  rw [vFX_seqRX r1 fr H hl1'] at h
  have hstep : ∀ fr H, vFX P N ops L fs K (n + 1) ((i, fl) :: l2) fr H -> vstep P N ops o' (fun f' h => relX L o' true H h /\ vFX P N ops L fs K n ((i, fl) :: l2.filter fun y => y.1 != f) f' h) fr H := by
    intro fr H h
    simp only [vFX, ho, hE] at h
    obtain ⟨o2, h1, h2, h3⟩ := h.2 f hff hfl
    rw [hf] at h1; cases h1
    exact eKX_rel h2 h3
  refine vstep_weak (frontX_gen (vFX_closed hK _ _) (vFX_closed hK n _) hstep r1 fr H (fun x hx => by obtain ⟨p, h1, h2, h3⟩ := hl1 x hx; exact ⟨p, h1, h2, h3, fun _ => .inr rfl⟩) h) ?_
  rintro f h' ⟨h1, h2⟩
  exact ⟨h1, (vFX_seqRX r1 f h' hl1').2 h2⟩

theorem drawFX_any {B : Nat} {w0 : World} {Q : Exit -> Act -> World -> Prop} (hK : Closed K) (hedge : edgesOK ops = true) : ∀ (n : Nat) (listed : Array Bool) (l : List (Nat × Bool)) (fr : Fr) (H : Heap) (ρ : Rho) (w : World) (a : Act),
    listed.size = ops.size -> l.length = n -> pairsOKF ops fs (masksGo ops.toList []) l = true -> (∀ x ∈ l, x.1 < ops.size /\ listed.getD x.1 true = false) -> (∀ i, i < ops.size -> listed.getD i true = false -> ∃ x ∈ l, x.1 = i) ->
    (∀ (j : Nat) (o : Oper), ops[j]? = some o -> listed.getD j false = true -> ∀ e ∈ o.after.toList, Region.binds .any e = true -> listed.getD e.on false = true) ->
    vFX P N ops L fs K n l fr H -> R B w0 ρ H w -> FR N ρ fr a ->
    (∀ (ρ' : Rho) (fr' : Fr) (H' : Heap) (a' : Act) (w' : World), ρ <+: ρ' -> K fr' H' -> R B w0 ρ' H' w' -> FR N ρ' fr' a' -> Q .normal a' w') -> wpAny P .any ops Q n listed a w := by
  intro n
  have getD2 : ∀ (listed : Array Bool) (i : Nat), listed.size = ops.size -> i < ops.size -> listed.getD i true = listed.getD i false := by
    intro listed i h1 h2
    simp [Array.getD_eq_getD_getElem?, h1, h2]
  induction n with
  | zero =>
    intro listed l fr H ρ w a hsz hl hp hin hall hcl hv hR hF hq
    have : l = [] := List.eq_nil_of_length_eq_zero hl
    subst this
    refine ⟨?_, hq ρ fr H a w (List.prefix_refl _) hv hR hF⟩
    rw [List.eq_nil_iff_forall_not_mem]
    intro i hi
    simp only [Region.ready, List.mem_filter, List.mem_range, Bool.and_eq_true, Bool.not_eq_true'] at hi
    obtain ⟨x, hx, _⟩ := hall i hi.1 hi.2.1
    simp at hx
  | succ n ih =>
    intro listed l fr H ρ w a hsz hl hp hin hall hcl hv hR hF hq
    refine ⟨?_, ?_⟩
    · intro hnil
      exfalso
      match l, hl with
      | (i, fl) :: l, hl =>
        obtain ⟨h1, h2⟩ := hin (i, fl) (by simp)
        have hi : i ∈ Region.ready .any ops listed := by
          simp only [Region.ready, List.mem_filter, List.mem_range, Bool.and_eq_true, Bool.not_eq_true']
          refine ⟨h1, h2, ?_⟩
          rw [Array.getElem?_eq_getElem h1]
          simp only [Option.map_some, Option.getD_some, Array.all_eq_true']
          intro e he
          rw [Bool.or_eq_true, Bool.not_eq_true']
          by_cases hb : Region.binds .any e = true
          · right
            have hedge' := List.all_eq_true.1 hedge i (by simpa using h1)
            simp only [Array.getElem?_eq_getElem h1, List.all_eq_true] at hedge'
            have he' := hedge' e (by simpa using he)
            simp only [hb, Bool.not_true, Bool.false_or, Bool.and_eq_true, decide_eq_true_eq, bne_iff_ne, ne_eq] at he'
            rw [<- getD2 listed e.on hsz he'.1]
            cases hg : listed.getD e.on true with
            | true => rfl
            | false =>
              obtain ⟨x, hx, hxe⟩ := hall e.on he'.1 hg
              rcases List.mem_cons.1 hx with rfl | hx
              · exact absurd hxe.symm he'.2
              · have hpo := (pairsOKF_spec (l1 := []) hp).2.1 x hx
                have hx1 := (hin x (by simp [hx])).1
                simp only [pairOKF, Array.getElem?_eq_getElem h1, Array.getElem?_eq_getElem hx1, Bool.and_eq_true, Bool.not_eq_true'] at hpo
                have hd := hpo.1.1
                simp only [directTo, List.any_eq_false, Bool.and_eq_true, beq_iff_eq, not_and] at hd
                exact absurd hxe.symm (hd e (by simpa using he) hb)
          · left; simpa using hb
        rw [hnil] at hi
        simp at hi
    · intro i hi
      simp only [Region.ready, List.mem_filter, List.mem_range, Bool.and_eq_true, Bool.not_eq_true'] at hi
      obtain ⟨hilt, hnl, hrdy⟩ := hi
      rw [Array.getElem?_eq_getElem hilt] at hrdy
      simp only [Option.map_some, Option.getD_some, Array.all_eq_true'] at hrdy
      have ho : ops[i]? = some ops[i] := Array.getElem?_eq_getElem hilt
      obtain ⟨x, hx, hxi⟩ := hall i hilt hnl
      obtain ⟨l1, l2, rfl⟩ := List.append_of_mem hx
      obtain ⟨i', fl⟩ := x
      simp only at hxi
      subst hxi
      obtain ⟨hp1, hp2, hp3⟩ := pairsOKF_spec hp
      have hpre : ∀ e ∈ (ops[i']).after.toList, Region.binds .any e = true -> listed.getD e.on false = true := by
        intro e he hb
        have := hrdy e (by simpa using he)
        simpa [hb] using this
      have hdep : ∀ y ∈ l1, ¬ ((masksGo ops.toList []).getD i' 0).testBit y.1 = true := by
        intro y hy hb
        have := masks_sound (ops := ops) (fun j => listed.getD j false = true) hcl ops.toList [] (fun j _ => by simp) (fun j o p hj => by simp at hj) i' _ y.1 ho hb hpre
        obtain ⟨hy1, hy2⟩ := hin y (by simp [hy])
        rw [getD2 listed y.1 hsz hy1] at hy2
        rw [hy2] at this; cases this
      have hR1 : ∀ y ∈ l1, ∀ p, ops[y.1]? = some p -> isR p.op = true -> indep ops p ops[i'] = true /\ (readsH p.op = true -> isR (ops[i']).op = true \/ fl = true) := by
        intro y hy p hp' hRp
        have hy1 := (hin y (by simp [hy])).1
        have hpo := hp1 y hy
        have hd := hdep y hy
        simp only [pairOKF, hp', ho, Bool.and_eq_true] at hpo
        have hpo2 := hpo.2
        simp only [Bool.not_eq_true] at hd
        simp only [hRp, hd, Bool.false_or, Bool.or_false, Bool.and_eq_true, Bool.or_eq_true, Bool.not_eq_true'] at hpo2
        refine ⟨hpo2.1, fun hr => ?_⟩
        rcases hpo2.2 with (h | h) | h
        · exact .inl h
        · exact .inr h
        · rw [hr] at h; cases h
      have hE1 : ∀ y ∈ l1, ∀ p, ops[y.1]? = some p -> isR p.op = false -> i' ∈ fs /\ fl = true /\ isR (ops[i']).op = false := by
        intro y hy p hp' hRp
        have hpo := hp1 y hy
        have hd := hdep y hy
        simp only [pairOKF, hp', ho, Bool.and_eq_true] at hpo
        have hpo2 := hpo.2
        simp only [Bool.not_eq_true] at hd
        simp only [hRp, hd, Bool.false_or, Bool.and_eq_true, Bool.not_eq_true', List.contains_iff_mem] at hpo2
        exact ⟨hpo2.1.1, hpo2.1.2, hpo2.2⟩
      have hnd : ∀ y ∈ l1 ++ l2, y.1 ≠ i' := by
        intro y hy e
        rcases List.mem_append.1 hy with hy | hy
        · have hpo := hp1 y hy
          have hy1 := (hin y (by simp [hy])).1
          simp [pairOKF, Array.getElem?_eq_getElem hy1, ho, e] at hpo
        · have hpo := hp2 y hy
          have hy1 := (hin y (by simp [hy])).1
          simp [pairOKF, Array.getElem?_eq_getElem hy1, ho, e] at hpo
      have hstep : vstep P N ops ops[i'] (fun f h => relX L ops[i'] fl H h /\ vFX P N ops L fs K n (l1 ++ l2) f h) fr H := by
        simp only [List.length_append, List.length_cons] at hl
        rcases first_effect (ops := ops) l1 (fun x hx => ⟨_, Array.getElem?_eq_getElem (hin x (by simp [hx])).1⟩) with hall1 | ⟨r1, e, oe, r2, rfl, he1, he2, he3⟩
        · rw [show n = l1.length + l2.length by omega]
          rw [show n + 1 = l1.length + (l2.length + 1) by omega] at hv
          exact vFX_front hK ho (fun x hx => by obtain ⟨p, h1, h2⟩ := hall1 x hx; obtain ⟨h3, h4⟩ := hR1 x hx p h1 h2; exact ⟨p, h1, h2, h3, h4⟩) hv
        · obtain ⟨hif, hfl, hEi⟩ := hE1 e (by simp) oe he1 he2
          subst hfl
          simp only [List.length_append, List.length_cons] at hl
          rw [show n + 1 = r1.length + ((r2.length + 1 + l2.length) + 1) by omega, List.append_assoc, List.cons_append] at hv
          have hfilt : (r2 ++ (i', true) :: l2).filter (fun y => y.1 != i') = r2 ++ l2 := by
            rw [List.filter_append, List.filter_cons]
            simp only [bne_self_eq_false, Bool.false_eq_true, if_false]
            rw [List.filter_eq_self.2, List.filter_eq_self.2]
            · intro y hy; simpa using hnd y (by simp [hy])
            · intro y hy; simpa using hnd y (by simp [hy])
          have := vFX_float (f := i') hK he1 he2 ho hif (by simp) (fun x hx => by
            obtain ⟨p, h1, h2⟩ := he3 x hx
            exact ⟨p, h1, h2, (hR1 x (by simp [hx]) p h1 h2).1⟩) hv
          rw [hfilt] at this
          rw [show n = r1.length + (r2.length + 1 + l2.length) by omega, List.append_assoc, List.cons_append]
          exact this
      unfold wpOp
      rw [ho]
      refine vstep_sound hstep hR hF Q ?_
      rintro ρ' fr' H' a' w' hpre' ⟨_, hv'⟩ hR' hF'
      refine ih (listed.setIfInBounds i' true) (l1 ++ l2) fr' H' ρ' w' a' (by simpa using hsz) (by simp at hl ⊢; omega) hp3 ?_ ?_ ?_ hv' hR' hF' (fun ρ'' f'' H'' a'' w'' h1 => hq ρ'' f'' H'' a'' w'' (hpre'.trans h1))
      · intro y hy
        have hne := hnd y hy
        obtain ⟨h1, h2⟩ := hin y (by rcases List.mem_append.1 hy with hy | hy <;> simp [hy])
        exact ⟨h1, by rw [getD_set_ne _ (fun e => hne e.symm)]; exact h2⟩
      · intro j hj hnj
        by_cases e : i' = j
        · subst e
          exfalso
          have : (listed.setIfInBounds i' true).getD i' true = true := by simp [Array.getD_eq_getD_getElem?]
          rw [this] at hnj; cases hnj
        · rw [getD_set_ne _ e] at hnj
          obtain ⟨y, hy, rfl⟩ := hall j hj hnj
          refine ⟨y, ?_, rfl⟩
          rcases List.mem_append.1 hy with hy | hy
          · simp [hy]
          · rcases List.mem_cons.1 hy with rfl | hy
            · exact absurd rfl e
            · simp [hy]
      · intro j o hj hlj e he hb
        by_cases e' : i' = j
        · subst e'
          rw [ho] at hj; cases hj
          exact getD_set_true (hpre e he hb)
        · rw [getD_set_ne _ e'] at hlj
          exact getD_set_true (hcl j o hj hlj e he hb)

def vTX (P : Program) (N : Nat) (ops : Array Oper) (L : Nat) (K : Fr -> Heap -> Prop) : Tree -> Fr -> Heap -> Prop
  | .nil, fr, H => K fr H
  | .one i fl t, fr, H => match ops[i]? with
    | none => False
    | some o => match isR o.op with
      | true => offL L o.op fr /\ vstep P N ops o (vTX P N ops L K t) fr H
      | false => vstep P N ops o (eKX L fl H (vTX P N ops L K t)) fr H
  | .two i fl t f t', fr, H => match ops[i]?, ops[f]? with
    | some o, some o' => vstep P N ops o (eKX L fl H (vTX P N ops L K t)) fr H /\ vstep P N ops o' (eKX L true H (vTX P N ops L K t')) fr H
    | _, _ => False
theorem vTX_vFX : ∀ (t : Tree) (n : Nat) (l : List (Nat × Bool)) (fr : Fr) (H : Heap), l.length <= n -> (∀ x y, x ∈ l -> y ∈ l -> x.1 = y.1 -> x = y) -> treeOK ops fs t l = true -> vTX P N ops L K t fr H -> vFX P N ops L fs K n l fr H := by
  intro t
  induction t with
  | nil =>
    intro n l fr H hn _ hok h
    cases l with
    | nil => cases n <;> exact h
    | cons x l => simp [treeOK] at hok
  | one i fl t ih =>
    intro n l fr H hn hu hok h
    cases l with
    | nil => simp [treeOK] at hok
    | cons x l =>
      obtain ⟨j, fl'⟩ := x
      simp only [treeOK, Bool.and_eq_true, beq_iff_eq] at hok
      obtain ⟨⟨⟨rfl, rfl⟩, hfl⟩, hok⟩ := hok
      cases n with
      | zero => simp at hn
      | succ n =>
        simp only [List.length_cons] at hn
        have hu' : ∀ x y, x ∈ l -> y ∈ l -> x.1 = y.1 -> x = y := fun x y hx hy => hu x y (by simp [hx]) (by simp [hy])
        simp only [vTX] at h
        simp only [vFX]
        cases ho : ops[i]? with
        | none => simp [ho] at h
        | some o =>
          simp only [ho] at h hfl ⊢
          cases hR : isR o.op with
          | true => simp only [hR] at h ⊢; exact ⟨h.1, vstep_weak h.2 fun f h => ih n l f h (by omega) hu' hok⟩
          | false =>
            simp only [hR, Bool.false_or, List.all_eq_true] at h hfl ⊢
            refine ⟨vstep_weak h fun f h' hk => ?_, fun f hf hm => ?_⟩
            · cases fl with
              | true => exact ⟨hk.1, ih n l f h' (by omega) hu' hok hk.2⟩
              | false => exact ih n l f h' (by omega) hu' hok hk
            · have := hfl f hf
              simp only [Bool.not_eq_true', List.contains_eq_mem, decide_eq_false_iff_not] at this
              exact absurd hm this
  | two i fl t f t' ih ih' =>
    intro n l fr H hn hu hok h
    cases l with
    | nil => simp [treeOK] at hok
    | cons x l =>
      obtain ⟨j, fl'⟩ := x
      simp only [treeOK, Bool.and_eq_true, beq_iff_eq] at hok
      obtain ⟨⟨⟨⟨⟨rfl, rfl⟩, hE⟩, hfl⟩, hok⟩, hok'⟩ := hok
      cases n with
      | zero => simp at hn
      | succ n =>
        simp only [List.length_cons] at hn
        have hu' : ∀ x y, x ∈ l -> y ∈ l -> x.1 = y.1 -> x = y := fun x y hx hy => hu x y (by simp [hx]) (by simp [hy])
        simp only [vTX] at h
        simp only [vFX]
        cases ho : ops[i]? with
        | none => simp [ho] at h
        | some o =>
          cases ho' : ops[f]? with
          | none => simp [ho, ho'] at h
          | some o' =>
            simp only [ho, ho', Bool.and_eq_true, Bool.not_eq_true'] at h hE ⊢
            simp only [hE.1]
            refine ⟨vstep_weak h.1 fun g h' hk => ?_, fun g hg hm => ?_⟩
            · cases fl with
              | true => exact ⟨hk.1, ih n l g h' (by omega) hu' hok hk.2⟩
              | false => exact ih n l g h' (by omega) hu' hok hk
            · rw [List.all_eq_true] at hfl
              have hgf := hfl g hg
              simp only [Bool.or_eq_true, beq_iff_eq, Bool.not_eq_true', List.contains_eq_mem, decide_eq_false_iff_not] at hgf
              have : g = f := hgf.resolve_right (fun e => e hm)
              subst this
              refine ⟨o', ho', hE.2, vstep_weak h.2 fun q h' hk => ⟨hk.1, ih' n _ q h' ?_ ?_ hok' hk.2⟩⟩
              · obtain ⟨z, hz, hzg⟩ := List.mem_map.1 hm
                have : (l.filter fun y => y.1 != g).length < l.length := by
                  rw [List.length_filter_lt_length_iff_exists]
                  exact ⟨z, hz, by simp [hzg]⟩
                simp only [List.length_cons]; omega
              · intro x y hx hy
                refine hu x y ?_ ?_
                · rcases List.mem_cons.1 hx with rfl | hx
                  · simp
                  · exact List.mem_cons_of_mem _ (List.mem_filter.1 hx).1
                · rcases List.mem_cons.1 hy with rfl | hy
                  · simp
                  · exact List.mem_cons_of_mem _ (List.mem_filter.1 hy).1

theorem AWp.drawFX (L : Nat) {id : Nat} {fr : Fr} {H : Heap} {Q : Exit -> Fr -> Heap -> Prop} (hm : P.follows .mixedOrders = true) (fs : List Nat) (canon : List (Nat × Bool)) (t : Tree) (hok : (drawOKF ops fs canon && treeOK ops fs t canon) = true) (h : vTX P N ops L (Q .normal) t fr H) : AWp P N (.region id ops true) Q fr H := by
  intro B w0 ρ w a hR hF
  simp only [drawOKF, Bool.and_eq_true, decide_eq_true_eq, List.all_eq_true, List.mem_range, List.contains_iff_mem, List.mem_map] at hok
  obtain ⟨⟨⟨⟨⟨h1, h2⟩, h3⟩, h4⟩, h5⟩, h6⟩ := hok
  refine wp_region_any hm ?_
  let K : Fr -> Heap -> Prop := fun f h => ∃ g, feq g f /\ Q .normal g h
  have hK : Closed K := fun f g h hfg ⟨k, hk, hq⟩ => ⟨k, hk.trans hfg, hq⟩
  have hu : ∀ x y, x ∈ canon -> y ∈ canon -> x.1 = y.1 -> x = y := by
    intro x y hx hy e
    obtain ⟨l1, l2, rfl⟩ := List.append_of_mem hx
    obtain ⟨hp1, hp2, _⟩ := pairsOKF_spec h1
    rcases List.mem_append.1 hy with hy | hy
    · have := hp1 y hy
      unfold pairOKF at this
      split at this
      · simp [e] at this
      · cases this
    · rcases List.mem_cons.1 hy with rfl | hy
      · rfl
      · have := hp2 y hy
        unfold pairOKF at this
        split at this
        · simp [e] at this
        · cases this
  have hv : vFX P N ops L fs K ops.size canon fr H := by
    refine vTX_vFX t ops.size canon fr H (by omega) hu h6 ?_
    have weak : ∀ (t : Tree) (fr : Fr) (H : Heap), vTX P N ops L (Q .normal) t fr H -> vTX P N ops L K t fr H := by
      intro t
      induction t with
      | nil => exact fun fr H h => ⟨fr, feq.rfl' _, h⟩
      | one i fl t ih =>
        intro fr H h
        simp only [vTX] at h ⊢
        split at h
        · exact h
        · rename_i o ho
          cases hR : isR o.op with
          | true => simp only [hR] at h ⊢; exact ⟨h.1, vstep_weak h.2 ih⟩
          | false =>
            simp only [hR] at h ⊢
            refine vstep_weak h ?_
            intro f h' hk
            cases fl with
            | true => exact ⟨hk.1, ih _ _ hk.2⟩
            | false => exact ih _ _ hk
      | two i fl t f t' ih ih' =>
        intro fr H h
        simp only [vTX] at h ⊢
        split at h
        · rename_i o o' ho ho'
          refine ⟨vstep_weak h.1 ?_, vstep_weak h.2 fun f h' hk => ⟨hk.1, ih' _ _ hk.2⟩⟩
          intro f h' hk
          cases fl with
          | true => exact ⟨hk.1, ih _ _ hk.2⟩
          | false => exact ih _ _ hk
        · exact h
    exact weak t fr H h
  have hgt : ∀ i, i < ops.size -> (Array.replicate ops.size false).getD i true = false := by
    intro i hi
    simp [Array.getD_eq_getD_getElem?, hi]
  refine drawFX_any (B := B) (w0 := w0) hK h2 ops.size (Array.replicate ops.size false) canon fr H ρ w.drew a (by simp) h3 h1 ?_ ?_ ?_ hv hR.drew hF ?_
  · intro x hx
    exact ⟨h4 x hx, hgt x.1 (h4 x hx)⟩
  · intro i hi _
    obtain ⟨x, hx, rfl⟩ := h5 i hi
    exact ⟨x, hx, rfl⟩
  · intro j o hj hl
    rw [Array.getD_eq_getD_getElem?, Array.getElem?_replicate] at hl
    split at hl <;> simp at hl
  · rintro ρ' fr' H' a' w' hp ⟨g, hg, hq⟩ hR' hF'
    exact ⟨ρ', g, H', hp, hR', hF'.feq hg.symm, hq⟩

/-! The words of such a tree, for simp. -/

def vTXK (P : Program) (N : Nat) (ops : Array Oper) (L : Nat) (K : Fr -> Heap -> Prop) (t : Tree) (fr : Fr) (H : Heap) : Prop := vTX P N ops L K t fr H
def eTXK (P : Program) (N : Nat) (ops : Array Oper) (L : Nat) (K : Fr -> Heap -> Prop) (t : Tree) (fl : Bool) (H : Heap) (fr : Fr) (H' : Heap) : Prop :=
  match fl with
  | true => andK (KeepL L H H') (vTX P N ops L K t fr H')
  | false => vTX P N ops L K t fr H'
def vTXo (P : Program) (N : Nat) (ops : Array Oper) (L : Nat) (K : Fr -> Heap -> Prop) (t : Tree) (fl : Bool) (fr : Fr) (H : Heap) (o : Oper) : Prop :=
  match isR o.op with
  | true => andK (offB L o.op fr) (vstep P N ops o (vTXK P N ops L K t) fr H)
  | false => vstep P N ops o (eTXK P N ops L K t fl H) fr H
def vTXe (P : Program) (N : Nat) (ops : Array Oper) (L : Nat) (K : Fr -> Heap -> Prop) (t : Tree) (fl : Bool) (fr : Fr) (H : Heap) (o : Oper) : Prop := vstep P N ops o (eTXK P N ops L K t fl H) fr H

theorem vTX_nil (K : Fr -> Heap -> Prop) (fr : Fr) (H : Heap) : vTX P N ops L K .nil fr H = K fr H := rfl
theorem eTXK_eq (K : Fr -> Heap -> Prop) (t : Tree) (fl : Bool) (H : Heap) : eKX L fl H (vTX P N ops L K t) = eTXK P N ops L K t fl H := by
  funext f h
  cases fl <;> rfl
theorem vTX_one (K : Fr -> Heap -> Prop) (i : Nat) (fl : Bool) (t : Tree) (fr : Fr) (H : Heap) : vTX P N ops L K (.one i fl t) fr H = bindO ops[i]? (vTXo P N ops L K t fl fr H) := by
  simp only [vTX]
  cases ops[i]? with
  | none => simp [bindO]
  | some o =>
    simp only [bindO_some, vTXo]
    cases isR o.op with
    | true => rw [offB_iff]; rfl
    | false => simp only [eTXK_eq]
theorem vTX_two {i : Nat} {fl : Bool} {t : Tree} {f : Nat} {t' : Tree} {K : Fr -> Heap -> Prop} {fr : Fr} {H : Heap} (h1 : bindO ops[i]? (vTXe P N ops L K t fl fr H)) (h2 : bindO ops[f]? (vTXe P N ops L K t' true fr H)) : vTX P N ops L K (.two i fl t f t') fr H := by
  simp only [vTX]
  cases ho : ops[i]? with
  | none => simp [ho, bindO] at h1
  | some o =>
    cases ho' : ops[f]? with
    | none => simp [ho', bindO] at h2
    | some o' =>
      simp only [ho, ho', bindO_some, vTXe] at h1 h2 ⊢
      exact ⟨by rw [eTXK_eq]; exact h1, by rw [eTXK_eq]; exact h2⟩

attribute [go_sem] vTXK eTXK vTXo vTXe vTX_nil vTX_one

end
end Go.Ab
end

section
namespace Go.Proofs.YtfnegaedkomcgaaGreat
open Go.Ab

theorem At.take_ints {H : Heap} {i o : Nat} {xs : List Int} (h : At H i o (ints xs)) {k : Nat} (hk : k <= xs.length) : At H i o (ints (xs.take k)) := by
  by_cases h0 : k = 0
  · subst h0; exact .inl rfl
  · right
    have e : ints (xs.take k) = (ints xs).take k := by simp [ints, List.map_take]
    have := h.sub (k := 0) (n := k) (by omega) (by rw [ints_length]; omega)
    rw [ints_length, List.length_take, Nat.min_eq_left hk, e]
    simpa using this
theorem At.drop_ints {H : Heap} {i o : Nat} {xs : List Int} (h : At H i o (ints xs)) {k : Nat} (hk : k <= xs.length) : At H i (o + k) (ints (xs.drop k)) := by
  by_cases h0 : k = xs.length
  · subst h0; left; simp [ints]
  · right
    have e : ints (xs.drop k) = (ints xs).drop k := by simp [ints, List.map_drop]
    have := h.sub (k := k) (n := xs.length - k) (by omega) (by rw [ints_length]; omega)
    rw [ints_length, List.length_drop, e, this, List.take_of_length_le (by rw [List.length_drop, ints_length]; omega)]
theorem ordL_insert {k r : Nat} {xs : List Int} (h : OrdL k xs) (hr : r <= k) : OrdL ((k + 1 : Nat) : Int) (xs.take r ++ [(k : Int)] ++ xs.drop r) := by
  obtain ⟨h1, h2, h3⟩ := h
  have hp : (xs.take r ++ [(k : Int)] ++ xs.drop r).Perm ((k : Int) :: xs) := by
    rw [List.append_assoc]
    have := List.perm_middle (a := (k : Int)) (l₁ := xs.take r) (l₂ := xs.drop r)
    rw [List.take_append_drop] at this
    exact this
  have hnk : (k : Int) ∉ xs := fun hm => by have := h3 _ hm; omega
  refine ⟨?_, hp.nodup_iff.2 (List.nodup_cons.2 ⟨hnk, h2⟩), fun x hx => ?_⟩
  · rw [hp.length_eq, List.length_cons]; omega
  · rcases List.mem_cons.1 (hp.mem_iff.1 hx) with rfl | hx
    · omega
    · have := h3 x hx; omega

theorem drawOrder_ok {L s : Nat} {H : Heap} (hs : Src L s H) {n : Nat} (hn : n <= 1000) (Post : Value -> Heap -> Prop)
    (h : ∀ (H' : Heap) (w : Value) (xs : List Int), Same (fun j => j = s) H H' -> Src L s H' -> IntsIn H.length H'.length H' w xs -> OrdL n xs -> Post w H') :
    ACalls Tryz.prog 67 [.pointer (some ⟨s, 0, none⟩), .int .i64 n] H Post := by
  refine ACalls.res ?_
  have hslt := hs.lt
  have hLs := hs.1
  refine acalls_vc (rs := [.tmp 4]) Tryz.func67 rfl rfl Tryz.ntmps67 rfl rfl ?_
  simp (maxSteps := 1000000) [go_sem]
  have hp0 : H <+: H ++ [⟨[], true, true⟩] := List.prefix_append _ _
  have hl0 : (H ++ [(⟨[], true, true⟩ : Blk)]).length = H.length + 1 := by simp
  generalize H ++ [(⟨[], true, true⟩ : Blk)] = H0 at hp0 hl0 ⊢
  refine AWp.loopVc (St := Nat × Nat × List Int) (fun q => [(0, .pointer (some ⟨s, 0, none⟩)), (1, .int .i64 n), (5, lv 1 q.2.1 0 q.2.2.length), (6, .int .i64 q.1)])
    (fun q H' => q.2.1 < H'.length /\ q.1 <= n /\ OrdL q.1 q.2.2 /\ IntsIn H.length H'.length H' (lv 1 q.2.1 0 q.2.2.length) q.2.2 /\ Same (fun j => j = s) H H' /\ Src L s H') (fun q => n - q.1) (0, 0, []) ?_ ?_ ?_
  · simp [upF, Fr.get, Up.refl, Up.ex0]
  · exact ⟨by simp only; omega, by omega, ⟨by simp, by simp, by simp⟩, IntsIn.nil _ _ _, Same.of_prefix hp0, hs.pre hp0⟩
  · rintro K ⟨k, id, xs⟩ H1 ⟨hid, hk, hO, hI, hsm, hS⟩ hK
    simp only at hid hk hO hI
    have hxl : xs.length = k := by have := hO.1; omega
    by_cases hlt : k < n
    · have hw_k : IntKind.i64.wrap ((k : Int) + 1) = (k : Int) + 1 := i64w (by omega) (by omega)
      simp (maxSteps := 1000000) [go_sem, hlt, hw_k]
      refine next_ok hS _ ?_
      intro H2 r hs2 hl2 hS2 h0 h1
      obtain ⟨r, rfl⟩ : ∃ m : Nat, r = m := ⟨r.toNat, by omega⟩
      have hr : r <= k := by omega
      have hI2 := hI.keep hs2 (by rintro j ⟨a, b⟩ e; omega)
      obtain ⟨id0, ⟨e0, hat, hsz⟩, hsp⟩ := hI2
      have eid : id0 = id := by simp at e0; exact e0.symm
      subst eid
      have hat2 : At H2 id0 0 (ints xs) := by
        rcases hat with hat | hat
        · left; rw [hat]; rfl
        · exact Holds.at ⟨true, hat⟩
      have hr2 : r <= xs.length := by omega
      simp (maxSteps := 1000000) [go_sem]
      refine AWp.drawFX (H2.length) mixed [5] [(0, false), (1, false), (2, false), (4, false), (7, false), (8, false), (9, false), (3, true), (5, true), (6, true), (10, false), (11, false)] (.one 0 false (.one 1 false (.one 2 false (.one 4 false (.one 7 false (.one 8 false (.one 9 false (.two 3 true (.one 5 true (.one 6 true (.one 10 false (.one 11 false .nil)))) 5 (.one 3 true (.one 6 true (.one 10 false (.one 11 false .nil)))))))))))) (by kernel_rfl) ?_
      simp (maxSteps := 1000000) [go_sem, sliceV, boundV, hr2]
      have htl : (xs.take r).length = r := by rw [List.length_take]; omega
      have hinA : IntsAt H2 (.slice (some ⟨id0, 0, some 1⟩) r r) (xs.take r) := ⟨id0, 0, by rw [htl], At.take_ints hat2 hr2, by omega⟩
      have hil : id0 < H2.length := by omega
      refine andK_intro hil (andK_intro hil (vTX_two ?_ ?_))
      · simp (maxSteps := 1000000) [go_sem]
        refine l01Own_oe (xs := xs.take r) hinA (by rw [htl]; omega) _ ?_
        intro H3 w hp3 he3
        rw [htl] at he3
        obtain ⟨a3, rfl⟩ := he3.shape
        have hkA : KeepL H2.length H2 H3 := KeepL.of_prefix hp3 (Nat.le_refl _)
        have hle3 := hp3.length_le
        have hp4 : H3 <+: H3 ++ [⟨[.int .i64 k], true, true⟩] := List.prefix_append _ _
        have hkB : KeepL H2.length H3 (H3 ++ [⟨[.int .i64 k], true, true⟩]) := KeepL.of_prefix hp4 (by omega)
        have hc4 : cellsAt (H3 ++ [(⟨[.int .i64 k], true, true⟩ : Blk)]) H3.length 0 1 = some [.int .i64 k] := by rw [cellsAt_of (b := ⟨[.int .i64 k], true, true⟩) (by simp) rfl (by simp)]; rfl
        have he4 := he3.pre hp4
        simp (maxSteps := 1000000) [go_sem]
        refine andK_intro hkA ?_
        try simp (maxSteps := 1000000) [go_sem]
        generalize H3 ++ [(⟨[.int .i64 k], true, true⟩ : Blk)] = H4 at *
        refine andK_intro hkB ?_
        have hp24 : H2 <+: H4 := hp3.trans hp4
        have hle4 := hp24.length_le
        obtain ⟨v5, H5, hap5, he5, hk5, hl5⟩ := he4.append (m := 1) (news := [.int .i64 k]) (by omega) (by omega) rfl
        obtain ⟨a5, rfl⟩ := he5.shape
        have hp25 : H2 <+: H5 := KeepL.prefix hp24 (by omega) hk5 (by omega)
        have hs6 := ((At.drop_ints hat2 hr2).pre hp25).src (e := 1) (n := xs.length - r) (s := some 1) (by rw [ints_length, List.length_drop]; omega) (by omega) (xs.length - r)
        obtain ⟨v6, H6, hap6, he6, hk6, hl6⟩ := he5.append (m := xs.length - r) (news := ints (xs.drop r)) (by omega) (by have := hp25.length_le; omega) (by rw [ints_length, List.length_drop]; omega)
        obtain ⟨a6, rfl⟩ := he6.shape
        have hp26 : H2 <+: H6 := KeepL.prefix hp25 (by have := hp25.length_le; omega) hk6 (by omega)
        have hle6 := hp26.length_le
        simp only [srcCells, Nat.zero_add, Nat.mul_one] at hs6
        have hk5' : KeepL H2.length H4 H5 := fun j hj => hk5 j (by omega)
        have hk6' : KeepL H2.length H5 H6 := fun j hj => hk6 j (by omega)
        simp (maxSteps := 1000000) [go_sem, hc4, hap5]
        refine andK_intro (by omega) (andK_intro hk5' ?_)
        simp (maxSteps := 1000000) [go_sem, hs6, hap6, hw_k]
        refine andK_intro (by omega) ?_
        have et : ints (xs.take r) ++ [.int .i64 (k : Int)] ++ ints (xs.drop r) = ints (xs.take r ++ [(k : Int)] ++ xs.drop r) := by simp [ints]
        have el : r + 1 + (xs.length - r) = (xs.take r ++ [(k : Int)] ++ xs.drop r).length := by simp; omega
        have hO2 := ordL_insert hO hr
        generalize xs.take r ++ [(k : Int)] ++ xs.drop r = ys at *
        rw [et, el] at he6
        rw [el]
        obtain ⟨w6, hup6, id6, ⟨ew6, hat6, hsz6⟩, hsp6⟩ := he6.ints (by omega)
        subst ew6
        have hyl : ys.length = k + 1 := by have := hO2.1; omega
        have hsp6' := hsp6 (by intro e; rw [e] at hyl; simp at hyl)
        refine hK (k + 1, id6, ys) _ _ (by simp only; omega) (by simp [upF, Fr.get, Up.refl, hup6]) ⟨hsp6'.2, by simp only; omega, hO2, ⟨id6, ⟨rfl, hat6, hsz6⟩, fun _ => ⟨by have := hsp6'.1; have := hsm.1; omega, hsp6'.2⟩⟩, (hsm.trans hs2).trans (Same.of_prefix hp26), hS2.pre hp26⟩
      · have hp3 : H2 <+: H2 ++ [⟨[.int .i64 k], true, true⟩] := List.prefix_append _ _
        have hkA : KeepL H2.length H2 (H2 ++ [⟨[.int .i64 k], true, true⟩]) := KeepL.of_prefix hp3 (Nat.le_refl _)
        have hc3 : cellsAt (H2 ++ [(⟨[.int .i64 k], true, true⟩ : Blk)]) H2.length 0 1 = some [.int .i64 k] := by rw [cellsAt_of (b := ⟨[.int .i64 k], true, true⟩) (by simp) rfl (by simp)]; rfl
        simp (maxSteps := 1000000) [go_sem]
        generalize H2 ++ [(⟨[.int .i64 k], true, true⟩ : Blk)] = H3 at *
        refine andK_intro hkA ?_
        try simp (maxSteps := 1000000) [go_sem]
        refine l01Own_oe (xs := xs.take r) (hinA.pre hp3) (by rw [htl]; omega) _ ?_
        intro H4 w hp4 he4
        rw [htl] at he4
        obtain ⟨a3, rfl⟩ := he4.shape
        have hle3 := hp3.length_le
        have hkB : KeepL H2.length H3 H4 := KeepL.of_prefix hp4 (by omega)
        have hle34 := hp4.length_le
        have hc4 := cellsAt_pre hp4 hc3
        simp (maxSteps := 1000000) [go_sem]
        refine andK_intro hkB ?_
        have hp24 : H2 <+: H4 := hp3.trans hp4
        have hle4 := hp24.length_le
        obtain ⟨v5, H5, hap5, he5, hk5, hl5⟩ := he4.append (m := 1) (news := [.int .i64 k]) (by omega) (by omega) rfl
        obtain ⟨a5, rfl⟩ := he5.shape
        have hp25 : H2 <+: H5 := KeepL.prefix hp24 (by omega) hk5 (by omega)
        have hs6 := ((At.drop_ints hat2 hr2).pre hp25).src (e := 1) (n := xs.length - r) (s := some 1) (by rw [ints_length, List.length_drop]; omega) (by omega) (xs.length - r)
        obtain ⟨v6, H6, hap6, he6, hk6, hl6⟩ := he5.append (m := xs.length - r) (news := ints (xs.drop r)) (by omega) (by have := hp25.length_le; omega) (by rw [ints_length, List.length_drop]; omega)
        obtain ⟨a6, rfl⟩ := he6.shape
        have hp26 : H2 <+: H6 := KeepL.prefix hp25 (by have := hp25.length_le; omega) hk6 (by omega)
        have hle6 := hp26.length_le
        simp only [srcCells, Nat.zero_add, Nat.mul_one] at hs6
        have hk5' : KeepL H2.length H4 H5 := fun j hj => hk5 j (by omega)
        have hk6' : KeepL H2.length H5 H6 := fun j hj => hk6 j (by omega)
        simp (maxSteps := 1000000) [go_sem, hc4, hap5]
        refine andK_intro (by omega) (andK_intro hk5' ?_)
        simp (maxSteps := 1000000) [go_sem, hs6, hap6, hw_k]
        refine andK_intro (by omega) ?_
        have et : ints (xs.take r) ++ [.int .i64 (k : Int)] ++ ints (xs.drop r) = ints (xs.take r ++ [(k : Int)] ++ xs.drop r) := by simp [ints]
        have el : r + 1 + (xs.length - r) = (xs.take r ++ [(k : Int)] ++ xs.drop r).length := by simp; omega
        have hO2 := ordL_insert hO hr
        generalize xs.take r ++ [(k : Int)] ++ xs.drop r = ys at *
        rw [et, el] at he6
        rw [el]
        obtain ⟨w6, hup6, id6, ⟨ew6, hat6, hsz6⟩, hsp6⟩ := he6.ints (by omega)
        subst ew6
        have hyl : ys.length = k + 1 := by have := hO2.1; omega
        have hsp6' := hsp6 (by intro e; rw [e] at hyl; simp at hyl)
        refine hK (k + 1, id6, ys) _ _ (by simp only; omega) (by simp [upF, Fr.get, Up.refl, hup6]) ⟨hsp6'.2, by simp only; omega, hO2, ⟨id6, ⟨rfl, hat6, hsz6⟩, fun _ => ⟨by have := hsp6'.1; have := hsm.1; omega, hsp6'.2⟩⟩, (hsm.trans hs2).trans (Same.of_prefix hp26), hS2.pre hp26⟩
    · have : k = n := by omega
      subst this
      have hn1 : ¬ k < k := by omega
      simp (maxSteps := 1000000) [go_sem]
      exact ⟨_, Up.refl _ _, h H1 _ xs hsm hS hI hO⟩

end Go.Proofs.YtfnegaedkomcgaaGreat
end

section
namespace Go.Proofs.YtfnegaedkomcgaaGreat
open Go.RowKit Go.Shelf

attribute [local go_sem] Oper.semAt_some

end Go.Proofs.YtfnegaedkomcgaaGreat
end

section
namespace Go.Ab
open Go.Sort

instance : Inhabited Bk := ⟨⟨0, 0, 0⟩⟩
theorem Bk.cells_len (x : Bk) : x.cells.length = 3 := rfl
theorem Bk.cells_one (x : Bk) : x.cells.all Value.oneCell' = true := by simp [Bk.cells, Value.oneCell']

def cellsI (x : Int) : List Value := [.int .i64 x]
theorem cellsI_len (x : Int) : (cellsI x).length = 1 := rfl
theorem cellsI_one (x : Int) : (cellsI x).all Value.oneCell' = true := by simp [cellsI, Value.oneCell']

structure Row where
  id : Nat
  o : Nat
  xs : List Int
instance : Inhabited Row := ⟨⟨0, 0, []⟩⟩
def Row.val (r : Row) : Value := lv 1 r.id r.o r.xs.length
end Go.Ab
end

section
namespace Go.Proofs.YtfnegaedkomcgaaGreat
open Go.Ab Go.Sort

def CmpO (lt : Int -> Int -> Bool) (Q : Int -> Prop) (id : Nat) (H : Heap) : Prop :=
  ∀ (H' : Heap) (x y : Int) (Post : Value -> Heap -> Prop), Same (fun k => k = id) H H' -> Q x -> Q y ->
    (∀ (H'' : Heap) (c : Bool), H' <+: H'' -> c = lt x y -> Post (.bool c) H'') -> ACalls Tryz.prog 156 [.int .i64 x, .int .i64 y] H' Post
theorem CmpO.keep {lt : Int -> Int -> Bool} {Q : Int -> Prop} {id : Nat} {H H' : Heap} (h : CmpO lt Q id H) (hs : Same (fun k => k = id) H H') : CmpO lt Q id H' :=
  fun H2 x y Post h2 => h H2 x y Post (hs.trans h2)
theorem isNaNO_ok {H : Heap} {x : Int} (Post : Value -> Heap -> Prop) (h : Post (.bool false) H) : ACalls Tryz.prog 171 [.int .i64 x] H Post := by
  refine acalls_vc (rs := [.tmp 2]) Tryz.func171 rfl rfl Tryz.ntmps171 rfl rfl ?_
  simp (maxSteps := 1000000) [go_sem]
  exact h
theorem cmpLess_ok {H : Heap} {x y : Int} (Post : Value -> Heap -> Prop) (h : Post (.bool (decide (x < y))) H) : ACalls Tryz.prog 156 [.int .i64 x, .int .i64 y] H Post := by
  refine acalls_vc (rs := [.tmp 4]) Tryz.func156 rfl rfl Tryz.ntmps156 rfl rfl ?_
  simp (maxSteps := 1000000) [go_sem]
  refine isNaNO_ok _ ?_
  simp (maxSteps := 1000000) [go_sem, undef]
  exact h

end Go.Proofs.YtfnegaedkomcgaaGreat
end

section
namespace Go.Proofs.YtfnegaedkomcgaaGreat
open Go.Ab Go.Sort

theorem insO_ok {H : Heap} {id a b n : Nat} {d : Array Int} {lt : Int -> Int -> Bool} {Q : Int -> Prop} (hA : Arr cellsI H id d) (hn : d.size = n) (hl : n <= 1048576) (hab : a <= b) (hb : b <= n) (hQ : QA Q d)
    (hC : CmpO lt Q id H) (Post : Value -> Heap -> Prop) (h : ∀ H', Same (fun k => k = id) H H' -> Arr cellsI H' id (insertionSort lt d a b) -> Post (.tuple #[]) H') :
    ACalls Tryz.prog 150 [lv 1 id 0 n, .int .i64 a, .int .i64 b] H Post := by
  refine acalls_vc (rs := []) Tryz.func150 rfl rfl Tryz.ntmps150 rfl rfl ?_
  have w0 : IntKind.i64.wrap ((a : Int) + 1) = (a : Int) + 1 := i64w (by omega) (by omega)
  simp (maxSteps := 1000000) [go_sem, w0]
  refine AWp.loopVc (St := Nat × Array Int) (fun s => [(0, lv 1 id 0 n), (1, .int .i64 a), (2, .int .i64 b), (6, .int .i64 s.1)])
    (fun s H' => a + 1 <= s.1 /\ s.1 <= n + 1 /\ s.2.size = n /\ QA Q s.2 /\ Same (fun k => k = id) H H' /\ Arr cellsI H' id s.2 /\ insOuter lt a b s.1 s.2 = insertionSort lt d a b) (fun s => n + 1 - s.1) (a + 1, d) ?_ ?_ ?_
  · simp [upF, Fr.get, Up.refl]
  · exact ⟨Nat.le_refl _, by simp only; omega, hn, hQ, Same.refl _ _, hA, rfl⟩
  · rintro K ⟨i, d1⟩ H' ⟨hai, hin, hsz, hQ1, hS, hA1, hO⟩ hK
    simp only at hai hin hsz hQ1 hS hA1 hO
    rw [insOuter] at hO
    by_cases hlt : i < b
    · rw [if_pos hlt] at hO
      have hw_i : IntKind.i64.wrap ((i : Int) + 1) = (i : Int) + 1 := i64w (by omega) (by omega)
      simp (maxSteps := 1000000) [go_sem, hlt]
      refine AWp.loopVc (St := Nat × Array Int) (fun s => [(0, lv 1 id 0 n), (1, .int .i64 a), (2, .int .i64 b), (6, .int .i64 i), (7, .int .i64 s.1)])
        (fun s H2 => a <= s.1 /\ s.1 <= i /\ s.2.size = n /\ QA Q s.2 /\ Same (fun k => k = id) H H2 /\ Arr cellsI H2 id s.2 /\ insInner lt a s.1 s.2 = insInner lt a i d1) (fun s => s.1) (i, d1) ?_ ?_ ?_
      · simp [upF, Fr.get, Up.refl]
      · exact ⟨by simp only; omega, Nat.le_refl _, hsz, hQ1, hS, hA1, rfl⟩
      · rintro K2 ⟨j, d2⟩ H2 ⟨haj, hji, hsz2, hQ2, hS2, hA2, hI⟩ hK2
        simp only at haj hji hsz2 hQ2 hS2 hA2 hI
        by_cases hja : a < j
        · obtain ⟨r, rfl⟩ : ∃ r, j = r + 1 := ⟨j - 1, by omega⟩
          have hr1 : r + 1 < d2.size := by omega
          have hr0 : r < d2.size := by omega
          have c1 := hA2.load cellsI_len hr1
          have c0 := hA2.load cellsI_len hr0
          have q1 := hQ2 _ hr1
          have q0 := hQ2 _ hr0
          rw [insInner] at hI
          obtain ⟨x, hx⟩ : ∃ x, x = d2[r + 1]! := ⟨_, rfl⟩
          obtain ⟨y, hy⟩ : ∃ y, y = d2[r]! := ⟨_, rfl⟩
          rw [<- hx] at c1 q1 hI
          rw [<- hy] at c0 q0 hI
          have e1 : decide (r + 1 > a) = true := decide_eq_true hja
          rw [e1, Bool.true_and] at hI
          simp only [cellsI, Nat.mul_one, Row.val] at c1 c0
          have n1 : r + 1 < n := by omega
          have n0 : r < n := by omega
          have m1 : (r : Int) + 1 < n := by omega
          have m0 : (r : Int) < n := by omega
          have z1 : (0 : Int) <= (r : Int) + 1 := by omega
          have hwr : IntKind.i64.wrap (r : Int) = (r : Int) := i64w (by omega) (by omega)
          have ja : (a : Int) < (r : Int) + 1 := by omega
          refine AWp.draw mixed [(0, false), (1, false), (2, false), (3, false), (4, false), (5, false), (6, false), (7, false), (8, false), (9, false), (10, false), (11, false), (12, false), (13, false), (14, false)] (by kernel_rfl) ?_
          simp (maxSteps := 1000000) [go_sem, hja, ja, c1, c0, n1, n0, m1, m0, z1, hwr]
          refine hC H2 x y _ hS2 q1 q0 ?_
          intro H3 c hp3 hc
          have hS3 := hS2.via (Same.of_prefix (S := fun _ => False) hp3) (fun _ _ h => h.elim)
          have hA3 := hA2.pre hp3
          cases hxy : lt x y with
          | false =>
            rw [hxy] at hc hI
            have hc0 := hc
            simp (maxSteps := 1000000) [go_sem, hc, hc0, hw_i]
            exact hK (i + 1, d2) _ _ (by simp only; omega) (by simp [upF, Fr.get, Up.refl]) ⟨by simp only; omega, by simp only; omega, hsz2, hQ2, hS3, hA3, by simp only; rw [<- hO, <- hI]; simp⟩
          | true =>
            rw [hxy] at hc hI
            have hc0 := hc
            have c1 := hA3.load cellsI_len hr1
            have c0 := hA3.load cellsI_len hr0
            obtain ⟨H4, H5, s1, s0, hA5, hS5, hl5⟩ := hA3.swap cellsI_len cellsI_one hr1 hr0
            rw [<- hx] at c1 s0
            rw [<- hy] at c0 s1
            simp only [cellsI, Nat.mul_one, Row.val] at c1 c0 s1 s0
            simp (maxSteps := 1000000) [go_sem, hc, hc0]
            refine AWp.draw mixed [(0, false), (1, false), (2, false), (3, false), (4, false), (5, false), (6, false), (7, false), (8, false), (9, false), (10, false), (11, false), (12, false), (13, false), (14, false), (15, false), (16, false), (17, false)] (by kernel_rfl) ?_
            simp (maxSteps := 1000000) [go_sem, c1, c0, n1, n0, m1, m0, z1, hwr, s1, s0]
            exact hK2 (r, swp d2 (r + 1) r) _ _ (by simp only; omega) (by simp [upF, Fr.get, Up.refl]) ⟨by simp only; omega, by simp only; omega, by rw [size_swp]; exact hsz2, hQ2.swp hr1 hr0, hS3.trans hS5, hA5, by simp only; rw [<- hI]; simp⟩
        · have hja' : j = a := by omega
          subst hja'
          have e : insInner lt j j d2 = d2 := by
            cases j with
            | zero => rfl
            | succ r => rw [insInner]; simp
          refine AWp.draw mixed [(0, false), (1, false), (2, false), (3, false), (4, false), (5, false), (6, false), (7, false), (8, false), (9, false), (10, false), (11, false), (12, false), (13, false), (14, false)] (by kernel_rfl) ?_
          simp (maxSteps := 1000000) [go_sem, undef, hw_i]
          exact hK (i + 1, d2) _ _ (by simp only; omega) (by simp [upF, Fr.get, Up.refl]) ⟨by simp only; omega, by simp only; omega, hsz2, hQ2, hS2, hA2, by simp only; rw [<- hO, <- hI, e]⟩
    · rw [if_neg hlt] at hO
      simp (maxSteps := 1000000) [go_sem, hlt]
      exact h H' hS (hO ▸ hA1)

end Go.Proofs.YtfnegaedkomcgaaGreat
end

section
namespace Go.Proofs.YtfnegaedkomcgaaGreat
open Go.Ab Go.Sort

theorem siftO_ok {H : Heap} {id lo hi first n : Nat} {d : Array Int} {lt : Int -> Int -> Bool} {Q : Int -> Prop} (hA : Arr cellsI H id d) (hn : d.size = n) (hl : n <= 1048576) (hlo : lo <= n) (hhi : first + hi <= n) (hQ : QA Q d)
    (hC : CmpO lt Q id H) (Post : Value -> Heap -> Prop) (h : ∀ H', Same (fun k => k = id) H H' -> Arr cellsI H' id (siftDown lt hi first lo d) -> Post (.tuple #[]) H') :
    ACalls Tryz.prog 166 [lv 1 id 0 n, .int .i64 lo, .int .i64 hi, .int .i64 first] H Post := by
  refine acalls_vc (rs := []) Tryz.func166 rfl rfl Tryz.ntmps166 rfl rfl ?_
  simp (maxSteps := 1000000) [go_sem]
  refine AWp.loopVc (St := Nat × Array Int) (fun s => [(0, lv 1 id 0 n), (2, .int .i64 hi), (3, .int .i64 first), (8, .int .i64 s.1)])
    (fun s H' => s.1 <= n /\ s.2.size = n /\ QA Q s.2 /\ Same (fun k => k = id) H H' /\ Arr cellsI H' id s.2 /\ siftDown lt hi first s.1 s.2 = siftDown lt hi first lo d) (fun s => n - s.1) (lo, d) ?_ ?_ ?_
  · simp [upF, Fr.get, Up.refl]
  · exact ⟨hlo, hn, hQ, Same.refl _ _, hA, rfl⟩
  · rintro K ⟨root, d1⟩ H1 ⟨hr, hsz, hQ1, hS1, hA1, hO⟩ hK
    simp only at hr hsz hQ1 hS1 hA1 hO
    obtain ⟨ch, hch⟩ : ∃ ch, ch = 2 * root + 1 := ⟨_, rfl⟩
    obtain ⟨c2, hc2⟩ : ∃ c2, c2 = ch + 1 := ⟨_, rfl⟩
    obtain ⟨fr, hfr⟩ : ∃ fr, fr = first + root := ⟨_, rfl⟩
    obtain ⟨fc, hfc⟩ : ∃ fc, fc = first + ch := ⟨_, rfl⟩
    obtain ⟨fc2, hfc2⟩ : ∃ fc2, fc2 = first + c2 := ⟨_, rfl⟩
    have w1 : IntKind.i64.wrap (2 * (root : Int)) = 2 * (root : Int) := i64w (by omega) (by omega)
    have w2 : IntKind.i64.wrap (2 * (root : Int) + 1) = (ch : Int) := by rw [hch]; rw [i64w (by omega) (by omega)]; omega
    have w3 : IntKind.i64.wrap ((ch : Int) + 1) = (c2 : Int) := by rw [hc2]; rw [i64w (by omega) (by omega)]; omega
    by_cases hh : hi <= ch
    · rw [sift_end hch hh] at hO
      have hh' : (hi : Int) <= ch := by omega
      simp (maxSteps := 1000000) [go_sem, w1, w2, hh, hh']
      exact h H1 hS1 (hO ▸ hA1)
    · rw [sift_step hch hc2 hfr hfc hfc2 hh] at hO
      have hh' : ¬ ((hi : Int) <= ch) := by omega
      have hh2 : ch < hi := by omega
      have w4 : IntKind.i64.wrap ((first : Int) + root) = (fr : Int) := by rw [hfr]; rw [i64w (by omega) (by omega)]; omega
      have w5 : IntKind.i64.wrap ((first : Int) + ch) = (fc : Int) := by rw [hfc]; rw [i64w (by omega) (by omega)]; omega
      have w6 : IntKind.i64.wrap ((first : Int) + c2) = (fc2 : Int) := by rw [hfc2]; rw [i64w (by omega) (by omega)]; omega
      have w7 : IntKind.i64.wrap ((fc : Int) + 1) = (fc2 : Int) := by rw [hfc2, hfc, hc2]; rw [i64w (by omega) (by omega)]; omega
      have hfr1 : fr < d1.size := by omega
      have hfc1 : fc < d1.size := by omega
      have n1 : fr < n := by omega
      have n2 : fc < n := by omega
      obtain ⟨x, hx⟩ : ∃ x, x = d1[fr]! := ⟨_, rfl⟩
      obtain ⟨y, hy⟩ : ∃ y, y = d1[fc]! := ⟨_, rfl⟩
      obtain ⟨z, hz⟩ : ∃ z, z = d1[fc2]! := ⟨_, rfl⟩
      rw [<- hx, <- hy, <- hz] at hO
      have qx := hQ1 _ hfr1
      have qy := hQ1 _ hfc1
      rw [<- hx] at qx
      rw [<- hy] at qy
      have cy := hA1.load cellsI_len hfc1
      rw [<- hy] at cy
      simp only [cellsI, Nat.mul_one, Row.val] at cy
      by_cases h2 : c2 < hi
      · have h2' : (c2 : Int) < hi := by omega
        have hfc21 : fc2 < d1.size := by omega
        have n3 : fc2 < n := by omega
        have qz := hQ1 _ hfc21
        rw [<- hz] at qz
        have cz := hA1.load cellsI_len hfc21
        rw [<- hz] at cz
        simp only [cellsI, Nat.mul_one, Row.val] at cz
        have e2 : decide (c2 < hi) = true := decide_eq_true h2
        rw [e2, Bool.true_and] at hO
        simp (maxSteps := 1000000) [go_sem, w1, w2, w3, hh, hh', hh2]
        refine AWp.draw mixed [(0, false), (1, false), (2, false), (3, false), (4, false), (5, false), (6, false), (7, false), (8, false), (9, false), (10, false), (11, false), (12, false), (13, false), (14, false), (15, false), (16, false), (17, false), (18, false), (19, false)] (by kernel_rfl) ?_
        simp (maxSteps := 1000000) [go_sem, w3, w5, w7, h2, h2', cy, cz, n2, n3]
        refine hC H1 y z _ hS1 qy qz ?_
        intro H3 c hp3 hc
        have hS3 := hS1.via (Same.of_prefix (S := fun _ => False) hp3) (fun _ _ h => h.elim)
        have hA3 := hA1.pre hp3
        have cx := hA3.load cellsI_len hfr1
        rw [<- hx] at cx
        simp only [cellsI, Nat.mul_one, Row.val] at cx
        cases hyz : lt y z with
        | true =>
          rw [hyz] at hc hO
          have hc0 := hc
          have cz := hA3.load cellsI_len hfc21
          rw [<- hz] at cz
          simp only [cellsI, Nat.mul_one, Row.val] at cz
          simp (maxSteps := 1000000) [go_sem, hc, hc0, w3]
          refine AWp.draw mixed [(0, false), (1, false), (2, false), (3, false), (4, false), (5, false), (6, false), (7, false), (8, false), (9, false), (10, false), (11, false), (12, false), (13, false)] (by kernel_rfl) ?_
          simp (maxSteps := 1000000) [go_sem, w4, w6, cx, cz, n1, n3]
          refine hC H3 x z _ hS3 qx qz ?_
          intro H4 e hp4 he
          have hS4 := hS3.via (Same.of_prefix (S := fun _ => False) hp4) (fun _ _ h => h.elim)
          have hA4 := hA3.pre hp4
          cases hxz : lt x z with
          | false =>
            rw [hxz] at he hO
            have he0 := he
            simp (maxSteps := 1000000) [go_sem, he, he0]
            exact h H4 hS4 (by simpa [<- hO] using hA4)
          | true =>
            rw [hxz] at he hO
            have he0 := he
            have ca := hA4.load cellsI_len hfr1
            have cb := hA4.load cellsI_len hfc21
            obtain ⟨H5, H6, s1, s0, hA6, hS6, hl6⟩ := hA4.swap cellsI_len cellsI_one hfr1 hfc21
            rw [<- hx] at ca s0
            rw [<- hz] at cb s1
            simp only [cellsI, Nat.mul_one, Row.val] at ca cb s0 s1
            simp (maxSteps := 1000000) [go_sem, he, he0]
            refine AWp.draw mixed [(0, false), (1, false), (2, false), (3, false), (4, false), (5, false), (6, false), (7, false), (8, false), (9, false), (10, false), (11, false), (12, false), (13, false), (14, false), (15, false), (16, false), (17, false), (18, false), (19, false), (20, false), (21, false), (22, false), (23, false)] (by kernel_rfl) ?_
            simp (maxSteps := 1000000) [go_sem, w4, w6, ca, cb, n1, n3, s1, s0]
            exact hK (c2, swp d1 fr fc2) _ _ (by simp only; omega) (by simp [upF, Fr.get, Up.refl]) ⟨by simp only; omega, by rw [size_swp]; exact hsz, hQ1.swp hfr1 hfc21, hS4.trans hS6, hA6, by simp only; rw [<- hO]; simp⟩
        | false =>
          rw [hyz] at hc hO
          have hc0 := hc
          have cy := hA3.load cellsI_len hfc1
          rw [<- hy] at cy
          simp only [cellsI, Nat.mul_one, Row.val] at cy
          simp (maxSteps := 1000000) [go_sem, hc, hc0]
          refine AWp.draw mixed [(0, false), (1, false), (2, false), (3, false), (4, false), (5, false), (6, false), (7, false), (8, false), (9, false), (10, false), (11, false), (12, false), (13, false)] (by kernel_rfl) ?_
          simp (maxSteps := 1000000) [go_sem, w4, w5, cx, cy, n1, n2]
          refine hC H3 x y _ hS3 qx qy ?_
          intro H4 e hp4 he
          have hS4 := hS3.via (Same.of_prefix (S := fun _ => False) hp4) (fun _ _ h => h.elim)
          have hA4 := hA3.pre hp4
          cases hxz : lt x y with
          | false =>
            rw [hxz] at he hO
            have he0 := he
            simp (maxSteps := 1000000) [go_sem, he, he0]
            exact h H4 hS4 (by simpa [<- hO] using hA4)
          | true =>
            rw [hxz] at he hO
            have he0 := he
            have ca := hA4.load cellsI_len hfr1
            have cb := hA4.load cellsI_len hfc1
            obtain ⟨H5, H6, s1, s0, hA6, hS6, hl6⟩ := hA4.swap cellsI_len cellsI_one hfr1 hfc1
            rw [<- hx] at ca s0
            rw [<- hy] at cb s1
            simp only [cellsI, Nat.mul_one, Row.val] at ca cb s0 s1
            simp (maxSteps := 1000000) [go_sem, he, he0]
            refine AWp.draw mixed [(0, false), (1, false), (2, false), (3, false), (4, false), (5, false), (6, false), (7, false), (8, false), (9, false), (10, false), (11, false), (12, false), (13, false), (14, false), (15, false), (16, false), (17, false), (18, false), (19, false), (20, false), (21, false), (22, false), (23, false)] (by kernel_rfl) ?_
            simp (maxSteps := 1000000) [go_sem, w4, w5, ca, cb, n1, n2, s1, s0]
            exact hK (ch, swp d1 fr fc) _ _ (by simp only; omega) (by simp [upF, Fr.get, Up.refl]) ⟨by simp only; omega, by rw [size_swp]; exact hsz, hQ1.swp hfr1 hfc1, hS4.trans hS6, hA6, by simp only; rw [<- hO]; simp⟩
      · have h2' : ¬ ((c2 : Int) < hi) := by omega
        have e2 : decide (c2 < hi) = false := decide_eq_false h2
        rw [e2, Bool.false_and] at hO
        have hA3 := hA1
        have hS3 := hS1
        have cx := hA3.load cellsI_len hfr1
        rw [<- hx] at cx
        simp only [cellsI, Nat.mul_one, Row.val] at cx
        simp (maxSteps := 1000000) [go_sem, w1, w2, w3, hh, hh', hh2]
        refine AWp.draw mixed [(0, false), (1, false), (2, false), (3, false), (4, false), (5, false), (6, false), (7, false), (8, false), (9, false), (10, false), (11, false), (12, false), (13, false), (14, false), (15, false), (16, false), (17, false), (18, false), (19, false)] (by kernel_rfl) ?_
        simp (maxSteps := 1000000) [go_sem, undef, w3, h2, h2']
        obtain ⟨H3, eH3⟩ : ∃ H3, H3 = H1 := ⟨_, rfl⟩
        rw [<- eH3] at hA3 hS3 cx cy ⊢
        refine AWp.draw mixed [(0, false), (1, false), (2, false), (3, false), (4, false), (5, false), (6, false), (7, false), (8, false), (9, false), (10, false), (11, false), (12, false), (13, false)] (by kernel_rfl) ?_
        simp (maxSteps := 1000000) [go_sem, w4, w5, cx, cy, n1, n2]
        refine hC H3 x y _ hS3 qx qy ?_
        intro H4 e hp4 he
        have hS4 := hS3.via (Same.of_prefix (S := fun _ => False) hp4) (fun _ _ h => h.elim)
        have hA4 := hA3.pre hp4
        cases hxz : lt x y with
        | false =>
          rw [hxz] at he hO
          have he0 := he
          simp (maxSteps := 1000000) [go_sem, he, he0]
          exact h H4 hS4 (by simpa [<- hO] using hA4)
        | true =>
          rw [hxz] at he hO
          have he0 := he
          have ca := hA4.load cellsI_len hfr1
          have cb := hA4.load cellsI_len hfc1
          obtain ⟨H5, H6, s1, s0, hA6, hS6, hl6⟩ := hA4.swap cellsI_len cellsI_one hfr1 hfc1
          rw [<- hx] at ca s0
          rw [<- hy] at cb s1
          simp only [cellsI, Nat.mul_one, Row.val] at ca cb s0 s1
          simp (maxSteps := 1000000) [go_sem, he, he0]
          refine AWp.draw mixed [(0, false), (1, false), (2, false), (3, false), (4, false), (5, false), (6, false), (7, false), (8, false), (9, false), (10, false), (11, false), (12, false), (13, false), (14, false), (15, false), (16, false), (17, false), (18, false), (19, false), (20, false), (21, false), (22, false), (23, false)] (by kernel_rfl) ?_
          simp (maxSteps := 1000000) [go_sem, w4, w5, ca, cb, n1, n2, s1, s0]
          exact hK (ch, swp d1 fr fc) _ _ (by simp only; omega) (by simp [upF, Fr.get, Up.refl]) ⟨by simp only; omega, by rw [size_swp]; exact hsz, hQ1.swp hfr1 hfc1, hS4.trans hS6, hA6, by simp only; rw [<- hO]; simp⟩

theorem heapO_ok {H : Heap} {id a b n : Nat} {d : Array Int} {lt : Int -> Int -> Bool} {Q : Int -> Prop} (hA : Arr cellsI H id d) (hn : d.size = n) (hl : n <= 1048576) (hab : a < b) (hb : b <= n) (hQ : QA Q d)
    (hC : CmpO lt Q id H) (Post : Value -> Heap -> Prop) (h : ∀ H', Same (fun k => k = id) H H' -> Arr cellsI H' id (heapSort lt d a b) -> Post (.tuple #[]) H') :
    ACalls Tryz.prog 151 [lv 1 id 0 n, .int .i64 a, .int .i64 b] H Post := by
  refine acalls_vc (rs := []) Tryz.func151 rfl rfl Tryz.ntmps151 rfl rfl ?_
  obtain ⟨hi, hhi⟩ : ∃ hi, hi = b - a := ⟨_, rfl⟩
  obtain ⟨h1, hh1⟩ : ∃ h1, h1 = hi - 1 := ⟨_, rfl⟩
  obtain ⟨k0, hk0⟩ : ∃ k0, k0 = h1 / 2 := ⟨_, rfl⟩
  have w0 : IntKind.i64.wrap ((b : Int) - a) = (hi : Int) := by rw [hhi, i64w (by omega) (by omega)]; omega
  have w1 : IntKind.i64.wrap ((hi : Int) - 1) = (h1 : Int) := by rw [hh1, i64w (by omega) (by omega)]; omega
  have w2 : IntKind.i64.wrap ((h1 : Int) / 2) = (k0 : Int) := by rw [hk0, i64w (by omega) (by omega)]; omega
  have e0 : heapSort lt d a b = heapPop lt a hi (heapBuild lt hi a (k0 + 1) d) := by rw [hk0, hh1, hhi]; rfl
  rw [e0] at h
  simp (maxSteps := 1000000) [go_sem, w0, w1, w2]
  refine AWp.loopVc (St := Nat × Array Int) (fun s => [(0, lv 1 id 0 n), (6, .int .i64 a), (7, .int .i64 0), (8, .int .i64 hi), (9, .int .i64 ((s.1 : Int) - 1))])
    (fun s H' => s.1 <= k0 + 1 /\ s.2.size = n /\ QA Q s.2 /\ Same (fun k => k = id) H H' /\ Arr cellsI H' id s.2 /\ heapBuild lt hi a s.1 s.2 = heapBuild lt hi a (k0 + 1) d) (fun s => s.1) (k0 + 1, d) ?_ ?_ ?_
  · have e : ((k0 + 1 : Nat) : Int) - 1 = k0 := by omega
    simp [upF, Fr.get, Up.refl, e]
  · exact ⟨Nat.le_refl _, hn, hQ, Same.refl _ _, hA, rfl⟩
  · rintro K ⟨k, d1⟩ H1 ⟨hk, hsz, hQ1, hS1, hA1, hO⟩ hK
    simp only at hk hsz hQ1 hS1 hA1 hO
    cases k with
    | succ r =>
      have hwr : IntKind.i64.wrap ((r : Int) - 1) = (r : Int) - 1 := i64w (by omega) (by omega)
      simp (maxSteps := 1000000) [go_sem]
      refine siftO_ok hA1 hsz hl (by omega) (by omega) hQ1 (hC.keep hS1) _ ?_
      intro H2 hS2 hA2
      have hsz2 : (siftDown lt hi a r d1).size = n := by rw [sift_size]; exact hsz
      simp (maxSteps := 1000000) [go_sem, hwr]
      exact hK (r, siftDown lt hi a r d1) _ _ (by simp only; omega) (by simp [upF, Fr.get, Up.refl]) ⟨by simp only; omega, hsz2, sift_QA (by omega) hQ1, hS1.trans hS2, hA2, hO⟩
    | zero =>
      simp (maxSteps := 1000000) [go_sem, w1]
      have hO' : d1 = heapBuild lt hi a (k0 + 1) d := hO
      rw [<- hO'] at h
      refine AWp.loopVc (St := Nat × Array Int) (fun s => [(0, lv 1 id 0 n), (6, .int .i64 a), (7, .int .i64 0), (10, .int .i64 ((s.1 : Int) - 1))])
        (fun s H' => s.1 <= hi /\ s.2.size = n /\ QA Q s.2 /\ Same (fun k => k = id) H H' /\ Arr cellsI H' id s.2 /\ heapPop lt a s.1 s.2 = heapPop lt a hi d1) (fun s => s.1) (hi, d1) ?_ ?_ ?_
      · have e : (hi : Int) - 1 = h1 := by omega
        simp [upF, Fr.get, Up.refl, e]
      · exact ⟨Nat.le_refl _, hsz, hQ1, hS1, hA1, rfl⟩
      · rintro K2 ⟨k, d2⟩ H2 ⟨hk2, hsz2, hQ2, hS2, hA2, hP⟩ hK2
        simp only at hk2 hsz2 hQ2 hS2 hA2 hP
        cases k with
        | succ r =>
          have hwr : IntKind.i64.wrap ((r : Int) - 1) = (r : Int) - 1 := i64w (by omega) (by omega)
          obtain ⟨ar, har⟩ : ∃ ar, ar = a + r := ⟨_, rfl⟩
          have w4 : IntKind.i64.wrap ((a : Int) + r) = (ar : Int) := by rw [har]; rw [i64w (by omega) (by omega)]; omega
          have hi1 : a < d2.size := by omega
          have hi2 : ar < d2.size := by omega
          have n1 : a < n := by omega
          have n2 : ar < n := by omega
          have ca := hA2.load cellsI_len hi1
          have cb := hA2.load cellsI_len hi2
          obtain ⟨H5, H6, s1, s0, hA6, hS6, hl6⟩ := hA2.swap cellsI_len cellsI_one hi1 hi2
          obtain ⟨x, hx⟩ : ∃ x, x = d2[a]! := ⟨_, rfl⟩
          obtain ⟨y, hy⟩ : ∃ y, y = d2[ar]! := ⟨_, rfl⟩
          rw [<- hx] at ca s0
          rw [<- hy] at cb s1
          simp only [cellsI, Nat.mul_one, Row.val] at ca cb s0 s1
          rw [heapPop, <- har] at hP
          have hsz3 : (swp d2 a ar).size = n := by rw [size_swp]; exact hsz2
          have hQ3 := hQ2.swp hi1 hi2
          simp (maxSteps := 1000000) [go_sem]
          refine AWp.draw mixed [(0, false), (1, false), (2, false), (3, false), (4, false), (5, false), (6, false), (7, false), (8, false), (9, false), (10, false), (11, false), (12, false), (13, false), (14, false), (15, false), (16, false), (17, false), (18, false), (19, false)] (by kernel_rfl) ?_
          simp (maxSteps := 1000000) [go_sem, w4, ca, cb, n1, n2, s1, s0]
          refine siftO_ok (lo := 0) hA6 hsz3 hl (by omega) (by omega) hQ3 (hC.keep (hS2.trans hS6)) _ ?_
          intro H7 hS7 hA7
          have hsz4 : (siftDown lt r a 0 (swp d2 a ar)).size = n := by rw [sift_size]; exact hsz3
          simp (maxSteps := 1000000) [go_sem, hwr]
          exact hK2 (r, siftDown lt r a 0 (swp d2 a ar)) _ _ (by simp only; omega) (by simp [upF, Fr.get, Up.refl]) ⟨by simp only; omega, hsz4, sift_QA (by omega) hQ3, (hS2.trans hS6).trans hS7, hA7, hP⟩
        | zero =>
          simp (maxSteps := 1000000) [go_sem]
          refine h H2 hS2 ?_
          rw [<- hP]; exact hA2

end Go.Proofs.YtfnegaedkomcgaaGreat
end

section
namespace Go.Proofs.YtfnegaedkomcgaaGreat
open Go.Ab Go.Sort

theorem reverseO_ok {H : Heap} {id a b n : Nat} {d : Array Int} (hA : Arr cellsI H id d) (hn : d.size = n) (hl : n <= 1048576) (hab : a < b) (hb : b <= n)
    (Post : Value -> Heap -> Prop) (h : ∀ H', Same (fun k => k = id) H H' -> Arr cellsI H' id (reverseRange d a b) -> Post (.tuple #[]) H') :
    ACalls Tryz.prog 154 [lv 1 id 0 n, .int .i64 a, .int .i64 b] H Post := by
  refine acalls_vc (rs := []) Tryz.func154 rfl rfl Tryz.ntmps154 rfl rfl ?_
  obtain ⟨b1, hb1⟩ : ∃ b1, b1 = b - 1 := ⟨_, rfl⟩
  have w0 : IntKind.i64.wrap ((b : Int) - 1) = (b1 : Int) := by rw [hb1, i64w (by omega) (by omega)]; omega
  have e0 : reverseRange d a b = reverseLoop a b1 d := by rw [hb1]; rfl
  rw [e0] at h
  simp (maxSteps := 1000000) [go_sem, w0]
  refine AWp.loopVc (St := Nat × Nat × Array Int) (fun s => [(0, lv 1 id 0 n), (6, .int .i64 s.1), (7, .int .i64 s.2.1)])
    (fun s H' => s.2.1 < n /\ s.1 <= n /\ s.2.2.size = n /\ Same (fun k => k = id) H H' /\ Arr cellsI H' id s.2.2 /\ reverseLoop s.1 s.2.1 s.2.2 = reverseLoop a b1 d) (fun s => s.2.1 - s.1) (a, b1, d) ?_ ?_ ?_
  · simp [upF, Fr.get, Up.refl]
  · exact ⟨by simp only; omega, by simp only; omega, hn, Same.refl _ _, hA, rfl⟩
  · rintro K ⟨i, j, d1⟩ H1 ⟨hj, hi, hsz, hS1, hA1, hO⟩ hK
    simp only at hj hi hsz hS1 hA1 hO
    by_cases hij : i < j
    · obtain ⟨r, rfl⟩ : ∃ r, j = r + 1 := ⟨j - 1, by omega⟩
      rw [reverse_go hij] at hO
      have hi1 : i < d1.size := by omega
      have hi2 : r + 1 < d1.size := by omega
      have n1 : i < n := by omega
      have n2 : r + 1 < n := by omega
      have m2 : (r : Int) + 1 < n := by omega
      have z2 : (0 : Int) <= (r : Int) + 1 := by omega
      have hij' : (i : Int) < (r : Int) + 1 := by omega
      have hwr : IntKind.i64.wrap (r : Int) = (r : Int) := i64w (by omega) (by omega)
      have hw_i : IntKind.i64.wrap ((i : Int) + 1) = (i : Int) + 1 := i64w (by omega) (by omega)
      have ca := hA1.load cellsI_len hi1
      have cb := hA1.load cellsI_len hi2
      obtain ⟨H5, H6, s1, s0, hA6, hS6, hl6⟩ := hA1.swap cellsI_len cellsI_one hi1 hi2
      obtain ⟨x, hx⟩ : ∃ x, x = d1[i]! := ⟨_, rfl⟩
      obtain ⟨y, hy⟩ : ∃ y, y = d1[r + 1]! := ⟨_, rfl⟩
      rw [<- hx] at ca s0
      rw [<- hy] at cb s1
      simp only [cellsI, Nat.mul_one, Row.val] at ca cb s0 s1
      simp (maxSteps := 1000000) [go_sem, hij, hij']
      refine AWp.draw mixed [(0, false), (1, false), (2, false), (3, false), (4, false), (5, false), (6, false), (7, false), (8, false), (9, false), (10, false), (11, false), (12, false), (13, false), (14, false), (15, false)] (by kernel_rfl) ?_
      simp (maxSteps := 1000000) [go_sem, ca, cb, n1, n2, m2, z2, s1, s0, hw_i, hwr]
      exact hK (i + 1, r, swp d1 i (r + 1)) _ _ (by simp only; omega) (by simp [upF, Fr.get, Up.refl]) ⟨by simp only; omega, by simp only; omega, by rw [size_swp]; exact hsz, hS1.trans hS6, hA6, hO⟩
    · rw [reverse_stop hij] at hO
      have hij' : ¬ ((i : Int) < j) := by omega
      simp (maxSteps := 1000000) [go_sem, hij, hij']
      exact h H1 hS1 (hO ▸ hA1)

theorem order2O_ok {HB H : Heap} {id sw a b n : Nat} {z : Int} {d : Array Int} {lt : Int -> Int -> Bool} {Q : Int -> Prop} (hA : Arr cellsI H id d) (hn : d.size = n) (hl : n <= 1048576) (ha : a < n) (hb : b < n) (hQ : QA Q d)
    (hC : CmpO lt Q id HB) (hB : Same (fun k => k = id) HB H) (hz : H[sw]? = some ⟨[.int .i64 z], true, true⟩) (hsw : HB.length <= sw) (hid : id ≠ sw) (Post : Value -> Heap -> Prop)
    (h : ∀ H' (x y : Nat) (z' : Int), Same (fun k => k = sw) H H' -> H'[sw]? = some ⟨[.int .i64 z'], true, true⟩ -> (x = a /\ y = b \/ x = b /\ y = a) -> Post (.tuple #[.int .i64 x, .int .i64 y]) H') :
    ACalls Tryz.prog 189 [lv 1 id 0 n, .int .i64 a, .int .i64 b, .pointer (some ⟨sw, 0, none⟩)] H Post := by
  refine acalls_vc (rs := [.tmp 8, .tmp 9]) Tryz.func189 rfl rfl Tryz.ntmps189 rfl rfl ?_
  have hi1 : a < d.size := by omega
  have hi2 : b < d.size := by omega
  have ca := hA.load cellsI_len hi1
  have cb := hA.load cellsI_len hi2
  have qa := hQ _ hi1
  have qb := hQ _ hi2
  obtain ⟨x, hx⟩ : ∃ x, x = d[a]! := ⟨_, rfl⟩
  obtain ⟨y, hy⟩ : ∃ y, y = d[b]! := ⟨_, rfl⟩
  rw [<- hx] at ca qa
  rw [<- hy] at cb qb
  simp only [cellsI, Nat.mul_one, Row.val] at ca cb
  simp (maxSteps := 1000000) [go_sem]
  refine AWp.draw mixed [(0, false), (1, false), (2, false), (3, false), (4, false), (5, false), (6, false), (7, false), (8, false)] (by kernel_rfl) ?_
  simp (maxSteps := 1000000) [go_sem, ca, cb, ha, hb]
  refine hC H y x _ hB qb qa ?_
  intro H3 c hp3 hc
  have hz3 : H3[sw]? = some ⟨[.int .i64 z], true, true⟩ := pget hp3 hz
  cases hyx : lt y x with
  | true =>
    rw [hyx] at hc
    have hc0 := hc
    have lz : cellsAt H3 sw 0 1 = some [.int .i64 z] := by rw [cellsAt_of hz3 rfl (by simp)]; rfl
    obtain ⟨z1, hz1⟩ : ∃ z1, IntKind.i64.wrap (z + 1) = z1 := ⟨_, rfl⟩
    have sz : storeAt H3 sw 0 [.int .i64 z1] = some (H3.set sw ⟨[.int .i64 z1], true, true⟩) := by
      rw [storeAt_of hz3 rfl rfl (by simp) (by simp [Value.oneCell'])]; rfl
    have hlt := (List.getElem?_eq_some_iff.1 hz3).1
    have fin := h (H3.set sw ⟨[.int .i64 z1], true, true⟩) b a _ ((Same.of_prefix hp3).trans same_set) (List.getElem?_set_self hlt) (.inr ⟨rfl, rfl⟩)
    generalize H3.set sw ⟨[.int .i64 z1], true, true⟩ = H4 at sz fin
    simp (maxSteps := 1000000) [go_sem, hc, hc0, lz, hz1, sz]
    exact fin
  | false =>
    rw [hyx] at hc
    have hc0 := hc
    have fin := h H3 a b z (Same.of_prefix hp3) hz3 (.inl ⟨rfl, rfl⟩)
    simp (maxSteps := 1000000) [go_sem, hc, hc0]
    exact fin

theorem medianO_ok {HB H : Heap} {id sw a b c n : Nat} {z : Int} {d : Array Int} {lt : Int -> Int -> Bool} {Q : Int -> Prop} (hA : Arr cellsI H id d) (hn : d.size = n) (hl : n <= 1048576) (ha : a < n) (hb : b < n) (hc : c < n) (hQ : QA Q d)
    (hC : CmpO lt Q id HB) (hB : Same (fun k => k = id) HB H) (hz : H[sw]? = some ⟨[.int .i64 z], true, true⟩) (hsw : HB.length <= sw) (hid : id ≠ sw) (Post : Value -> Heap -> Prop)
    (h : ∀ H' (x : Nat) (z' : Int), Same (fun k => k = sw) H H' -> H'[sw]? = some ⟨[.int .i64 z'], true, true⟩ -> (x = a \/ x = b \/ x = c) -> Post (.int .i64 x) H') :
    ACalls Tryz.prog 170 [lv 1 id 0 n, .int .i64 a, .int .i64 b, .int .i64 c, .pointer (some ⟨sw, 0, none⟩)] H Post := by
  have stepB : ∀ {H1 : Heap}, Same (fun k => k = sw) H H1 -> Same (fun k => k = id) HB H1 := fun h1 => hB.via h1 (by intro j hj e; omega)
  have stepA : ∀ {H1 : Heap}, Same (fun k => k = sw) H H1 -> Arr cellsI H1 id d := fun h1 => h1.get hA hid
  refine acalls_vc (rs := [.tmp 10]) Tryz.func170 rfl rfl Tryz.ntmps170 rfl rfl ?_
  simp (maxSteps := 1000000) [go_sem]
  refine order2O_ok hA hn hl ha hb hQ hC hB hz hsw hid _ ?_
  intro H1 a1 b1 z1 hs1 hz1 h1
  simp (maxSteps := 1000000) [go_sem]
  refine order2O_ok (stepA hs1) hn hl (by omega) hc hQ hC (stepB hs1) hz1 hsw hid _ ?_
  intro H2 b2 c2 z2 hs2 hz2 h2
  have hs2 := hs1.trans hs2
  simp (maxSteps := 1000000) [go_sem]
  refine order2O_ok (stepA hs2) hn hl (by omega) (by omega) hQ hC (stepB hs2) hz2 hsw hid _ ?_
  intro H3 a3 b3 z3 hs3 hz3 h3
  simp (maxSteps := 1000000) [go_sem]
  exact h H3 b3 z3 (hs2.trans hs3) hz3 (by omega)

theorem medianAdjO_ok {HB H : Heap} {id sw a n : Nat} {z : Int} {d : Array Int} {lt : Int -> Int -> Bool} {Q : Int -> Prop} (hA : Arr cellsI H id d) (hn : d.size = n) (hl : n <= 1048576) (ha0 : 0 < a) (ha : a + 1 < n) (hQ : QA Q d)
    (hC : CmpO lt Q id HB) (hB : Same (fun k => k = id) HB H) (hz : H[sw]? = some ⟨[.int .i64 z], true, true⟩) (hsw : HB.length <= sw) (hid : id ≠ sw) (Post : Value -> Heap -> Prop)
    (h : ∀ H' (x : Nat) (z' : Int), Same (fun k => k = sw) H H' -> H'[sw]? = some ⟨[.int .i64 z'], true, true⟩ -> (a <= x + 1 /\ x <= a + 1) -> Post (.int .i64 x) H') :
    ACalls Tryz.prog 169 [lv 1 id 0 n, .int .i64 a, .pointer (some ⟨sw, 0, none⟩)] H Post := by
  obtain ⟨p, hp⟩ : ∃ p, p = a - 1 := ⟨_, rfl⟩
  obtain ⟨q, hq⟩ : ∃ q, q = a + 1 := ⟨_, rfl⟩
  have w0 : IntKind.i64.wrap ((a : Int) - 1) = (p : Int) := by rw [hp, i64w (by omega) (by omega)]; omega
  have w1 : IntKind.i64.wrap ((a : Int) + 1) = (q : Int) := by rw [hq, i64w (by omega) (by omega)]; omega
  refine acalls_vc (rs := [.tmp 6]) Tryz.func169 rfl rfl Tryz.ntmps169 rfl rfl ?_
  simp (maxSteps := 1000000) [go_sem, w0, w1]
  refine medianO_ok hA hn hl (by omega) (by omega) (by omega) hQ hC hB hz hsw hid _ ?_
  intro H1 x z1 hs1 hz1 h1
  simp (maxSteps := 1000000) [go_sem]
  exact h H1 x z1 hs1 hz1 (by omega)

theorem pivotO_ok {H : Heap} {id a b n : Nat} {d : Array Int} {lt : Int -> Int -> Bool} {Q : Int -> Prop} (hA : Arr cellsI H id d) (hn : d.size = n) (hl : n <= 1048576) (hab : a < b) (hb : b <= n) (hQ : QA Q d)
    (hC : CmpO lt Q id H) (Post : Value -> Heap -> Prop)
    (h : ∀ H' (x : Nat) (t : Int), H <+: H' -> (a <= x /\ x < b) -> Post (.tuple #[.int .i64 x, .int .i64 t]) H') :
    ACalls Tryz.prog 153 [lv 1 id 0 n, .int .i64 a, .int .i64 b] H Post := by
  obtain ⟨l, hll⟩ : ∃ l, l = b - a := ⟨_, rfl⟩
  obtain ⟨q, hq⟩ : ∃ q, q = l / 4 := ⟨_, rfl⟩
  obtain ⟨i, hi⟩ : ∃ i, i = a + q := ⟨_, rfl⟩
  obtain ⟨j, hj⟩ : ∃ j, j = a + q * 2 := ⟨_, rfl⟩
  obtain ⟨k, hk⟩ : ∃ k, k = a + q * 3 := ⟨_, rfl⟩
  have w0 : IntKind.i64.wrap ((b : Int) - a) = (l : Int) := by rw [hll, i64w (by omega) (by omega)]; omega
  have w1 : IntKind.i64.wrap ((l : Int) / 4) = (q : Int) := by rw [hq, i64w (by omega) (by omega)]; omega
  have w1' : IntKind.i64.wrap (q : Int) = (q : Int) := i64w (by omega) (by omega)
  have w2 : IntKind.i64.wrap ((q : Int) * 2) = (q : Int) * 2 := i64w (by omega) (by omega)
  have w3 : IntKind.i64.wrap ((q : Int) * 3) = (q : Int) * 3 := i64w (by omega) (by omega)
  have w4 : IntKind.i64.wrap ((a : Int) + q) = (i : Int) := by rw [hi, i64w (by omega) (by omega)]; omega
  have w5 : IntKind.i64.wrap ((a : Int) + (q : Int) * 2) = (j : Int) := by rw [hj, i64w (by omega) (by omega)]; omega
  have w6 : IntKind.i64.wrap ((a : Int) + (q : Int) * 3) = (k : Int) := by rw [hk, i64w (by omega) (by omega)]; omega
  have hidl := hA.lt
  have hp0 : H <+: H ++ [⟨[.int .i64 0], true, true⟩] := List.prefix_append _ _
  have hz0 : (H ++ [(⟨[.int .i64 0], true, true⟩ : Blk)])[H.length]? = some ⟨[.int .i64 0], true, true⟩ := by simp
  have fin0 : ∀ (H' : Heap) (x : Nat) (t : Int), Same (fun k => k = H.length) (H ++ [⟨[.int .i64 0], true, true⟩]) H' -> (a <= x /\ x < b) -> Post (.tuple #[.int .i64 x, .int .i64 t]) H' := by
    intro H' x t hs hx
    refine h H' x t ?_ hx
    exact ((Same.of_prefix (S := fun k => k = H.length) hp0).trans hs).prefix (by intro j hj e; omega)
  have lz : ∀ {H' : Heap} {z : Int}, H'[H.length]? = some ⟨[.int .i64 z], true, true⟩ -> cellsAt H' H.length 0 1 = some [.int .i64 z] := by
    intro H' z hz; rw [cellsAt_of hz rfl (by simp)]; rfl
  refine acalls_vc (rs := [.tmp 6, .tmp 7]) Tryz.func153 rfl rfl Tryz.ntmps153 rfl rfl ?_
  by_cases h8 : 8 <= l
  · have h8' : (8 : Int) <= l := by omega
    by_cases h50 : 50 <= l
    · have h50' : (50 : Int) <= l := by omega
      simp (maxSteps := 1000000) [go_sem, w0, w1, w1', w2, w3, w4, w5, w6, h8, h8', h50, h50']
      have hA0 := hA.pre hp0
      have hB0 : Same (fun k => k = id) H (H ++ [⟨[.int .i64 0], true, true⟩]) := Same.of_prefix hp0
      generalize H ++ [(⟨[.int .i64 0], true, true⟩ : Blk)] = H0 at hp0 hz0 fin0 hA0 hB0 ⊢
      have stepB : ∀ {H1 : Heap}, Same (fun k => k = H.length) H0 H1 -> Same (fun k => k = id) H H1 := fun h1 => hB0.via h1 (by intro j hj e; omega)
      have stepA : ∀ {H1 : Heap}, Same (fun k => k = H.length) H0 H1 -> Arr cellsI H1 id d := fun h1 => h1.get hA0 (by omega)
      refine medianAdjO_ok hA0 hn hl (by omega) (by omega) hQ hC hB0 hz0 (Nat.le_refl _) (by omega) _ ?_
      intro H1 i1 z1 hs1 hz1 h1
      simp (maxSteps := 1000000) [go_sem]
      refine medianAdjO_ok (stepA hs1) hn hl (by omega) (by omega) hQ hC (stepB hs1) hz1 (Nat.le_refl _) (by omega) _ ?_
      intro H2 j1 z2 hs2 hz2 h2
      have hs2 := hs1.trans hs2
      simp (maxSteps := 1000000) [go_sem]
      refine medianAdjO_ok (stepA hs2) hn hl (by omega) (by omega) hQ hC (stepB hs2) hz2 (Nat.le_refl _) (by omega) _ ?_
      intro H3 k1 z3 hs3 hz3 h3
      have hs3 := hs2.trans hs3
      simp (maxSteps := 1000000) [go_sem]
      refine medianO_ok (stepA hs3) hn hl (by omega) (by omega) (by omega) hQ hC (stepB hs3) hz3 (Nat.le_refl _) (by omega) _ ?_
      intro H4 x z4 hs4 hz4 h4
      have hs4 := hs3.trans hs4
      have c4 := lz hz4
      have hx : a <= x /\ x < b := by omega
      by_cases e0 : z4 = 0
      · have fin := fin0 H4 x 1 hs4 hx
        subst e0
        simp (maxSteps := 1000000) [go_sem, c4]
        exact fin
      · have e0' : (z4 == 0) = false := by simpa using e0
        by_cases e1 : z4 = 12
        · have fin := fin0 H4 x 2 hs4 hx
          subst e1
          simp (maxSteps := 1000000) [go_sem, c4]
          exact fin
        · have fin := fin0 H4 x 0 hs4 hx
          have e1' : (z4 == 12) = false := by simpa using e1
          simp (maxSteps := 1000000) [go_sem, c4, e0, e0', e1, e1']
          exact fin
    · have h50' : ¬ ((50 : Int) <= l) := by omega
      simp (maxSteps := 1000000) [go_sem, w0, w1, w1', w2, w3, w4, w5, w6, h8, h8', h50, h50']
      have hA0 := hA.pre hp0
      have hB0 : Same (fun k => k = id) H (H ++ [⟨[.int .i64 0], true, true⟩]) := Same.of_prefix hp0
      generalize H ++ [(⟨[.int .i64 0], true, true⟩ : Blk)] = H0 at hp0 hz0 fin0 hA0 hB0 ⊢
      refine medianO_ok hA0 hn hl (by omega) (by omega) (by omega) hQ hC hB0 hz0 (Nat.le_refl _) (by omega) _ ?_
      intro H4 x z4 hs4 hz4 h4
      have c4 := lz hz4
      have hx : a <= x /\ x < b := by omega
      by_cases e0 : z4 = 0
      · have fin := fin0 H4 x 1 hs4 hx
        subst e0
        simp (maxSteps := 1000000) [go_sem, c4]
        exact fin
      · have e0' : (z4 == 0) = false := by simpa using e0
        by_cases e1 : z4 = 12
        · have fin := fin0 H4 x 2 hs4 hx
          subst e1
          simp (maxSteps := 1000000) [go_sem, c4]
          exact fin
        · have fin := fin0 H4 x 0 hs4 hx
          have e1' : (z4 == 12) = false := by simpa using e1
          simp (maxSteps := 1000000) [go_sem, c4, e0, e0', e1, e1']
          exact fin
  · have h8' : ¬ ((8 : Int) <= l) := by omega
    have fin := fin0 _ j 1 (Same.refl _ _) (by omega)
    simp (maxSteps := 1000000) [go_sem, w0, w1, w1', w2, w3, w4, w5, w6, h8, h8']
    exact fin

end Go.Proofs.YtfnegaedkomcgaaGreat
end
