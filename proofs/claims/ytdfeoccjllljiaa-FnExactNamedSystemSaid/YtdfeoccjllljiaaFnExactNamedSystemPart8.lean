/- Part 8 of what the proof of the law FnExactNamedSystem rests on: contracts of functions of the program, for every argument that each names; no statement of the seat is proved here. -/
import Derived.Test.YtdfeoccjllljiaaFnExactNamedSystemPart7

section
/- Regions whose order is open, with operations that hang on nothing (a new cell, an empty list): at each effect ahead of such a one, both ways are shown. It holds for every program. -/
set_option linter.all false
namespace Go.Ab
open Go.RowKit (Below)

def pairOKF (ops : Array Oper) (fs : List Nat) (ms : List Nat) (x y : Nat × Bool) : Bool :=
  match ops[x.1]?, ops[y.1]? with
  | some p, some q =>
    let d := (ms.getD y.1 0).testBit x.1
    !directTo p y.1 && x.1 != y.1 &&
    (match isR p.op with
     | true => (d || indep ops p q) && (isR q.op || y.2 || !readsH p.op || d)
     | false => d || (fs.contains y.1 && y.2 && !isR q.op))
  | _, _ => false
def pairsOKF (ops : Array Oper) (fs : List Nat) (ms : List Nat) : List (Nat × Bool) → Bool
  | [] => true
  | x :: l => l.all (pairOKF ops fs ms x) && pairsOKF ops fs ms l
def drawOKF (ops : Array Oper) (fs : List Nat) (canon : List (Nat × Bool)) : Bool :=
  let ms := masksGo ops.toList []
  pairsOKF ops fs ms canon && edgesOK ops && decide (canon.length = ops.size) && canon.all (fun x => decide (x.1 < ops.size)) && (List.range ops.size).all (fun i => (canon.map (·.1)).contains i)

section
variable {P : Program} {N : Nat} {ops : Array Oper} {K : Fr → Heap → Prop} {fs : List Nat}

/-- With both ways at each effect. -/
def vF (P : Program) (N : Nat) (ops : Array Oper) (fs : List Nat) (K : Fr → Heap → Prop) : Nat → List (Nat × Bool) → Fr → Heap → Prop
  | _, [], fr, H => K fr H
  | 0, _ :: _, _, _ => False
  | n + 1, (i, fl) :: l, fr, H => match ops[i]? with
    | none => False
    | some o => match isR o.op with
      | true => vstep P N ops o (vF P N ops fs K n l) fr H
      | false => vstep P N ops o (eK fl H (vF P N ops fs K n l)) fr H ∧
          ∀ f, f ∈ fs → f ∈ l.map (·.1) → ∃ o', ops[f]? = some o' ∧ isR o'.op = false ∧ vstep P N ops o' (eK true H (vF P N ops fs K n ((i, fl) :: l.filter fun y => y.1 != f))) fr H

theorem vstep_closed {o : Oper} {T : Fr → Heap → Prop} (hT : Closed T) {f g : Fr} {H : Heap} (hfg : feq f g) (h : vstep P N ops o T f H) : vstep P N ops o T g H := by
  cases hR : isR o.op with
  | true =>
    obtain ⟨v, h1, h2⟩ := vstep_R hR hT h
    exact h2 g H _ hT (agreeG.of_feq hfg) (fun _ => List.prefix_refl _) (hT _ _ _ (hfg.put _ _) h1)
  | false =>
    refine vstep_weak (vstep_E hT h (agreeG.of_feq hfg)) ?_
    rintro f' h' ⟨v, h1, h2⟩
    exact hT _ _ _ ((hfg.put _ _).trans h1) h2
theorem eK_closed {fl : Bool} {H : Heap} {T : Fr → Heap → Prop} (hT : Closed T) : Closed (eK fl H T) := by
  intro f g h' hfg hk
  cases fl with
  | true => exact ⟨hk.1, hT _ _ _ hfg hk.2⟩
  | false => exact hT _ _ _ hfg hk
theorem vF_closed (hK : Closed K) : ∀ n l, Closed (vF P N ops fs K n l)
  | 0, [] => hK
  | n + 1, [] => hK
  | 0, _ :: _ => fun _ _ _ _ h => h
  | n + 1, (i, fl) :: l => by
    intro f g H hfg h
    simp only [vF] at h ⊢
    split at h
    · exact h.elim
    · rename_i o ho
      cases hR : isR o.op with
      | true => simp only [hR] at h ⊢; exact vstep_closed (vF_closed hK n l) hfg h
      | false =>
        simp only [hR] at h ⊢
        refine ⟨vstep_closed (eK_closed (vF_closed hK n l)) hfg h.1, fun f hf hm => ?_⟩
        obtain ⟨o', h1, h2, h3⟩ := h.2 f hf hm
        exact ⟨o', h1, h2, vstep_closed (eK_closed (vF_closed hK n _)) hfg h3⟩

/-- Reads one after the other. -/
def seqR (P : Program) (N : Nat) (ops : Array Oper) (T : Fr → Heap → Prop) : List (Nat × Bool) → Fr → Heap → Prop
  | [], fr, H => T fr H
  | (j, _) :: l, fr, H => match ops[j]? with
    | none => False
    | some p => vstep P N ops p (seqR P N ops T l) fr H
theorem seqR_closed {T : Fr → Heap → Prop} (hT : Closed T) : ∀ l, Closed (seqR P N ops T l)
  | [] => hT
  | (j, fj) :: l => by
    intro f g H hfg h
    simp only [seqR] at h ⊢
    split at h
    · exact h.elim
    · exact vstep_closed (seqR_closed hT l) hfg h
theorem vF_seqR {n : Nat} {rest : List (Nat × Bool)} : ∀ (l1 : List (Nat × Bool)) (fr : Fr) (H : Heap), (∀ x ∈ l1, ∃ p, ops[x.1]? = some p ∧ isR p.op = true) →
    (vF P N ops fs K (l1.length + n) (l1 ++ rest) fr H ↔ seqR P N ops (vF P N ops fs K n rest) l1 fr H)
  | [], fr, H, _ => by simp [seqR]
  | (j, fj) :: l1, fr, H, hl => by
    obtain ⟨p, hp, hR⟩ := hl (j, fj) (by simp)
    have ih := fun fr H => vF_seqR (n := n) (rest := rest) l1 fr H fun x hx => hl x (by simp [hx])
    rw [show ((j, fj) :: l1).length + n = (l1.length + n) + 1 by simp; omega]
    simp only [List.cons_append, vF, seqR, hp, hR]
    exact ⟨fun h => vstep_weak h fun f h => (ih f h).1, fun h => vstep_weak h fun f h => (ih f h).2⟩

theorem front_gen {o : Oper} {fl : Bool} {T T' : Fr → Heap → Prop} (hT : Closed T) (hT' : Closed T') (hstep : ∀ fr H, T fr H → vstep P N ops o (fun f h => rel o fl H h ∧ T' f h) fr H) : ∀ (l1 : List (Nat × Bool)) (fr : Fr) (H : Heap),
    (∀ x ∈ l1, ∃ p, ops[x.1]? = some p ∧ isR p.op = true ∧ indep ops p o = true ∧ (readsH p.op = true → isR o.op = true ∨ fl = true)) →
    seqR P N ops T l1 fr H → vstep P N ops o (fun f h => rel o fl H h ∧ seqR P N ops T' l1 f h) fr H
  | [], fr, H, _, h => hstep fr H h
  | (j, fj) :: l1, fr, H, hl, h => by
    obtain ⟨p, hp, hR, hin, hrd⟩ := hl (j, fj) (by simp)
    simp only [seqR, hp] at h ⊢
    have hc1 := seqR_closed (P := P) (N := N) (ops := ops) hT l1
    have hc2 := seqR_closed (P := P) (N := N) (ops := ops) hT' l1
    obtain ⟨v, h1, h2⟩ := vstep_R hR hc1 h
    have ih := front_gen hT hT' hstep l1 (fr.put p.dst v) H (fun x hx => hl x (by simp [hx])) h1
    obtain ⟨i1, i2, i3⟩ := indep_spec hin
    have hcK : Closed (fun f h => rel o fl H h ∧ seqR P N ops T' l1 f h) := fun f g h hfg hk => ⟨hk.1, hc2 _ _ _ hfg hk.2⟩
    have hag : agreeG ops o (fr.put p.dst v) fr := agreeG.symm (agreeG.put i1)
    refine vstep_weak (vstep_E hcK ih hag) ?_
    rintro f h' ⟨u, hf, hrel, hv⟩
    refine ⟨hrel, ?_⟩
    have hvE : vstep P N ops p (seqR P N ops T' l1) (fr.put o.dst u) h' := by
      refine h2 (fr.put o.dst u) h' _ hc2 (agreeG.put i2) (fun hr => hrel (hrd hr)) ?_
      exact hc2 _ _ _ (put_comm fr i3 v u) hv
    exact vstep_closed hc2 hf hvE

theorem eK_rel {o : Oper} {fl : Bool} {T : Fr → Heap → Prop} {fr : Fr} {H : Heap} (hR : isR o.op = false) (h : vstep P N ops o (eK fl H T) fr H) : vstep P N ops o (fun f h => rel o fl H h ∧ T f h) fr H := by
  refine vstep_weak h ?_
  intro f h' hk
  cases fl with
  | true => exact ⟨fun _ => hk.1, hk.2⟩
  | false => exact ⟨fun e => by simp [hR] at e, hk⟩

/-- What is behind reads only comes first. -/
theorem vF_front (hK : Closed K) {n i : Nat} {fl : Bool} {l1 l2 : List (Nat × Bool)} {o : Oper} (ho : ops[i]? = some o) {fr : Fr} {H : Heap}
    (hl1 : ∀ x ∈ l1, ∃ p, ops[x.1]? = some p ∧ isR p.op = true ∧ indep ops p o = true ∧ (readsH p.op = true → isR o.op = true ∨ fl = true))
    (h : vF P N ops fs K (l1.length + (n + 1)) (l1 ++ (i, fl) :: l2) fr H) : vstep P N ops o (fun f h => rel o fl H h ∧ vF P N ops fs K (l1.length + n) (l1 ++ l2) f h) fr H := by
  have hl1' : ∀ x ∈ l1, ∃ p, ops[x.1]? = some p ∧ isR p.op = true := fun x hx => by obtain ⟨p, h1, h2, _⟩ := hl1 x hx; exact ⟨p, h1, h2⟩
  rw [vF_seqR l1 fr H hl1'] at h
  have hstep : ∀ fr H, vF P N ops fs K (n + 1) ((i, fl) :: l2) fr H → vstep P N ops o (fun f h => rel o fl H h ∧ vF P N ops fs K n l2 f h) fr H := by
    intro fr H h
    simp only [vF, ho] at h
    cases hR : isR o.op with
    | true =>
      simp only [hR] at h
      obtain ⟨v, h1, h2⟩ := vstep_R hR (vF_closed hK n l2) h
      refine h2 fr H _ ?_ (fun _ _ => rfl) (fun _ => List.prefix_refl _) ⟨fun _ => List.prefix_refl _, h1⟩
      intro f g h hfg hk
      exact ⟨hk.1, vF_closed hK n l2 _ _ _ hfg hk.2⟩
    | false => simp only [hR] at h; exact eK_rel hR h.1
  refine vstep_weak (front_gen (vF_closed hK _ _) (vF_closed hK n l2) hstep l1 fr H hl1 h) ?_
  rintro f h' ⟨h1, h2⟩
  exact ⟨h1, (vF_seqR l1 f h' hl1').2 h2⟩
/-- What hangs on nothing comes ahead of the first effect. -/
theorem vF_float (hK : Closed K) {n i f : Nat} {fl : Bool} {r1 l2 : List (Nat × Bool)} {o o' : Oper} (ho : ops[i]? = some o) (hE : isR o.op = false) (hf : ops[f]? = some o') (hff : f ∈ fs) (hfl : f ∈ l2.map (·.1)) {fr : Fr} {H : Heap}
    (hl1 : ∀ x ∈ r1, ∃ p, ops[x.1]? = some p ∧ isR p.op = true ∧ indep ops p o' = true)
    (h : vF P N ops fs K (r1.length + (n + 1)) (r1 ++ (i, fl) :: l2) fr H) : vstep P N ops o' (fun f' h => rel o' true H h ∧ vF P N ops fs K (r1.length + n) (r1 ++ (i, fl) :: l2.filter fun y => y.1 != f) f' h) fr H := by
  have hl1' : ∀ x ∈ r1, ∃ p, ops[x.1]? = some p ∧ isR p.op = true := fun x hx => by obtain ⟨p, h1, h2, _⟩ := hl1 x hx; exact ⟨p, h1, h2⟩
  rw [vF_seqR r1 fr H hl1'] at h
  have hstep : ∀ fr H, vF P N ops fs K (n + 1) ((i, fl) :: l2) fr H → vstep P N ops o' (fun f' h => rel o' true H h ∧ vF P N ops fs K n ((i, fl) :: l2.filter fun y => y.1 != f) f' h) fr H := by
    intro fr H h
    simp only [vF, ho, hE] at h
    obtain ⟨o2, h1, h2, h3⟩ := h.2 f hff hfl
    rw [hf] at h1; cases h1
    exact eK_rel h2 h3
  refine vstep_weak (front_gen (vF_closed hK _ _) (vF_closed hK n _) hstep r1 fr H (fun x hx => by obtain ⟨p, h1, h2, h3⟩ := hl1 x hx; exact ⟨p, h1, h2, h3, fun _ => .inr rfl⟩) h) ?_
  rintro f h' ⟨h1, h2⟩
  exact ⟨h1, (vF_seqR r1 f h' hl1').2 h2⟩

theorem pairsOKF_spec {ms : List Nat} : ∀ {l1 : List (Nat × Bool)} {y : Nat × Bool} {l2 : List (Nat × Bool)}, pairsOKF ops fs ms (l1 ++ y :: l2) = true → (∀ x ∈ l1, pairOKF ops fs ms x y = true) ∧ (∀ z ∈ l2, pairOKF ops fs ms y z = true) ∧ pairsOKF ops fs ms (l1 ++ l2) = true
  | [], y, l2, h => by
    simp only [List.nil_append, pairsOKF, Bool.and_eq_true, List.all_eq_true] at h
    exact ⟨by simp, h.1, h.2⟩
  | x :: l1, y, l2, h => by
    simp only [List.cons_append, pairsOKF, Bool.and_eq_true, List.all_eq_true] at h ⊢
    obtain ⟨h1, h2⟩ := h
    obtain ⟨h3, h4, h5⟩ := pairsOKF_spec h2
    refine ⟨fun z hz => ?_, h4, fun z hz => h1 z ?_, h5⟩
    · rcases List.mem_cons.1 hz with rfl | hz
      · exact h1 y (by simp)
      · exact h3 z hz
    · rcases List.mem_append.1 hz with hz | hz
      · simp [hz]
      · simp [hz]

/-- The first effect of a list. -/
theorem first_effect : ∀ (l : List (Nat × Bool)), (∀ x ∈ l, ∃ p, ops[x.1]? = some p) → (∀ x ∈ l, ∃ p, ops[x.1]? = some p ∧ isR p.op = true) ∨
    ∃ r1 e o r2, l = r1 ++ e :: r2 ∧ ops[e.1]? = some o ∧ isR o.op = false ∧ ∀ x ∈ r1, ∃ p, ops[x.1]? = some p ∧ isR p.op = true
  | [], _ => .inl (by simp)
  | x :: l, h => by
    obtain ⟨p, hp⟩ := h x (by simp)
    cases hR : isR p.op with
    | false => exact .inr ⟨[], x, p, l, rfl, hp, hR, by simp⟩
    | true =>
      rcases first_effect l fun y hy => h y (by simp [hy]) with h1 | ⟨r1, e, o, r2, rfl, h2, h3, h4⟩
      · left
        intro y hy
        rcases List.mem_cons.1 hy with rfl | hy
        · exact ⟨p, hp, hR⟩
        · exact h1 y hy
      · refine .inr ⟨x :: r1, e, o, r2, rfl, h2, h3, fun y hy => ?_⟩
        rcases List.mem_cons.1 hy with rfl | hy
        · exact ⟨p, hp, hR⟩
        · exact h4 y hy

theorem drawF_any {B : Nat} {w0 : World} {Q : Exit → Act → World → Prop} (hK : Closed K) (hedge : edgesOK ops = true) : ∀ (n : Nat) (listed : Array Bool) (l : List (Nat × Bool)) (fr : Fr) (H : Heap) (ρ : Rho) (w : World) (a : Act),
    listed.size = ops.size → l.length = n → pairsOKF ops fs (masksGo ops.toList []) l = true → (∀ x ∈ l, x.1 < ops.size ∧ listed.getD x.1 true = false) → (∀ i, i < ops.size → listed.getD i true = false → ∃ x ∈ l, x.1 = i) →
    (∀ (j : Nat) (o : Oper), ops[j]? = some o → listed.getD j false = true → ∀ e ∈ o.after.toList, Region.binds .any e = true → listed.getD e.on false = true) →
    vF P N ops fs K n l fr H → R B w0 ρ H w → FR N ρ fr a →
    (∀ (ρ' : Rho) (fr' : Fr) (H' : Heap) (a' : Act) (w' : World), ρ <+: ρ' → K fr' H' → R B w0 ρ' H' w' → FR N ρ' fr' a' → Q .normal a' w') → wpAny P .any ops Q n listed a w := by
  intro n
  have getD2 : ∀ (listed : Array Bool) (i : Nat), listed.size = ops.size → i < ops.size → listed.getD i true = listed.getD i false := by
    intro listed i h1 h2
    simp [Array.getD_eq_getD_getElem?, h1, h2]
  induction n with
  | zero =>
    intro listed l fr H ρ w a hsz hl hp hin hall hcl hv hR hF hq
    have : l = [] := List.eq_nil_of_length_eq_zero hl
    subst this
    refine ⟨?_, hq ρ fr H a w (List.prefix_refl _) hv hR hF⟩
    rw [List.eq_nil_iff_forall_not_mem]
    intro i hi
    simp only [Region.ready, List.mem_filter, List.mem_range, Bool.and_eq_true, Bool.not_eq_true'] at hi
    obtain ⟨x, hx, _⟩ := hall i hi.1 hi.2.1
    simp at hx
  | succ n ih =>
    intro listed l fr H ρ w a hsz hl hp hin hall hcl hv hR hF hq
    refine ⟨?_, ?_⟩
    · intro hnil
      exfalso
      match l, hl with
      | (i, fl) :: l, hl =>
        obtain ⟨h1, h2⟩ := hin (i, fl) (by simp)
        have hi : i ∈ Region.ready .any ops listed := by
          simp only [Region.ready, List.mem_filter, List.mem_range, Bool.and_eq_true, Bool.not_eq_true']
          refine ⟨h1, h2, ?_⟩
          rw [Array.getElem?_eq_getElem h1]
          simp only [Option.map_some, Option.getD_some, Array.all_eq_true']
          intro e he
          rw [Bool.or_eq_true, Bool.not_eq_true']
          by_cases hb : Region.binds .any e = true
          · right
            have hedge' := List.all_eq_true.1 hedge i (by simpa using h1)
            simp only [Array.getElem?_eq_getElem h1, List.all_eq_true] at hedge'
            have he' := hedge' e (by simpa using he)
            simp only [hb, Bool.not_true, Bool.false_or, Bool.and_eq_true, decide_eq_true_eq, bne_iff_ne, ne_eq] at he'
            rw [← getD2 listed e.on hsz he'.1]
            cases hg : listed.getD e.on true with
            | true => rfl
            | false =>
              obtain ⟨x, hx, hxe⟩ := hall e.on he'.1 hg
              rcases List.mem_cons.1 hx with rfl | hx
              · exact absurd hxe.symm he'.2
              · have hpo := (pairsOKF_spec (l1 := []) hp).2.1 x hx
                have hx1 := (hin x (by simp [hx])).1
                simp only [pairOKF, Array.getElem?_eq_getElem h1, Array.getElem?_eq_getElem hx1, Bool.and_eq_true, Bool.not_eq_true'] at hpo
                have hd := hpo.1.1
                simp only [directTo, List.any_eq_false, Bool.and_eq_true, beq_iff_eq, not_and] at hd
                exact absurd hxe.symm (hd e (by simpa using he) hb)
          · left; simpa using hb
        rw [hnil] at hi
        simp at hi
    · intro i hi
      simp only [Region.ready, List.mem_filter, List.mem_range, Bool.and_eq_true, Bool.not_eq_true'] at hi
      obtain ⟨hilt, hnl, hrdy⟩ := hi
      rw [Array.getElem?_eq_getElem hilt] at hrdy
      simp only [Option.map_some, Option.getD_some, Array.all_eq_true'] at hrdy
      have ho : ops[i]? = some ops[i] := Array.getElem?_eq_getElem hilt
      obtain ⟨x, hx, hxi⟩ := hall i hilt hnl
      obtain ⟨l1, l2, rfl⟩ := List.append_of_mem hx
      obtain ⟨i', fl⟩ := x
      simp only at hxi
      subst hxi
      obtain ⟨hp1, hp2, hp3⟩ := pairsOKF_spec hp
      have hpre : ∀ e ∈ (ops[i']).after.toList, Region.binds .any e = true → listed.getD e.on false = true := by
        intro e he hb
        have := hrdy e (by simpa using he)
        simpa [hb] using this
      have hdep : ∀ y ∈ l1, ¬ ((masksGo ops.toList []).getD i' 0).testBit y.1 = true := by
        intro y hy hb
        have := masks_sound (ops := ops) (fun j => listed.getD j false = true) hcl ops.toList [] (fun j _ => by simp) (fun j o p hj => by simp at hj) i' _ y.1 ho hb hpre
        obtain ⟨hy1, hy2⟩ := hin y (by simp [hy])
        rw [getD2 listed y.1 hsz hy1] at hy2
        rw [hy2] at this; cases this
      have hR1 : ∀ y ∈ l1, ∀ p, ops[y.1]? = some p → isR p.op = true → indep ops p ops[i'] = true ∧ (readsH p.op = true → isR (ops[i']).op = true ∨ fl = true) := by
        intro y hy p hp' hRp
        have hy1 := (hin y (by simp [hy])).1
        have hpo := hp1 y hy
        have hd := hdep y hy
        simp only [pairOKF, hp', ho, Bool.and_eq_true] at hpo
        have hpo2 := hpo.2
        simp only [Bool.not_eq_true] at hd
        simp only [hRp, hd, Bool.false_or, Bool.or_false, Bool.and_eq_true, Bool.or_eq_true, Bool.not_eq_true'] at hpo2
        refine ⟨hpo2.1, fun hr => ?_⟩
        rcases hpo2.2 with (h | h) | h
        · exact .inl h
        · exact .inr h
        · rw [hr] at h; cases h
      have hE1 : ∀ y ∈ l1, ∀ p, ops[y.1]? = some p → isR p.op = false → i' ∈ fs ∧ fl = true ∧ isR (ops[i']).op = false := by
        intro y hy p hp' hRp
        have hpo := hp1 y hy
        have hd := hdep y hy
        simp only [pairOKF, hp', ho, Bool.and_eq_true] at hpo
        have hpo2 := hpo.2
        simp only [Bool.not_eq_true] at hd
        simp only [hRp, hd, Bool.false_or, Bool.and_eq_true, Bool.not_eq_true', List.contains_iff_mem] at hpo2
        exact ⟨hpo2.1.1, hpo2.1.2, hpo2.2⟩
      have hnd : ∀ y ∈ l1 ++ l2, y.1 ≠ i' := by
        intro y hy e
        rcases List.mem_append.1 hy with hy | hy
        · have hpo := hp1 y hy
          have hy1 := (hin y (by simp [hy])).1
          simp [pairOKF, Array.getElem?_eq_getElem hy1, ho, e] at hpo
        · have hpo := hp2 y hy
          have hy1 := (hin y (by simp [hy])).1
          simp [pairOKF, Array.getElem?_eq_getElem hy1, ho, e] at hpo
      have hstep : vstep P N ops ops[i'] (fun f h => rel ops[i'] fl H h ∧ vF P N ops fs K n (l1 ++ l2) f h) fr H := by
        simp only [List.length_append, List.length_cons] at hl
        rcases first_effect (ops := ops) l1 (fun x hx => ⟨_, Array.getElem?_eq_getElem (hin x (by simp [hx])).1⟩) with hall1 | ⟨r1, e, oe, r2, rfl, he1, he2, he3⟩
        · rw [show n = l1.length + l2.length by omega]
          rw [show n + 1 = l1.length + (l2.length + 1) by omega] at hv
          exact vF_front hK ho (fun x hx => by obtain ⟨p, h1, h2⟩ := hall1 x hx; obtain ⟨h3, h4⟩ := hR1 x hx p h1 h2; exact ⟨p, h1, h2, h3, h4⟩) hv
        · obtain ⟨hif, hfl, hEi⟩ := hE1 e (by simp) oe he1 he2
          subst hfl
          simp only [List.length_append, List.length_cons] at hl
          rw [show n + 1 = r1.length + ((r2.length + 1 + l2.length) + 1) by omega, List.append_assoc, List.cons_append] at hv
          have hfilt : (r2 ++ (i', true) :: l2).filter (fun y => y.1 != i') = r2 ++ l2 := by
            rw [List.filter_append, List.filter_cons]
            simp only [bne_self_eq_false, Bool.false_eq_true, if_false]
            rw [List.filter_eq_self.2, List.filter_eq_self.2]
            · intro y hy; simpa using hnd y (by simp [hy])
            · intro y hy; simpa using hnd y (by simp [hy])
          have := vF_float (f := i') hK he1 he2 ho hif (by simp) (fun x hx => by
            obtain ⟨p, h1, h2⟩ := he3 x hx
            exact ⟨p, h1, h2, (hR1 x (by simp [hx]) p h1 h2).1⟩) hv
          rw [hfilt] at this
          rw [show n = r1.length + (r2.length + 1 + l2.length) by omega, List.append_assoc, List.cons_append]
          exact this
      unfold wpOp
      rw [ho]
      refine vstep_sound hstep hR hF Q ?_
      rintro ρ' fr' H' a' w' hpre' ⟨_, hv'⟩ hR' hF'
      refine ih (listed.setIfInBounds i' true) (l1 ++ l2) fr' H' ρ' w' a' (by simpa using hsz) (by simp at hl ⊢; omega) hp3 ?_ ?_ ?_ hv' hR' hF' (fun ρ'' f'' H'' a'' w'' h1 => hq ρ'' f'' H'' a'' w'' (hpre'.trans h1))
      · intro y hy
        have hne := hnd y hy
        obtain ⟨h1, h2⟩ := hin y (by rcases List.mem_append.1 hy with hy | hy <;> simp [hy])
        exact ⟨h1, by rw [getD_set_ne _ (fun e => hne e.symm)]; exact h2⟩
      · intro j hj hnj
        by_cases e : i' = j
        · subst e
          exfalso
          have : (listed.setIfInBounds i' true).getD i' true = true := by simp [Array.getD_eq_getD_getElem?]
          rw [this] at hnj; cases hnj
        · rw [getD_set_ne _ e] at hnj
          obtain ⟨y, hy, rfl⟩ := hall j hj hnj
          refine ⟨y, ?_, rfl⟩
          rcases List.mem_append.1 hy with hy | hy
          · simp [hy]
          · rcases List.mem_cons.1 hy with rfl | hy
            · exact absurd rfl e
            · simp [hy]
      · intro j o hj hlj e he hb
        by_cases e' : i' = j
        · subst e'
          rw [ho] at hj; cases hj
          exact getD_set_true (hpre e he hb)
        · rw [getD_set_ne _ e'] at hlj
          exact getD_set_true (hcl j o hj hlj e he hb)

/-- Both ways, written out. -/
inductive Tree
  | nil
  | one (i : Nat) (fl : Bool) (t : Tree)
  | two (i : Nat) (fl : Bool) (t : Tree) (f : Nat) (t' : Tree)

def vT (P : Program) (N : Nat) (ops : Array Oper) (K : Fr → Heap → Prop) : Tree → Fr → Heap → Prop
  | .nil, fr, H => K fr H
  | .one i fl t, fr, H => match ops[i]? with
    | none => False
    | some o => match isR o.op with
      | true => vstep P N ops o (vT P N ops K t) fr H
      | false => vstep P N ops o (eK fl H (vT P N ops K t)) fr H
  | .two i fl t f t', fr, H => match ops[i]?, ops[f]? with
    | some o, some o' => vstep P N ops o (eK fl H (vT P N ops K t)) fr H ∧ vstep P N ops o' (eK true H (vT P N ops K t')) fr H
    | _, _ => False
def treeOK (ops : Array Oper) (fs : List Nat) : Tree → List (Nat × Bool) → Bool
  | .nil, l => l.isEmpty
  | .one i fl t, (j, fl') :: l => i == j && fl == fl' && ((match ops[i]? with | some o => isR o.op | none => false) || fs.all fun f => !(l.map (·.1)).contains f) && treeOK ops fs t l
  | .two i fl t f t', (j, fl') :: l => i == j && fl == fl' && (match ops[i]?, ops[f]? with | some o, some o' => !isR o.op && !isR o'.op | _, _ => false) && (fs.all fun g => g == f || !(l.map (·.1)).contains g) && treeOK ops fs t l && treeOK ops fs t' ((j, fl') :: l.filter fun y => y.1 != f)
  | _, [] => false
theorem vT_vF : ∀ (t : Tree) (n : Nat) (l : List (Nat × Bool)) (fr : Fr) (H : Heap), l.length ≤ n → (∀ x y, x ∈ l → y ∈ l → x.1 = y.1 → x = y) → treeOK ops fs t l = true → vT P N ops K t fr H → vF P N ops fs K n l fr H := by
  intro t
  induction t with
  | nil =>
    intro n l fr H hn _ hok h
    cases l with
    | nil => cases n <;> exact h
    | cons x l => simp [treeOK] at hok
  | one i fl t ih =>
    intro n l fr H hn hu hok h
    cases l with
    | nil => simp [treeOK] at hok
    | cons x l =>
      obtain ⟨j, fl'⟩ := x
      simp only [treeOK, Bool.and_eq_true, beq_iff_eq] at hok
      obtain ⟨⟨⟨rfl, rfl⟩, hfl⟩, hok⟩ := hok
      cases n with
      | zero => simp at hn
      | succ n =>
        simp only [List.length_cons] at hn
        have hu' : ∀ x y, x ∈ l → y ∈ l → x.1 = y.1 → x = y := fun x y hx hy => hu x y (by simp [hx]) (by simp [hy])
        simp only [vT] at h
        simp only [vF]
        cases ho : ops[i]? with
        | none => simp [ho] at h
        | some o =>
          simp only [ho] at h hfl ⊢
          cases hR : isR o.op with
          | true => simp only [hR] at h ⊢; exact vstep_weak h fun f h => ih n l f h (by omega) hu' hok
          | false =>
            simp only [hR, Bool.false_or, List.all_eq_true] at h hfl ⊢
            refine ⟨vstep_weak h fun f h' hk => ?_, fun f hf hm => ?_⟩
            · cases fl with
              | true => exact ⟨hk.1, ih n l f h' (by omega) hu' hok hk.2⟩
              | false => exact ih n l f h' (by omega) hu' hok hk
            · have := hfl f hf
              simp only [Bool.not_eq_true', List.contains_eq_mem, decide_eq_false_iff_not] at this
              exact absurd hm this
  | two i fl t f t' ih ih' =>
    intro n l fr H hn hu hok h
    cases l with
    | nil => simp [treeOK] at hok
    | cons x l =>
      obtain ⟨j, fl'⟩ := x
      simp only [treeOK, Bool.and_eq_true, beq_iff_eq] at hok
      obtain ⟨⟨⟨⟨⟨rfl, rfl⟩, hE⟩, hfl⟩, hok⟩, hok'⟩ := hok
      cases n with
      | zero => simp at hn
      | succ n =>
        simp only [List.length_cons] at hn
        have hu' : ∀ x y, x ∈ l → y ∈ l → x.1 = y.1 → x = y := fun x y hx hy => hu x y (by simp [hx]) (by simp [hy])
        simp only [vT] at h
        simp only [vF]
        cases ho : ops[i]? with
        | none => simp [ho] at h
        | some o =>
          cases ho' : ops[f]? with
          | none => simp [ho, ho'] at h
          | some o' =>
            simp only [ho, ho', Bool.and_eq_true, Bool.not_eq_true'] at h hE ⊢
            simp only [hE.1]
            refine ⟨vstep_weak h.1 fun g h' hk => ?_, fun g hg hm => ?_⟩
            · cases fl with
              | true => exact ⟨hk.1, ih n l g h' (by omega) hu' hok hk.2⟩
              | false => exact ih n l g h' (by omega) hu' hok hk
            · rw [List.all_eq_true] at hfl
              have hgf := hfl g hg
              simp only [Bool.or_eq_true, beq_iff_eq, Bool.not_eq_true', List.contains_eq_mem, decide_eq_false_iff_not] at hgf
              have : g = f := hgf.resolve_right (fun e => e hm)
              subst this
              refine ⟨o', ho', hE.2, vstep_weak h.2 fun q h' hk => ⟨hk.1, ih' n _ q h' ?_ ?_ hok' hk.2⟩⟩
              · obtain ⟨z, hz, hzg⟩ := List.mem_map.1 hm
                have : (l.filter fun y => y.1 != g).length < l.length := by
                  rw [List.length_filter_lt_length_iff_exists]
                  exact ⟨z, hz, by simp [hzg]⟩
                simp only [List.length_cons]; omega
              · intro x y hx hy
                refine hu x y ?_ ?_
                · rcases List.mem_cons.1 hx with rfl | hx
                  · simp
                  · exact List.mem_cons_of_mem _ (List.mem_filter.1 hx).1
                · rcases List.mem_cons.1 hy with rfl | hy
                  · simp
                  · exact List.mem_cons_of_mem _ (List.mem_filter.1 hy).1

theorem AWp.drawF {id : Nat} {fr : Fr} {H : Heap} {Q : Exit → Fr → Heap → Prop} (hm : P.follows .mixedOrders = true) (fs : List Nat) (canon : List (Nat × Bool)) (t : Tree) (hok : (drawOKF ops fs canon && treeOK ops fs t canon) = true) (h : vT P N ops (Q .normal) t fr H) : AWp P N (.region id ops true) Q fr H := by
  intro B w0 ρ w a hR hF
  simp only [drawOKF, Bool.and_eq_true, decide_eq_true_eq, List.all_eq_true, List.mem_range, List.contains_iff_mem, List.mem_map] at hok
  obtain ⟨⟨⟨⟨⟨h1, h2⟩, h3⟩, h4⟩, h5⟩, h6⟩ := hok
  refine wp_region_any hm ?_
  let K : Fr → Heap → Prop := fun f h => ∃ g, feq g f ∧ Q .normal g h
  have hK : Closed K := fun f g h hfg ⟨k, hk, hq⟩ => ⟨k, hk.trans hfg, hq⟩
  have hu : ∀ x y, x ∈ canon → y ∈ canon → x.1 = y.1 → x = y := by
    intro x y hx hy e
    obtain ⟨l1, l2, rfl⟩ := List.append_of_mem hx
    obtain ⟨hp1, hp2, _⟩ := pairsOKF_spec h1
    rcases List.mem_append.1 hy with hy | hy
    · have := hp1 y hy
      unfold pairOKF at this
      split at this
      · simp [e] at this
      · cases this
    · rcases List.mem_cons.1 hy with rfl | hy
      · rfl
      · have := hp2 y hy
        unfold pairOKF at this
        split at this
        · simp [e] at this
        · cases this
  have hv : vF P N ops fs K ops.size canon fr H := by
    refine vT_vF t ops.size canon fr H (by omega) hu h6 ?_
    have weak : ∀ (t : Tree) (fr : Fr) (H : Heap), vT P N ops (Q .normal) t fr H → vT P N ops K t fr H := by
      intro t
      induction t with
      | nil => exact fun fr H h => ⟨fr, feq.rfl' _, h⟩
      | one i fl t ih =>
        intro fr H h
        simp only [vT] at h ⊢
        split at h
        · exact h
        · rename_i o ho
          cases hR : isR o.op with
          | true => simp only [hR] at h ⊢; exact vstep_weak h ih
          | false =>
            simp only [hR] at h ⊢
            refine vstep_weak h ?_
            intro f h' hk
            cases fl with
            | true => exact ⟨hk.1, ih _ _ hk.2⟩
            | false => exact ih _ _ hk
      | two i fl t f t' ih ih' =>
        intro fr H h
        simp only [vT] at h ⊢
        split at h
        · rename_i o o' ho ho'
          refine ⟨vstep_weak h.1 ?_, vstep_weak h.2 fun f h' hk => ⟨hk.1, ih' _ _ hk.2⟩⟩
          intro f h' hk
          cases fl with
          | true => exact ⟨hk.1, ih _ _ hk.2⟩
          | false => exact ih _ _ hk
        · exact h
    exact weak t fr H h
  have hgt : ∀ i, i < ops.size → (Array.replicate ops.size false).getD i true = false := by
    intro i hi
    simp [Array.getD_eq_getD_getElem?, hi]
  refine drawF_any (B := B) (w0 := w0) hK h2 ops.size (Array.replicate ops.size false) canon fr H ρ w.drew a (by simp) h3 h1 ?_ ?_ ?_ hv hR.drew hF ?_
  · intro x hx
    exact ⟨h4 x hx, hgt x.1 (h4 x hx)⟩
  · intro i hi _
    obtain ⟨x, hx, rfl⟩ := h5 i hi
    exact ⟨x, hx, rfl⟩
  · intro j o hj hl
    rw [Array.getD_eq_getD_getElem?, Array.getElem?_replicate] at hl
    split at hl <;> simp at hl
  · rintro ρ' fr' H' a' w' hp ⟨g, hg, hq⟩ hR' hF'
    exact ⟨ρ', g, H', hp, hR', hF'.feq hg.symm, hq⟩

/-! The words of such a tree, for simp. -/

def vTK (P : Program) (N : Nat) (ops : Array Oper) (K : Fr → Heap → Prop) (t : Tree) (fr : Fr) (H : Heap) : Prop := vT P N ops K t fr H
def eTK (P : Program) (N : Nat) (ops : Array Oper) (K : Fr → Heap → Prop) (t : Tree) (fl : Bool) (H : Heap) (fr : Fr) (H' : Heap) : Prop :=
  match fl with
  | true => andK (H <+: H') (vT P N ops K t fr H')
  | false => vT P N ops K t fr H'
def vTo (P : Program) (N : Nat) (ops : Array Oper) (K : Fr → Heap → Prop) (t : Tree) (fl : Bool) (fr : Fr) (H : Heap) (o : Oper) : Prop :=
  match isR o.op with
  | true => vstep P N ops o (vTK P N ops K t) fr H
  | false => vstep P N ops o (eTK P N ops K t fl H) fr H
def vTe (P : Program) (N : Nat) (ops : Array Oper) (K : Fr → Heap → Prop) (t : Tree) (fl : Bool) (fr : Fr) (H : Heap) (o : Oper) : Prop := vstep P N ops o (eTK P N ops K t fl H) fr H

theorem vT_nil (K : Fr → Heap → Prop) (fr : Fr) (H : Heap) : vT P N ops K .nil fr H = K fr H := rfl
theorem eTK_eq (K : Fr → Heap → Prop) (t : Tree) (fl : Bool) (H : Heap) : eK fl H (vT P N ops K t) = eTK P N ops K t fl H := by
  funext f h
  cases fl <;> rfl
theorem vT_one (K : Fr → Heap → Prop) (i : Nat) (fl : Bool) (t : Tree) (fr : Fr) (H : Heap) : vT P N ops K (.one i fl t) fr H = bindO ops[i]? (vTo P N ops K t fl fr H) := by
  simp only [vT]
  cases ops[i]? with
  | none => simp [bindO]
  | some o =>
    simp only [bindO_some, vTo]
    cases isR o.op with
    | true => rfl
    | false => simp only [eTK_eq]
theorem vT_two {i : Nat} {fl : Bool} {t : Tree} {f : Nat} {t' : Tree} {K : Fr → Heap → Prop} {fr : Fr} {H : Heap} (h1 : bindO ops[i]? (vTe P N ops K t fl fr H)) (h2 : bindO ops[f]? (vTe P N ops K t' true fr H)) : vT P N ops K (.two i fl t f t') fr H := by
  simp only [vT]
  cases ho : ops[i]? with
  | none => simp [ho, bindO] at h1
  | some o =>
    cases ho' : ops[f]? with
    | none => simp [ho', bindO] at h2
    | some o' =>
      simp only [ho, ho', bindO_some, vTe] at h1 h2 ⊢
      exact ⟨by rw [eTK_eq]; exact h1, by rw [eTK_eq]; exact h2⟩

attribute [go_sem] vTK eTK vTo vTe vT_nil vT_one

end
end Go.Ab
end

section
/- The same with blocks from L on that are this region's own: they may be changed in between. It holds for every program. -/
set_option linter.all false
namespace Go.Ab
open Go.RowKit (Below)

section
variable {P : Program} {N : Nat} {ops : Array Oper} {L : Nat} {K : Fr → Heap → Prop} {fs : List Nat}

def vTX (P : Program) (N : Nat) (ops : Array Oper) (L : Nat) (K : Fr → Heap → Prop) : Tree → Fr → Heap → Prop
  | .nil, fr, H => K fr H
  | .one i fl t, fr, H => match ops[i]? with
    | none => False
    | some o => match isR o.op with
      | true => offL L o.op fr ∧ vstep P N ops o (vTX P N ops L K t) fr H
      | false => vstep P N ops o (eKX L fl H (vTX P N ops L K t)) fr H
  | .two i fl t f t', fr, H => match ops[i]?, ops[f]? with
    | some o, some o' => vstep P N ops o (eKX L fl H (vTX P N ops L K t)) fr H ∧ vstep P N ops o' (eKX L true H (vTX P N ops L K t')) fr H
    | _, _ => False
/-! The words of such a tree, for simp. -/

def vTXK (P : Program) (N : Nat) (ops : Array Oper) (L : Nat) (K : Fr → Heap → Prop) (t : Tree) (fr : Fr) (H : Heap) : Prop := vTX P N ops L K t fr H
def eTXK (P : Program) (N : Nat) (ops : Array Oper) (L : Nat) (K : Fr → Heap → Prop) (t : Tree) (fl : Bool) (H : Heap) (fr : Fr) (H' : Heap) : Prop :=
  match fl with
  | true => andK (KeepL L H H') (vTX P N ops L K t fr H')
  | false => vTX P N ops L K t fr H'
def vTXo (P : Program) (N : Nat) (ops : Array Oper) (L : Nat) (K : Fr → Heap → Prop) (t : Tree) (fl : Bool) (fr : Fr) (H : Heap) (o : Oper) : Prop :=
  match isR o.op with
  | true => andK (offB L o.op fr) (vstep P N ops o (vTXK P N ops L K t) fr H)
  | false => vstep P N ops o (eTXK P N ops L K t fl H) fr H
def vTXe (P : Program) (N : Nat) (ops : Array Oper) (L : Nat) (K : Fr → Heap → Prop) (t : Tree) (fl : Bool) (fr : Fr) (H : Heap) (o : Oper) : Prop := vstep P N ops o (eTXK P N ops L K t fl H) fr H

theorem vTX_nil (K : Fr → Heap → Prop) (fr : Fr) (H : Heap) : vTX P N ops L K .nil fr H = K fr H := rfl
theorem eTXK_eq (K : Fr → Heap → Prop) (t : Tree) (fl : Bool) (H : Heap) : eKX L fl H (vTX P N ops L K t) = eTXK P N ops L K t fl H := by
  funext f h
  cases fl <;> rfl
theorem vTX_one (K : Fr → Heap → Prop) (i : Nat) (fl : Bool) (t : Tree) (fr : Fr) (H : Heap) : vTX P N ops L K (.one i fl t) fr H = bindO ops[i]? (vTXo P N ops L K t fl fr H) := by
  simp only [vTX]
  cases ops[i]? with
  | none => simp [bindO]
  | some o =>
    simp only [bindO_some, vTXo]
    cases isR o.op with
    | true => rw [offB_iff]; rfl
    | false => simp only [eTXK_eq]
attribute [go_sem] vTXK eTXK vTXo vTXe vTX_nil vTX_one

end
end Go.Ab
end

section
/- DoubleSystem: the tested program's side (printed by gendbl.py). -/
set_option linter.all false
set_option maxRecDepth 20000
set_option maxHeartbeats 8000000
namespace Go.Ab

theorem Bl.same {e : Nat} {H H' H'' : Heap} {id n k : Nat} {cs : List Value} (h : Bl e H H' id cs n) (hs : Same (fun j => j = k) H' H'') (hk : H.length ≤ k) (hne : id ≠ k) : Bl e H H'' id cs n :=
  ⟨((Same.of_prefix h.1).trans hs).prefix (by intro j hj e; omega), h.2.1.keep hs hne, h.2.2⟩
theorem Bl.pushS {e : Nat} {H H' : Heap} {id n : Nat} {cs xs : List Value} (h : Bl e H H' id cs n) (he : 0 < e) (hx : xs.length = e) :
    cellsAt (H' ++ [⟨xs, true, true⟩]) H'.length 0 e = some xs ∧ ∃ H3, appendH (H' ++ [⟨xs, true, true⟩]) e (lv e id 0 n) 1 xs = some (lv e (H'.length + 1) 0 (n + 1), H3) ∧ Bl e H H3 (H'.length + 1) (cs ++ xs) (n + 1) ∧ Same (fun j => j = id) H' H3 := by
  obtain ⟨h1, H3, h2, h3, h4, h5⟩ := h.2.1.push he hx
  refine ⟨h1, H3, h2, ⟨((Same.of_prefix h.1).trans h4).prefix (by have := h.2.2; omega), h3, ?_⟩, h4⟩
  have := h.1.length_le
  omega

end Go.Ab
namespace Go.Proofs.Ytdfeoccjllljiaa
open Go.Ab Go.Sort

end Go.Proofs.Ytdfeoccjllljiaa
end

section
/- A region's end told once; a cell made early and filled late. It holds for every program. -/
set_option linter.all false
namespace Go.Ab

theorem AWp.regCut {P : Program} {N : Nat} {H : Heap} {fr : Fr} {Q : Exit → Fr → Heap → Prop} {St : Type} {c : Code} (N' : St → Fr) (E : St → Heap → Prop)
    (hx : ∀ Q' : Exit → Fr → Heap → Prop, (∀ (s : St) (fr' : Fr) (H' : Heap), upF H' (N' s ++ fr) fr' → E s H' → Q' .normal fr' H') → AWp P N c Q' fr H)
    (hy : ∀ (s : St) (H' : Heap), E s H' → Q .normal (N' s ++ fr) H') : AWp P N c Q fr H := by
  let Q1 : Exit → Fr → Heap → Prop := fun e f h => match e with
    | .normal => ∃ s, upF h (N' s ++ fr) f ∧ E s h
    | _ => False
  refine AWp.weak (Q := Q1) ?_ (hx Q1 fun s f h h1 h2 => ⟨s, h1, h2⟩)
  intro e f h hq
  cases e with
  | normal => obtain ⟨s, h1, h2⟩ := hq; exact ⟨_, h1, hy s h h2⟩
  | _ => exact hq.elim

theorem boxLate {Hz Hn : Heap} {id : Nat} {zs cs : List Value} (hz : Hz[id]? = some ⟨zs, true, true⟩) (hp : Hz <+: Hn) (hl : zs.length = cs.length) (ho : cs.all Value.oneCell' = true) :
    storeAt Hn id 0 cs = some (Hn.set id ⟨cs, true, true⟩) ∧ Holds (Hn.set id ⟨cs, true, true⟩) id cs ∧ Same (fun j => j = id) Hn (Hn.set id ⟨cs, true, true⟩) ∧ (Hn.set id ⟨cs, true, true⟩).length = Hn.length := by
  have hb := Same.get (S := fun _ => False) (Same.of_prefix hp) hz (fun h => h)
  refine ⟨?_, ⟨true, List.getElem?_set_self (List.getElem?_eq_some_iff.1 hb).1⟩, same_set, by simp⟩
  rw [storeAt_of hb rfl rfl (by simp [hl]) ho]
  congr 3
  simp [over, hl]

end Go.Ab
end

section
/- Blocks turned round: impl.turnedBlocks. -/
set_option linter.all false
set_option maxRecDepth 20000
set_option maxHeartbeats 8000000
namespace Go.Proofs.Ytdfeoccjllljiaa
open Go.Ab Go.Sort

noncomputable def addB (acc : List Bk) (b : Bk) : List Bk := if memB acc b then acc else acc ++ [b]
def turn (v : Nat) (b : Bk) (i : Nat) : Bk := blk ((b.a + i).tmod v) ((b.b + i).tmod v) ((b.c + i).tmod v)
noncomputable def turnK (v : Nat) (acc : List Bk) (b : Bk) (k : Nat) : List Bk := (List.range k).foldl (fun acc i => addB acc (turn v b i)) acc
noncomputable def turnL (v : Nat) (acc fam : List Bk) : List Bk := fam.foldl (fun acc b => turnK v acc b v) acc

theorem addB_len (acc : List Bk) (b : Bk) : (addB acc b).length ≤ acc.length + 1 := by unfold addB; split <;> simp
theorem turnK_succ (v : Nat) (acc : List Bk) (b : Bk) (k : Nat) : turnK v acc b (k + 1) = addB (turnK v acc b k) (turn v b k) := by
  simp [turnK, List.range_succ, List.foldl_append]
theorem turnK_zero (v : Nat) (acc : List Bk) (b : Bk) : turnK v acc b 0 = acc := rfl
theorem turnK_len (v : Nat) (acc : List Bk) (b : Bk) (k : Nat) : (turnK v acc b k).length ≤ acc.length + k := by
  induction k with
  | zero => simp [turnK_zero]
  | succ k ih => rw [turnK_succ]; have := addB_len (turnK v acc b k) (turn v b k); omega
theorem turnL_snoc (v : Nat) (acc fam : List Bk) (b : Bk) : turnL v acc (fam ++ [b]) = turnK v (turnL v acc fam) b v := by
  simp [turnL, List.foldl_append]
theorem turnL_len (v : Nat) (acc fam : List Bk) : (turnL v acc fam).length ≤ acc.length + fam.length * v := by
  induction fam generalizing acc with
  | nil => simp [turnL]
  | cons b fam ih =>
    have h1 := ih (turnK v acc b v)
    have h2 := turnK_len v acc b v
    have e : turnL v acc (b :: fam) = turnL v (turnK v acc b v) fam := rfl
    have e2 : (fam.length + 1) * v = fam.length * v + v := Nat.succ_mul _ _
    rw [e, List.length_cons]; omega
def small (b : Bk) : Prop := (0 ≤ b.a ∧ b.a ≤ 900) ∧ (0 ≤ b.b ∧ b.b ≤ 900) ∧ (0 ≤ b.c ∧ b.c ≤ 900)
theorem tmod_in {x : Int} {v : Nat} (hx : 0 ≤ x) (hv : 1 ≤ v ∧ v ≤ 15) : 0 ≤ x.tmod v ∧ x.tmod v ≤ 1000 := by
  have h1 := Int.tmod_nonneg (v : Int) hx
  have h2 := Int.tmod_lt_of_pos x (show (0 : Int) < v by omega)
  omega

theorem turnedBlocks_ok {H : Heap} {u : Value} {v : Nat} {fam : List Bk} (hv : 1 ≤ v ∧ v ≤ 15) (hu : BlocksAt H u fam) (hl : fam.length ≤ 100) (hg : ∀ b ∈ fam, small b) (Post : Value → Heap → Prop)
    (h : ∀ H' w, H <+: H' → BlocksIn H.length H'.length H' w (sortB (turnL v [] fam)) → Post (sysV v w) H') :
    ACalls Try.prog 113 [.int .i64 v, u] H Post := by
  obtain ⟨i, o, rfl, h1, h2⟩ := hu
  refine ACalls.res ?_
  refine acalls_vc (rs := [.cell 4 38]) Try.func113 rfl rfl Try.ntmps113 rfl rfl ?_
  simp (maxSteps := 1000000) [go_sem]
  have hp0 : H <+: H ++ [⟨[.int .i64 0, .slice none 0 0], true, true⟩] := List.prefix_append _ _
  have hb0 : (H ++ [(⟨[.int .i64 0, .slice none 0 0], true, true⟩ : Blk)])[H.length]? = some ⟨[.int .i64 0, .slice none 0 0], true, true⟩ := by simp
  have hlen0 : (H ++ [(⟨[.int .i64 0, .slice none 0 0], true, true⟩ : Blk)]).length = H.length + 1 := by simp
  generalize H ++ [(⟨[.int .i64 0, .slice none 0 0], true, true⟩ : Blk)] = H0 at hp0 hb0 hlen0 ⊢
  have hv0 : (v : Int) ≠ 0 := by omega
  have hv00 : v ≠ 0 := by omega
  refine AWp.addGhost ?_
  have hbl0 := Bl.ghost 3 H0
  generalize H0 ++ [(⟨[], false, false⟩ : Blk)] = HG at hbl0 ⊢
  refine AWp.loopVc (St := Nat × Nat × List Bk) (fun s => [(0, .int .i64 v), (4, .pointer (some ⟨H.length, 0, none⟩)), (5, lv 3 s.2.1 0 s.2.2.length), (10, lv 3 i o fam.length), (11, .int .i64 fam.length), (12, .int .i64 s.1)])
    (fun s H' => s.1 ≤ fam.length ∧ s.2.2 = turnL v [] (fam.take s.1) ∧ Bl 3 H0 H' s.2.1 (tri s.2.2) s.2.2.length) (fun s => fam.length - s.1) (0, H0.length, []) ?_ ?_ ?_
  · simp [upF, Fr.get, Up.refl, Up.nil]
  · exact ⟨by simp, by simp [turnL], by simpa [tri] using hbl0⟩
  · rintro K ⟨s, id, acc⟩ H' ⟨hs, hacc, hbl⟩ hK
    simp only at hs hacc hbl
    have hlacc : acc.length ≤ 1500 := by
      have := turnL_len v [] (fam.take s)
      have hm : (fam.take s).length * v ≤ 100 * 15 := Nat.mul_le_mul (by rw [List.length_take]; omega) hv.2
      rw [← hacc, List.length_nil] at this
      omega
    by_cases hlt : s < fam.length
    · have hbs : fam[s]? = some fam[s] := List.getElem?_eq_getElem hlt
      have c1 := (h1.pre (hp0.trans hbl.1)).bk hbs
      have hgb := hg fam[s] (List.getElem_mem hlt)
      simp only [Bk.cells] at c1
      have hw_s : IntKind.i64.wrap ((s : Int) + 1) = (s : Int) + 1 := i64w (by omega) (by omega)
      obtain ⟨b, hb⟩ : ∃ b, fam[s] = b := ⟨_, rfl⟩
      rw [hb] at c1 hbs hgb
      obtain ⟨⟨ga1, ga2⟩, ⟨gb1, gb2⟩, ⟨gc1, gc2⟩⟩ := hgb
      simp (maxSteps := 1000000) [go_sem, hlt, c1]
      have hpb : H' <+: H' ++ [⟨[.int .i64 b.a, .int .i64 b.b, .int .i64 b.c], true, true⟩] := List.prefix_append _ _
      have hx0 := Holds.last H' [.int .i64 b.a, .int .i64 b.b, .int .i64 b.c]
      have hbl1 := hbl.pre hpb
      obtain ⟨bid, hbid⟩ : ∃ bid, H'.length = bid := ⟨_, rfl⟩
      have hne1 : id ≠ bid := by have := hbl.2.1.lt; omega
      rw [hbid] at hx0 ⊢
      generalize H' ++ [(⟨[.int .i64 b.a, .int .i64 b.b, .int .i64 b.c], true, true⟩ : Blk)] = H1 at *
      refine AWp.loopVc (St := Nat × Nat × List Bk) (fun t => [(0, .int .i64 v), (4, .pointer (some ⟨H.length, 0, none⟩)), (5, lv 3 t.2.1 0 t.2.2.length), (7, .pointer (some ⟨bid, 0, none⟩)), (10, lv 3 i o fam.length), (11, .int .i64 fam.length), (12, .int .i64 s), (16, .int .i64 v), (17, .int .i64 t.1)])
        (fun t H2 => t.1 ≤ v ∧ t.2.2 = turnK v acc b t.1 ∧ (t.2.1 ≠ bid ∧ Holds H2 bid [.int .i64 b.a, .int .i64 b.b, .int .i64 b.c]) ∧ Bl 3 H0 H2 t.2.1 (tri t.2.2) t.2.2.length) (fun t => v - t.1) (0, id, acc) ?_ ?_ ?_
      · simp [upF, Fr.get, Up.refl]
      · exact ⟨by simp, by simp [turnK_zero], ⟨hne1, hx0⟩, hbl1⟩
      · rintro K2 ⟨t, id2, acc2⟩ H2 ⟨ht, hacc2, ⟨hne2, hxb⟩, hbl2⟩ hK2
        simp only at ht hacc2 hne2 hxb hbl2
        have hl2 : acc2.length ≤ 1515 := by
          have := turnK_len v acc b t
          rw [← hacc2] at this
          omega
        by_cases htv : t < v
        · have hw_t : IntKind.i64.wrap ((t : Int) + 1) = (t : Int) + 1 := i64w (by omega) (by omega)
          obtain ⟨e0, e1, e2, e3⟩ := hxb.bk
          have wa : IntKind.i64.wrap (b.a + t) = b.a + t := i64w (by omega) (by omega)
          have wb : IntKind.i64.wrap (b.b + t) = b.b + t := i64w (by omega) (by omega)
          have wc : IntKind.i64.wrap (b.c + t) = b.c + t := i64w (by omega) (by omega)
          obtain ⟨c, hc⟩ : ∃ c, blk ((b.a + t).tmod v) ((b.b + t).tmod v) ((b.c + t).tmod v) = c := ⟨_, rfl⟩
          have hct : turn v b t = c := hc
          simp (maxSteps := 1000000) [go_sem, htv]
          refine AWp.regCut (St := Nat) (fun z => [(9, .pointer (some ⟨z, 0, none⟩))]) (fun z H3 => H2 <+: H3 ∧ Holds H3 z c.cells) ?_ ?_
          · intro Q' hQ'
            refine AWp.drawF mixed [19] [(0, false), (1, false), (2, false), (3, false), (4, false), (5, false), (6, false), (7, false), (8, false), (9, false), (10, false), (11, false), (12, false), (13, false), (14, false), (15, false), (16, false), (17, false), (18, false), (19, true), (20, false)] (.one 0 false (.one 1 false (.one 2 false (.one 3 false (.one 4 false (.one 5 false (.one 6 false (.one 7 false (.one 8 false (.one 9 false (.one 10 false (.one 11 false (.one 12 false (.one 13 false (.one 14 false (.one 15 false (.one 16 false (.one 17 false (.two 18 false (.one 19 true (.one 20 false .nil)) 19 (.one 18 false (.one 20 false .nil))))))))))))))))))))) (by kernel_rfl) ?_
            simp (maxSteps := 1000000) [go_sem, e1, e2, e3, wa, wb, wc, hv0, hv00]
            refine vT_two ?_ ?_
            · simp (maxSteps := 1000000) [go_sem]
              refine blockOf_ok _ ?_
              intro H3 hp3
              rw [hc]
              simp (maxSteps := 1000000) [go_sem, Bk.val]
              refine hQ' H3.length _ _ (by simp [upF, Fr.get, Up.refl]) ⟨hp3.trans (List.prefix_append _ _), Holds.last _ _⟩
            · simp (maxSteps := 1000000) [go_sem, e1, e2, e3, wa, wb, wc, hv0, hv00]
              have hpz : H2 <+: H2 ++ [⟨[.int .i64 0, .int .i64 0, .int .i64 0], true, true⟩] := List.prefix_append _ _
              have hzz : (H2 ++ [(⟨[.int .i64 0, .int .i64 0, .int .i64 0], true, true⟩ : Blk)])[H2.length]? = some ⟨[.int .i64 0, .int .i64 0, .int .i64 0], true, true⟩ := by simp
              generalize H2 ++ [(⟨[.int .i64 0, .int .i64 0, .int .i64 0], true, true⟩ : Blk)] = HZ at hpz hzz ⊢
              refine blockOf_ok _ ?_
              intro H3 hp3
              rw [hc]
              obtain ⟨k1, k2, k3, k4⟩ := boxLate (cs := c.cells) hzz hp3 rfl rfl
              simp only [Bk.cells] at k1
              simp (maxSteps := 1000000) [go_sem, Bk.val, k1]
              refine hQ' H2.length _ _ (by simp [upF, Fr.get, Up.refl]) ⟨?_, k2⟩
              exact ((Same.of_prefix (hpz.trans hp3)).trans k3).prefix (by rintro j hj rfl; omega)
          · rintro z H3 ⟨hp3, hz⟩
            obtain ⟨z0, z1, z2, z3⟩ := hz.bk
            have hbl3 := hbl2.pre hp3
            have hown : BlocksAt H3 (lv 3 id2 0 acc2.length) acc2 := (OwnBlocks.of_ol hbl3.2.1 (by omega)).read
            have hacc3 : turnK v acc b (t + 1) = addB acc2 c := by rw [turnK_succ, hct, ← hacc2]
            simp (maxSteps := 1000000) [go_sem, z0]
            refine slicesContainsB_ok (b := c) hown _ ?_
            intro H4 hp4
            have hbl4 := hbl3.pre hp4
            obtain ⟨z0, z1, z2, z3⟩ := (hz.pre hp4).bk
            cases hm : memB acc2 c with
            | true =>
              simp (maxSteps := 1000000) [go_sem, hw_t]
              refine hK2 (t + 1, id2, acc2) _ _ (by simp only; omega) (by simp [upF, Fr.get, Up.refl]) ⟨by simp only; omega, ?_, ⟨hne2, hxb.pre (hp3.trans hp4)⟩, hbl4⟩
              simp [hacc3, addB, hm]
            | false =>
              obtain ⟨hsrc, H5, hap, hbl5, hs5⟩ := hbl4.pushS (xs := c.cells) (by omega) rfl
              simp only [Bk.cells] at hsrc hap hbl5
              have hblt : bid < H2.length := by obtain ⟨_, hb⟩ := hxb; exact (List.getElem?_eq_some_iff.1 hb).1
              have hll3 := hp3.length_le
              have hll4 := hp4.length_le
              simp (maxSteps := 1000000) [go_sem, hw_t, z0, hsrc, hap]
              refine andK_intro (by omega) (hK2 (t + 1, H4.length + 1, acc2 ++ [c]) _ _ (by simp only; omega) (by simp [upF, Fr.get, Up.refl]) ⟨by simp only; omega, by simp [hacc3, addB, hm], ?_, ?_⟩)
              · exact ⟨by simp only; omega, (hxb.pre (hp3.trans hp4)).keepS hs5 (fun e => hne2 e.symm)⟩
              · simp only [List.length_append, List.length_singleton, tri_append, tri_one, Bk.cells]
                exact hbl5
        · have : t = v := by omega
          subst this
          simp (maxSteps := 1000000) [go_sem, hw_s]
          refine hK (s + 1, id2, acc2) _ _ (by simp only; omega) (by simp [upF, Fr.get, Up.refl]) ⟨by simp only; omega, ?_, hbl2⟩
          simp only [List.take_succ_eq_append_getElem hlt, turnL_snoc, hb, ← hacc]
          exact hacc2
    · have : s = fam.length := by omega
      subst this
      rw [List.take_length] at hacc
      have hown : BlocksIn H0.length H'.length H' (lv 3 id 0 acc.length) acc := OwnBlocks.inn (OwnBlocks.of_ol hbl.2.1 (by omega)) hbl.2.2
      simp (maxSteps := 1000000) [go_sem]
      refine implSystem_ok hown.read (by omega) _ ?_
      intro H2 w hp2 hw
      obtain ⟨q1, q2, q3, q4⟩ := put2 (cs := [.int .i64 v, w]) hp0 (Nat.le_refl _) hb0 rfl (hbl.1.trans hp2) rfl (by simp [one_int, hw.one])
      have hll := hbl.1.length_le
      rw [hacc] at hw
      have fin := h _ w q3 (by rw [List.length_set]; exact (hw.keep q4 (fun j hj e => by have := hj.1; omega)).wider (by omega))
      simp (maxSteps := 1000000) [go_sem, sysV, q1, q2]
      exact ⟨_, Up.refl _ _, fin⟩

end Go.Proofs.Ytdfeoccjllljiaa
end

section
/- Blocks turned round: spec.l01Turned. -/
set_option linter.all false
set_option maxRecDepth 20000
set_option maxHeartbeats 8000000
namespace Go.Proofs.Ytdfeoccjllljiaa
open Go.Ab Go.Sort

theorem memB_take_succ {acc : List Bk} {c : Bk} {k : Nat} (h : k < acc.length) : memB (acc.take (k + 1)) c = (memB (acc.take k) c || decide (acc[k] = c)) := by
  rw [List.take_succ_eq_append_getElem h]
  simp only [memB, List.mem_append, List.mem_singleton]
  by_cases h1 : c ∈ acc.take k
  · simp [h1]
  · by_cases h2 : acc[k] = c
    · simp [h1, h2]
    · have : ¬ c = acc[k] := fun e => h2 e.symm
      simp [h1, h2, this]

theorem l01Turned_ok {H0 H : Heap} {id v : Nat} {b : Bk} {acc : List Bk} (hv : 1 ≤ v ∧ v ≤ 15) (hg : small b) (hl : acc.length ≤ 1000) (hbl : Bl 3 H0 H id (tri acc) acc.length) (Post : Value → Heap → Prop)
    (h : ∀ H' id', Bl 3 H0 H' id' (tri (turnK v acc b v)) (turnK v acc b v).length → Post (lv 3 id' 0 (turnK v acc b v).length) H') :
    ACalls Try.prog 159 [lv 3 id 0 acc.length, .int .i64 v, .int .i64 b.a, .int .i64 b.b, .int .i64 b.c] H Post := by
  refine acalls_vc (rs := [.tmp 10]) Try.func159 rfl rfl Try.ntmps159 rfl rfl ?_
  simp (maxSteps := 1000000) [go_sem]
  have hv0 : (v : Int) ≠ 0 := by omega
  have hv00 : v ≠ 0 := by omega
  obtain ⟨⟨ga1, ga2⟩, ⟨gb1, gb2⟩, ⟨gc1, gc2⟩⟩ := hg
  refine AWp.loopVc (St := Nat × Nat × List Bk) (fun t => [(0, lv 3 t.2.1 0 t.2.2.length), (1, .int .i64 v), (2, .int .i64 b.a), (3, .int .i64 b.b), (4, .int .i64 b.c), (11, .int .i64 t.1)])
    (fun t H2 => t.1 ≤ v ∧ t.2.2 = turnK v acc b t.1 ∧ Bl 3 H0 H2 t.2.1 (tri t.2.2) t.2.2.length) (fun t => v - t.1) (0, id, acc) ?_ ?_ ?_
  · simp [upF, Fr.get, Up.refl]
  · exact ⟨by simp, by simp [turnK_zero], hbl⟩
  · rintro K2 ⟨t, id2, acc2⟩ H2 ⟨ht, hacc2, hbl2⟩ hK2
    simp only at ht hacc2 hbl2
    have hl2 : acc2.length ≤ 1015 := by
      have := turnK_len v acc b t
      rw [← hacc2] at this
      omega
    by_cases htv : t < v
    · have hw_t : IntKind.i64.wrap ((t : Int) + 1) = (t : Int) + 1 := i64w (by omega) (by omega)
      have wa : IntKind.i64.wrap (b.a + t) = b.a + t := i64w (by omega) (by omega)
      have wb : IntKind.i64.wrap (b.b + t) = b.b + t := i64w (by omega) (by omega)
      have wc : IntKind.i64.wrap (b.c + t) = b.c + t := i64w (by omega) (by omega)
      have ma := tmod_in (x := b.a + t) (by omega) hv
      have mb := tmod_in (x := b.b + t) (by omega) hv
      have mc := tmod_in (x := b.c + t) (by omega) hv
      obtain ⟨c, hc⟩ : ∃ c, blk ((b.a + t).tmod v) ((b.b + t).tmod v) ((b.c + t).tmod v) = c := ⟨_, rfl⟩
      have hct : turn v b t = c := hc
      simp (maxSteps := 1000000) [go_sem, htv]
      refine AWp.regCut (St := Nat) (fun z => [(12, .pointer (some ⟨z, 0, none⟩)), (13, .bool false)]) (fun z H3 => H2 <+: H3 ∧ Holds H3 z c.cells) ?_ ?_
      · intro Q' hQ'
        refine AWp.drawF mixed [16] [(0, false), (1, false), (2, false), (3, false), (4, false), (5, false), (6, false), (7, false), (8, false), (9, false), (10, false), (11, false), (12, false), (13, false), (14, false), (15, false), (16, true), (17, false), (18, false)] (.one 0 false (.one 1 false (.one 2 false (.one 3 false (.one 4 false (.one 5 false (.one 6 false (.one 7 false (.one 8 false (.one 9 false (.one 10 false (.one 11 false (.one 12 false (.one 13 false (.one 14 false (.two 15 false (.one 16 true (.one 17 false (.one 18 false .nil))) 16 (.one 15 false (.one 17 false (.one 18 false .nil))))))))))))))))))) (by kernel_rfl) ?_
        simp (maxSteps := 1000000) [go_sem, wa, wb, wc, hv0, hv00]
        refine vT_two ?_ ?_
        · simp (maxSteps := 1000000) [go_sem]
          refine l01Block_ok ma mb mc _ ?_
          intro H3 hp3
          rw [hc]
          simp (maxSteps := 1000000) [go_sem, Bk.val]
          refine hQ' H3.length _ _ (by simp [upF, Fr.get, Up.refl]) ⟨hp3.trans (List.prefix_append _ _), Holds.last _ _⟩
        · simp (maxSteps := 1000000) [go_sem, wa, wb, wc, hv0, hv00]
          have hpz : H2 <+: H2 ++ [⟨[.int .i64 0, .int .i64 0, .int .i64 0], true, true⟩] := List.prefix_append _ _
          have hzz : (H2 ++ [(⟨[.int .i64 0, .int .i64 0, .int .i64 0], true, true⟩ : Blk)])[H2.length]? = some ⟨[.int .i64 0, .int .i64 0, .int .i64 0], true, true⟩ := by simp
          generalize H2 ++ [(⟨[.int .i64 0, .int .i64 0, .int .i64 0], true, true⟩ : Blk)] = HZ at hpz hzz ⊢
          refine l01Block_ok ma mb mc _ ?_
          intro H3 hp3
          rw [hc]
          obtain ⟨k1, k2, k3, k4⟩ := boxLate (cs := c.cells) hzz hp3 rfl rfl
          simp only [Bk.cells] at k1
          simp (maxSteps := 1000000) [go_sem, Bk.val, k1]
          refine hQ' H2.length _ _ (by simp [upF, Fr.get, Up.refl]) ⟨?_, k2⟩
          exact ((Same.of_prefix (hpz.trans hp3)).trans k3).prefix (by rintro j hj rfl; omega)
      · rintro z H3 ⟨hp3, hz⟩
        obtain ⟨z0, z1, z2, z3⟩ := hz.bk
        have hbl3 := hbl2.pre hp3
        have hat : At H3 id2 0 (tri acc2) := hbl3.2.1.at
        have hacc3 : turnK v acc b (t + 1) = addB acc2 c := by rw [turnK_succ, hct, ← hacc2]
        simp (maxSteps := 1000000) [go_sem, z0]
        refine AWp.loopVc (St := Nat) (fun k => [(0, lv 3 id2 0 acc2.length), (1, .int .i64 v), (2, .int .i64 b.a), (3, .int .i64 b.b), (4, .int .i64 b.c), (11, .int .i64 t), (12, .pointer (some ⟨z, 0, none⟩)), (13, .bool (memB (acc2.take k) c)), (14, .int .i64 k)])
          (fun k H4 => k ≤ acc2.length ∧ H4 = H3) (fun k => acc2.length - k) 0 ?_ ?_ ?_
        · simp [upF, Fr.get, Up.refl, memB]
        · exact ⟨by omega, rfl⟩
        · rintro K3 k H4 ⟨hk, rfl⟩ hK3
          by_cases hkl : k < acc2.length
          · have hbs : acc2[k]? = some acc2[k] := List.getElem?_eq_getElem hkl
            have c1 := hat.bk hbs
            simp only [Bk.cells, Nat.zero_add] at c1
            have hw_k : IntKind.i64.wrap ((k : Int) + 1) = (k : Int) + 1 := i64w (by omega) (by omega)
            have hsucc := memB_take_succ (c := c) hkl
            simp (maxSteps := 1000000) [go_sem, hkl]
            refine AWp.draw mixed [(0, false), (1, false), (2, false), (3, false), (4, false), (5, false), (6, false), (7, false), (8, false), (9, false)] (by kernel_rfl) ?_
            cases hm : memB (acc2.take k) c with
            | true =>
              rw [hm] at hsucc
              simp (maxSteps := 1000000) [go_sem, hw_k]
              exact hK3 (k + 1) _ _ (by omega) (by simp [upF, Fr.get, Up.refl, hsucc]) ⟨by omega, rfl⟩
            | false =>
              rw [hm, Bool.false_or] at hsucc
              simp (maxSteps := 1000000) [go_sem, hw_k, hkl, z0, c1]
              have he : decide (acc2[k] = c) = (decide (acc2[k].a = c.a) && (decide (acc2[k].b = c.b) && decide (acc2[k].c = c.c))) := by
                rw [Bool.eq_iff_iff]; simp only [decide_eq_true_eq, Bool.and_eq_true]; exact Bk.eq3 _ _
              rw [he] at hsucc
              exact hK3 (k + 1) _ _ (by omega) (by simp [upF, Fr.get, Up.refl, hsucc]) ⟨by omega, rfl⟩
          · have : k = acc2.length := by omega
            subst this
            rw [List.take_length] at *
            cases hm : memB acc2 c with
            | true =>
              simp (maxSteps := 1000000) [go_sem, hw_t]
              refine hK2 (t + 1, id2, acc2) _ _ (by simp only; omega) (by simp [upF, Fr.get, Up.refl]) ⟨by simp only; omega, ?_, hbl3⟩
              simp [hacc3, addB, hm]
            | false =>
              obtain ⟨hsrc, H5, hap, hbl5⟩ := hbl3.push (xs := c.cells) (by omega) rfl
              simp only [Bk.cells] at hsrc hap hbl5
              simp (maxSteps := 1000000) [go_sem, hw_t, z0, hsrc, hap]
              refine andK_intro (by omega) (hK2 (t + 1, H4.length + 1, acc2 ++ [c]) _ _ (by simp only; omega) (by simp [upF, Fr.get, Up.refl]) ⟨by simp only; omega, by simp [hacc3, addB, hm], ?_⟩)
              simp only [List.length_append, List.length_singleton, tri_append, tri_one, Bk.cells]
              exact hbl5
    · have : t = v := by omega
      subst this
      simp (maxSteps := 1000000) [go_sem]
      rw [hacc2] at hbl2 ⊢
      exact h _ _ hbl2

end Go.Proofs.Ytdfeoccjllljiaa
end

section
/- NamedSystem: the implementation's side. -/
set_option linter.all false
set_option maxRecDepth 20000
set_option maxHeartbeats 8000000
namespace Go.Proofs.Ytdfeoccjllljiaa
open Go.Ab Go.Sort

theorem upTo_asc (lo hi : Nat) : (upTo lo hi).Pairwise (· < ·) := List.pairwise_lt_range'
theorem asc_triples (v : Nat) : Asc (triples v) := by
  unfold Asc triples trip0
  rw [List.pairwise_flatMap]
  refine ⟨fun a _ => ?_, (upTo_asc 0 v).imp fun {a a'} h => ?_⟩
  · unfold trip1
    rw [List.pairwise_flatMap]
    refine ⟨fun b _ => ?_, (upTo_asc _ v).imp fun {b b'} h => ?_⟩
    · unfold trip2
      rw [List.pairwise_map]
      refine (upTo_asc _ v).imp fun {c c'} h => ?_
      rw [before_iff]; exact .inr ⟨rfl, .inr ⟨rfl, by simp only; omega⟩⟩
    · intro x hx y hy
      simp only [trip2, List.mem_map] at hx hy
      obtain ⟨c, _, rfl⟩ := hx
      obtain ⟨c', _, rfl⟩ := hy
      rw [before_iff]; exact .inr ⟨rfl, .inl (by simp only; omega)⟩
  · intro x hx y hy
    simp only [trip1, trip2, List.mem_flatMap, List.mem_map] at hx hy
    obtain ⟨b, _, c, _, rfl⟩ := hx
    obtain ⟨b', _, c', _, rfl⟩ := hy
    rw [before_iff]; exact .inl (by simp only; omega)
theorem triples_sort (v : Nat) (P : Bk → Bool) : sortB ((triples v).filter P) = (triples v).filter P := sortB_asc ((asc_triples v).filter _)

def affB (b : Bk) : Bool := decide ((b.a / 3 + b.b / 3 + b.c / 3) % 3 = 0) && decide ((b.a + b.b + b.c) % 3 = 0)
def xorB (b : Bk) : Bool := IntKind.i64.wrap ↑(BitVec.ofInt 64 (IntKind.i64.wrap ↑(BitVec.ofInt 64 (IntKind.i64.wrap (b.a + 1)) ^^^ BitVec.ofInt 64 (IntKind.i64.wrap (b.b + 1))).toNat) ^^^ BitVec.ofInt 64 (IntKind.i64.wrap (b.c + 1))).toNat == 0

theorem aff_q1 {x y z : Nat} (hx : x < 9) (hy : y < 9) (hz : z < 9) :
    ((IntKind.i64.wrap (IntKind.i64.wrap (IntKind.i64.wrap (x / 3 : Int) + IntKind.i64.wrap (y / 3 : Int)) + IntKind.i64.wrap (z / 3 : Int))).tmod 3 == 0) = decide (((x : Int) / 3 + y / 3 + z / 3) % 3 = 0) := by
  rw [i64w (n := (x : Int) / 3) (by omega) (by omega), i64w (n := (y : Int) / 3) (by omega) (by omega), i64w (n := (z : Int) / 3) (by omega) (by omega), i64w (n := (x : Int) / 3 + y / 3) (by omega) (by omega), i64w (by omega) (by omega),
    Int.tmod_eq_emod_of_nonneg (by omega)]
  rfl
theorem aff_q2 {x y z : Nat} (hx : x < 9) (hy : y < 9) (hz : z < 9) :
    ((IntKind.i64.wrap (IntKind.i64.wrap ((x : Int) + y) + z)).tmod 3 == 0) = decide (((x : Int) + y + z) % 3 = 0) := by
  rw [i64w (n := (x : Int) + y) (by omega) (by omega), i64w (by omega) (by omega), Int.tmod_eq_emod_of_nonneg (by omega)]
  rfl

theorem named1_ok {H : Heap} : TellsB 114 [] [] (fun b => b ∈ triples 9) affB H := by
  intro H' b Post hp hb hP
  obtain ⟨hg, x, y, z, rfl, hxy, hyz, hz⟩ := mem_triples hb
  show ACalls Try.prog 114 [(⟨x, y, z⟩ : Bk).val] H' Post
  refine acalls_vc (rs := [.tmp 2]) Try.func114 rfl rfl Try.ntmps114 rfl rfl ?_
  have e1 := aff_q1 (x := x) (y := y) (z := z) (by omega) (by omega) hz
  have e2 := aff_q2 (x := x) (y := y) (z := z) (by omega) (by omega) hz
  have he : affB ⟨x, y, z⟩ = (decide (((x : Int) / 3 + y / 3 + z / 3) % 3 = 0) && decide (((x : Int) + y + z) % 3 = 0)) := rfl
  have hP' := hP _ (List.prefix_append H' [⟨[.int .i64 x, .int .i64 y, .int .i64 z], true, true⟩])
  simp (maxSteps := 1000000) only [go_sem, Bk.val]
  simp (maxSteps := 1000000) [go_sem, Bk.val, -beq_iff_eq]
  rw [e1, e2]
  rw [he] at hP'
  cases hd : decide (((x : Int) / 3 + y / 3 + z / 3) % 3 = 0) with
  | true => rw [hd, Bool.true_and] at hP'; exact condK_intro (fun _ => hP') (fun e => by cases e)
  | false => rw [hd, Bool.false_and] at hP'; exact condK_intro (fun e => by cases e) (fun _ => hP')
theorem named2_ok {H : Heap} : TellsB 115 [] [] (fun b => b ∈ triples 15) xorB H := by
  intro H' b Post hp hb hP
  obtain ⟨hg, x, y, z, rfl, hxy, hyz, hz⟩ := mem_triples hb
  show ACalls Try.prog 115 [(⟨x, y, z⟩ : Bk).val] H' Post
  refine acalls_vc (rs := [.tmp 2]) Try.func115 rfl rfl Try.ntmps115 rfl rfl ?_
  simp (maxSteps := 1000000) [go_sem, Bk.val]
  exact hP _ (List.prefix_append _ _)

def nmSingle : List UInt8 := [115, 105, 110, 103, 108, 101]
def nmFano : List UInt8 := [102, 97, 110, 111]
def nmAffine : List UInt8 := [97, 102, 102, 105, 110, 101]
def nmCyclic13 : List UInt8 := [99, 121, 99, 108, 105, 99, 49, 51]
def nmCyclic15 : List UInt8 := [99, 121, 99, 108, 105, 99, 49, 53]
def nmProj15 : List UInt8 := [112, 114, 111, 106, 101, 99, 116, 105, 118, 101, 49, 53]

noncomputable def rNamed (s : List UInt8) : (Int × List Bk) × Int :=
  if s = nmSingle then ((3, [⟨0, 1, 2⟩]), 0)
  else if s = nmFano then ((7, sortB (turnL 7 [] [⟨0, 1, 3⟩])), 0)
  else if s = nmAffine then ((9, (triples 9).filter affB), 0)
  else if s = nmCyclic13 then ((13, sortB (turnL 13 [] [⟨0, 1, 4⟩, ⟨0, 2, 7⟩])), 0)
  else if s = nmCyclic15 then ((15, sortB (turnL 15 [] [⟨0, 1, 4⟩, ⟨0, 2, 8⟩, ⟨0, 5, 10⟩])), 0)
  else if s = nmProj15 then ((15, (triples 15).filter xorB), 0)
  else ((0, []), 4)

theorem end_sys {H H0 H1 : Heap} {Post : Value → Heap → Prop} {r : (Int × List Bk) × Int} {id : Nat} {p : Int} {bs : List Bk} {w : Value} {c : Int} (hp0 : H <+: H0) (hid : H.length ≤ id) (hb0 : H0[id]? = some ⟨[.int .i64 0, .slice none 0 0], true, true⟩)
    (h : ∀ H' w, H <+: H' → BlocksIn H.length H'.length H' w r.1.2 → Post (.tuple #[sysV r.1.1 w, .int .i64 r.2]) H') (hp : H0 <+: H1) (hw : BlocksIn H0.length H1.length H1 w bs) (hr : r = ((p, bs), c)) :
    ∃ H2, storeAt H1 id 0 [.int .i64 p, w] = some H2 ∧ cellsAt H2 id 0 2 = some [.int .i64 p, w] ∧ ∃ v', Up H2 (.tuple #[.agg #[.int .i64 p, w], .int .i64 c]) v' ∧ Post v' H2 := by
  obtain ⟨q1, q2, q3, q4⟩ := put2 (cs := [.int .i64 p, w]) hp0 hid hb0 rfl hp rfl (by simp [one_int, hw.one])
  have hl0 : id < H0.length := (List.getElem?_eq_some_iff.1 hb0).1
  have fin := h _ w q3 (by rw [hr, List.length_set]; exact (hw.keep q4 (fun j hj e => by have := hj.1; omega)).wider (by have := hp0.length_le; omega))
  rw [hr] at fin
  exact ⟨_, q1, q2, _, Up.refl _ _, fin⟩

theorem implNamed_ok {H : Heap} {s : ByteArray} (Post : Value → Heap → Prop)
    (h : ∀ H' w, H <+: H' → BlocksIn H.length H'.length H' w (rNamed s.toList).1.2 → Post (.tuple #[sysV (rNamed s.toList).1.1 w, .int .i64 (rNamed s.toList).2]) H') :
    ACalls Try.prog 54 [.string s] H Post := by
  refine ACalls.res ?_
  refine acalls_vc (rs := [.cell 2 38, .tmp 3]) Try.func54 rfl rfl Try.ntmps54 rfl rfl ?_
  obtain ⟨l, hl⟩ : ∃ l, s.toList = l := ⟨_, rfl⟩
  rw [hl] at h
  by_cases h1 : l = nmSingle
  · subst h1
    have hr : rNamed nmSingle = ((3, [⟨0, 1, 2⟩]), 0) := by rw [rNamed, if_pos rfl]
    rw [hr] at h
    simp (maxSteps := 1000000) [go_sem, hl, nmSingle]
    have hp0 : H <+: H ++ [⟨[.int .i64 3, .slice (some ⟨H.length + 1, 0, none⟩) 1 1], true, true⟩, ⟨[.int .i64 0, .int .i64 1, .int .i64 2], true, true⟩] := List.prefix_append _ _
    have hx0 : (H ++ [(⟨[.int .i64 3, .slice (some ⟨H.length + 1, 0, none⟩) 1 1], true, true⟩ : Blk), ⟨[.int .i64 0, .int .i64 1, .int .i64 2], true, true⟩])[H.length + 1]? = some ⟨tri [⟨0, 1, 2⟩], true, true⟩ := by simp [tri, Bk.cells]
    have hlen0 : (H ++ [(⟨[.int .i64 3, .slice (some ⟨H.length + 1, 0, none⟩) 1 1], true, true⟩ : Blk), ⟨[.int .i64 0, .int .i64 1, .int .i64 2], true, true⟩]).length = H.length + 2 := by simp
    generalize H ++ [(⟨[.int .i64 3, .slice (some ⟨H.length + 1, 0, none⟩) 1 1], true, true⟩ : Blk), ⟨[.int .i64 0, .int .i64 1, .int .i64 2], true, true⟩] = H0 at hp0 hx0 hlen0 ⊢
    refine ⟨_, Up.tuple (ys := #[sysV 3 (lv 3 (H.length + 1) 0 1), .int .i64 0]) ⟨Up.agg ⟨Up.refl _ _, Up.ex (by omega) (.inr (by rw [cellsAt_of hx0 rfl (by simp [tri, Bk.cells])]; rfl)), trivial⟩, Up.refl _ _, trivial⟩, h H0 _ hp0 ⟨H.length + 1, ⟨rfl, .inr hx0, by simp⟩, fun _ => ⟨by omega, by omega⟩⟩⟩
  have h1' : (l == [115, 105, 110, 103, 108, 101]) = false := beq_eq_false_iff_ne.2 h1
  by_cases h2 : l = nmFano
  · subst h2
    have hr : rNamed nmFano = ((7, sortB (turnL 7 [] [⟨0, 1, 3⟩])), 0) := by rw [rNamed, if_neg (by decide), if_pos rfl]
    simp (maxSteps := 1000000) [go_sem, hl, nmFano]
    have hp0 : H <+: H ++ [⟨[.int .i64 0, .slice none 0 0], true, true⟩, ⟨[.int .i64 0, .int .i64 1, .int .i64 3], true, true⟩] := List.prefix_append _ _
    have hb0 : (H ++ [(⟨[.int .i64 0, .slice none 0 0], true, true⟩ : Blk), ⟨[.int .i64 0, .int .i64 1, .int .i64 3], true, true⟩])[H.length]? = some ⟨[.int .i64 0, .slice none 0 0], true, true⟩ := by simp
    have hx0 : (H ++ [(⟨[.int .i64 0, .slice none 0 0], true, true⟩ : Blk), ⟨[.int .i64 0, .int .i64 1, .int .i64 3], true, true⟩])[H.length + 1]? = some ⟨tri [⟨0, 1, 3⟩], true, true⟩ := by simp [tri, Bk.cells]
    generalize H ++ [(⟨[.int .i64 0, .slice none 0 0], true, true⟩ : Blk), ⟨[.int .i64 0, .int .i64 1, .int .i64 3], true, true⟩] = H0 at hp0 hb0 hx0 ⊢
    refine ACalls.up (args' := [.int .i64 (7 : Nat), lv 3 (H.length + 1) 0 1]) ⟨Up.refl _ _, Up.ex (by omega) (.inr (by rw [cellsAt_of hx0 rfl (by simp [tri, Bk.cells])]; rfl)), trivial⟩ ?_
    refine turnedBlocks_ok (v := 7) (fam := [⟨0, 1, 3⟩]) (by omega) ⟨H.length + 1, 0, rfl, Holds.at ⟨true, hx0⟩, by simp⟩ (by simp) (by simp [small]) _ ?_
    intro H1 w hp1 hw
    obtain ⟨H2, q1, q2, fin⟩ := end_sys hp0 (Nat.le_refl _) hb0 h hp1 hw hr
    simp (maxSteps := 1000000) [go_sem, sysV, q1, q2]
    exact fin
  have h2' : (l == [102, 97, 110, 111]) = false := beq_eq_false_iff_ne.2 h2
  by_cases h3 : l = nmAffine
  · subst h3
    have hr : rNamed nmAffine = ((9, (triples 9).filter affB), 0) := by rw [rNamed, if_neg (by decide), if_neg (by decide), if_pos rfl]
    simp (maxSteps := 1000000) [go_sem, hl, nmAffine]
    have hp0 : H <+: H ++ [⟨[.int .i64 0, .slice none 0 0], true, true⟩] := List.prefix_append _ _
    have hb0 : (H ++ [(⟨[.int .i64 0, .slice none 0 0], true, true⟩ : Blk)])[H.length]? = some ⟨[.int .i64 0, .slice none 0 0], true, true⟩ := by simp
    generalize H ++ [(⟨[.int .i64 0, .slice none 0 0], true, true⟩ : Blk)] = H0 at hp0 hb0 ⊢
    refine triples_ok (v := 9) (fs := []) (bs := []) (P := affB) (by omega) named1_ok _ ?_
    intro H1 w hp1 hw
    obtain ⟨iw, nw, rfl⟩ : ∃ i n, w = lv 3 i 0 n := by obtain ⟨iw, ⟨e, _, _⟩, _⟩ := hw; exact ⟨iw, _, e⟩
    obtain ⟨H2, q1, q2, fin⟩ := end_sys hp0 (Nat.le_refl _) hb0 h hp1 hw hr
    simp (maxSteps := 1000000) [go_sem, sysV, q1, q2]
    exact fin
  have h3' : (l == [97, 102, 102, 105, 110, 101]) = false := beq_eq_false_iff_ne.2 h3
  by_cases h4 : l = nmCyclic13
  · subst h4
    have hr : rNamed nmCyclic13 = ((13, sortB (turnL 13 [] [⟨0, 1, 4⟩, ⟨0, 2, 7⟩])), 0) := by rw [rNamed, if_neg (by decide), if_neg (by decide), if_neg (by decide), if_pos rfl]
    simp (maxSteps := 1000000) [go_sem, hl, nmCyclic13]
    have hp0 : H <+: H ++ [⟨[.int .i64 0, .slice none 0 0], true, true⟩, ⟨[.int .i64 0, .int .i64 1, .int .i64 4, .int .i64 0, .int .i64 2, .int .i64 7], true, true⟩] := List.prefix_append _ _
    have hb0 : (H ++ [(⟨[.int .i64 0, .slice none 0 0], true, true⟩ : Blk), ⟨[.int .i64 0, .int .i64 1, .int .i64 4, .int .i64 0, .int .i64 2, .int .i64 7], true, true⟩])[H.length]? = some ⟨[.int .i64 0, .slice none 0 0], true, true⟩ := by simp
    have hx0 : (H ++ [(⟨[.int .i64 0, .slice none 0 0], true, true⟩ : Blk), ⟨[.int .i64 0, .int .i64 1, .int .i64 4, .int .i64 0, .int .i64 2, .int .i64 7], true, true⟩])[H.length + 1]? = some ⟨tri [⟨0, 1, 4⟩, ⟨0, 2, 7⟩], true, true⟩ := by simp [tri, Bk.cells]
    generalize H ++ [(⟨[.int .i64 0, .slice none 0 0], true, true⟩ : Blk), ⟨[.int .i64 0, .int .i64 1, .int .i64 4, .int .i64 0, .int .i64 2, .int .i64 7], true, true⟩] = H0 at hp0 hb0 hx0 ⊢
    refine ACalls.up (args' := [.int .i64 (13 : Nat), lv 3 (H.length + 1) 0 2]) ⟨Up.refl _ _, Up.ex (by omega) (.inr (by rw [cellsAt_of hx0 rfl (by simp [tri, Bk.cells])]; rfl)), trivial⟩ ?_
    refine turnedBlocks_ok (v := 13) (fam := [⟨0, 1, 4⟩, ⟨0, 2, 7⟩]) (by omega) ⟨H.length + 1, 0, rfl, Holds.at ⟨true, hx0⟩, by simp⟩ (by simp) (by simp [small]) _ ?_
    intro H1 w hp1 hw
    obtain ⟨H2, q1, q2, fin⟩ := end_sys hp0 (Nat.le_refl _) hb0 h hp1 hw hr
    simp (maxSteps := 1000000) [go_sem, sysV, q1, q2]
    exact fin
  have h4' : (l == [99, 121, 99, 108, 105, 99, 49, 51]) = false := beq_eq_false_iff_ne.2 h4
  by_cases h5 : l = nmCyclic15
  · subst h5
    have hr : rNamed nmCyclic15 = ((15, sortB (turnL 15 [] [⟨0, 1, 4⟩, ⟨0, 2, 8⟩, ⟨0, 5, 10⟩])), 0) := by rw [rNamed, if_neg (by decide), if_neg (by decide), if_neg (by decide), if_neg (by decide), if_pos rfl]
    simp (maxSteps := 1000000) [go_sem, hl, nmCyclic15]
    have hp0 : H <+: H ++ [⟨[.int .i64 0, .slice none 0 0], true, true⟩, ⟨[.int .i64 0, .int .i64 1, .int .i64 4, .int .i64 0, .int .i64 2, .int .i64 8, .int .i64 0, .int .i64 5, .int .i64 10], true, true⟩] := List.prefix_append _ _
    have hb0 : (H ++ [(⟨[.int .i64 0, .slice none 0 0], true, true⟩ : Blk), ⟨[.int .i64 0, .int .i64 1, .int .i64 4, .int .i64 0, .int .i64 2, .int .i64 8, .int .i64 0, .int .i64 5, .int .i64 10], true, true⟩])[H.length]? = some ⟨[.int .i64 0, .slice none 0 0], true, true⟩ := by simp
    have hx0 : (H ++ [(⟨[.int .i64 0, .slice none 0 0], true, true⟩ : Blk), ⟨[.int .i64 0, .int .i64 1, .int .i64 4, .int .i64 0, .int .i64 2, .int .i64 8, .int .i64 0, .int .i64 5, .int .i64 10], true, true⟩])[H.length + 1]? = some ⟨tri [⟨0, 1, 4⟩, ⟨0, 2, 8⟩, ⟨0, 5, 10⟩], true, true⟩ := by simp [tri, Bk.cells]
    generalize H ++ [(⟨[.int .i64 0, .slice none 0 0], true, true⟩ : Blk), ⟨[.int .i64 0, .int .i64 1, .int .i64 4, .int .i64 0, .int .i64 2, .int .i64 8, .int .i64 0, .int .i64 5, .int .i64 10], true, true⟩] = H0 at hp0 hb0 hx0 ⊢
    refine ACalls.up (args' := [.int .i64 (15 : Nat), lv 3 (H.length + 1) 0 3]) ⟨Up.refl _ _, Up.ex (by omega) (.inr (by rw [cellsAt_of hx0 rfl (by simp [tri, Bk.cells])]; rfl)), trivial⟩ ?_
    refine turnedBlocks_ok (v := 15) (fam := [⟨0, 1, 4⟩, ⟨0, 2, 8⟩, ⟨0, 5, 10⟩]) (by omega) ⟨H.length + 1, 0, rfl, Holds.at ⟨true, hx0⟩, by simp⟩ (by simp) (by simp [small]) _ ?_
    intro H1 w hp1 hw
    obtain ⟨H2, q1, q2, fin⟩ := end_sys hp0 (Nat.le_refl _) hb0 h hp1 hw hr
    simp (maxSteps := 1000000) [go_sem, sysV, q1, q2]
    exact fin
  have h5' : (l == [99, 121, 99, 108, 105, 99, 49, 53]) = false := beq_eq_false_iff_ne.2 h5
  by_cases h6 : l = nmProj15
  · subst h6
    have hr : rNamed nmProj15 = ((15, (triples 15).filter xorB), 0) := by rw [rNamed, if_neg (by decide), if_neg (by decide), if_neg (by decide), if_neg (by decide), if_neg (by decide), if_pos rfl]
    simp (maxSteps := 1000000) [go_sem, hl, nmProj15]
    have hp0 : H <+: H ++ [⟨[.int .i64 0, .slice none 0 0], true, true⟩] := List.prefix_append _ _
    have hb0 : (H ++ [(⟨[.int .i64 0, .slice none 0 0], true, true⟩ : Blk)])[H.length]? = some ⟨[.int .i64 0, .slice none 0 0], true, true⟩ := by simp
    generalize H ++ [(⟨[.int .i64 0, .slice none 0 0], true, true⟩ : Blk)] = H0 at hp0 hb0 ⊢
    refine triples_ok (v := 15) (fs := []) (bs := []) (P := xorB) (by omega) named2_ok _ ?_
    intro H1 w hp1 hw
    obtain ⟨iw, nw, rfl⟩ : ∃ i n, w = lv 3 i 0 n := by obtain ⟨iw, ⟨e, _, _⟩, _⟩ := hw; exact ⟨iw, _, e⟩
    obtain ⟨H2, q1, q2, fin⟩ := end_sys hp0 (Nat.le_refl _) hb0 h hp1 hw hr
    simp (maxSteps := 1000000) [go_sem, sysV, q1, q2]
    exact fin
  have h6' : (l == [112, 114, 111, 106, 101, 99, 116, 105, 118, 101, 49, 53]) = false := beq_eq_false_iff_ne.2 h6
  have hr : rNamed l = ((0, []), 4) := by rw [rNamed, if_neg h1, if_neg h2, if_neg h3, if_neg h4, if_neg h5, if_neg h6]
  have hp0 : H <+: H ++ [⟨[.int .i64 0, .slice none 0 0], true, true⟩] := List.prefix_append _ _
  have hb0 : (H ++ [(⟨[.int .i64 0, .slice none 0 0], true, true⟩ : Blk)])[H.length]? = some ⟨[.int .i64 0, .slice none 0 0], true, true⟩ := by simp
  simp (maxSteps := 1000000) [go_sem, hl, h1', h2', h3', h4', h5', h6']
  refine ⟨_, Up.tuple (ys := #[sysV 0 (lv 3 0 0 0), .int .i64 4]) ⟨zeroSys, Up.refl _ _, trivial⟩, ?_⟩
  have := h _ (lv 3 0 0 0) hp0 (by rw [hr]; exact BlocksIn.nil _ _ _)
  rwa [hr] at this

end Go.Proofs.Ytdfeoccjllljiaa
end

section
/- NamedSystem: the specification's side (printed by wip/gennamed.py). -/
set_option linter.all false
set_option maxRecDepth 20000
set_option maxHeartbeats 8000000
namespace Go.Proofs.Ytdfeoccjllljiaa
open Go.Ab Go.Sort

theorem trip_le2 (v a b k : Nat) : (trip2 v a b k).length ≤ k := by rw [trip2, List.length_map, upTo_length]; omega
theorem trip_le1 (v a k : Nat) (hv : v ≤ 15) : (trip1 v a k).length ≤ k * 15 := by
  induction k with
  | zero => simp [trip1, upTo_self]
  | succ k ih =>
    by_cases hak : a + 1 ≤ k
    · rw [trip1_succ hak, List.length_append]; have := trip_le2 v a k v; omega
    · have : trip1 v a (k + 1) = [] := by unfold trip1; rw [upTo_self (by omega)]; rfl
      rw [this]; simp
theorem trip_le0 (v k : Nat) (hv : v ≤ 15) (hk : k ≤ 15) : (trip0 v k).length ≤ k * 225 := by
  induction k with
  | zero => simp [trip0, upTo_self]
  | succ k ih => rw [trip0_succ, List.length_append]; have := ih (by omega); have := trip_le1 v k v hv; omega
theorem sort_one (b : Bk) : sortB [b] = [b] := sortB_asc (by simp [Asc])
theorem aff_q3 {x y z : Nat} (hx : x < 9) (hy : y < 9) (hz : z < 9) :
    ((IntKind.i64.wrap (IntKind.i64.wrap ((x : Int).tmod 3 + (y : Int).tmod 3) + (z : Int).tmod 3)).tmod 3 == 0) = decide (((x : Int) + y + z) % 3 = 0) := by
  rw [Int.tmod_eq_emod_of_nonneg (show (0 : Int) ≤ x by omega), Int.tmod_eq_emod_of_nonneg (show (0 : Int) ≤ y by omega), Int.tmod_eq_emod_of_nonneg (show (0 : Int) ≤ z by omega),
    i64w (n := (x : Int) % 3 + y % 3) (by omega) (by omega), i64w (by omega) (by omega), Int.tmod_eq_emod_of_nonneg (by omega), Bool.eq_iff_iff]
  simp only [beq_iff_eq, decide_eq_true_eq]
  omega

theorem end_made {H H0 H1 : Heap} {Post : Value → Heap → Prop} {r : (Int × List Bk) × Int} {id : Nat} {p : Int} {bs : List Bk} {w : Value} (hp0 : H <+: H0) (hid : H.length ≤ id) (hb0 : H0[id]? = some ⟨[.int .i64 0, .slice none 0 0], true, true⟩)
    (h : ∀ H' w, H <+: H' → BlocksIn H.length H'.length H' w r.1.2 → Post (.tuple #[sysV r.1.1 w, .bool (decide (r.2 = 0))]) H') {k : Nat} (hk : H0.length ≤ k) (hp : H0 <+: H1) (hw : BlocksIn k H1.length H1 w bs) (hr : r = ((p, bs), 0)) :
    ∃ H2, storeAt H1 id 0 [.int .i64 p, w] = some H2 ∧ cellsAt H2 id 0 2 = some [.int .i64 p, w] ∧ ∃ v', Up H2 (.tuple #[.agg #[.int .i64 p, w], .bool true]) v' ∧ Post v' H2 := by
  obtain ⟨q1, q2, q3, q4⟩ := put2 (cs := [.int .i64 p, w]) hp0 hid hb0 rfl hp rfl (by simp [one_int, hw.one])
  have hl0 : id < H0.length := (List.getElem?_eq_some_iff.1 hb0).1
  have fin := h _ w q3 (by rw [hr, List.length_set]; exact (hw.keep q4 (fun j hj e => by have := hj.1; omega)).wider (by have := hp0.length_le; omega))
  rw [hr] at fin
  exact ⟨_, q1, q2, _, Up.refl _ _, fin⟩

theorem l01Named_ok {H : Heap} {s : ByteArray} (Post : Value → Heap → Prop)
    (h : ∀ H' w, H <+: H' → BlocksIn H.length H'.length H' w (rNamed s.toList).1.2 → Post (.tuple #[sysV (rNamed s.toList).1.1 w, .bool (decide ((rNamed s.toList).2 = 0))]) H') :
    ACalls Try.prog 112 [.string s] H Post := by
  refine ACalls.res ?_
  refine acalls_vc (rs := [.cell 2 38, .tmp 3]) Try.func112 rfl rfl Try.ntmps112 rfl rfl ?_
  obtain ⟨l, hl⟩ : ∃ l, s.toList = l := ⟨_, rfl⟩
  rw [hl] at h
  have hp0 : H <+: H ++ [⟨[.int .i64 0, .slice none 0 0], true, true⟩] := List.prefix_append _ _
  have hb0 : (H ++ [(⟨[.int .i64 0, .slice none 0 0], true, true⟩ : Blk)])[H.length]? = some ⟨[.int .i64 0, .slice none 0 0], true, true⟩ := by simp
  have hl0 : (H ++ [(⟨[.int .i64 0, .slice none 0 0], true, true⟩ : Blk)]).length = H.length + 1 := by simp
  have hbl0 := Bl.nil 3 (H ++ [(⟨[.int .i64 0, .slice none 0 0], true, true⟩ : Blk)])
  have eHG : (H ++ [(⟨[.int .i64 0, .slice none 0 0], true, true⟩ : Blk)]) ++ [(⟨[], true, true⟩ : Blk)] = H ++ [⟨[.int .i64 0, .slice none 0 0], true, true⟩, ⟨[], true, true⟩] := by simp
  rw [eHG, hl0] at hbl0
  generalize H ++ [(⟨[.int .i64 0, .slice none 0 0], true, true⟩ : Blk)] = H0 at hp0 hb0 hl0 hbl0
  by_cases h1 : l = nmSingle
  · subst h1
    have hr : rNamed nmSingle = ((3, [⟨0, 1, 2⟩]), 0) := by rw [rNamed, if_pos rfl]
    simp (maxSteps := 1000000) [go_sem, hl, nmSingle]
    have hpa : H ++ [(⟨[.int .i64 0, .slice none 0 0], true, true⟩ : Blk), ⟨[], true, true⟩] <+: H ++ [(⟨[.int .i64 0, .slice none 0 0], true, true⟩ : Blk), ⟨[], true, true⟩, ⟨[.int .i64 0, .int .i64 1, .int .i64 2], true, true⟩] := ⟨[⟨[.int .i64 0, .int .i64 1, .int .i64 2], true, true⟩], by simp⟩
    have hx0 : (H ++ [(⟨[.int .i64 0, .slice none 0 0], true, true⟩ : Blk), ⟨[], true, true⟩, ⟨[.int .i64 0, .int .i64 1, .int .i64 2], true, true⟩])[H.length + 2]? = some ⟨tri [⟨0, 1, 2⟩], true, true⟩ := by simp [tri, Bk.cells]
    generalize H ++ [(⟨[.int .i64 0, .slice none 0 0], true, true⟩ : Blk), ⟨[], true, true⟩, ⟨[.int .i64 0, .int .i64 1, .int .i64 2], true, true⟩] = HS at hpa hx0 ⊢
    refine ACalls.up (args' := [.int .i64 3, lv 3 (H.length + 2) 0 1]) ⟨Up.refl _ _, Up.ex (by omega) (.inr (by rw [cellsAt_of hx0 rfl (by simp [tri, Bk.cells])]; rfl)), trivial⟩ ?_
    refine l01Made_ok (v := 3) (bs := [⟨0, 1, 2⟩]) ⟨H.length + 2, 0, rfl, Holds.at ⟨true, hx0⟩, by simp⟩ (by simp) _ ?_
    intro H2 w hp2 hw
    rw [sort_one] at hw
    obtain ⟨H3, q1, q2, fin⟩ := end_made hp0 (Nat.le_refl _) hb0 h (show H0.length ≤ HS.length from ((hbl0.1.trans hpa)).length_le) (hbl0.1.trans (hpa.trans hp2)) hw hr
    simp (maxSteps := 1000000) [go_sem, sysV, q1, q2]
    exact fin
  have h1' : (l == [115, 105, 110, 103, 108, 101]) = false := beq_eq_false_iff_ne.2 h1
  by_cases h2 : l = nmFano
  · subst h2
    have hr : rNamed nmFano = ((7, sortB (turnL 7 [] [⟨0, 1, 3⟩])), 0) := by rw [rNamed, if_neg (by decide), if_pos rfl]
    simp (maxSteps := 1000000) [go_sem, hl, nmFano]
    generalize H ++ [(⟨[.int .i64 0, .slice none 0 0], true, true⟩ : Blk), ⟨[], true, true⟩] = HG at hbl0 ⊢
    refine ACalls.up (args' := [lv 3 (H.length + 1) 0 (([] : List Bk).length), .int .i64 (7 : Nat), .int .i64 0, .int .i64 1, .int .i64 3]) ⟨Up.ex0 _ _ _ _ _ _, Up.refl _ _, Up.refl _ _, Up.refl _ _, Up.refl _ _, trivial⟩ ?_
    refine l01Turned_ok (H0 := H0) (v := 7) (b := ⟨0, 1, 3⟩) (acc := []) (by omega) (by simp [small]) (by simp) (by simpa [tri] using hbl0) _ ?_
    intro HT0 it0 hbk0
    have hle0 := turnK_len 7 [] ⟨0, 1, 3⟩ 7
    obtain ⟨acc0, hacc0⟩ : ∃ a, turnK 7 [] ⟨0, 1, 3⟩ 7 = a := ⟨_, rfl⟩
    rw [hacc0] at hbk0 hle0 ⊢
    simp only [List.length_nil] at hle0
    have hll0 : acc0.length ≤ 7 := by omega
    have hee : turnL 7 [] [⟨0, 1, 3⟩] = acc0 := by simp only [turnL, List.foldl_cons, List.foldl_nil, hacc0]
    simp (maxSteps := 1000000) [go_sem]
    have hown : BlocksIn H0.length HT0.length HT0 (lv 3 it0 0 acc0.length) acc0 := OwnBlocks.inn (OwnBlocks.of_ol hbk0.2.1 (by omega)) hbk0.2.2
    refine l01Made_ok hown.read (by omega) _ ?_
    intro H2 w hp2 hw
    rw [hee] at hr
    obtain ⟨H3, q1, q2, fin⟩ := end_made hp0 (Nat.le_refl _) hb0 h hbk0.1.length_le (hbk0.1.trans hp2) hw hr
    simp (maxSteps := 1000000) [go_sem, sysV, q1, q2]
    exact fin
  have h2' : (l == [102, 97, 110, 111]) = false := beq_eq_false_iff_ne.2 h2
  by_cases h4 : l = nmCyclic13
  · subst h4
    have hr : rNamed nmCyclic13 = ((13, sortB (turnL 13 [] [⟨0, 1, 4⟩, ⟨0, 2, 7⟩])), 0) := by rw [rNamed, if_neg (by decide), if_neg (by decide), if_neg (by decide), if_pos rfl]
    simp (maxSteps := 1000000) [go_sem, hl, nmCyclic13]
    generalize H ++ [(⟨[.int .i64 0, .slice none 0 0], true, true⟩ : Blk), ⟨[], true, true⟩] = HG at hbl0 ⊢
    refine ACalls.up (args' := [lv 3 (H.length + 1) 0 (([] : List Bk).length), .int .i64 (13 : Nat), .int .i64 0, .int .i64 1, .int .i64 4]) ⟨Up.ex0 _ _ _ _ _ _, Up.refl _ _, Up.refl _ _, Up.refl _ _, Up.refl _ _, trivial⟩ ?_
    refine l01Turned_ok (H0 := H0) (v := 13) (b := ⟨0, 1, 4⟩) (acc := []) (by omega) (by simp [small]) (by simp) (by simpa [tri] using hbl0) _ ?_
    intro HT0 it0 hbk0
    have hle0 := turnK_len 13 [] ⟨0, 1, 4⟩ 13
    obtain ⟨acc0, hacc0⟩ : ∃ a, turnK 13 [] ⟨0, 1, 4⟩ 13 = a := ⟨_, rfl⟩
    rw [hacc0] at hbk0 hle0 ⊢
    simp only [List.length_nil] at hle0
    have hll0 : acc0.length ≤ 13 := by omega
    simp (maxSteps := 1000000) [go_sem]
    refine l01Turned_ok (v := 13) (b := ⟨0, 2, 7⟩) (acc := acc0) (by omega) (by simp [small]) (by omega) hbk0 _ ?_
    intro HT1 it1 hbk1
    have hle1 := turnK_len 13 acc0 ⟨0, 2, 7⟩ 13
    obtain ⟨acc1, hacc1⟩ : ∃ a, turnK 13 acc0 ⟨0, 2, 7⟩ 13 = a := ⟨_, rfl⟩
    rw [hacc1] at hbk1 hle1 ⊢
    have hll1 : acc1.length ≤ 26 := by omega
    have hee : turnL 13 [] [⟨0, 1, 4⟩, ⟨0, 2, 7⟩] = acc1 := by simp only [turnL, List.foldl_cons, List.foldl_nil, hacc0, hacc1]
    simp (maxSteps := 1000000) [go_sem]
    have hown : BlocksIn H0.length HT1.length HT1 (lv 3 it1 0 acc1.length) acc1 := OwnBlocks.inn (OwnBlocks.of_ol hbk1.2.1 (by omega)) hbk1.2.2
    refine l01Made_ok hown.read (by omega) _ ?_
    intro H2 w hp2 hw
    rw [hee] at hr
    obtain ⟨H3, q1, q2, fin⟩ := end_made hp0 (Nat.le_refl _) hb0 h hbk1.1.length_le (hbk1.1.trans hp2) hw hr
    simp (maxSteps := 1000000) [go_sem, sysV, q1, q2]
    exact fin
  have h4' : (l == [99, 121, 99, 108, 105, 99, 49, 51]) = false := beq_eq_false_iff_ne.2 h4
  by_cases h5 : l = nmCyclic15
  · subst h5
    have hr : rNamed nmCyclic15 = ((15, sortB (turnL 15 [] [⟨0, 1, 4⟩, ⟨0, 2, 8⟩, ⟨0, 5, 10⟩])), 0) := by rw [rNamed, if_neg (by decide), if_neg (by decide), if_neg (by decide), if_neg (by decide), if_pos rfl]
    simp (maxSteps := 1000000) [go_sem, hl, nmCyclic15]
    generalize H ++ [(⟨[.int .i64 0, .slice none 0 0], true, true⟩ : Blk), ⟨[], true, true⟩] = HG at hbl0 ⊢
    refine ACalls.up (args' := [lv 3 (H.length + 1) 0 (([] : List Bk).length), .int .i64 (15 : Nat), .int .i64 0, .int .i64 1, .int .i64 4]) ⟨Up.ex0 _ _ _ _ _ _, Up.refl _ _, Up.refl _ _, Up.refl _ _, Up.refl _ _, trivial⟩ ?_
    refine l01Turned_ok (H0 := H0) (v := 15) (b := ⟨0, 1, 4⟩) (acc := []) (by omega) (by simp [small]) (by simp) (by simpa [tri] using hbl0) _ ?_
    intro HT0 it0 hbk0
    have hle0 := turnK_len 15 [] ⟨0, 1, 4⟩ 15
    obtain ⟨acc0, hacc0⟩ : ∃ a, turnK 15 [] ⟨0, 1, 4⟩ 15 = a := ⟨_, rfl⟩
    rw [hacc0] at hbk0 hle0 ⊢
    simp only [List.length_nil] at hle0
    have hll0 : acc0.length ≤ 15 := by omega
    simp (maxSteps := 1000000) [go_sem]
    refine l01Turned_ok (v := 15) (b := ⟨0, 2, 8⟩) (acc := acc0) (by omega) (by simp [small]) (by omega) hbk0 _ ?_
    intro HT1 it1 hbk1
    have hle1 := turnK_len 15 acc0 ⟨0, 2, 8⟩ 15
    obtain ⟨acc1, hacc1⟩ : ∃ a, turnK 15 acc0 ⟨0, 2, 8⟩ 15 = a := ⟨_, rfl⟩
    rw [hacc1] at hbk1 hle1 ⊢
    have hll1 : acc1.length ≤ 30 := by omega
    simp (maxSteps := 1000000) [go_sem]
    refine l01Turned_ok (v := 15) (b := ⟨0, 5, 10⟩) (acc := acc1) (by omega) (by simp [small]) (by omega) hbk1 _ ?_
    intro HT2 it2 hbk2
    have hle2 := turnK_len 15 acc1 ⟨0, 5, 10⟩ 15
    obtain ⟨acc2, hacc2⟩ : ∃ a, turnK 15 acc1 ⟨0, 5, 10⟩ 15 = a := ⟨_, rfl⟩
    rw [hacc2] at hbk2 hle2 ⊢
    have hll2 : acc2.length ≤ 45 := by omega
    have hee : turnL 15 [] [⟨0, 1, 4⟩, ⟨0, 2, 8⟩, ⟨0, 5, 10⟩] = acc2 := by simp only [turnL, List.foldl_cons, List.foldl_nil, hacc0, hacc1, hacc2]
    simp (maxSteps := 1000000) [go_sem]
    have hown : BlocksIn H0.length HT2.length HT2 (lv 3 it2 0 acc2.length) acc2 := OwnBlocks.inn (OwnBlocks.of_ol hbk2.2.1 (by omega)) hbk2.2.2
    refine l01Made_ok hown.read (by omega) _ ?_
    intro H2 w hp2 hw
    rw [hee] at hr
    obtain ⟨H3, q1, q2, fin⟩ := end_made hp0 (Nat.le_refl _) hb0 h hbk2.1.length_le (hbk2.1.trans hp2) hw hr
    simp (maxSteps := 1000000) [go_sem, sysV, q1, q2]
    exact fin
  have h5' : (l == [99, 121, 99, 108, 105, 99, 49, 53]) = false := beq_eq_false_iff_ne.2 h5
  by_cases h3 : l = nmAffine
  · subst h3
    have hr : rNamed nmAffine = ((9, (triples 9).filter affB), 0) := by rw [rNamed, if_neg (by decide), if_neg (by decide), if_pos rfl]
    simp (maxSteps := 1000000) [go_sem, hl, nmAffine]
    generalize H ++ [(⟨[.int .i64 0, .slice none 0 0], true, true⟩ : Blk), ⟨[], true, true⟩] = HG at hbl0 ⊢
    refine AWp.loopVc (St := Nat × Nat × List Bk) (fun s => [(2, .pointer (some ⟨H.length, 0, none⟩)), (4, lv 3 s.2.1 0 s.2.2.length), (5, .int .i64 9), (6, .int .i64 s.1)])
      (fun s H' => s.1 ≤ 9 ∧ s.2.2 = (trip0 9 s.1).filter affB ∧ Bl 3 H0 H' s.2.1 (tri s.2.2) s.2.2.length) (fun s => 9 - s.1) (0, H.length + 1, []) ?_ ?_ ?_
    · simp [upF, Fr.get, Up.refl, Up.ex0]
    · exact ⟨by simp, by simp [trip0_start], by simpa [tri] using hbl0⟩
    · rintro K ⟨a, id, acc⟩ H' ⟨ha, hacc, hbl⟩ hK
      simp only at ha hacc hbl
      by_cases hlt : a < 9
      · have hw_a : IntKind.i64.wrap ((a : Int) + 1) = (a : Int) + 1 := i64w (by omega) (by omega)
        have hi_a : (a : Int) < 9 := by omega
        simp (maxSteps := 1000000) [go_sem, hlt, hi_a, hw_a]
        refine AWp.loopVc (St := Nat × Nat × List Bk) (fun s => [(2, .pointer (some ⟨H.length, 0, none⟩)), (4, lv 3 s.2.1 0 s.2.2.length), (5, .int .i64 9), (6, .int .i64 a), (7, .int .i64 s.1)])
          (fun s H' => a + 1 ≤ s.1 ∧ s.1 ≤ 9 ∧ s.2.2 = (trip0 9 a ++ trip1 9 a s.1).filter affB ∧ Bl 3 H0 H' s.2.1 (tri s.2.2) s.2.2.length) (fun s => 9 - s.1) (a + 1, id, acc) ?_ ?_ ?_
        · simp [upF, Fr.get, Up.refl]
        · exact ⟨by simp, by simp only; omega, by simp [trip1_start, hacc], hbl⟩
        · rintro K2 ⟨b, id2, acc2⟩ H2 ⟨hab, hb, hacc2, hbl2⟩ hK2
          simp only at hab hb hacc2 hbl2
          by_cases hlt2 : b < 9
          · have hw_b : IntKind.i64.wrap ((b : Int) + 1) = (b : Int) + 1 := i64w (by omega) (by omega)
            have hi_b : (b : Int) < 9 := by omega
            simp (maxSteps := 1000000) [go_sem, hlt2, hi_b, hw_b]
            refine AWp.loopVc (St := Nat × Nat × List Bk) (fun s => [(2, .pointer (some ⟨H.length, 0, none⟩)), (4, lv 3 s.2.1 0 s.2.2.length), (5, .int .i64 9), (6, .int .i64 a), (7, .int .i64 b), (8, .int .i64 s.1)])
              (fun s H' => b + 1 ≤ s.1 ∧ s.1 ≤ 9 ∧ s.2.2 = (trip0 9 a ++ trip1 9 a b ++ trip2 9 a b s.1).filter affB ∧ Bl 3 H0 H' s.2.1 (tri s.2.2) s.2.2.length) (fun s => 9 - s.1) (b + 1, id2, acc2) ?_ ?_ ?_
            · simp [upF, Fr.get, Up.refl]
            · exact ⟨by simp, by simp only; omega, by simp [trip2_start, hacc2], hbl2⟩
            · rintro K3 ⟨c, id3, acc3⟩ H3 ⟨hbc, hc, hacc3, hbl3⟩ hK3
              simp only at hbc hc hacc3 hbl3
              by_cases hlt3 : c < 9
              · have hw_c : IntKind.i64.wrap ((c : Int) + 1) = (c : Int) + 1 := i64w (by omega) (by omega)
                have hi_c : (c : Int) < 9 := by omega
                have hlen : acc3.length ≤ 10000 := by
                  rw [hacc3]
                  refine Nat.le_trans (List.length_filter_le _ _) ?_
                  simp only [List.length_append]
                  have := trip_le0 9 a (by omega) (by omega); have := trip_le1 9 a b (by omega); have := trip_le2 9 a b c
                  omega
                have hsn : ∀ l : List Bk, (l ++ trip2 9 a b (c + 1)).filter affB = (l ++ trip2 9 a b c).filter affB ++ (if affB ⟨a, b, c⟩ then [⟨a, b, c⟩] else []) := by
                  intro l
                  rw [trip2_succ hbc, ← List.append_assoc, List.filter_append (_ ++ _)]
                  congr 1
                  cases hP : affB ⟨a, b, c⟩ <;> simp [hP]
                have no : affB ⟨a, b, c⟩ = false → ∀ fr', upF H3 [(2, .pointer (some ⟨H.length, 0, none⟩)), (4, lv 3 id3 0 acc3.length), (5, .int .i64 9), (6, .int .i64 a), (7, .int .i64 b), (8, .int .i64 (c + 1))] fr' → K3 fr' H3 := fun hP fr' hf =>
                  hK3 (c + 1, id3, acc3) _ _ (by simp only; omega) (by simpa using hf) ⟨by simp only; omega, by simp only; omega, by simp only [hsn, hP, hacc3]; simp, hbl3⟩
                obtain ⟨hsrc, H5, hap, hbl5⟩ := hbl3.push (xs := (⟨a, b, c⟩ : Bk).cells) (by omega) rfl
                simp only [Bk.cells] at hsrc hap hbl5
                have yes : affB ⟨a, b, c⟩ = true → ∀ fr', upF H5 [(2, .pointer (some ⟨H.length, 0, none⟩)), (4, lv 3 (H3.length + 1) 0 (acc3.length + 1)), (5, .int .i64 9), (6, .int .i64 a), (7, .int .i64 b), (8, .int .i64 (c + 1))] fr' → K3 fr' H5 := fun hP fr' hf =>
                  hK3 (c + 1, H3.length + 1, acc3 ++ [⟨a, b, c⟩]) _ _ (by simp only; omega) (by simpa using hf) ⟨by simp only; omega, by simp only; omega, by simp only [hsn, hP, hacc3]; simp, by
                    simp only [List.length_append, List.length_singleton, tri_append, tri_one, Bk.cells]
                    exact hbl5⟩
                have e1 := aff_q1 (x := a) (y := b) (z := c) (by omega) (by omega) hlt3
                have e3 := aff_q3 (x := a) (y := b) (z := c) (by omega) (by omega) hlt3
                have he : affB ⟨a, b, c⟩ = (decide (((a : Int) / 3 + b / 3 + c / 3) % 3 = 0) && decide (((a : Int) + b + c) % 3 = 0)) := rfl
                cases hq1 : decide (((a : Int) / 3 + b / 3 + c / 3) % 3 = 0) with
                | false =>
                  rw [hq1] at e1 he
                  simp (maxSteps := 1000000) [go_sem, undef, hlt3, hi_c, hw_c, e1]
                  exact no (by rw [he]; rfl) _ (by simp [upF, Fr.get, Up.refl])
                | true =>
                  cases hq3 : decide (((a : Int) + b + c) % 3 = 0) with
                  | false =>
                    rw [hq1] at e1
                    rw [hq3] at e3
                    rw [hq1, hq3] at he
                    simp (maxSteps := 1000000) [go_sem, undef, hlt3, hi_c, hw_c, e1, e3]
                    exact no (by rw [he]; rfl) _ (by simp [upF, Fr.get, Up.refl])
                  | true =>
                    rw [hq1] at e1
                    rw [hq3] at e3
                    rw [hq1, hq3] at he
                    simp (maxSteps := 1000000) [go_sem, undef, hlt3, hi_c, hw_c, e1, e3, hsrc, hap]
                    exact andK_intro (by omega) (yes (by rw [he]; rfl) _ (by simp [upF, Fr.get, Up.refl]))
              · have : c = 9 := by omega
                subst this
                simp (maxSteps := 1000000) [go_sem, hw_b]
                exact hK2 (b + 1, id3, acc3) _ _ (by simp only; omega) (by simp [upF, Fr.get, Up.refl]) ⟨by simp only; omega, by simp only; omega, by simp only [trip1_succ hab, ← List.append_assoc]; exact hacc3, hbl3⟩
          · have : b = 9 := by omega
            subst this
            simp (maxSteps := 1000000) [go_sem, hw_a]
            exact hK (a + 1, id2, acc2) _ _ (by simp only; omega) (by simp [upF, Fr.get, Up.refl]) ⟨by simp only; omega, by simp only [trip0_succ]; exact hacc2, hbl2⟩
      · have : a = 9 := by omega
        subst this
        have hlen : acc.length ≤ 10000 := by
          rw [hacc]
          refine Nat.le_trans (List.length_filter_le _ _) ?_
          have := trip_le0 9 9 (by omega) (by omega)
          omega
        have hown : BlocksIn H0.length H'.length H' (lv 3 id 0 acc.length) acc := OwnBlocks.inn (OwnBlocks.of_ol hbl.2.1 (by omega)) hbl.2.2
        simp (maxSteps := 1000000) [go_sem]
        refine l01Made_ok hown.read (by omega) _ ?_
        intro H2 w hp2 hw
        have hac : acc = (triples 9).filter affB := hacc
        rw [hac, triples_sort] at hw
        obtain ⟨H3, q1, q2, fin⟩ := end_made hp0 (Nat.le_refl _) hb0 h hbl.1.length_le (hbl.1.trans hp2) hw hr
        simp (maxSteps := 1000000) [go_sem, sysV, q1, q2]
        exact fin
  have h3' : (l == [97, 102, 102, 105, 110, 101]) = false := beq_eq_false_iff_ne.2 h3
  by_cases h6 : l = nmProj15
  · subst h6
    have hr : rNamed nmProj15 = ((15, (triples 15).filter xorB), 0) := by rw [rNamed, if_neg (by decide), if_neg (by decide), if_neg (by decide), if_neg (by decide), if_neg (by decide), if_pos rfl]
    simp (maxSteps := 1000000) [go_sem, hl, nmProj15]
    generalize H ++ [(⟨[.int .i64 0, .slice none 0 0], true, true⟩ : Blk), ⟨[], true, true⟩] = HG at hbl0 ⊢
    refine AWp.loopVc (St := Nat × Nat × List Bk) (fun s => [(2, .pointer (some ⟨H.length, 0, none⟩)), (4, lv 3 s.2.1 0 s.2.2.length), (5, .int .i64 15), (6, .int .i64 s.1)])
      (fun s H' => s.1 ≤ 15 ∧ s.2.2 = (trip0 15 s.1).filter xorB ∧ Bl 3 H0 H' s.2.1 (tri s.2.2) s.2.2.length) (fun s => 15 - s.1) (0, H.length + 1, []) ?_ ?_ ?_
    · simp [upF, Fr.get, Up.refl, Up.ex0]
    · exact ⟨by simp, by simp [trip0_start], by simpa [tri] using hbl0⟩
    · rintro K ⟨a, id, acc⟩ H' ⟨ha, hacc, hbl⟩ hK
      simp only at ha hacc hbl
      by_cases hlt : a < 15
      · have hw_a : IntKind.i64.wrap ((a : Int) + 1) = (a : Int) + 1 := i64w (by omega) (by omega)
        have hi_a : (a : Int) < 15 := by omega
        simp (maxSteps := 1000000) [go_sem, hlt, hi_a, hw_a]
        refine AWp.loopVc (St := Nat × Nat × List Bk) (fun s => [(2, .pointer (some ⟨H.length, 0, none⟩)), (4, lv 3 s.2.1 0 s.2.2.length), (5, .int .i64 15), (6, .int .i64 a), (7, .int .i64 s.1)])
          (fun s H' => a + 1 ≤ s.1 ∧ s.1 ≤ 15 ∧ s.2.2 = (trip0 15 a ++ trip1 15 a s.1).filter xorB ∧ Bl 3 H0 H' s.2.1 (tri s.2.2) s.2.2.length) (fun s => 15 - s.1) (a + 1, id, acc) ?_ ?_ ?_
        · simp [upF, Fr.get, Up.refl]
        · exact ⟨by simp, by simp only; omega, by simp [trip1_start, hacc], hbl⟩
        · rintro K2 ⟨b, id2, acc2⟩ H2 ⟨hab, hb, hacc2, hbl2⟩ hK2
          simp only at hab hb hacc2 hbl2
          by_cases hlt2 : b < 15
          · have hw_b : IntKind.i64.wrap ((b : Int) + 1) = (b : Int) + 1 := i64w (by omega) (by omega)
            have hi_b : (b : Int) < 15 := by omega
            simp (maxSteps := 1000000) [go_sem, hlt2, hi_b, hw_b]
            refine AWp.loopVc (St := Nat × Nat × List Bk) (fun s => [(2, .pointer (some ⟨H.length, 0, none⟩)), (4, lv 3 s.2.1 0 s.2.2.length), (5, .int .i64 15), (6, .int .i64 a), (7, .int .i64 b), (8, .int .i64 s.1)])
              (fun s H' => b + 1 ≤ s.1 ∧ s.1 ≤ 15 ∧ s.2.2 = (trip0 15 a ++ trip1 15 a b ++ trip2 15 a b s.1).filter xorB ∧ Bl 3 H0 H' s.2.1 (tri s.2.2) s.2.2.length) (fun s => 15 - s.1) (b + 1, id2, acc2) ?_ ?_ ?_
            · simp [upF, Fr.get, Up.refl]
            · exact ⟨by simp, by simp only; omega, by simp [trip2_start, hacc2], hbl2⟩
            · rintro K3 ⟨c, id3, acc3⟩ H3 ⟨hbc, hc, hacc3, hbl3⟩ hK3
              simp only at hbc hc hacc3 hbl3
              by_cases hlt3 : c < 15
              · have hw_c : IntKind.i64.wrap ((c : Int) + 1) = (c : Int) + 1 := i64w (by omega) (by omega)
                have hi_c : (c : Int) < 15 := by omega
                have hlen : acc3.length ≤ 10000 := by
                  rw [hacc3]
                  refine Nat.le_trans (List.length_filter_le _ _) ?_
                  simp only [List.length_append]
                  have := trip_le0 15 a (by omega) (by omega); have := trip_le1 15 a b (by omega); have := trip_le2 15 a b c
                  omega
                have hsn : ∀ l : List Bk, (l ++ trip2 15 a b (c + 1)).filter xorB = (l ++ trip2 15 a b c).filter xorB ++ (if xorB ⟨a, b, c⟩ then [⟨a, b, c⟩] else []) := by
                  intro l
                  rw [trip2_succ hbc, ← List.append_assoc, List.filter_append (_ ++ _)]
                  congr 1
                  cases hP : xorB ⟨a, b, c⟩ <;> simp [hP]
                have no : xorB ⟨a, b, c⟩ = false → ∀ fr', upF H3 [(2, .pointer (some ⟨H.length, 0, none⟩)), (4, lv 3 id3 0 acc3.length), (5, .int .i64 15), (6, .int .i64 a), (7, .int .i64 b), (8, .int .i64 (c + 1))] fr' → K3 fr' H3 := fun hP fr' hf =>
                  hK3 (c + 1, id3, acc3) _ _ (by simp only; omega) (by simpa using hf) ⟨by simp only; omega, by simp only; omega, by simp only [hsn, hP, hacc3]; simp, hbl3⟩
                obtain ⟨hsrc, H5, hap, hbl5⟩ := hbl3.push (xs := (⟨a, b, c⟩ : Bk).cells) (by omega) rfl
                simp only [Bk.cells] at hsrc hap hbl5
                have yes : xorB ⟨a, b, c⟩ = true → ∀ fr', upF H5 [(2, .pointer (some ⟨H.length, 0, none⟩)), (4, lv 3 (H3.length + 1) 0 (acc3.length + 1)), (5, .int .i64 15), (6, .int .i64 a), (7, .int .i64 b), (8, .int .i64 (c + 1))] fr' → K3 fr' H5 := fun hP fr' hf =>
                  hK3 (c + 1, H3.length + 1, acc3 ++ [⟨a, b, c⟩]) _ _ (by simp only; omega) (by simpa using hf) ⟨by simp only; omega, by simp only; omega, by simp only [hsn, hP, hacc3]; simp, by
                    simp only [List.length_append, List.length_singleton, tri_append, tri_one, Bk.cells]
                    exact hbl5⟩
                have he : xorB ⟨a, b, c⟩ = (IntKind.i64.wrap ↑(BitVec.ofInt 64 (IntKind.i64.wrap ↑(BitVec.ofInt 64 (IntKind.i64.wrap ((a : Int) + 1)) ^^^ BitVec.ofInt 64 (IntKind.i64.wrap ((b : Int) + 1))).toNat) ^^^ BitVec.ofInt 64 (IntKind.i64.wrap ((c : Int) + 1))).toNat == 0) := rfl
                simp (maxSteps := 1000000) [go_sem, undef, hlt3, hi_c]
                refine condK_intro (fun hh => ?_) (fun hh => ?_)
                · simp (maxSteps := 1000000) [go_sem, hw_c, hsrc, hap]
                  exact andK_intro (by omega) (yes (by rw [he]; exact hh) _ (by simp [upF, Fr.get, Up.refl]))
                · rw [hw_c]
                  exact no (by rw [he]; exact hh) _ (by simp [upF, Fr.get, Up.refl])
              · have : c = 15 := by omega
                subst this
                simp (maxSteps := 1000000) [go_sem, hw_b]
                exact hK2 (b + 1, id3, acc3) _ _ (by simp only; omega) (by simp [upF, Fr.get, Up.refl]) ⟨by simp only; omega, by simp only; omega, by simp only [trip1_succ hab, ← List.append_assoc]; exact hacc3, hbl3⟩
          · have : b = 15 := by omega
            subst this
            simp (maxSteps := 1000000) [go_sem, hw_a]
            exact hK (a + 1, id2, acc2) _ _ (by simp only; omega) (by simp [upF, Fr.get, Up.refl]) ⟨by simp only; omega, by simp only [trip0_succ]; exact hacc2, hbl2⟩
      · have : a = 15 := by omega
        subst this
        have hlen : acc.length ≤ 10000 := by
          rw [hacc]
          refine Nat.le_trans (List.length_filter_le _ _) ?_
          have := trip_le0 15 15 (by omega) (by omega)
          omega
        have hown : BlocksIn H0.length H'.length H' (lv 3 id 0 acc.length) acc := OwnBlocks.inn (OwnBlocks.of_ol hbl.2.1 (by omega)) hbl.2.2
        simp (maxSteps := 1000000) [go_sem]
        refine l01Made_ok hown.read (by omega) _ ?_
        intro H2 w hp2 hw
        have hac : acc = (triples 15).filter xorB := hacc
        rw [hac, triples_sort] at hw
        obtain ⟨H3, q1, q2, fin⟩ := end_made hp0 (Nat.le_refl _) hb0 h hbl.1.length_le (hbl.1.trans hp2) hw hr
        simp (maxSteps := 1000000) [go_sem, sysV, q1, q2]
        exact fin
  have h6' : (l == [112, 114, 111, 106, 101, 99, 116, 105, 118, 101, 49, 53]) = false := beq_eq_false_iff_ne.2 h6
  have hr : rNamed l = ((0, []), 4) := by rw [rNamed, if_neg h1, if_neg h2, if_neg h3, if_neg h4, if_neg h5, if_neg h6]
  simp (maxSteps := 1000000) [go_sem, hl, h1', h2', h3', h4', h5', h6']
  refine ⟨_, Up.tuple (ys := #[sysV 0 (lv 3 0 0 0), .bool false]) ⟨zeroSys, Up.refl _ _, trivial⟩, ?_⟩
  rw [hr] at h
  exact h _ (lv 3 0 0 0) (List.prefix_append _ _) (BlocksIn.nil _ _ _)

end Go.Proofs.Ytdfeoccjllljiaa
end

section
/- NamedSystem: spec.NamedSystem, and a string as an argument. -/
set_option linter.all false
set_option maxRecDepth 20000
set_option maxHeartbeats 8000000
namespace Go.Proofs.Ytdfeoccjllljiaa
open Go.Ab Go.Sort

def shStr : Shape := ⟨9, false, cStr⟩
theorem fits_shStr {D : Type} {enc : TypeId × Value → D} (W : World) : shStr.fits enc Try.prog W :=
  ⟨cStr_stable, open_cStr Try.underlying9, by show (match Try.prog.underlying 9 with | _ => _); rw [Try.underlying9]; rfl⟩
theorem says_shStr {H : Heap} {v : Value} (h : shStr.says H v) : ∃ s : ByteArray, v = .string s ∧ s.size ≤ maxLen := by
  obtain ⟨s, h1, h2⟩ := h
  simp only [List.cons.injEq, and_true] at h1
  exact ⟨s, h1, h2⟩

theorem specNamed_ok {H : Heap} {s : ByteArray} (Post : Value → Heap → Prop)
    (h : ∀ H' w, H <+: H' → BlocksIn H.length H'.length H' w (rNamed s.toList).1.2 → Post (.tuple #[sysV (rNamed s.toList).1.1 w, .int .i64 (rNamed s.toList).2]) H') :
    ACalls Try.prog 53 [.string s] H Post := by
  refine ACalls.res ?_
  refine acalls_vc (rs := [.cell 2 38, .tmp 3]) Try.func53 rfl rfl Try.ntmps53 rfl rfl ?_
  simp (maxSteps := 1000000) [go_sem]
  have hp0 : H <+: H ++ [⟨[.int .i64 0, .slice none 0 0], true, true⟩] := List.prefix_append _ _
  have hb0 : (H ++ [(⟨[.int .i64 0, .slice none 0 0], true, true⟩ : Blk)])[H.length]? = some ⟨[.int .i64 0, .slice none 0 0], true, true⟩ := by simp
  generalize H ++ [(⟨[.int .i64 0, .slice none 0 0], true, true⟩ : Blk)] = H0 at hp0 hb0 ⊢
  refine l01Named_ok (s := s) _ ?_
  intro H1 w hp1 hw
  obtain ⟨r, hr⟩ : ∃ r, rNamed s.toList = r := ⟨_, rfl⟩
  have hc : r.2 = 0 ∨ r = ((0, []), 4) := by
    rw [← hr]; unfold rNamed; repeat' split
    all_goals simp
  rw [hr] at h hw ⊢
  obtain ⟨⟨p, bs⟩, c⟩ := r
  have ow := hw.one
  simp only at hw hc ow
  rcases hc with rfl | hc
  · simp (maxSteps := 1000000) [go_sem, sysV, ow]
    have hpb : H1 <+: H1 ++ [⟨[.int .i64 p, w], true, true⟩] := List.prefix_append _ _
    have hx0 := Holds.last H1 [.int .i64 p, w]
    generalize H1 ++ [(⟨[.int .i64 p, w], true, true⟩ : Blk)] = H2 at hpb hx0 ⊢
    obtain ⟨d0, d1, d2⟩ := hx0.sys
    obtain ⟨H3, q1, q2, fin⟩ := end_sys hp0 (Nat.le_refl _) hb0 h (hp1.trans hpb) (by obtain ⟨id, g1, g2⟩ := hw.pre hpb; exact ⟨id, g1, fun hne => ⟨(g2 hne).1, Nat.lt_of_lt_of_le (g2 hne).2 hpb.length_le⟩⟩) rfl
    simp (maxSteps := 1000000) [go_sem, sysV, d0, q1, q2]
    exact fin
  · cases hc
    simp (maxSteps := 1000000) [go_sem, sysV, ow]
    obtain ⟨H9, q1, q2, fin⟩ := bad_sys hp0 (Nat.le_refl _) hb0 h (H1 ++ [(⟨[.int .i64 0, w], true, true⟩ : Blk)]) 4 (hp1.trans (List.prefix_append _ _)) rfl
    simp (maxSteps := 1000000) [go_sem, sysV, q1, q2]
    exact fin

end Go.Proofs.Ytdfeoccjllljiaa
end
