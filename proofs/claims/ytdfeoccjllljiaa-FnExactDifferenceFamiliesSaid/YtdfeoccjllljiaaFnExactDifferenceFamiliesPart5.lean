/- Part 5 of what the proof of the law FnExactDifferenceFamilies rests on: contracts of functions of the program, for every argument that each names; no statement of the seat is proved here. -/
import Derived.Test.YtdfeoccjllljiaaFnExactDifferenceFamiliesPart4

section
/- Regions whose order is open, with operations that hang on nothing (a new cell, an empty list): at each effect ahead of such a one, both ways are shown. It holds for every program. -/
set_option linter.all false
namespace Go.Ab
open Go.RowKit (Below)

def pairOKF (ops : Array Oper) (fs : List Nat) (ms : List Nat) (x y : Nat × Bool) : Bool :=
  match ops[x.1]?, ops[y.1]? with
  | some p, some q =>
    let d := (ms.getD y.1 0).testBit x.1
    !directTo p y.1 && x.1 != y.1 &&
    (match isR p.op with
     | true => (d || indep ops p q) && (isR q.op || y.2 || !readsH p.op || d)
     | false => d || (fs.contains y.1 && y.2 && !isR q.op))
  | _, _ => false
def pairsOKF (ops : Array Oper) (fs : List Nat) (ms : List Nat) : List (Nat × Bool) → Bool
  | [] => true
  | x :: l => l.all (pairOKF ops fs ms x) && pairsOKF ops fs ms l
def drawOKF (ops : Array Oper) (fs : List Nat) (canon : List (Nat × Bool)) : Bool :=
  let ms := masksGo ops.toList []
  pairsOKF ops fs ms canon && edgesOK ops && decide (canon.length = ops.size) && canon.all (fun x => decide (x.1 < ops.size)) && (List.range ops.size).all (fun i => (canon.map (·.1)).contains i)

section
variable {P : Program} {N : Nat} {ops : Array Oper} {K : Fr → Heap → Prop} {fs : List Nat}

/-- With both ways at each effect. -/
def vF (P : Program) (N : Nat) (ops : Array Oper) (fs : List Nat) (K : Fr → Heap → Prop) : Nat → List (Nat × Bool) → Fr → Heap → Prop
  | _, [], fr, H => K fr H
  | 0, _ :: _, _, _ => False
  | n + 1, (i, fl) :: l, fr, H => match ops[i]? with
    | none => False
    | some o => match isR o.op with
      | true => vstep P N ops o (vF P N ops fs K n l) fr H
      | false => vstep P N ops o (eK fl H (vF P N ops fs K n l)) fr H ∧
          ∀ f, f ∈ fs → f ∈ l.map (·.1) → ∃ o', ops[f]? = some o' ∧ isR o'.op = false ∧ vstep P N ops o' (eK true H (vF P N ops fs K n ((i, fl) :: l.filter fun y => y.1 != f))) fr H

theorem vstep_closed {o : Oper} {T : Fr → Heap → Prop} (hT : Closed T) {f g : Fr} {H : Heap} (hfg : feq f g) (h : vstep P N ops o T f H) : vstep P N ops o T g H := by
  cases hR : isR o.op with
  | true =>
    obtain ⟨v, h1, h2⟩ := vstep_R hR hT h
    exact h2 g H _ hT (agreeG.of_feq hfg) (fun _ => List.prefix_refl _) (hT _ _ _ (hfg.put _ _) h1)
  | false =>
    refine vstep_weak (vstep_E hT h (agreeG.of_feq hfg)) ?_
    rintro f' h' ⟨v, h1, h2⟩
    exact hT _ _ _ ((hfg.put _ _).trans h1) h2
theorem eK_closed {fl : Bool} {H : Heap} {T : Fr → Heap → Prop} (hT : Closed T) : Closed (eK fl H T) := by
  intro f g h' hfg hk
  cases fl with
  | true => exact ⟨hk.1, hT _ _ _ hfg hk.2⟩
  | false => exact hT _ _ _ hfg hk
theorem vF_closed (hK : Closed K) : ∀ n l, Closed (vF P N ops fs K n l)
  | 0, [] => hK
  | n + 1, [] => hK
  | 0, _ :: _ => fun _ _ _ _ h => h
  | n + 1, (i, fl) :: l => by
    intro f g H hfg h
    simp only [vF] at h ⊢
    split at h
    · exact h.elim
    · rename_i o ho
      cases hR : isR o.op with
      | true => simp only [hR] at h ⊢; exact vstep_closed (vF_closed hK n l) hfg h
      | false =>
        simp only [hR] at h ⊢
        refine ⟨vstep_closed (eK_closed (vF_closed hK n l)) hfg h.1, fun f hf hm => ?_⟩
        obtain ⟨o', h1, h2, h3⟩ := h.2 f hf hm
        exact ⟨o', h1, h2, vstep_closed (eK_closed (vF_closed hK n _)) hfg h3⟩

/-- Reads one after the other. -/
def seqR (P : Program) (N : Nat) (ops : Array Oper) (T : Fr → Heap → Prop) : List (Nat × Bool) → Fr → Heap → Prop
  | [], fr, H => T fr H
  | (j, _) :: l, fr, H => match ops[j]? with
    | none => False
    | some p => vstep P N ops p (seqR P N ops T l) fr H
theorem seqR_closed {T : Fr → Heap → Prop} (hT : Closed T) : ∀ l, Closed (seqR P N ops T l)
  | [] => hT
  | (j, fj) :: l => by
    intro f g H hfg h
    simp only [seqR] at h ⊢
    split at h
    · exact h.elim
    · exact vstep_closed (seqR_closed hT l) hfg h
theorem vF_seqR {n : Nat} {rest : List (Nat × Bool)} : ∀ (l1 : List (Nat × Bool)) (fr : Fr) (H : Heap), (∀ x ∈ l1, ∃ p, ops[x.1]? = some p ∧ isR p.op = true) →
    (vF P N ops fs K (l1.length + n) (l1 ++ rest) fr H ↔ seqR P N ops (vF P N ops fs K n rest) l1 fr H)
  | [], fr, H, _ => by simp [seqR]
  | (j, fj) :: l1, fr, H, hl => by
    obtain ⟨p, hp, hR⟩ := hl (j, fj) (by simp)
    have ih := fun fr H => vF_seqR (n := n) (rest := rest) l1 fr H fun x hx => hl x (by simp [hx])
    rw [show ((j, fj) :: l1).length + n = (l1.length + n) + 1 by simp; omega]
    simp only [List.cons_append, vF, seqR, hp, hR]
    exact ⟨fun h => vstep_weak h fun f h => (ih f h).1, fun h => vstep_weak h fun f h => (ih f h).2⟩

theorem front_gen {o : Oper} {fl : Bool} {T T' : Fr → Heap → Prop} (hT : Closed T) (hT' : Closed T') (hstep : ∀ fr H, T fr H → vstep P N ops o (fun f h => rel o fl H h ∧ T' f h) fr H) : ∀ (l1 : List (Nat × Bool)) (fr : Fr) (H : Heap),
    (∀ x ∈ l1, ∃ p, ops[x.1]? = some p ∧ isR p.op = true ∧ indep ops p o = true ∧ (readsH p.op = true → isR o.op = true ∨ fl = true)) →
    seqR P N ops T l1 fr H → vstep P N ops o (fun f h => rel o fl H h ∧ seqR P N ops T' l1 f h) fr H
  | [], fr, H, _, h => hstep fr H h
  | (j, fj) :: l1, fr, H, hl, h => by
    obtain ⟨p, hp, hR, hin, hrd⟩ := hl (j, fj) (by simp)
    simp only [seqR, hp] at h ⊢
    have hc1 := seqR_closed (P := P) (N := N) (ops := ops) hT l1
    have hc2 := seqR_closed (P := P) (N := N) (ops := ops) hT' l1
    obtain ⟨v, h1, h2⟩ := vstep_R hR hc1 h
    have ih := front_gen hT hT' hstep l1 (fr.put p.dst v) H (fun x hx => hl x (by simp [hx])) h1
    obtain ⟨i1, i2, i3⟩ := indep_spec hin
    have hcK : Closed (fun f h => rel o fl H h ∧ seqR P N ops T' l1 f h) := fun f g h hfg hk => ⟨hk.1, hc2 _ _ _ hfg hk.2⟩
    have hag : agreeG ops o (fr.put p.dst v) fr := agreeG.symm (agreeG.put i1)
    refine vstep_weak (vstep_E hcK ih hag) ?_
    rintro f h' ⟨u, hf, hrel, hv⟩
    refine ⟨hrel, ?_⟩
    have hvE : vstep P N ops p (seqR P N ops T' l1) (fr.put o.dst u) h' := by
      refine h2 (fr.put o.dst u) h' _ hc2 (agreeG.put i2) (fun hr => hrel (hrd hr)) ?_
      exact hc2 _ _ _ (put_comm fr i3 v u) hv
    exact vstep_closed hc2 hf hvE

theorem eK_rel {o : Oper} {fl : Bool} {T : Fr → Heap → Prop} {fr : Fr} {H : Heap} (hR : isR o.op = false) (h : vstep P N ops o (eK fl H T) fr H) : vstep P N ops o (fun f h => rel o fl H h ∧ T f h) fr H := by
  refine vstep_weak h ?_
  intro f h' hk
  cases fl with
  | true => exact ⟨fun _ => hk.1, hk.2⟩
  | false => exact ⟨fun e => by simp [hR] at e, hk⟩

/-- What is behind reads only comes first. -/
theorem vF_front (hK : Closed K) {n i : Nat} {fl : Bool} {l1 l2 : List (Nat × Bool)} {o : Oper} (ho : ops[i]? = some o) {fr : Fr} {H : Heap}
    (hl1 : ∀ x ∈ l1, ∃ p, ops[x.1]? = some p ∧ isR p.op = true ∧ indep ops p o = true ∧ (readsH p.op = true → isR o.op = true ∨ fl = true))
    (h : vF P N ops fs K (l1.length + (n + 1)) (l1 ++ (i, fl) :: l2) fr H) : vstep P N ops o (fun f h => rel o fl H h ∧ vF P N ops fs K (l1.length + n) (l1 ++ l2) f h) fr H := by
  have hl1' : ∀ x ∈ l1, ∃ p, ops[x.1]? = some p ∧ isR p.op = true := fun x hx => by obtain ⟨p, h1, h2, _⟩ := hl1 x hx; exact ⟨p, h1, h2⟩
  rw [vF_seqR l1 fr H hl1'] at h
  have hstep : ∀ fr H, vF P N ops fs K (n + 1) ((i, fl) :: l2) fr H → vstep P N ops o (fun f h => rel o fl H h ∧ vF P N ops fs K n l2 f h) fr H := by
    intro fr H h
    simp only [vF, ho] at h
    cases hR : isR o.op with
    | true =>
      simp only [hR] at h
      obtain ⟨v, h1, h2⟩ := vstep_R hR (vF_closed hK n l2) h
      refine h2 fr H _ ?_ (fun _ _ => rfl) (fun _ => List.prefix_refl _) ⟨fun _ => List.prefix_refl _, h1⟩
      intro f g h hfg hk
      exact ⟨hk.1, vF_closed hK n l2 _ _ _ hfg hk.2⟩
    | false => simp only [hR] at h; exact eK_rel hR h.1
  refine vstep_weak (front_gen (vF_closed hK _ _) (vF_closed hK n l2) hstep l1 fr H hl1 h) ?_
  rintro f h' ⟨h1, h2⟩
  exact ⟨h1, (vF_seqR l1 f h' hl1').2 h2⟩
/-- What hangs on nothing comes ahead of the first effect. -/
theorem vF_float (hK : Closed K) {n i f : Nat} {fl : Bool} {r1 l2 : List (Nat × Bool)} {o o' : Oper} (ho : ops[i]? = some o) (hE : isR o.op = false) (hf : ops[f]? = some o') (hff : f ∈ fs) (hfl : f ∈ l2.map (·.1)) {fr : Fr} {H : Heap}
    (hl1 : ∀ x ∈ r1, ∃ p, ops[x.1]? = some p ∧ isR p.op = true ∧ indep ops p o' = true)
    (h : vF P N ops fs K (r1.length + (n + 1)) (r1 ++ (i, fl) :: l2) fr H) : vstep P N ops o' (fun f' h => rel o' true H h ∧ vF P N ops fs K (r1.length + n) (r1 ++ (i, fl) :: l2.filter fun y => y.1 != f) f' h) fr H := by
  have hl1' : ∀ x ∈ r1, ∃ p, ops[x.1]? = some p ∧ isR p.op = true := fun x hx => by obtain ⟨p, h1, h2, _⟩ := hl1 x hx; exact ⟨p, h1, h2⟩
  rw [vF_seqR r1 fr H hl1'] at h
  have hstep : ∀ fr H, vF P N ops fs K (n + 1) ((i, fl) :: l2) fr H → vstep P N ops o' (fun f' h => rel o' true H h ∧ vF P N ops fs K n ((i, fl) :: l2.filter fun y => y.1 != f) f' h) fr H := by
    intro fr H h
    simp only [vF, ho, hE] at h
    obtain ⟨o2, h1, h2, h3⟩ := h.2 f hff hfl
    rw [hf] at h1; cases h1
    exact eK_rel h2 h3
  refine vstep_weak (front_gen (vF_closed hK _ _) (vF_closed hK n _) hstep r1 fr H (fun x hx => by obtain ⟨p, h1, h2, h3⟩ := hl1 x hx; exact ⟨p, h1, h2, h3, fun _ => .inr rfl⟩) h) ?_
  rintro f h' ⟨h1, h2⟩
  exact ⟨h1, (vF_seqR r1 f h' hl1').2 h2⟩

theorem pairsOKF_spec {ms : List Nat} : ∀ {l1 : List (Nat × Bool)} {y : Nat × Bool} {l2 : List (Nat × Bool)}, pairsOKF ops fs ms (l1 ++ y :: l2) = true → (∀ x ∈ l1, pairOKF ops fs ms x y = true) ∧ (∀ z ∈ l2, pairOKF ops fs ms y z = true) ∧ pairsOKF ops fs ms (l1 ++ l2) = true
  | [], y, l2, h => by
    simp only [List.nil_append, pairsOKF, Bool.and_eq_true, List.all_eq_true] at h
    exact ⟨by simp, h.1, h.2⟩
  | x :: l1, y, l2, h => by
    simp only [List.cons_append, pairsOKF, Bool.and_eq_true, List.all_eq_true] at h ⊢
    obtain ⟨h1, h2⟩ := h
    obtain ⟨h3, h4, h5⟩ := pairsOKF_spec h2
    refine ⟨fun z hz => ?_, h4, fun z hz => h1 z ?_, h5⟩
    · rcases List.mem_cons.1 hz with rfl | hz
      · exact h1 y (by simp)
      · exact h3 z hz
    · rcases List.mem_append.1 hz with hz | hz
      · simp [hz]
      · simp [hz]

/-- The first effect of a list. -/
theorem first_effect : ∀ (l : List (Nat × Bool)), (∀ x ∈ l, ∃ p, ops[x.1]? = some p) → (∀ x ∈ l, ∃ p, ops[x.1]? = some p ∧ isR p.op = true) ∨
    ∃ r1 e o r2, l = r1 ++ e :: r2 ∧ ops[e.1]? = some o ∧ isR o.op = false ∧ ∀ x ∈ r1, ∃ p, ops[x.1]? = some p ∧ isR p.op = true
  | [], _ => .inl (by simp)
  | x :: l, h => by
    obtain ⟨p, hp⟩ := h x (by simp)
    cases hR : isR p.op with
    | false => exact .inr ⟨[], x, p, l, rfl, hp, hR, by simp⟩
    | true =>
      rcases first_effect l fun y hy => h y (by simp [hy]) with h1 | ⟨r1, e, o, r2, rfl, h2, h3, h4⟩
      · left
        intro y hy
        rcases List.mem_cons.1 hy with rfl | hy
        · exact ⟨p, hp, hR⟩
        · exact h1 y hy
      · refine .inr ⟨x :: r1, e, o, r2, rfl, h2, h3, fun y hy => ?_⟩
        rcases List.mem_cons.1 hy with rfl | hy
        · exact ⟨p, hp, hR⟩
        · exact h4 y hy

theorem drawF_any {B : Nat} {w0 : World} {Q : Exit → Act → World → Prop} (hK : Closed K) (hedge : edgesOK ops = true) : ∀ (n : Nat) (listed : Array Bool) (l : List (Nat × Bool)) (fr : Fr) (H : Heap) (ρ : Rho) (w : World) (a : Act),
    listed.size = ops.size → l.length = n → pairsOKF ops fs (masksGo ops.toList []) l = true → (∀ x ∈ l, x.1 < ops.size ∧ listed.getD x.1 true = false) → (∀ i, i < ops.size → listed.getD i true = false → ∃ x ∈ l, x.1 = i) →
    (∀ (j : Nat) (o : Oper), ops[j]? = some o → listed.getD j false = true → ∀ e ∈ o.after.toList, Region.binds .any e = true → listed.getD e.on false = true) →
    vF P N ops fs K n l fr H → R B w0 ρ H w → FR N ρ fr a →
    (∀ (ρ' : Rho) (fr' : Fr) (H' : Heap) (a' : Act) (w' : World), ρ <+: ρ' → K fr' H' → R B w0 ρ' H' w' → FR N ρ' fr' a' → Q .normal a' w') → wpAny P .any ops Q n listed a w := by
  intro n
  have getD2 : ∀ (listed : Array Bool) (i : Nat), listed.size = ops.size → i < ops.size → listed.getD i true = listed.getD i false := by
    intro listed i h1 h2
    simp [Array.getD_eq_getD_getElem?, h1, h2]
  induction n with
  | zero =>
    intro listed l fr H ρ w a hsz hl hp hin hall hcl hv hR hF hq
    have : l = [] := List.eq_nil_of_length_eq_zero hl
    subst this
    refine ⟨?_, hq ρ fr H a w (List.prefix_refl _) hv hR hF⟩
    rw [List.eq_nil_iff_forall_not_mem]
    intro i hi
    simp only [Region.ready, List.mem_filter, List.mem_range, Bool.and_eq_true, Bool.not_eq_true'] at hi
    obtain ⟨x, hx, _⟩ := hall i hi.1 hi.2.1
    simp at hx
  | succ n ih =>
    intro listed l fr H ρ w a hsz hl hp hin hall hcl hv hR hF hq
    refine ⟨?_, ?_⟩
    · intro hnil
      exfalso
      match l, hl with
      | (i, fl) :: l, hl =>
        obtain ⟨h1, h2⟩ := hin (i, fl) (by simp)
        have hi : i ∈ Region.ready .any ops listed := by
          simp only [Region.ready, List.mem_filter, List.mem_range, Bool.and_eq_true, Bool.not_eq_true']
          refine ⟨h1, h2, ?_⟩
          rw [Array.getElem?_eq_getElem h1]
          simp only [Option.map_some, Option.getD_some, Array.all_eq_true']
          intro e he
          rw [Bool.or_eq_true, Bool.not_eq_true']
          by_cases hb : Region.binds .any e = true
          · right
            have hedge' := List.all_eq_true.1 hedge i (by simpa using h1)
            simp only [Array.getElem?_eq_getElem h1, List.all_eq_true] at hedge'
            have he' := hedge' e (by simpa using he)
            simp only [hb, Bool.not_true, Bool.false_or, Bool.and_eq_true, decide_eq_true_eq, bne_iff_ne, ne_eq] at he'
            rw [← getD2 listed e.on hsz he'.1]
            cases hg : listed.getD e.on true with
            | true => rfl
            | false =>
              obtain ⟨x, hx, hxe⟩ := hall e.on he'.1 hg
              rcases List.mem_cons.1 hx with rfl | hx
              · exact absurd hxe.symm he'.2
              · have hpo := (pairsOKF_spec (l1 := []) hp).2.1 x hx
                have hx1 := (hin x (by simp [hx])).1
                simp only [pairOKF, Array.getElem?_eq_getElem h1, Array.getElem?_eq_getElem hx1, Bool.and_eq_true, Bool.not_eq_true'] at hpo
                have hd := hpo.1.1
                simp only [directTo, List.any_eq_false, Bool.and_eq_true, beq_iff_eq, not_and] at hd
                exact absurd hxe.symm (hd e (by simpa using he) hb)
          · left; simpa using hb
        rw [hnil] at hi
        simp at hi
    · intro i hi
      simp only [Region.ready, List.mem_filter, List.mem_range, Bool.and_eq_true, Bool.not_eq_true'] at hi
      obtain ⟨hilt, hnl, hrdy⟩ := hi
      rw [Array.getElem?_eq_getElem hilt] at hrdy
      simp only [Option.map_some, Option.getD_some, Array.all_eq_true'] at hrdy
      have ho : ops[i]? = some ops[i] := Array.getElem?_eq_getElem hilt
      obtain ⟨x, hx, hxi⟩ := hall i hilt hnl
      obtain ⟨l1, l2, rfl⟩ := List.append_of_mem hx
      obtain ⟨i', fl⟩ := x
      simp only at hxi
      subst hxi
      obtain ⟨hp1, hp2, hp3⟩ := pairsOKF_spec hp
      have hpre : ∀ e ∈ (ops[i']).after.toList, Region.binds .any e = true → listed.getD e.on false = true := by
        intro e he hb
        have := hrdy e (by simpa using he)
        simpa [hb] using this
      have hdep : ∀ y ∈ l1, ¬ ((masksGo ops.toList []).getD i' 0).testBit y.1 = true := by
        intro y hy hb
        have := masks_sound (ops := ops) (fun j => listed.getD j false = true) hcl ops.toList [] (fun j _ => by simp) (fun j o p hj => by simp at hj) i' _ y.1 ho hb hpre
        obtain ⟨hy1, hy2⟩ := hin y (by simp [hy])
        rw [getD2 listed y.1 hsz hy1] at hy2
        rw [hy2] at this; cases this
      have hR1 : ∀ y ∈ l1, ∀ p, ops[y.1]? = some p → isR p.op = true → indep ops p ops[i'] = true ∧ (readsH p.op = true → isR (ops[i']).op = true ∨ fl = true) := by
        intro y hy p hp' hRp
        have hy1 := (hin y (by simp [hy])).1
        have hpo := hp1 y hy
        have hd := hdep y hy
        simp only [pairOKF, hp', ho, Bool.and_eq_true] at hpo
        have hpo2 := hpo.2
        simp only [Bool.not_eq_true] at hd
        simp only [hRp, hd, Bool.false_or, Bool.or_false, Bool.and_eq_true, Bool.or_eq_true, Bool.not_eq_true'] at hpo2
        refine ⟨hpo2.1, fun hr => ?_⟩
        rcases hpo2.2 with (h | h) | h
        · exact .inl h
        · exact .inr h
        · rw [hr] at h; cases h
      have hE1 : ∀ y ∈ l1, ∀ p, ops[y.1]? = some p → isR p.op = false → i' ∈ fs ∧ fl = true ∧ isR (ops[i']).op = false := by
        intro y hy p hp' hRp
        have hpo := hp1 y hy
        have hd := hdep y hy
        simp only [pairOKF, hp', ho, Bool.and_eq_true] at hpo
        have hpo2 := hpo.2
        simp only [Bool.not_eq_true] at hd
        simp only [hRp, hd, Bool.false_or, Bool.and_eq_true, Bool.not_eq_true', List.contains_iff_mem] at hpo2
        exact ⟨hpo2.1.1, hpo2.1.2, hpo2.2⟩
      have hnd : ∀ y ∈ l1 ++ l2, y.1 ≠ i' := by
        intro y hy e
        rcases List.mem_append.1 hy with hy | hy
        · have hpo := hp1 y hy
          have hy1 := (hin y (by simp [hy])).1
          simp [pairOKF, Array.getElem?_eq_getElem hy1, ho, e] at hpo
        · have hpo := hp2 y hy
          have hy1 := (hin y (by simp [hy])).1
          simp [pairOKF, Array.getElem?_eq_getElem hy1, ho, e] at hpo
      have hstep : vstep P N ops ops[i'] (fun f h => rel ops[i'] fl H h ∧ vF P N ops fs K n (l1 ++ l2) f h) fr H := by
        simp only [List.length_append, List.length_cons] at hl
        rcases first_effect (ops := ops) l1 (fun x hx => ⟨_, Array.getElem?_eq_getElem (hin x (by simp [hx])).1⟩) with hall1 | ⟨r1, e, oe, r2, rfl, he1, he2, he3⟩
        · rw [show n = l1.length + l2.length by omega]
          rw [show n + 1 = l1.length + (l2.length + 1) by omega] at hv
          exact vF_front hK ho (fun x hx => by obtain ⟨p, h1, h2⟩ := hall1 x hx; obtain ⟨h3, h4⟩ := hR1 x hx p h1 h2; exact ⟨p, h1, h2, h3, h4⟩) hv
        · obtain ⟨hif, hfl, hEi⟩ := hE1 e (by simp) oe he1 he2
          subst hfl
          simp only [List.length_append, List.length_cons] at hl
          rw [show n + 1 = r1.length + ((r2.length + 1 + l2.length) + 1) by omega, List.append_assoc, List.cons_append] at hv
          have hfilt : (r2 ++ (i', true) :: l2).filter (fun y => y.1 != i') = r2 ++ l2 := by
            rw [List.filter_append, List.filter_cons]
            simp only [bne_self_eq_false, Bool.false_eq_true, if_false]
            rw [List.filter_eq_self.2, List.filter_eq_self.2]
            · intro y hy; simpa using hnd y (by simp [hy])
            · intro y hy; simpa using hnd y (by simp [hy])
          have := vF_float (f := i') hK he1 he2 ho hif (by simp) (fun x hx => by
            obtain ⟨p, h1, h2⟩ := he3 x hx
            exact ⟨p, h1, h2, (hR1 x (by simp [hx]) p h1 h2).1⟩) hv
          rw [hfilt] at this
          rw [show n = r1.length + (r2.length + 1 + l2.length) by omega, List.append_assoc, List.cons_append]
          exact this
      unfold wpOp
      rw [ho]
      refine vstep_sound hstep hR hF Q ?_
      rintro ρ' fr' H' a' w' hpre' ⟨_, hv'⟩ hR' hF'
      refine ih (listed.setIfInBounds i' true) (l1 ++ l2) fr' H' ρ' w' a' (by simpa using hsz) (by simp at hl ⊢; omega) hp3 ?_ ?_ ?_ hv' hR' hF' (fun ρ'' f'' H'' a'' w'' h1 => hq ρ'' f'' H'' a'' w'' (hpre'.trans h1))
      · intro y hy
        have hne := hnd y hy
        obtain ⟨h1, h2⟩ := hin y (by rcases List.mem_append.1 hy with hy | hy <;> simp [hy])
        exact ⟨h1, by rw [getD_set_ne _ (fun e => hne e.symm)]; exact h2⟩
      · intro j hj hnj
        by_cases e : i' = j
        · subst e
          exfalso
          have : (listed.setIfInBounds i' true).getD i' true = true := by simp [Array.getD_eq_getD_getElem?]
          rw [this] at hnj; cases hnj
        · rw [getD_set_ne _ e] at hnj
          obtain ⟨y, hy, rfl⟩ := hall j hj hnj
          refine ⟨y, ?_, rfl⟩
          rcases List.mem_append.1 hy with hy | hy
          · simp [hy]
          · rcases List.mem_cons.1 hy with rfl | hy
            · exact absurd rfl e
            · simp [hy]
      · intro j o hj hlj e he hb
        by_cases e' : i' = j
        · subst e'
          rw [ho] at hj; cases hj
          exact getD_set_true (hpre e he hb)
        · rw [getD_set_ne _ e'] at hlj
          exact getD_set_true (hcl j o hj hlj e he hb)

/-- Both ways, written out. -/
inductive Tree
  | nil
  | one (i : Nat) (fl : Bool) (t : Tree)
  | two (i : Nat) (fl : Bool) (t : Tree) (f : Nat) (t' : Tree)

def vT (P : Program) (N : Nat) (ops : Array Oper) (K : Fr → Heap → Prop) : Tree → Fr → Heap → Prop
  | .nil, fr, H => K fr H
  | .one i fl t, fr, H => match ops[i]? with
    | none => False
    | some o => match isR o.op with
      | true => vstep P N ops o (vT P N ops K t) fr H
      | false => vstep P N ops o (eK fl H (vT P N ops K t)) fr H
  | .two i fl t f t', fr, H => match ops[i]?, ops[f]? with
    | some o, some o' => vstep P N ops o (eK fl H (vT P N ops K t)) fr H ∧ vstep P N ops o' (eK true H (vT P N ops K t')) fr H
    | _, _ => False
def treeOK (ops : Array Oper) (fs : List Nat) : Tree → List (Nat × Bool) → Bool
  | .nil, l => l.isEmpty
  | .one i fl t, (j, fl') :: l => i == j && fl == fl' && ((match ops[i]? with | some o => isR o.op | none => false) || fs.all fun f => !(l.map (·.1)).contains f) && treeOK ops fs t l
  | .two i fl t f t', (j, fl') :: l => i == j && fl == fl' && (match ops[i]?, ops[f]? with | some o, some o' => !isR o.op && !isR o'.op | _, _ => false) && (fs.all fun g => g == f || !(l.map (·.1)).contains g) && treeOK ops fs t l && treeOK ops fs t' ((j, fl') :: l.filter fun y => y.1 != f)
  | _, [] => false
theorem vT_vF : ∀ (t : Tree) (n : Nat) (l : List (Nat × Bool)) (fr : Fr) (H : Heap), l.length ≤ n → (∀ x y, x ∈ l → y ∈ l → x.1 = y.1 → x = y) → treeOK ops fs t l = true → vT P N ops K t fr H → vF P N ops fs K n l fr H := by
  intro t
  induction t with
  | nil =>
    intro n l fr H hn _ hok h
    cases l with
    | nil => cases n <;> exact h
    | cons x l => simp [treeOK] at hok
  | one i fl t ih =>
    intro n l fr H hn hu hok h
    cases l with
    | nil => simp [treeOK] at hok
    | cons x l =>
      obtain ⟨j, fl'⟩ := x
      simp only [treeOK, Bool.and_eq_true, beq_iff_eq] at hok
      obtain ⟨⟨⟨rfl, rfl⟩, hfl⟩, hok⟩ := hok
      cases n with
      | zero => simp at hn
      | succ n =>
        simp only [List.length_cons] at hn
        have hu' : ∀ x y, x ∈ l → y ∈ l → x.1 = y.1 → x = y := fun x y hx hy => hu x y (by simp [hx]) (by simp [hy])
        simp only [vT] at h
        simp only [vF]
        cases ho : ops[i]? with
        | none => simp [ho] at h
        | some o =>
          simp only [ho] at h hfl ⊢
          cases hR : isR o.op with
          | true => simp only [hR] at h ⊢; exact vstep_weak h fun f h => ih n l f h (by omega) hu' hok
          | false =>
            simp only [hR, Bool.false_or, List.all_eq_true] at h hfl ⊢
            refine ⟨vstep_weak h fun f h' hk => ?_, fun f hf hm => ?_⟩
            · cases fl with
              | true => exact ⟨hk.1, ih n l f h' (by omega) hu' hok hk.2⟩
              | false => exact ih n l f h' (by omega) hu' hok hk
            · have := hfl f hf
              simp only [Bool.not_eq_true', List.contains_eq_mem, decide_eq_false_iff_not] at this
              exact absurd hm this
  | two i fl t f t' ih ih' =>
    intro n l fr H hn hu hok h
    cases l with
    | nil => simp [treeOK] at hok
    | cons x l =>
      obtain ⟨j, fl'⟩ := x
      simp only [treeOK, Bool.and_eq_true, beq_iff_eq] at hok
      obtain ⟨⟨⟨⟨⟨rfl, rfl⟩, hE⟩, hfl⟩, hok⟩, hok'⟩ := hok
      cases n with
      | zero => simp at hn
      | succ n =>
        simp only [List.length_cons] at hn
        have hu' : ∀ x y, x ∈ l → y ∈ l → x.1 = y.1 → x = y := fun x y hx hy => hu x y (by simp [hx]) (by simp [hy])
        simp only [vT] at h
        simp only [vF]
        cases ho : ops[i]? with
        | none => simp [ho] at h
        | some o =>
          cases ho' : ops[f]? with
          | none => simp [ho, ho'] at h
          | some o' =>
            simp only [ho, ho', Bool.and_eq_true, Bool.not_eq_true'] at h hE ⊢
            simp only [hE.1]
            refine ⟨vstep_weak h.1 fun g h' hk => ?_, fun g hg hm => ?_⟩
            · cases fl with
              | true => exact ⟨hk.1, ih n l g h' (by omega) hu' hok hk.2⟩
              | false => exact ih n l g h' (by omega) hu' hok hk
            · rw [List.all_eq_true] at hfl
              have hgf := hfl g hg
              simp only [Bool.or_eq_true, beq_iff_eq, Bool.not_eq_true', List.contains_eq_mem, decide_eq_false_iff_not] at hgf
              have : g = f := hgf.resolve_right (fun e => e hm)
              subst this
              refine ⟨o', ho', hE.2, vstep_weak h.2 fun q h' hk => ⟨hk.1, ih' n _ q h' ?_ ?_ hok' hk.2⟩⟩
              · obtain ⟨z, hz, hzg⟩ := List.mem_map.1 hm
                have : (l.filter fun y => y.1 != g).length < l.length := by
                  rw [List.length_filter_lt_length_iff_exists]
                  exact ⟨z, hz, by simp [hzg]⟩
                simp only [List.length_cons]; omega
              · intro x y hx hy
                refine hu x y ?_ ?_
                · rcases List.mem_cons.1 hx with rfl | hx
                  · simp
                  · exact List.mem_cons_of_mem _ (List.mem_filter.1 hx).1
                · rcases List.mem_cons.1 hy with rfl | hy
                  · simp
                  · exact List.mem_cons_of_mem _ (List.mem_filter.1 hy).1

theorem AWp.drawF {id : Nat} {fr : Fr} {H : Heap} {Q : Exit → Fr → Heap → Prop} (hm : P.follows .mixedOrders = true) (fs : List Nat) (canon : List (Nat × Bool)) (t : Tree) (hok : (drawOKF ops fs canon && treeOK ops fs t canon) = true) (h : vT P N ops (Q .normal) t fr H) : AWp P N (.region id ops true) Q fr H := by
  intro B w0 ρ w a hR hF
  simp only [drawOKF, Bool.and_eq_true, decide_eq_true_eq, List.all_eq_true, List.mem_range, List.contains_iff_mem, List.mem_map] at hok
  obtain ⟨⟨⟨⟨⟨h1, h2⟩, h3⟩, h4⟩, h5⟩, h6⟩ := hok
  refine wp_region_any hm ?_
  let K : Fr → Heap → Prop := fun f h => ∃ g, feq g f ∧ Q .normal g h
  have hK : Closed K := fun f g h hfg ⟨k, hk, hq⟩ => ⟨k, hk.trans hfg, hq⟩
  have hu : ∀ x y, x ∈ canon → y ∈ canon → x.1 = y.1 → x = y := by
    intro x y hx hy e
    obtain ⟨l1, l2, rfl⟩ := List.append_of_mem hx
    obtain ⟨hp1, hp2, _⟩ := pairsOKF_spec h1
    rcases List.mem_append.1 hy with hy | hy
    · have := hp1 y hy
      unfold pairOKF at this
      split at this
      · simp [e] at this
      · cases this
    · rcases List.mem_cons.1 hy with rfl | hy
      · rfl
      · have := hp2 y hy
        unfold pairOKF at this
        split at this
        · simp [e] at this
        · cases this
  have hv : vF P N ops fs K ops.size canon fr H := by
    refine vT_vF t ops.size canon fr H (by omega) hu h6 ?_
    have weak : ∀ (t : Tree) (fr : Fr) (H : Heap), vT P N ops (Q .normal) t fr H → vT P N ops K t fr H := by
      intro t
      induction t with
      | nil => exact fun fr H h => ⟨fr, feq.rfl' _, h⟩
      | one i fl t ih =>
        intro fr H h
        simp only [vT] at h ⊢
        split at h
        · exact h
        · rename_i o ho
          cases hR : isR o.op with
          | true => simp only [hR] at h ⊢; exact vstep_weak h ih
          | false =>
            simp only [hR] at h ⊢
            refine vstep_weak h ?_
            intro f h' hk
            cases fl with
            | true => exact ⟨hk.1, ih _ _ hk.2⟩
            | false => exact ih _ _ hk
      | two i fl t f t' ih ih' =>
        intro fr H h
        simp only [vT] at h ⊢
        split at h
        · rename_i o o' ho ho'
          refine ⟨vstep_weak h.1 ?_, vstep_weak h.2 fun f h' hk => ⟨hk.1, ih' _ _ hk.2⟩⟩
          intro f h' hk
          cases fl with
          | true => exact ⟨hk.1, ih _ _ hk.2⟩
          | false => exact ih _ _ hk
        · exact h
    exact weak t fr H h
  have hgt : ∀ i, i < ops.size → (Array.replicate ops.size false).getD i true = false := by
    intro i hi
    simp [Array.getD_eq_getD_getElem?, hi]
  refine drawF_any (B := B) (w0 := w0) hK h2 ops.size (Array.replicate ops.size false) canon fr H ρ w.drew a (by simp) h3 h1 ?_ ?_ ?_ hv hR.drew hF ?_
  · intro x hx
    exact ⟨h4 x hx, hgt x.1 (h4 x hx)⟩
  · intro i hi _
    obtain ⟨x, hx, rfl⟩ := h5 i hi
    exact ⟨x, hx, rfl⟩
  · intro j o hj hl
    rw [Array.getD_eq_getD_getElem?, Array.getElem?_replicate] at hl
    split at hl <;> simp at hl
  · rintro ρ' fr' H' a' w' hp ⟨g, hg, hq⟩ hR' hF'
    exact ⟨ρ', g, H', hp, hR', hF'.feq hg.symm, hq⟩

/-! The words of such a tree, for simp. -/

def vTK (P : Program) (N : Nat) (ops : Array Oper) (K : Fr → Heap → Prop) (t : Tree) (fr : Fr) (H : Heap) : Prop := vT P N ops K t fr H
def eTK (P : Program) (N : Nat) (ops : Array Oper) (K : Fr → Heap → Prop) (t : Tree) (fl : Bool) (H : Heap) (fr : Fr) (H' : Heap) : Prop :=
  match fl with
  | true => andK (H <+: H') (vT P N ops K t fr H')
  | false => vT P N ops K t fr H'
def vTo (P : Program) (N : Nat) (ops : Array Oper) (K : Fr → Heap → Prop) (t : Tree) (fl : Bool) (fr : Fr) (H : Heap) (o : Oper) : Prop :=
  match isR o.op with
  | true => vstep P N ops o (vTK P N ops K t) fr H
  | false => vstep P N ops o (eTK P N ops K t fl H) fr H
def vTe (P : Program) (N : Nat) (ops : Array Oper) (K : Fr → Heap → Prop) (t : Tree) (fl : Bool) (fr : Fr) (H : Heap) (o : Oper) : Prop := vstep P N ops o (eTK P N ops K t fl H) fr H

theorem vT_nil (K : Fr → Heap → Prop) (fr : Fr) (H : Heap) : vT P N ops K .nil fr H = K fr H := rfl
theorem eTK_eq (K : Fr → Heap → Prop) (t : Tree) (fl : Bool) (H : Heap) : eK fl H (vT P N ops K t) = eTK P N ops K t fl H := by
  funext f h
  cases fl <;> rfl
theorem vT_one (K : Fr → Heap → Prop) (i : Nat) (fl : Bool) (t : Tree) (fr : Fr) (H : Heap) : vT P N ops K (.one i fl t) fr H = bindO ops[i]? (vTo P N ops K t fl fr H) := by
  simp only [vT]
  cases ops[i]? with
  | none => simp [bindO]
  | some o =>
    simp only [bindO_some, vTo]
    cases isR o.op with
    | true => rfl
    | false => simp only [eTK_eq]
theorem vT_two {i : Nat} {fl : Bool} {t : Tree} {f : Nat} {t' : Tree} {K : Fr → Heap → Prop} {fr : Fr} {H : Heap} (h1 : bindO ops[i]? (vTe P N ops K t fl fr H)) (h2 : bindO ops[f]? (vTe P N ops K t' true fr H)) : vT P N ops K (.two i fl t f t') fr H := by
  simp only [vT]
  cases ho : ops[i]? with
  | none => simp [ho, bindO] at h1
  | some o =>
    cases ho' : ops[f]? with
    | none => simp [ho', bindO] at h2
    | some o' =>
      simp only [ho, ho', bindO_some, vTe] at h1 h2 ⊢
      exact ⟨by rw [eTK_eq]; exact h1, by rw [eTK_eq]; exact h2⟩

attribute [go_sem] vTK eTK vTo vTe vT_nil vT_one

end
end Go.Ab
end

section
/- The same with blocks from L on that are this region's own: they may be changed in between. It holds for every program. -/
set_option linter.all false
namespace Go.Ab
open Go.RowKit (Below)

section
variable {P : Program} {N : Nat} {ops : Array Oper} {L : Nat} {K : Fr → Heap → Prop} {fs : List Nat}

def vTX (P : Program) (N : Nat) (ops : Array Oper) (L : Nat) (K : Fr → Heap → Prop) : Tree → Fr → Heap → Prop
  | .nil, fr, H => K fr H
  | .one i fl t, fr, H => match ops[i]? with
    | none => False
    | some o => match isR o.op with
      | true => offL L o.op fr ∧ vstep P N ops o (vTX P N ops L K t) fr H
      | false => vstep P N ops o (eKX L fl H (vTX P N ops L K t)) fr H
  | .two i fl t f t', fr, H => match ops[i]?, ops[f]? with
    | some o, some o' => vstep P N ops o (eKX L fl H (vTX P N ops L K t)) fr H ∧ vstep P N ops o' (eKX L true H (vTX P N ops L K t')) fr H
    | _, _ => False
/-! The words of such a tree, for simp. -/

def vTXK (P : Program) (N : Nat) (ops : Array Oper) (L : Nat) (K : Fr → Heap → Prop) (t : Tree) (fr : Fr) (H : Heap) : Prop := vTX P N ops L K t fr H
def eTXK (P : Program) (N : Nat) (ops : Array Oper) (L : Nat) (K : Fr → Heap → Prop) (t : Tree) (fl : Bool) (H : Heap) (fr : Fr) (H' : Heap) : Prop :=
  match fl with
  | true => andK (KeepL L H H') (vTX P N ops L K t fr H')
  | false => vTX P N ops L K t fr H'
def vTXo (P : Program) (N : Nat) (ops : Array Oper) (L : Nat) (K : Fr → Heap → Prop) (t : Tree) (fl : Bool) (fr : Fr) (H : Heap) (o : Oper) : Prop :=
  match isR o.op with
  | true => andK (offB L o.op fr) (vstep P N ops o (vTXK P N ops L K t) fr H)
  | false => vstep P N ops o (eTXK P N ops L K t fl H) fr H
def vTXe (P : Program) (N : Nat) (ops : Array Oper) (L : Nat) (K : Fr → Heap → Prop) (t : Tree) (fl : Bool) (fr : Fr) (H : Heap) (o : Oper) : Prop := vstep P N ops o (eTXK P N ops L K t fl H) fr H

theorem vTX_nil (K : Fr → Heap → Prop) (fr : Fr) (H : Heap) : vTX P N ops L K .nil fr H = K fr H := rfl
theorem eTXK_eq (K : Fr → Heap → Prop) (t : Tree) (fl : Bool) (H : Heap) : eKX L fl H (vTX P N ops L K t) = eTXK P N ops L K t fl H := by
  funext f h
  cases fl <;> rfl
theorem vTX_one (K : Fr → Heap → Prop) (i : Nat) (fl : Bool) (t : Tree) (fr : Fr) (H : Heap) : vTX P N ops L K (.one i fl t) fr H = bindO ops[i]? (vTXo P N ops L K t fl fr H) := by
  simp only [vTX]
  cases ops[i]? with
  | none => simp [bindO]
  | some o =>
    simp only [bindO_some, vTXo]
    cases isR o.op with
    | true => rw [offB_iff]; rfl
    | false => simp only [eTXK_eq]
attribute [go_sem] vTXK eTXK vTXo vTXe vTX_nil vTX_one

end
end Go.Ab
end

section
/- DoubleSystem: the tested program's side (printed by gendbl.py). -/
set_option linter.all false
set_option maxRecDepth 20000
set_option maxHeartbeats 8000000
namespace Go.Ab

theorem Bl.same {e : Nat} {H H' H'' : Heap} {id n k : Nat} {cs : List Value} (h : Bl e H H' id cs n) (hs : Same (fun j => j = k) H' H'') (hk : H.length ≤ k) (hne : id ≠ k) : Bl e H H'' id cs n :=
  ⟨((Same.of_prefix h.1).trans hs).prefix (by intro j hj e; omega), h.2.1.keep hs hne, h.2.2⟩
end Go.Ab
namespace Go.Proofs.Ytdfeoccjllljiaa
open Go.Ab Go.Sort

end Go.Proofs.Ytdfeoccjllljiaa
end

section
/- A region's end told once; a cell made early and filled late. It holds for every program. -/
set_option linter.all false
namespace Go.Ab

theorem AWp.regCut {P : Program} {N : Nat} {H : Heap} {fr : Fr} {Q : Exit → Fr → Heap → Prop} {St : Type} {c : Code} (N' : St → Fr) (E : St → Heap → Prop)
    (hx : ∀ Q' : Exit → Fr → Heap → Prop, (∀ (s : St) (fr' : Fr) (H' : Heap), upF H' (N' s ++ fr) fr' → E s H' → Q' .normal fr' H') → AWp P N c Q' fr H)
    (hy : ∀ (s : St) (H' : Heap), E s H' → Q .normal (N' s ++ fr) H') : AWp P N c Q fr H := by
  let Q1 : Exit → Fr → Heap → Prop := fun e f h => match e with
    | .normal => ∃ s, upF h (N' s ++ fr) f ∧ E s h
    | _ => False
  refine AWp.weak (Q := Q1) ?_ (hx Q1 fun s f h h1 h2 => ⟨s, h1, h2⟩)
  intro e f h hq
  cases e with
  | normal => obtain ⟨s, h1, h2⟩ := hq; exact ⟨_, h1, hy s h h2⟩
  | _ => exact hq.elim

theorem boxLate {Hz Hn : Heap} {id : Nat} {zs cs : List Value} (hz : Hz[id]? = some ⟨zs, true, true⟩) (hp : Hz <+: Hn) (hl : zs.length = cs.length) (ho : cs.all Value.oneCell' = true) :
    storeAt Hn id 0 cs = some (Hn.set id ⟨cs, true, true⟩) ∧ Holds (Hn.set id ⟨cs, true, true⟩) id cs ∧ Same (fun j => j = id) Hn (Hn.set id ⟨cs, true, true⟩) ∧ (Hn.set id ⟨cs, true, true⟩).length = Hn.length := by
  have hb := Same.get (S := fun _ => False) (Same.of_prefix hp) hz (fun h => h)
  refine ⟨?_, ⟨true, List.getElem?_set_self (List.getElem?_eq_some_iff.1 hb).1⟩, same_set, by simp⟩
  rw [storeAt_of hb rfl rfl (by simp [hl]) ho]
  congr 3
  simp [over, hl]

end Go.Ab
end

section
/- Blocks turned round: impl.turnedBlocks. -/
set_option linter.all false
set_option maxRecDepth 20000
set_option maxHeartbeats 8000000
namespace Go.Proofs.Ytdfeoccjllljiaa
open Go.Ab Go.Sort

def turn (v : Nat) (b : Bk) (i : Nat) : Bk := blk ((b.a + i).tmod v) ((b.b + i).tmod v) ((b.c + i).tmod v)
def small (b : Bk) : Prop := (0 ≤ b.a ∧ b.a ≤ 900) ∧ (0 ≤ b.b ∧ b.b ≤ 900) ∧ (0 ≤ b.c ∧ b.c ≤ 900)
end Go.Proofs.Ytdfeoccjllljiaa
end

section
/- Squares: the specification's side. -/
set_option linter.all false
set_option maxRecDepth 20000
set_option maxHeartbeats 8000000
namespace Go.Proofs.Ytdfeoccjllljiaa
open Go.Ab Go.Sort

theorem pow_i64 {n : Nat} (h : n < 60) : IntKind.i64.wrap ((2 : Int) ^ n) = ((2 ^ n : Nat) : Int) := by
  have hm2 : 2 ^ n < 2 ^ 62 := Nat.pow_lt_pow_right (by omega) (by omega)
  have e : ((2 : Int) ^ n) = ((2 ^ n : Nat) : Int) := by rw [Int.natCast_pow]; rfl
  rw [e]
  obtain ⟨T, hT⟩ : ∃ T, 2 ^ n = T := ⟨_, rfl⟩
  rw [hT] at hm2 ⊢
  exact i64w (by omega) (by omega)

end Go.Proofs.Ytdfeoccjllljiaa
end

section
/- All types of a system: order, each once, how often. Plain Lean. -/
set_option linter.all false
set_option maxRecDepth 20000
namespace Go.Proofs.Ytdfeoccjllljiaa
open Go.Ab Go.Sort

/- The two points may change places. -/
theorem _root_.Go.Ab.Turn.symm {f g : Nat → Nat} {S : Nat → Prop} (h : Turn f g S) : Turn g f S := ⟨h.gS, h.fS, h.gg, h.ff, h.gne, h.fne⟩
/- How lists are ordered. -/
def ltL (x y : List Int) : Bool := decide (lexC x y < 0)
theorem ltL_nil (y : List Int) : ltL [] y = !y.isEmpty := by cases y <;> simp [ltL, lexC]
theorem ltL_cons_nil (x : Int) (xs : List Int) : ltL (x :: xs) [] = false := by simp [ltL, lexC]
theorem ltL_cons (x y : Int) (xs ys : List Int) : ltL (x :: xs) (y :: ys) = (decide (x < y) || (decide (x = y) && ltL xs ys)) := by
  unfold ltL
  simp only [lexC]
  by_cases h1 : x < y
  · simp [h1]
  · by_cases h2 : y < x
    · simp [h1, h2]; omega
    · have : x = y := by omega
      subst this
      simp
theorem ltL_irrefl : ∀ x : List Int, ltL x x = false
  | [] => rfl
  | x :: xs => by rw [ltL_cons, ltL_irrefl xs]; simp
theorem ltL_trans : ∀ x y z : List Int, ltL x y = true → ltL y z = true → ltL x z = true
  | [], [], _, h1, _ => by simp [ltL_nil] at h1
  | [], _ :: _, [], _, h2 => by simp [ltL_cons_nil] at h2
  | [], _ :: _, _ :: _, _, _ => by simp [ltL_nil]
  | _ :: _, [], _, h1, _ => by simp [ltL_cons_nil] at h1
  | _ :: _, _ :: _, [], _, h2 => by simp [ltL_cons_nil] at h2
  | x :: xs, y :: ys, z :: zs, h1, h2 => by
    rw [ltL_cons] at *
    simp only [Bool.or_eq_true, Bool.and_eq_true, decide_eq_true_eq] at *
    have ih := ltL_trans xs ys zs
    rcases h1 with h1 | ⟨h1, h1'⟩ <;> rcases h2 with h2 | ⟨h2, h2'⟩
    · left; omega
    · left; omega
    · left; omega
    · right; exact ⟨by omega, ih h1' h2'⟩
theorem ltL_asymm {x y : List Int} (h : ltL x y = true) : ltL y x = false := by
  cases h2 : ltL y x with
  | false => rfl
  | true => have := ltL_trans _ _ _ h h2; rw [ltL_irrefl] at this; simp at this

/- Ascending lists, each element once. -/
def AscL (l : List (List Int)) : Prop := l.Pairwise (fun x y => ltL x y = true)
theorem AscL.uniq {l m : List (List Int)} (hl : AscL l) (hm : AscL m) (h : ∀ x, x ∈ l ↔ x ∈ m) : l = m := by
  have nd : ∀ {l : List (List Int)}, AscL l → l.Nodup := fun hl => List.Pairwise.imp (fun {a b} e => by rintro rfl; rw [ltL_irrefl] at e; simp at e) hl
  have hp := (List.perm_ext_iff_of_nodup (nd hl) (nd hm)).2 h
  refine hp.eq_of_pairwise ?_ hl hm
  intro x y _ _ h1 h2
  rw [ltL_asymm h1] at h2; simp at h2
/- The place where a list is put. -/
/- Runs of the same element. -/
/- All types of a system. -/
end Go.Proofs.Ytdfeoccjllljiaa
end

section
/- Difference families: triples. -/
set_option linter.all false
set_option maxRecDepth 20000
set_option maxHeartbeats 8000000
namespace Go.Proofs.Ytdfeoccjllljiaa
open Go.Ab Go.Sort

def tripS (v : Int) : List Int → Bool
  | [a, b, c] => decide (1 ≤ a) && decide (a < b) && decide (b < c) && decide (c ≤ (v - 1) / 2) && (decide (a + b = c) || decide (a + b + c = v))
  | _ => false
def tripI (v : Int) : List Int → Bool
  | [a, b, c] => decide (1 ≤ a) && decide (a < b) && decide (b < c) && decide (c < v) && (decide (a + b = c) || decide (a + b + c = v))
  | _ => false
theorem len3 {t : List Int} (h : t.length = 3) : ∃ a b c, t = [a, b, c] := by
  match t, h with
  | [a, b, c], _ => exact ⟨a, b, c, rfl⟩
theorem tripS_len {v : Int} {t : List Int} (h : t.length ≠ 3) : tripS v t = false := by
  unfold tripS; split
  · simp at h
  · rfl
theorem tripI_len {v : Int} {t : List Int} (h : t.length ≠ 3) : tripI v t = false := by
  unfold tripI; split
  · simp at h
  · rfl

theorem l02Triple_ok {H : Heap} {u : Value} {v : Int} {t : List Int} (hv : 3 ≤ v ∧ v ≤ 15) (hu : IntsAt H u t) (Post : Value → Heap → Prop) (h : Post (.bool (tripS v t)) H) :
    ACalls Try.prog 147 [.int .i64 v, u] H Post := by
  obtain ⟨i, o, rfl, h1, hl⟩ := hu
  have wv : IntKind.i64.wrap (v - 1) = v - 1 := i64w (by omega) (by omega)
  have hd : (v - 1).tdiv 2 = (v - 1) / 2 := Int.tdiv_eq_ediv_of_nonneg (by omega)
  have wh : IntKind.i64.wrap ((v - 1) / 2) = (v - 1) / 2 := i64w (by omega) (by omega)
  refine acalls_vc (rs := [.tmp 4]) Try.func147 rfl rfl Try.ntmps147 rfl rfl ?_
  simp (maxSteps := 1000000) [go_sem]
  refine AWp.draw mixed [(0, false), (1, false), (2, false), (3, false), (4, false), (5, false), (6, false), (7, false), (8, false), (9, false), (10, false), (11, false), (12, false), (13, false), (14, false), (15, false), (16, false), (17, false), (18, false), (19, false), (20, false), (21, false), (22, false), (23, false), (24, false), (25, false), (26, false), (27, false), (28, false), (29, false), (30, false), (31, false), (32, false), (33, false), (34, false), (35, false), (36, false), (37, false), (38, false), (39, false), (40, false), (41, false), (42, false), (43, false), (44, false), (45, false), (46, false), (47, false), (48, false), (49, false), (50, false), (51, false), (52, false), (53, false), (54, false), (55, false), (56, false), (57, false), (58, false), (59, false), (60, false), (61, false), (62, false), (63, false), (64, false)] (by kernel_rfl) ?_
  by_cases hn : t.length = 3
  · obtain ⟨a, b, c, rfl⟩ := len3 hn
    have l0 : cellsAt H i o 1 = some [.int .i64 a] := by simpa using h1.cell (k := 0) (v := .int .i64 a) (by simp [ints])
    have l1 := h1.cell (k := 1) (v := .int .i64 b) (by simp [ints])
    have l2 := h1.cell (k := 2) (v := .int .i64 c) (by simp [ints])
    by_cases c1 : 1 ≤ a
    · by_cases c2 : a < b
      · by_cases c3 : b < c
        · by_cases c4 : c ≤ (v - 1) / 2
          · have w1 : IntKind.i64.wrap (a + b) = a + b := i64w (by omega) (by omega)
            have w2 : IntKind.i64.wrap (a + b + c) = a + b + c := i64w (by omega) (by omega)
            by_cases c5 : a + b = c
            · have c5' : (a + b == c) = true := beq_iff_eq.2 c5
              simp (maxSteps := 1000000) [go_sem, undef, l0, l1, l2, c1, c2, c3, c4, c5', wv, hd, wh, w1, w2]
              simpa [tripS, c1, c2, c3, c4, c5] using h
            · have c5' : (a + b == c) = false := beq_eq_false_iff_ne.2 c5
              simp (maxSteps := 1000000) [go_sem, undef, l0, l1, l2, c1, c2, c3, c4, c5', wv, hd, wh, w1, w2]
              rw [show (a + b + c == v) = decide (a + b + c = v) from rfl]
              simpa [tripS, c1, c2, c3, c4, c5] using h
          · simp (maxSteps := 1000000) [go_sem, undef, l0, l1, l2, c1, c2, c3, c4, wv, hd, wh]
            simpa [tripS, c1, c2, c3, c4] using h
        · simp (maxSteps := 1000000) [go_sem, undef, l0, l1, l2, c1, c2, c3]
          simpa [tripS, c1, c2, c3] using h
      · simp (maxSteps := 1000000) [go_sem, undef, l0, l1, l2, c1, c2]
        simpa [tripS, c1, c2] using h
    · simp (maxSteps := 1000000) [go_sem, undef, l0, l1, l2, c1]
      simpa [tripS, c1] using h
  · rw [tripS_len hn] at h
    obtain ⟨n, hnn⟩ : ∃ n, t.length = n := ⟨_, rfl⟩
    rw [hnn] at hn ⊢
    have hni : ((n : Int) == 3) = false := beq_eq_false_iff_ne.2 (by omega)
    simp (maxSteps := 1000000) [go_sem, undef, hni]
    exact h

theorem isTriple_ok {H : Heap} {u : Value} {v : Int} {t : List Int} (hv : 3 ≤ v ∧ v ≤ 15) (hu : IntsAt H u t) (Post : Value → Heap → Prop) (h : Post (.bool (tripI v t)) H) :
    ACalls Try.prog 148 [.int .i64 v, u] H Post := by
  have hu' := hu
  obtain ⟨i, o, rfl, h1, hl⟩ := hu
  refine acalls_vc (rs := [.tmp 4]) Try.func148 rfl rfl Try.ntmps148 rfl rfl ?_
  simp (maxSteps := 1000000) [go_sem]
  refine AWp.draw mixed [(0, false), (1, false), (2, false), (3, false), (4, false), (5, false), (6, false), (7, false), (8, false), (9, false), (10, false), (11, false), (12, false), (13, false), (14, false), (15, false), (16, false), (17, false), (18, false), (19, false), (20, false), (21, false), (22, false), (23, false), (24, false), (25, false), (26, false), (27, false), (28, false), (29, false), (30, false), (31, false), (32, false), (33, false), (34, false), (35, false), (36, false), (37, false), (38, false), (39, false), (40, false), (41, false), (42, false)] (by kernel_rfl) ?_
  by_cases hn : t.length = 3
  · have hn' := hn
    obtain ⟨a, b, c, rfl⟩ := len3 hn
    have l0 : cellsAt H i o 1 = some [.int .i64 a] := by simpa using h1.cell (k := 0) (v := .int .i64 a) (by simp [ints])
    have l1 := h1.cell (k := 1) (v := .int .i64 b) (by simp [ints])
    have l2 := h1.cell (k := 2) (v := .int .i64 c) (by simp [ints])
    simp (maxSteps := 1000000) [go_sem, undef, l0, l1, l2]
    refine rises_ok (n := v) hu' (by omega) (by omega) _ ?_
    intro r hr
    by_cases hR : Rises v [a, b, c]
    · have hg := good_iff.1 ((rises_block v ⟨a, b, c⟩).1 hR)
      simp only at hg
      obtain rfl : r = true := hr.2 hR
      by_cases c1 : 1 ≤ a
      · have w1 : IntKind.i64.wrap (a + b) = a + b := i64w (by omega) (by omega)
        have w2 : IntKind.i64.wrap (a + b + c) = a + b + c := i64w (by omega) (by omega)
        have c2 : a < b := by omega
        have c3 : b < c := by omega
        have c4 : c < v := by omega
        by_cases c5 : a + b = c
        · have c5' : (a + b == c) = true := beq_iff_eq.2 c5
          simp (maxSteps := 1000000) [go_sem, undef, l0, l1, l2, c1, c5', w1, w2]
          simpa [tripI, c1, c2, c3, c4, c5] using h
        · have c5' : (a + b == c) = false := beq_eq_false_iff_ne.2 c5
          simp (maxSteps := 1000000) [go_sem, undef, l0, l1, l2, c1, c5', w1, w2]
          rw [show (a + b + c == v) = decide (a + b + c = v) from rfl]
          simpa [tripI, c1, c2, c3, c4, c5] using h
      · simp (maxSteps := 1000000) [go_sem, undef, l0, l1, l2, c1]
        simpa [tripI, c1] using h
    · obtain rfl : r = false := by cases r with | false => rfl | true => exact absurd (hr.1 rfl) hR
      have e : tripI v [a, b, c] = false := by
        cases ht : tripI v [a, b, c] with
        | false => rfl
        | true =>
          simp only [tripI, Bool.and_eq_true, decide_eq_true_eq] at ht
          exact absurd ((rises_block v ⟨a, b, c⟩).2 (good_iff.2 (by simp only; omega))) hR
      rw [e] at h
      simp (maxSteps := 1000000) [go_sem, undef, l0, l1, l2]
      exact h
  · rw [tripI_len hn] at h
    obtain ⟨n, hnn⟩ : ∃ n, t.length = n := ⟨_, rfl⟩
    rw [hnn] at hn ⊢
    have hni : ((n : Int) == 3) = false := beq_eq_false_iff_ne.2 (by omega)
    simp (maxSteps := 1000000) [go_sem, undef, hni]
    exact h

end Go.Proofs.Ytdfeoccjllljiaa
end

section
/- Difference families: there is one for each number. Plain. -/
set_option linter.all false
set_option maxRecDepth 20000
set_option maxHeartbeats 8000000
namespace Go.Proofs.Ytdfeoccjllljiaa
open Go.Ab Go.Sort

def NumB (v : Int) : Prop := v = 7 ∨ v = 13 ∨ v = 15
def famOf (v : Int) : List (List Int) := if v = 7 then [[1, 2, 3]] else if v = 13 then [[1, 3, 4], [2, 5, 6]] else [[1, 3, 4], [2, 6, 7]]
def diffL (v : Int) : List Int := if v = 7 then [1, 2, 3] else if v = 13 then [1, 2, 3, 4, 5, 6] else [1, 2, 3, 4, 6, 7]
def hd (t : List Int) : Int := t.headD 0
end Go.Proofs.Ytdfeoccjllljiaa
end

section
/- Difference families: the implementation's side. -/
set_option linter.all false
set_option maxRecDepth 20000
set_option maxHeartbeats 8000000
namespace Go.Proofs.Ytdfeoccjllljiaa
open Go.Ab Go.Sort

def numB (v : Int) : Bool := decide (v = 7) || decide (v = 13) || decide (v = 15)
theorem numB_iff {v : Int} : numB v = true ↔ NumB v := by simp [numB, NumB, or_assoc]
theorem isCyclic_ok {H : Heap} {v : Int} (Post : Value → Heap → Prop) (h : Post (.bool (numB v)) H) : ACalls Try.prog 104 [.int .i64 v] H Post := by
  refine acalls_vc (rs := [.tmp 2]) Try.func104 rfl rfl Try.ntmps104 rfl rfl ?_
  by_cases c1 : v = 7
  · subst c1
    simp (maxSteps := 1000000) [go_sem, undef]; exact h
  by_cases c2 : v = 13
  · subst c2
    simp (maxSteps := 1000000) [go_sem, undef]; exact h
  have e1 : (v == 7) = false := beq_eq_false_iff_ne.2 c1
  have e2 : (v == 13) = false := beq_eq_false_iff_ne.2 c2
  have e3 : (v == 15) = decide (v = 15) := rfl
  have hn : numB v = decide (v = 15) := by simp [numB, c1, c2]
  rw [hn] at h
  simp (maxSteps := 1000000) [go_sem, undef, e1, e2]
  rw [e3]; exact h

def dfK (v : Int) (k : Nat) : List Int := ((upTo 1 k).filter fun n => decide (v ≠ 15 ∨ n ≠ 5)).map fun n : Nat => (n : Int)
theorem dfK_succ {v : Int} {k : Nat} (h : 1 ≤ k) : dfK v (k + 1) = dfK v k ++ (if v ≠ 15 ∨ k ≠ 5 then [(k : Int)] else []) := by
  unfold dfK
  rw [upTo_succ h, List.filter_append, List.map_append]
  congr 1
  by_cases hc : v ≠ 15 ∨ k ≠ 5
  · rw [if_pos hc]; simp [hc]
  · rw [if_neg hc]; simp [hc]
theorem dfK_len (v : Int) (k : Nat) : (dfK v k).length ≤ k := by
  unfold dfK; rw [List.length_map]
  refine Nat.le_trans (List.length_filter_le _ _) ?_
  rw [upTo_length]; omega

theorem differences_ok {H : Heap} {v : Int} (hv : NumB v) (Post : Value → Heap → Prop) (h : ∀ H' w, H <+: H' → IntsIn H.length H'.length H' w (diffL v) → Post w H') : ACalls Try.prog 109 [.int .i64 v] H Post := by
  refine ACalls.res ?_
  refine acalls_vc (rs := [.tmp 2]) Try.func109 rfl rfl Try.ntmps109 rfl rfl ?_
  simp (maxSteps := 1000000) [go_sem]
  refine AWp.addGhost ?_
  have hbl0 := Bl.ghost 1 H
  generalize H ++ [(⟨[], false, false⟩ : Blk)] = HG at hbl0 ⊢
  obtain ⟨m, hm, hm7, hd⟩ : ∃ m : Nat, (v - 1) / 2 = m ∧ m ≤ 7 ∧ dfK v (m + 1) = diffL v := by
    rcases hv with rfl | rfl | rfl
    · exact ⟨3, rfl, by omega, by decide⟩
    · exact ⟨6, rfl, by omega, by decide⟩
    · exact ⟨7, rfl, by omega, by decide⟩
  have hvb : 7 ≤ v ∧ v ≤ 15 := by unfold NumB at hv; omega
  have wv : IntKind.i64.wrap (v - 1) = v - 1 := i64w (by omega) (by omega)
  have hq : (v - 1).tdiv 2 = m := by rw [Int.tdiv_eq_ediv_of_nonneg (by omega), hm]
  have wh : IntKind.i64.wrap (m : Int) = m := i64w (by omega) (by omega)
  refine AWp.loopVc (St := Nat × Nat × List Int) (fun s => [(0, .int .i64 v), (3, lv 1 s.2.1 0 s.2.2.length), (4, .int .i64 s.1)])
    (fun s H' => 1 ≤ s.1 ∧ s.1 ≤ m + 1 ∧ s.2.2 = dfK v s.1 ∧ Bl 1 H H' s.2.1 (ints s.2.2) s.2.2.length) (fun s => m + 1 - s.1) (1, H.length, []) ?_ ?_ ?_
  · simp [upF, Fr.get, Up.refl, Up.nil]
  · exact ⟨by simp, by simp, by simp [dfK, upTo_self], by simpa [ints] using hbl0⟩
  · rintro K ⟨s, id, acc⟩ H' ⟨h1, hs, hacc, hbl⟩ hK
    simp only at h1 hs hacc hbl
    have hla : acc.length ≤ 10 := by rw [hacc]; have := dfK_len v s; omega
    by_cases hlt : s ≤ m
    · have hw_s : IntKind.i64.wrap ((s : Int) + 1) = (s : Int) + 1 := i64w (by omega) (by omega)
      have hsn := dfK_succ (v := v) (k := s) h1
      rw [← hacc] at hsn
      have hlti : (s : Int) ≤ m := by omega
      obtain ⟨hsrc, H5, hap, hbl5⟩ := hbl.push (xs := ints [(s : Int)]) (by omega) (by simp [ints])
      simp only [ints, List.map_cons, List.map_nil] at hsrc hap
      have yes : (v ≠ 15 ∨ s ≠ 5) → ∀ fr', upF H5 [(0, .int .i64 v), (3, lv 1 (H'.length + 1) 0 (acc.length + 1)), (4, .int .i64 (s + 1))] fr' → K fr' H5 := fun hc fr' hf =>
        hK (s + 1, H'.length + 1, acc ++ [(s : Int)]) _ _ (by simp only; omega) (by simpa using hf) ⟨by simp only; omega, by simp only; omega, by simp only [hsn]; rw [if_pos hc], by
          rw [ints_append] at hbl5; simpa using hbl5⟩
      by_cases c15 : v = 15
      · have b15 : (v != 15) = false := by simp [c15]
        by_cases c5 : s = 5
        · have no : ∀ fr', upF H' [(0, .int .i64 v), (3, lv 1 id 0 acc.length), (4, .int .i64 (s + 1))] fr' → K fr' H' := fun fr' hf =>
            hK (s + 1, id, acc) _ _ (by simp only; omega) (by simpa using hf) ⟨by simp only; omega, by simp only; omega, by simp only [hsn]; rw [if_neg (by omega)]; simp, hbl⟩
          have b5 : ((s : Int) != 5) = false := by simp; omega
          simp (maxSteps := 1000000) [go_sem, undef, wv, hq, wh, hlt, hlti, b15, b5, hw_s]
          exact no _ (by simp [upF, Fr.get, Up.refl])
        · have b5 : ((s : Int) != 5) = true := by simp; omega
          simp (maxSteps := 1000000) [go_sem, undef, wv, hq, wh, hlt, hlti, b15, b5, hw_s, hsrc, hap]
          exact andK_intro (by omega) (yes (.inr c5) _ (by simp [upF, Fr.get, Up.refl]))
      · have b15 : (v != 15) = true := by simp [c15]
        simp (maxSteps := 1000000) [go_sem, undef, wv, hq, wh, hlt, hlti, b15, hw_s, hsrc, hap]
        exact andK_intro (by omega) (yes (.inl c15) _ (by simp [upF, Fr.get, Up.refl]))
    · have : s = m + 1 := by omega
      subst this
      have hge : ¬ ((m : Int) + 1 ≤ m) := by omega
      simp (maxSteps := 1000000) [go_sem, wv, hq, wh, hge]
      refine ⟨_, Up.refl _ _, h H' _ hbl.1 ?_⟩
      rw [← hd, ← hacc]
      exact OwnInts.inn (OwnInts.of_ol hbl.2.1 (by omega)) hbl.2.2

end Go.Proofs.Ytdfeoccjllljiaa
end

section
/- Difference families: the specification's side. -/
set_option linter.all false
set_option maxRecDepth 20000
set_option maxHeartbeats 8000000
namespace Go.Proofs.Ytdfeoccjllljiaa
open Go.Ab Go.Sort

theorem l02Numbers_ok {H : Heap} {v : Int} (Post : Value → Heap → Prop) (h : Post (.bool (numB v)) H) : ACalls Try.prog 102 [.int .i64 v] H Post := by
  refine acalls_vc (rs := [.tmp 2]) Try.func102 rfl rfl Try.ntmps102 rfl rfl ?_
  by_cases c1 : v = 7
  · subst c1
    simp (maxSteps := 1000000) [go_sem, undef]; exact h
  by_cases c2 : v = 13
  · subst c2
    simp (maxSteps := 1000000) [go_sem, undef]; exact h
  have e1 : (v == 7) = false := beq_eq_false_iff_ne.2 c1
  have e2 : (v == 13) = false := beq_eq_false_iff_ne.2 c2
  have e3 : (v == 15) = decide (v = 15) := rfl
  have hn : numB v = decide (v = 15) := by simp [numB, c1, c2]
  rw [hn] at h
  simp (maxSteps := 1000000) [go_sem, undef, e1, e2]
  rw [e3]; exact h

end Go.Proofs.Ytdfeoccjllljiaa
end

section
/- Results that are lists of families, one at most: equal, marked, held. -/
set_option linter.all false
set_option maxRecDepth 20000
set_option maxHeartbeats 8000000
namespace Go.Proofs.Ytdfeoccjllljiaa
open Go.Ab

def FamsIn (a b : Nat) (H : Heap) (v : Value) (fs : List (List (List Int))) : Prop :=
  ∃ oid, v = lv 1 oid 0 fs.length ∧ fs.length ≤ 1 ∧ ∀ xss, fs = [xss] → Span a b oid ∧ ∃ mv lo hi, Holds H oid [mv] ∧ RowsIn lo hi H mv xss ∧ a ≤ lo ∧ hi ≤ b ∧ (oid < lo ∨ hi ≤ oid)
def FamsAt (H : Heap) (v : Value) (fs : List (List (List Int))) : Prop :=
  ∃ oid, v = lv 1 oid 0 fs.length ∧ fs.length ≤ 1 ∧ ∀ xss, fs = [xss] → ∃ mv, Holds H oid [mv] ∧ IntssAt H mv xss
def MarkFs (a b : Nat) (H : Heap) (v : Value) (k : Int) (fs : List (List (List Int))) : Prop :=
  ∃ oid, v = lv 1 oid 0 fs.length ∧ fs.length ≤ 1 ∧ ∀ xss, fs = [xss] → Span a b oid ∧ ∃ mv lo hi, Holds H oid [mv] ∧ MarkRows lo hi H mv k xss ∧ a ≤ lo ∧ hi ≤ b ∧ (oid < lo ∨ hi ≤ oid)
theorem FamsIn.keep {a b : Nat} {H H' : Heap} {v : Value} {fs : List (List (List Int))} (h : FamsIn a b H v fs) {S : Nat → Prop} (hs : Same S H H') (hd : ∀ j, Span a b j → ¬ S j) : FamsIn a b H' v fs := by
  obtain ⟨oid, h1, h2, h3⟩ := h
  refine ⟨oid, h1, h2, fun xss e => ?_⟩
  obtain ⟨g1, mv, lo, hi, g2, g3, g4, g5, g6⟩ := h3 xss e
  exact ⟨g1, mv, lo, hi, g2.keepS hs (hd _ g1), g3.keep hs (by rintro j ⟨e1, e2⟩; exact hd j ⟨by omega, by omega⟩), g4, g5, g6⟩
theorem FamsIn.pre {a b : Nat} {H H' : Heap} (hp : H <+: H') {v : Value} {fs : List (List (List Int))} (h : FamsIn a b H v fs) : FamsIn a b H' v fs := h.keep (S := fun _ => False) (Same.of_prefix hp) (fun _ _ h => h)
theorem MarkFs.keep {a b : Nat} {H H' : Heap} {v : Value} {k : Int} {fs : List (List (List Int))} (h : MarkFs a b H v k fs) {S : Nat → Prop} (hs : Same S H H') (hd : ∀ j, Span a b j → ¬ S j) : MarkFs a b H' v k fs := by
  obtain ⟨oid, h1, h2, h3⟩ := h
  refine ⟨oid, h1, h2, fun xss e => ?_⟩
  obtain ⟨g1, mv, lo, hi, g2, g3, g4, g5, g6⟩ := h3 xss e
  exact ⟨g1, mv, lo, hi, g2.keepS hs (hd _ g1), g3.keep hs (by rintro j ⟨e1, e2⟩; exact hd j ⟨by omega, by omega⟩), g4, g5, g6⟩
theorem MarkFs.pre {a b : Nat} {H H' : Heap} (hp : H <+: H') {v : Value} {k : Int} {fs : List (List (List Int))} (h : MarkFs a b H v k fs) : MarkFs a b H' v k fs := h.keep (S := fun _ => False) (Same.of_prefix hp) (fun _ _ h => h)
theorem FamsIn.read {a b : Nat} {H : Heap} {v : Value} {fs : List (List (List Int))} (h : FamsIn a b H v fs) : FamsAt H v fs := by
  obtain ⟨oid, h1, h2, h3⟩ := h
  exact ⟨oid, h1, h2, fun xss e => by obtain ⟨_, mv, _, _, g2, g3, _⟩ := h3 xss e; exact ⟨mv, g2, g3.read⟩⟩
theorem FamsAt.pre {H H' : Heap} (hp : H <+: H') {v : Value} {fs : List (List (List Int))} (h : FamsAt H v fs) : FamsAt H' v fs := by
  obtain ⟨oid, h1, h2, h3⟩ := h
  exact ⟨oid, h1, h2, fun xss e => by obtain ⟨mv, g1, g2⟩ := h3 xss e; exact ⟨mv, g1.pre hp, g2.pre hp⟩⟩
theorem FamsIn.one {a b : Nat} {H : Heap} {v : Value} {fs : List (List (List Int))} (h : FamsIn a b H v fs) : v.oneCell' = true := by obtain ⟨_, rfl, _⟩ := h; rfl
theorem MarkFs.one {a b : Nat} {H : Heap} {v : Value} {k : Int} {fs : List (List (List Int))} (h : MarkFs a b H v k fs) : v.oneCell' = true := by obtain ⟨_, rfl, _⟩ := h; rfl
theorem FamsIn.nil (a b : Nat) (H : Heap) : FamsIn a b H (lv 1 0 0 0) [] := ⟨0, rfl, by simp, fun _ e => by cases e⟩
theorem fam_one {fs : List (List (List Int))} (h : fs.length ≤ 1) : fs = [] ∨ ∃ xss, fs = [xss] := by
  match fs, h with
  | [], _ => exact .inl rfl
  | [x], _ => exact .inr ⟨x, rfl⟩

theorem eqFs_ok {H : Heap} {v v' : Value} {xs ys : List (List (List Int))} (h1 : FamsAt H v xs) (h2 : FamsAt H v' ys) (Post : Value → Heap → Prop)
    (h : Post (.bool (decide (xs = ys))) H) : ACalls Try.prog 50 [v, v'] H Post := by
  obtain ⟨oid, rfl, a1, a2⟩ := h1
  obtain ⟨oid', rfl, b1, b2⟩ := h2
  have w1 : IntKind.i64.wrap 1 = 1 := i64w (by omega) (by omega)
  refine acalls_vc (rs := [.tmp 4]) Try.func50 rfl rfl Try.ntmps50 rfl rfl ?_
  rcases fam_one a1 with rfl | ⟨xss, rfl⟩ <;> rcases fam_one b1 with rfl | ⟨yss, rfl⟩
  · simp (maxSteps := 1000000) [go_sem]
    refine AWp.loopVc (fun s : Nat => [(0, lv 1 oid 0 0), (1, lv 1 oid' 0 0), (5, .int .i64 s)]) (fun s H' => s = 0 ∧ H' = H) (fun s => 1 - s) 0 ?_ ?_ ?_
    · simp [upF, Fr.get, Up.refl]
    · exact ⟨rfl, rfl⟩
    · rintro K s H' ⟨rfl, rfl⟩ hK
      simp (maxSteps := 1000000) [go_sem]
      simpa using h
  · simp (maxSteps := 1000000) [go_sem]
    simpa using h
  · simp (maxSteps := 1000000) [go_sem]
    simpa using h
  · obtain ⟨mv, x1, x2⟩ := a2 xss rfl
    obtain ⟨mv', y1, y2⟩ := b2 yss rfl
    have c1 : cellsAt H oid 0 1 = some [mv] := x1.cell (o := 0) rfl
    have c2 : cellsAt H oid' 0 1 = some [mv'] := y1.cell (o := 0) rfl
    obtain ⟨i1, o1, rfl⟩ : ∃ i o, mv = lv 1 i o xss.length := by obtain ⟨i, o, _, e, _⟩ := x2; exact ⟨i, o, e⟩
    obtain ⟨i2, o2, rfl⟩ : ∃ i o, mv' = lv 1 i o yss.length := by obtain ⟨i, o, _, e, _⟩ := y2; exact ⟨i, o, e⟩
    simp (maxSteps := 1000000) [go_sem]
    refine AWp.loopVc (fun s : Nat => [(0, lv 1 oid 0 1), (1, lv 1 oid' 0 1), (5, .int .i64 s)]) (fun s H' => s ≤ 1 ∧ H' = H ∧ (s = 1 → xss = yss)) (fun s => 1 - s) 0 ?_ ?_ ?_
    · simp [upF, Fr.get, Up.refl]
    · exact ⟨by omega, rfl, fun e => by omega⟩
    · rintro K s H' ⟨hs, rfl, he⟩ hK
      obtain rfl | rfl : s = 0 ∨ s = 1 := by omega
      · simp (maxSteps := 1000000) [go_sem]
        refine AWp.draw mixed [(0, false), (1, false), (2, false), (3, false), (4, false), (5, false), (6, false), (7, false), (8, false), (9, false)] (by kernel_rfl) ?_
        simp (maxSteps := 1000000) [go_sem, c1, c2]
        refine eqInt64SS_ok x2 y2 _ ?_
        by_cases e : xss = yss
        · rw [decide_eq_true e]
          simp (maxSteps := 1000000) [go_sem, w1]
          exact hK 1 _ _ (by omega) (by simp [upF, Fr.get, Up.refl]) ⟨by omega, rfl, fun _ => e⟩
        · rw [decide_eq_false e]
          rw [decide_eq_false (fun h => e (by simpa using h))] at h
          simp (maxSteps := 1000000) [go_sem]
          exact h
      · rw [decide_eq_true (by rw [he rfl])] at h
        simp (maxSteps := 1000000) [go_sem]
        exact h

theorem markFs_ok {a b T : Nat} {H : Heap} {v : Value} {k : Int} {fs : List (List (List Int))} (h : FamsIn a b H v fs) (hT : T = fs.flatten.flatten.length) (hk0 : 0 ≤ k) (hk : k ≤ 10000000) (Post : Value → Heap → Prop)
    (hP : ∀ H', Same (Span a b) H H' → MarkFs a b H' v k fs → Post (.int .i64 (k + T)) H') : ACalls Try.prog 51 [v, .int .i64 k] H Post := by
  subst hT
  obtain ⟨oid, rfl, h2, h3⟩ := h
  have w1 : IntKind.i64.wrap 1 = 1 := i64w (by omega) (by omega)
  refine acalls_vc (rs := [.tmp 4]) Try.func51 rfl rfl Try.ntmps51 rfl rfl ?_
  rcases fam_one h2 with rfl | ⟨xss, rfl⟩
  · have fin := hP H (Same.refl _ _) ⟨oid, rfl, h2, fun _ e => by cases e⟩
    simp (maxSteps := 1000000) [go_sem]
    refine AWp.loopVc (fun s : Nat => [(0, lv 1 oid 0 0), (1, .int .i64 k), (5, .int .i64 s)]) (fun s H' => s = 0 ∧ H' = H) (fun s => 1 - s) 0 ?_ ?_ ?_
    · simp [upF, Fr.get, Up.refl]
    · exact ⟨rfl, rfl⟩
    · rintro K s H' ⟨rfl, rfl⟩ hK
      simp (maxSteps := 1000000) [go_sem]
      simpa using fin
  · obtain ⟨g1, mv, lo, hi, g2, g3, g4, g5, g6⟩ := h3 xss rfl
    have c1 : cellsAt H oid 0 1 = some [mv] := g2.cell (o := 0) rfl
    simp (maxSteps := 1000000) [go_sem]
    obtain ⟨T, hT⟩ : ∃ T, T = xss.flatten.length := ⟨_, rfl⟩
    have hT' : ([xss] : List (List (List Int))).flatten.flatten.length = T := by rw [hT]; simp
    rw [hT'] at hP
    refine AWp.loopVc (fun s : Nat => [(0, lv 1 oid 0 1), (1, .int .i64 (if s = 0 then k else k + T)), (5, .int .i64 s)]) (fun s H' => s ≤ 1 ∧ (s = 0 → H' = H) ∧ (s = 1 → Same (Span a b) H H' ∧ MarkFs a b H' (lv 1 oid 0 1) k [xss])) (fun s => 1 - s) 0 ?_ ?_ ?_
    · simp [upF, Fr.get, Up.refl]
    · exact ⟨by omega, fun _ => rfl, fun e => by omega⟩
    · rintro K s H' ⟨hs, e0, e1⟩ hK
      obtain rfl | rfl : s = 0 ∨ s = 1 := by omega
      · obtain rfl := e0 rfl
        simp (maxSteps := 1000000) [go_sem, c1]
        refine markIntss_ok g3 hT hk0 (by omega) _ ?_
        intro H2 hs2 mk2
        simp (maxSteps := 1000000) [go_sem, w1]
        refine hK 1 _ _ (by omega) (by simp [upF, Fr.get, Up.refl]) ⟨by omega, fun e => by omega, fun _ => ⟨hs2.mono fun j _ ⟨x1, x2⟩ => ⟨by omega, by omega⟩, oid, rfl, h2, fun ys e => ?_⟩⟩
        cases e
        exact ⟨g1, mv, lo, hi, g2.keepS hs2 (by rintro ⟨x1, x2⟩; omega), mk2, g4, g5, g6⟩
      · obtain ⟨x1, x2⟩ := e1 rfl
        have fin := hP H' x1 x2
        simp (maxSteps := 1000000) [go_sem]
        simpa using fin

theorem heldFs_ok {a b T : Nat} {H : Heap} {v : Value} {k : Int} {fs : List (List (List Int))} (h : MarkFs a b H v k fs) (hT : T = fs.flatten.flatten.length) (hk0 : 0 ≤ k) (hk : k ≤ 10000000) (Post : Value → Heap → Prop)
    (hP : Post (.int .i64 (k + T)) H) : ACalls Try.prog 52 [v, .int .i64 k] H Post := by
  subst hT
  obtain ⟨oid, rfl, h2, h3⟩ := h
  have w1 : IntKind.i64.wrap 1 = 1 := i64w (by omega) (by omega)
  refine acalls_vc (rs := [.tmp 4]) Try.func52 rfl rfl Try.ntmps52 rfl rfl ?_
  rcases fam_one h2 with rfl | ⟨xss, rfl⟩
  · simp (maxSteps := 1000000) [go_sem]
    refine AWp.loopVc (fun s : Nat => [(0, lv 1 oid 0 0), (1, .int .i64 k), (5, .int .i64 s)]) (fun s H' => s = 0 ∧ H' = H) (fun s => 1 - s) 0 ?_ ?_ ?_
    · simp [upF, Fr.get, Up.refl]
    · exact ⟨rfl, rfl⟩
    · rintro K s H' ⟨rfl, rfl⟩ hK
      simp (maxSteps := 1000000) [go_sem]
      simpa using hP
  · obtain ⟨g1, mv, lo, hi, g2, g3, g4, g5, g6⟩ := h3 xss rfl
    have c1 : cellsAt H oid 0 1 = some [mv] := g2.cell (o := 0) rfl
    simp (maxSteps := 1000000) [go_sem]
    obtain ⟨T, hT⟩ : ∃ T, T = xss.flatten.length := ⟨_, rfl⟩
    have hT' : ([xss] : List (List (List Int))).flatten.flatten.length = T := by rw [hT]; simp
    rw [hT'] at hP
    refine AWp.loopVc (fun s : Nat => [(0, lv 1 oid 0 1), (1, .int .i64 (if s = 0 then k else k + T)), (5, .int .i64 s)]) (fun s H' => s ≤ 1 ∧ H' = H) (fun s => 1 - s) 0 ?_ ?_ ?_
    · simp [upF, Fr.get, Up.refl]
    · exact ⟨by omega, rfl⟩
    · rintro K s H' ⟨hs, rfl⟩ hK
      obtain rfl | rfl : s = 0 ∨ s = 1 := by omega
      · simp (maxSteps := 1000000) [go_sem, c1]
        refine heldIntss_ok g3 hT hk0 (by omega) _ ?_
        have hng : ¬ (k + (T : Int) < 0) := by omega
        simp (maxSteps := 1000000) [go_sem, w1, hng]
        exact hK 1 _ _ (by omega) (by simp [upF, Fr.get, Up.refl]) ⟨by omega, rfl⟩
      · simp (maxSteps := 1000000) [go_sem]
        simpa using hP

end Go.Proofs.Ytdfeoccjllljiaa
end

section
/- spec.l02Go: all difference families that go on from some triples. -/
set_option linter.all false
set_option maxRecDepth 20000
set_option maxHeartbeats 8000000
namespace Go.Proofs.Ytdfeoccjllljiaa
open Go.Ab Go.Sort

/-- The least number from 1 on that is left. -/
def freeA (m : Nat) : Nat := (([1, 2, 3, 4, 5, 6, 7] : List Nat).find? fun k => !m.testBit k).getD 8
def stepS (F : List (List Int) → Nat → List (List (List Int))) (v : Int) (beg : List (List Int)) (m a b c : Nat) : List (List (List Int)) :=
  if m &&& (2 ^ a ||| 2 ^ b ||| 2 ^ c) = 0 then (if tripS v [a, b, c] then F (beg ++ [[(a : Int), b, c]]) (m ||| (2 ^ a ||| 2 ^ b ||| 2 ^ c)) else []) else []
def rowS (F : List (List Int) → Nat → List (List (List Int))) (v : Int) (beg : List (List Int)) (m a b hi : Nat) : List (List (List Int)) := (upTo (b + 1) hi).flatMap (stepS F v beg m a b)
def goS : Nat → Int → List (List Int) → Nat → List (List (List Int))
  | 0, _, _, _ => []
  | n + 1, v, beg, m => if ((v - 1) / 2).toNat < freeA m then [beg] else (upTo (freeA m + 1) (((v - 1) / 2).toNat + 1)).flatMap fun b => rowS (goS n v) v beg m (freeA m) b (((v - 1) / 2).toNat + 1)
theorem freeA_le (m : Nat) : 1 ≤ freeA m ∧ freeA m ≤ 8 := by
  unfold freeA
  cases h : ([1, 2, 3, 4, 5, 6, 7] : List Nat).find? fun k => !m.testBit k with
  | none => simp
  | some k =>
    have := List.mem_of_find?_eq_some h
    simp at this
    simp only [Option.getD_some]; omega

theorem freeA_spec : ∀ m < 256, m.testBit (freeA m) = false ∧ ∀ k < 8, 1 ≤ k → k < freeA m → m.testBit k = true := by decide +kernel
def cntF (m : Nat) : Nat := (([0, 1, 2, 3, 4, 5, 6, 7] : List Nat).filter fun k => !m.testBit k).length
theorem cntF_lt {m m' a : Nat} (h : ∀ k, m.testBit k = true → m'.testBit k = true) (ha : a < 8) (h1 : m.testBit a = false) (h2 : m'.testBit a = true) : cntF m' < cntF m := by
  have key : ∀ l : List Nat, (l.filter fun k => !m'.testBit k).length ≤ (l.filter fun k => !m.testBit k).length := by
    intro l
    induction l with
    | nil => simp
    | cons x l ih =>
      simp only [List.filter_cons]
      cases hx : m.testBit x with
      | true => simp [h x hx, ih]
      | false => cases hx' : m'.testBit x <;> simp <;> omega
  have key2 : ∀ l : List Nat, a ∈ l → (l.filter fun k => !m'.testBit k).length < (l.filter fun k => !m.testBit k).length := by
    intro l
    induction l with
    | nil => simp
    | cons x l ih =>
      intro hm
      simp only [List.filter_cons]
      by_cases hxa : x = a
      · subst hxa
        have := key l
        simp [h1, h2]; omega
      · have := ih (by simpa [Ne.symm hxa] using hm)
        cases hx : m.testBit x with
        | true => simp [h x hx, this]
        | false => cases hx' : m'.testBit x <;> simp <;> omega
  refine key2 _ ?_
  simp; omega
theorem shr_bit {m s : Nat} (hm : m < 2 ^ 62) (hs : s < 60) : (IntKind.i64.wrap ((BitVec.ofInt 64 ((m : Int).fdiv (2 ^ min s 64)) &&& 1#64).toNat : Int) == 1) = m.testBit s := by
  have e1 : min s 64 = s := by omega
  have e2 : (m : Int).fdiv (2 ^ s) = ((m / 2 ^ s : Nat) : Int) := by
    rw [Int.fdiv_eq_ediv_of_nonneg _ (by exact Int.le_of_lt (Int.pow_pos (by omega)))]
    rw [Int.natCast_ediv, Int.natCast_pow]; rfl
  rw [e1, e2]
  have hq : m / 2 ^ s ≤ m := Nat.div_le_self _ _
  obtain ⟨q, hqq⟩ : ∃ q, m / 2 ^ s = q := ⟨_, rfl⟩
  have hb : m.testBit s = decide (q % 2 = 1) := by rw [Nat.testBit_eq_decide_div_mod_eq, hqq]
  rw [hqq] at hq ⊢
  have e3 : (BitVec.ofInt 64 (q : Int) &&& 1#64).toNat = q % 2 := by
    rw [BitVec.toNat_and, BitVec.ofInt_natCast, BitVec.toNat_ofNat, Nat.mod_eq_of_lt (by omega)]
    exact Nat.and_one_is_mod q
  rw [e3, hb, i64w (by omega) (by omega)]
  by_cases h : q % 2 = 1
  · simp [h]
  · have : q % 2 = 0 := by omega
    simp [this]

theorem atK {H H' : Heap} {S : Nat → Prop} (hs : Same S H H') {i o : Nat} {cs : List Value} (h : At H i o cs) (hi : cs ≠ [] → ¬ S i) : At H' i o cs := by
  rcases h with h0 | h
  · exact .inl h0
  · by_cases hc : cs = []
    · exact .inl hc
    · right
      obtain ⟨blk, hb, hbl, hbn, he⟩ := cellsAt_inv h
      rw [cellsAt_of (hs.get hb (hi hc)) hbl hbn, ← he]
/-- No number stands in these cells. -/
def NoInt (cs : List Value) : Prop := ∀ (o : Nat) (x : Int), cs[o]? = some (.int .i64 x) → False
theorem IntsAt.past {H H' : Heap} {v : Value} {xs : List Int} {k : Nat} (h : IntsAt H v xs) (hk : ∀ b : Blk, H[k]? = some b → b.live = true → NoInt b.cells) (hs : Same (fun j => j = k) H H') : IntsAt H' v xs := by
  obtain ⟨i, o, rfl, h1, h2⟩ := h
  refine ⟨i, o, rfl, ?_, h2⟩
  cases xs with
  | nil => exact .inl rfl
  | cons x xs =>
    refine atK hs h1 (fun _ e => ?_)
    subst e
    rcases h1 with h1 | h1
    · simp [ints] at h1
    · obtain ⟨c, hc, hl, hn, e⟩ := cellsAt_inv h1
      have e0 : (ints (x :: xs))[0]? = some (.int .i64 x) := by simp [ints]
      rw [e, List.getElem?_take, if_pos (by simp [ints]), List.getElem?_drop] at e0
      exact hk c hc hl o _ (by simpa using e0)
/-- A list of numbers: as calls hand it out, or as a literal leaves it. -/
def VAt (H : Heap) (u : Value) (xs : List Int) : Prop := IntsAt H u xs ∨ ∃ i, u = .slice (some ⟨i, 0, none⟩) xs.length xs.length ∧ IntsAt H (lv 1 i 0 xs.length) xs ∧ H[i]? = some ⟨ints xs, true, true⟩
theorem VAt.pre {H H' : Heap} (hp : H <+: H') {u : Value} {xs : List Int} (h : VAt H u xs) : VAt H' u xs := by
  rcases h with h | ⟨i, h1, h2, h3⟩
  · exact .inl (h.pre hp)
  · exact .inr ⟨i, h1, h2.pre hp, Same.get (S := fun _ => False) (Same.of_prefix hp) h3 (fun h => h)⟩
theorem VAt.past {H H' : Heap} {u : Value} {xs : List Int} {k : Nat} (h : VAt H u xs) (hk : ∀ b : Blk, H[k]? = some b → b.live = true → NoInt b.cells) (hs : Same (fun j => j = k) H H') (hx : xs ≠ []) : VAt H' u xs := by
  rcases h with h | ⟨i, h1, h2, h3⟩
  · exact .inl (IntsAt.past h hk hs)
  · refine .inr ⟨i, h1, IntsAt.past h2 hk hs, hs.get h3 ?_⟩
    rintro rfl
    cases xs with
    | nil => exact hx rfl
    | cons x xs => exact hk _ h3 rfl 0 x (by simp [ints])
theorem VAt.up {H : Heap} {u : Value} {xs : List Int} (h : VAt H u xs) : ∃ w, Up H u w ∧ IntsAt H w xs := by
  rcases h with h | ⟨i, rfl, h2, h3⟩
  · exact ⟨u, Up.refl _ _, h⟩
  · exact ⟨_, Up.ex (by omega) (.inr (by rw [cellsAt_of h3 rfl (by simp [ints])]; rfl)), h2⟩
/-- A list of lists of numbers, its place told. -/
def RowsAt (H : Heap) (i o : Nat) (xss : List (List Int)) : Prop :=
  ∃ vs : List Value, vs.length = xss.length ∧ At H i o vs ∧ ∀ (k : Nat) (u : Value) (xs : List Int), vs[k]? = some u → xss[k]? = some xs → VAt H u xs ∧ xs ≠ []
theorem RowsAt.pre {H H' : Heap} (hp : H <+: H') {i o : Nat} {xss : List (List Int)} (h : RowsAt H i o xss) : RowsAt H' i o xss := by
  obtain ⟨vs, h1, h2, h3⟩ := h
  exact ⟨vs, h1, h2.pre hp, fun k u xs a b => ⟨(h3 k u xs a b).1.pre hp, (h3 k u xs a b).2⟩⟩
theorem RowsAt.lt {H : Heap} {i o : Nat} {xss : List (List Int)} (h : RowsAt H i o xss) (hn : xss ≠ []) : i < H.length := by
  obtain ⟨vs, h1, h2, _⟩ := h
  rcases h2 with e | e
  · rw [e] at h1; exact absurd (List.eq_nil_of_length_eq_zero h1.symm) hn
  · obtain ⟨b, hb, _⟩ := cellsAt_inv e
    exact (List.getElem?_eq_some_iff.1 hb).1
theorem RowsAt.past {H H' : Heap} {i o k : Nat} {xss : List (List Int)} (h : RowsAt H i o xss) (hne : xss ≠ [] → i ≠ k) (hk : ∀ b : Blk, H[k]? = some b → b.live = true → NoInt b.cells) (hs : Same (fun j => j = k) H H') : RowsAt H' i o xss := by
  obtain ⟨vs, h1, h2, h3⟩ := h
  exact ⟨vs, h1, atK hs h2 (fun hn e => hne (by rintro rfl; exact hn (List.eq_nil_of_length_eq_zero h1)) e), fun k u xs a b => ⟨(h3 k u xs a b).1.past hk hs (h3 k u xs a b).2, (h3 k u xs a b).2⟩⟩

theorem copyPush {H : Heap} {id0 : Nat} (h0 : H[id0]? = some ⟨[], true, true⟩) {vs : List Value} {n : Nat} (hn : vs.length = n) :
    ∃ a H3, appendH H 1 (.slice (some ⟨id0, 0, none⟩) 0 0) n vs = some (.slice a n n, H3) ∧ H <+: H3 ∧ ∀ (tv : Value) (H4 : Heap), H3 <+: H4 →
      ∃ H5 k, appendH (H4 ++ [⟨[tv], true, true⟩]) 1 (.slice a n n) 1 [tv] = some (lv 1 (H4.length + 1) 0 (n + 1), H5) ∧ H5[H4.length + 1]? = some ⟨vs ++ [tv], true, true⟩ ∧ Same (fun j => j = k) H4 H5 ∧ (H.length ≤ k ∧ k < H3.length ∨ k = H5.length) := by
  by_cases hz : n = 0
  · subst hz
    have hvs : vs = [] := List.eq_nil_of_length_eq_zero hn
    subst hvs
    refine ⟨some ⟨id0, 0, none⟩, H, by simp [appendH], List.prefix_refl _, fun tv H4 hp => ?_⟩
    have hb : (H4 ++ [(⟨[tv], true, true⟩ : Blk)])[id0]? = some ⟨[], true, true⟩ := Same.get (S := fun _ => False) (Same.of_prefix (hp.trans (List.prefix_append H4 [(⟨[tv], true, true⟩ : Blk)]))) h0 (fun h => h)
    have hc : cellsAt (H4 ++ [(⟨[tv], true, true⟩ : Blk)]) id0 0 0 = some [] := by rw [cellsAt_of hb rfl (by simp)]; simp
    refine ⟨H4 ++ [(⟨[tv], true, true⟩ : Blk)] ++ [(⟨[tv], true, true⟩ : Blk)], (H4 ++ [(⟨[tv], true, true⟩ : Blk)] ++ [(⟨[tv], true, true⟩ : Blk)]).length, ?_, ?_, ?_, .inr rfl⟩
    · simp only [appendH]
      rw [if_neg (by omega), hc]
      simp
    · rw [List.getElem?_append_right (by simp)]; simp
    · rw [List.append_assoc]; exact Same.of_prefix (List.prefix_append _ _)
  · have hb : cellsAt H id0 0 0 = some [] := by rw [cellsAt_of h0 rfl (by simp)]; simp
    refine ⟨some ⟨H.length, 0, some 1⟩, H ++ [⟨vs, true, true⟩], ?_, List.prefix_append _ _, fun tv H4 hp => ?_⟩
    · simp only [appendH]
      rw [if_neg hz, hb]
      simp
    · have hb3 : (H ++ [(⟨vs, true, true⟩ : Blk)])[H.length]? = some ⟨vs, true, true⟩ := by simp
      have hb4 : H4[H.length]? = some ⟨vs, true, true⟩ := Same.get (S := fun _ => False) (Same.of_prefix hp) hb3 (fun h => h)
      have hol : OL 1 H4 H.length vs n := ⟨by omega, .inr hb4⟩
      obtain ⟨_, H5, hap, hol5, hs5, hl5⟩ := hol.push (xs := [tv]) (by omega) rfl
      refine ⟨H5, H.length, hap, hol5.2.resolve_left (by rintro ⟨e, _⟩; omega), hs5, .inl ⟨Nat.le_refl _, by simp⟩⟩

structure El where
  i : Nat
  o : Nat
  x : List (List Int)
def El.val (e : El) : Value := lv 1 e.i e.o e.x.length
def ResF (H H' : Heap) (ib : Nat) (v : Value) (fs : List (List (List Int))) : Prop :=
  ∃ (ir : Nat) (es : List El), v = lv 1 ir 0 es.length ∧ At H' ir 0 (es.map El.val) ∧ es.map El.x = fs ∧ ∀ e ∈ es, RowsAt H' e.i e.o e.x ∧ (e.x ≠ [] → H.length ≤ e.i ∨ e.i = ib)
def OutF (H H' : Heap) (oid ib : Nat) (es : List El) : Prop :=
  H <+: H' ∧ OL 1 H' oid (es.map El.val) es.length ∧ H.length ≤ oid ∧ ∀ e ∈ es, RowsAt H' e.i e.o e.x ∧ (e.x ≠ [] → (H.length ≤ e.i ∨ e.i = ib) ∧ e.i ≠ oid)
theorem OutF.pre {H H' H'' : Heap} {oid ib : Nat} {es : List El} (h : OutF H H' oid ib es) (hp : H' <+: H'') : OutF H H'' oid ib es :=
  ⟨h.1.trans hp, h.2.1.keep (S := fun _ => False) (Same.of_prefix hp) (fun h => h), h.2.2.1, fun e he => ⟨(h.2.2.2 e he).1.pre hp, (h.2.2.2 e he).2⟩⟩
theorem noInt_vals (es : List El) : NoInt (es.map El.val) := by
  intro o x h
  rw [List.getElem?_map] at h
  cases he : es[o]? with
  | none => rw [he] at h; cases h
  | some e => rw [he] at h; simp [El.val] at h
theorem OutF.noInt {H H' : Heap} {oid ib : Nat} {es : List El} (h : OutF H H' oid ib es) : ∀ b : Blk, H'[oid]? = some b → b.live = true → NoInt b.cells := by
  intro b hb hl
  rcases h.2.1.2 with ⟨_, e⟩ | e
  · obtain ⟨c, hc, hc2, _⟩ := ghostAt_inv e
    rw [hb] at hc; cases hc; rw [hl] at hc2; cases hc2
  · rw [hb] at e; cases e
    exact noInt_vals es
/-- A result is put behind the list. -/
theorem OutF.add {H H' H2 Hc : Heap} {oid ib ib2 : Nat} {es : List El} {w : Value} {fs : List (List (List Int))} (h : OutF H H' oid ib es) (hp : H' <+: H2) (hw : ResF Hc H2 ib2 w fs) (hcl : H'.length ≤ Hc.length) (hi2 : H'.length ≤ ib2) :
    ∃ (ir : Nat) (es2 : List El), w = lv 1 ir 0 es2.length ∧ es2.map El.x = fs ∧ srcCells H2 1 (lv 1 ir 0 es2.length) = some (es2.map El.val) ∧
      ∃ oid3 H3, appendH H2 1 (lv 1 oid 0 es.length) es2.length (es2.map El.val) = some (lv 1 oid3 0 (es.length + es2.length), H3) ∧ OutF H H3 oid3 ib (es ++ es2) := by
  obtain ⟨ir, es2, rfl, r1, r2, r3⟩ := hw
  have h2 := h.pre hp
  have hoid := h.2.1.lt
  have hle := hp.length_le
  have hle0 := h.1.length_le
  have hsrc : srcCells H2 1 (lv 1 ir 0 es2.length) = some (es2.map El.val) := r1.src (by rw [List.length_map, Nat.mul_one]) (by omega) _
  have hnew : ∀ e ∈ es2, e.x ≠ [] → H'.length ≤ e.i := fun e he hn => by
    rcases (r3 e he).2 hn with h | h <;> omega
  refine ⟨ir, es2, rfl, r2, hsrc, ?_⟩
  by_cases hz : es2.length = 0
  · have : es2 = [] := List.eq_nil_of_length_eq_zero hz
    subst this
    exact ⟨oid, H2, by simp [appendH], by simpa using h2⟩
  · obtain ⟨H3, g1, g2, g3, g4⟩ := h2.2.1.append (by omega) (show 0 < es2.length by omega) (news := es2.map El.val) (by rw [List.length_map, Nat.mul_one])
    refine ⟨H2.length, H3, g1, ((Same.of_prefix h2.1).trans g3).prefix (by have := h.2.2.1; rintro j hj rfl; omega), ?_, by omega, ?_⟩
    · rw [List.map_append, List.length_append]; exact g2
    · intro e he
      rcases List.mem_append.1 he with he | he
      · obtain ⟨a1, a2⟩ := h2.2.2.2 e he
        exact ⟨a1.past (fun hn => (a2 hn).2) h2.noInt g3, fun hn => ⟨(a2 hn).1, by have := a1.lt hn; omega⟩⟩
      · obtain ⟨a1, a2⟩ := r3 e he
        exact ⟨a1.past (fun hn => by have := hnew e he hn; omega) h2.noInt g3, fun hn => ⟨.inl (by have := hnew e he hn; omega), by have := a1.lt hn; omega⟩⟩


end Go.Proofs.Ytdfeoccjllljiaa
end

section
/- spec.l02Go: the walk. -/
set_option linter.all false
set_option maxRecDepth 20000
set_option maxHeartbeats 8000000
namespace Go.Proofs.Ytdfeoccjllljiaa
open Go.Ab Go.Sort

theorem flatMap_le {α β : Type} {f : α → List β} {B : Nat} : ∀ {l : List α}, (∀ x ∈ l, (f x).length ≤ B) → (l.flatMap f).length ≤ l.length * B
  | [], _ => by simp
  | x :: l, h => by
    rw [List.flatMap_cons, List.length_append, List.length_cons, Nat.succ_mul]
    have := h x (by simp)
    have := flatMap_le (l := l) (fun y hy => h y (by simp [hy]))
    omega
theorem stepS_le {F : List (List Int) → Nat → List (List (List Int))} {B : Nat} (hF : ∀ beg m, (F beg m).length ≤ B) (v : Int) (beg : List (List Int)) (m a b c : Nat) : (stepS F v beg m a b c).length ≤ B := by
  unfold stepS
  split
  · split
    · exact hF _ _
    · simp
  · simp
theorem rowS_le {F : List (List Int) → Nat → List (List (List Int))} {B : Nat} (hF : ∀ beg m, (F beg m).length ≤ B) (v : Int) (beg : List (List Int)) (m a b hi : Nat) (hh : hi ≤ 8) : (rowS F v beg m a b hi).length ≤ 8 * B := by
  unfold rowS
  refine Nat.le_trans (flatMap_le fun c _ => stepS_le hF v beg m a b c) (Nat.mul_le_mul_right _ ?_)
  rw [upTo_length]; omega
theorem goS_le {v : Int} (hv : NumB v) : ∀ (n : Nat) (beg : List (List Int)) (m : Nat), (goS n v beg m).length ≤ 64 ^ n
  | 0, beg, m => by simp [goS]
  | n + 1, beg, m => by
    rw [goS]
    split
    · have : 0 < 64 ^ (n + 1) := Nat.pow_pos (by omega)
      simp only [List.length_singleton]; omega
    · have hh : ((v - 1) / 2).toNat + 1 ≤ 8 := by unfold NumB at hv; omega
      refine Nat.le_trans (flatMap_le fun b _ => rowS_le (goS_le hv n) v beg m (freeA m) b _ hh) ?_
      rw [Nat.pow_succ]
      have : (upTo (freeA m + 1) (((v - 1) / 2).toNat + 1)).length ≤ 8 := by rw [upTo_length]; omega
      calc _ ≤ 8 * (8 * 64 ^ n) := Nat.mul_le_mul_right _ this
        _ = 64 ^ n * 64 := by omega
theorem own_lt {m a b c : Nat} (hab : a < b) (hbc : b < c) (hc : c < 8) (h0 : m &&& (2 ^ a ||| 2 ^ b ||| 2 ^ c) = 0) : cntF (m ||| (2 ^ a ||| 2 ^ b ||| 2 ^ c)) + 3 ≤ cntF m := by
  have hb : ∀ k, k = a ∨ k = b ∨ k = c → m.testBit k = false := by
    intro k hk
    have : (m &&& (2 ^ a ||| 2 ^ b ||| 2 ^ c)).testBit k = false := by rw [h0]; simp
    rw [Nat.testBit_and, Nat.testBit_or, Nat.testBit_or, Nat.testBit_two_pow, Nat.testBit_two_pow, Nat.testBit_two_pow] at this
    cases hm : m.testBit k with
    | false => rfl
    | true => rw [hm] at this; simp at this; omega
  have e1 := cntF_lt (m := m) (m' := m ||| 2 ^ a) (a := a) (fun k h => by rw [Nat.testBit_or, h]; rfl) (by omega) (hb a (by simp)) (by rw [Nat.testBit_or, Nat.testBit_two_pow]; simp)
  have e2 := cntF_lt (m := m ||| 2 ^ a) (m' := m ||| 2 ^ a ||| 2 ^ b) (a := b) (fun k h => by rw [Nat.testBit_or, h]; rfl) (by omega) (by rw [Nat.testBit_or, Nat.testBit_two_pow, hb b (by simp)]; simp; omega) (by rw [Nat.testBit_or, Nat.testBit_two_pow]; simp)
  have e3 := cntF_lt (m := m ||| 2 ^ a ||| 2 ^ b) (m' := m ||| 2 ^ a ||| 2 ^ b ||| 2 ^ c) (a := c) (fun k h => by rw [Nat.testBit_or, h]; rfl) (by omega) (by rw [Nat.testBit_or, Nat.testBit_or, Nat.testBit_two_pow, Nat.testBit_two_pow, hb c (by simp)]; simp; omega) (by rw [Nat.testBit_or, Nat.testBit_two_pow]; simp)
  have e : m ||| (2 ^ a ||| 2 ^ b ||| 2 ^ c) = m ||| 2 ^ a ||| 2 ^ b ||| 2 ^ c := by rw [Nat.or_assoc, Nat.or_assoc, Nat.or_assoc]
  rw [e]; omega

theorem l02Go_ok : ∀ (n : Nat) {H : Heap} {ib ob : Nat} {beg : List (List Int)} {v : Int} {m : Nat} (hn : n ≤ 3) (hv : NumB v) (hm : m < 256) (hc : cntF m < 3 * n) (hbl : beg.length + n ≤ 10) (hb : RowsAt H ib ob beg) (Post : Value → Heap → Prop)
    (h : ∀ H' w, H <+: H' → ResF H H' ib w (goS n v beg m) → Post w H'), ACalls Try.prog 106 [.int .i64 v, lv 1 ib ob beg.length, .int .i64 m] H Post := by
  intro n
  induction n with
  | zero => intro H ib ob beg v m hn hv hm hc; omega
  | succ n ih =>
  intro H ib ob beg v m hn hv hm hc hbl hb Post h
  have hvb : 7 ≤ v ∧ v ≤ 15 := by unfold NumB at hv; omega
  obtain ⟨hh, hhe⟩ : ∃ hh : Nat, (v - 1) / 2 = hh := ⟨((v - 1) / 2).toNat, by omega⟩
  have hh7 : 3 ≤ hh ∧ hh ≤ 7 := by omega
  have wv : IntKind.i64.wrap (v - 1) = v - 1 := i64w (by omega) (by omega)
  have hd : (v - 1).tdiv 2 = (hh : Int) := by rw [Int.tdiv_eq_ediv_of_nonneg (by omega), hhe]
  have wh : IntKind.i64.wrap (hh : Int) = hh := i64w (by omega) (by omega)
  obtain ⟨A, hA⟩ : ∃ A, freeA m = A := ⟨_, rfl⟩
  have hA1 := freeA_le m
  have hA2 := freeA_spec m hm
  rw [hA] at hA1 hA2
  have hgo : goS (n + 1) v beg m = if hh < A then [beg] else (upTo (A + 1) (hh + 1)).flatMap fun b => rowS (goS n v) v beg m A b (hh + 1) := by
    rw [goS, hA, hhe, Int.toNat_natCast]
  have hN : 64 ^ n ≤ 4096 := by
    have : 64 ^ n ≤ 64 ^ 2 := Nat.pow_le_pow_right (by omega) (by omega)
    omega
  have hF : ∀ beg m, (goS n v beg m).length ≤ 4096 := fun beg m => Nat.le_trans (goS_le hv n beg m) hN
  rw [hgo] at h
  obtain ⟨L, hL⟩ : ∃ L, beg.length = L := ⟨_, rfl⟩
  rw [hL] at hbl ⊢
  refine ACalls.res ?_
  refine acalls_vc (rs := [.tmp 6]) Try.func106 rfl rfl Try.ntmps106 rfl rfl ?_
  simp (maxSteps := 1000000) [go_sem]
  refine AWp.loopVc (fun s : Nat => [(0, .int .i64 v), (1, lv 1 ib ob L), (2, .int .i64 m), (7, .int .i64 s)]) (fun s H' => 1 ≤ s ∧ s ≤ A ∧ H' = H) (fun s => 8 - s) 1 ?_ ?_ ?_
  · simp [upF, Fr.get, Up.refl]
  · exact ⟨by omega, hA1.1, rfl⟩
  · rintro K s H' ⟨h1, h2, rfl⟩ hK
    have us : IntKind.u64.wrap (s : Int) = s := by rw [IntKind.wrap_u64]; omega
    have hbit := shr_bit (m := m) (s := s) (by omega) (by omega)
    have hw_s : IntKind.i64.wrap ((s : Int) + 1) = (s : Int) + 1 := i64w (by omega) (by omega)
    simp (maxSteps := 1000000) [go_sem, us]
    refine condK_intro (fun hb1 => ?_) (fun hb1 => ?_)
    · have hsb : m.testBit s = true := hbit.symm.trans hb1
      have hsA : s ≠ A := by rintro rfl; rw [hA2.1] at hsb; cases hsb
      try simp (maxSteps := 1000000) only [hw_s]
      exact hK (s + 1) _ _ (by omega) (by simp [upF, Fr.get, Up.refl]) ⟨by omega, by omega, rfl⟩
    · have hsb : m.testBit s = false := hbit.symm.trans hb1
      obtain rfl : s = A := by
        rcases Nat.lt_or_ge s A with h | h
        · have := hA2.2 s (by omega) h1 h
          rw [hsb] at this; cases this
        · omega
      by_cases hleaf : hh < s
      · have hleafi : (hh : Int) < s := by omega
        rw [if_pos hleaf] at h
        simp (maxSteps := 1000000) [go_sem, wv, hd, wh, hleaf, hleafi]
        have hp : H' <+: H' ++ [⟨[lv 1 ib ob L], true, true⟩] := List.prefix_append _ _
        have hx : (H' ++ [(⟨[lv 1 ib ob L], true, true⟩ : Blk)])[H'.length]? = some ⟨[lv 1 ib ob L], true, true⟩ := by simp
        generalize H' ++ [(⟨[lv 1 ib ob L], true, true⟩ : Blk)] = H1 at hp hx ⊢
        refine ⟨_, Up.ex (by omega) (.inr (by rw [cellsAt_of hx rfl (by simp)]; rfl)), h H1 _ hp ⟨H'.length, [⟨ib, ob, beg⟩], rfl, Holds.at ⟨true, by simpa [El.val, hL] using hx⟩, rfl, ?_⟩⟩
        intro e he
        simp at he; subst he
        exact ⟨hb.pre hp, fun _ => .inr rfl⟩
      · have hleafi : ¬ ((hh : Int) < s) := by omega
        rw [if_neg hleaf] at h
        simp (maxSteps := 1000000) [go_sem, wv, hd, wh, hleaf, hleafi, hw_s]
        have hib : OutF H' (H' ++ [(⟨[], true, true⟩ : Blk)]) H'.length ib [] := ⟨List.prefix_append _ _, ⟨by simp, .inr (by simp)⟩, Nat.le_refl _, by simp⟩
        generalize H' ++ [(⟨[], true, true⟩ : Blk)] = HG at hib ⊢
        refine AWp.loopVc (St := Nat × Nat × List El) (fun t => [(0, .int .i64 v), (1, lv 1 ib ob L), (2, .int .i64 m), (7, .int .i64 s), (8, lv 1 t.2.1 0 t.2.2.length), (9, .int .i64 t.1)])
          (fun t H2 => s + 1 ≤ t.1 ∧ t.1 ≤ hh + 1 ∧ t.2.2.map El.x = (upTo (s + 1) t.1).flatMap (fun b => rowS (goS n v) v beg m s b (hh + 1)) ∧ OutF H' H2 t.2.1 ib t.2.2) (fun t => hh + 1 - t.1) (s + 1, H'.length, []) ?_ ?_ ?_
        · simp [upF, Fr.get, Up.refl, Up.ex0]
        · exact ⟨by simp, by simp only; omega, by simp [upTo_self], hib⟩
        · rintro K2 ⟨b, oid, es⟩ H2 ⟨hb1, hb2, hes, hout⟩ hK2
          simp only at hb1 hb2 hes hout
          have hesl : es.length ≤ 8 * (8 * 4096) := by
            have e1 : es.length = ((upTo (s + 1) b).flatMap (fun b => rowS (goS n v) v beg m s b (hh + 1))).length := by rw [← hes, List.length_map]
            rw [e1]
            refine Nat.le_trans (flatMap_le fun x _ => rowS_le hF v beg m s x _ (by omega)) (Nat.mul_le_mul_right _ ?_)
            rw [upTo_length]; omega
          by_cases hbh : b ≤ hh
          · have hbi : (b : Int) ≤ hh := by omega
            have hw_b : IntKind.i64.wrap ((b : Int) + 1) = (b : Int) + 1 := i64w (by omega) (by omega)
            simp (maxSteps := 1000000) [go_sem, wv, hd, wh, hbh, hbi, hw_b]
            refine AWp.loopVc (St := Nat × Nat × List El) (fun t => [(0, .int .i64 v), (1, lv 1 ib ob L), (2, .int .i64 m), (7, .int .i64 s), (8, lv 1 t.2.1 0 t.2.2.length), (9, .int .i64 b), (10, .int .i64 t.1)])
              (fun t H3 => b + 1 ≤ t.1 ∧ t.1 ≤ hh + 1 ∧ t.2.2.map El.x = es.map El.x ++ (upTo (b + 1) t.1).flatMap (stepS (goS n v) v beg m s b) ∧ OutF H' H3 t.2.1 ib t.2.2) (fun t => hh + 1 - t.1) (b + 1, oid, es) ?_ ?_ ?_
            · simp [upF, Fr.get, Up.refl]
            · exact ⟨by simp, by simp only; omega, by simp [upTo_self], hout⟩
            · rintro K3 ⟨c, oid3, es3⟩ H3 ⟨hc1, hc2, hes3, hout3⟩ hK3
              simp only at hc1 hc2 hes3 hout3
              have hes3l : es3.length ≤ 8 * (8 * 4096) + 8 * 4096 := by
                have e1 : es3.length = (es.map El.x ++ (upTo (b + 1) c).flatMap (stepS (goS n v) v beg m s b)).length := by rw [← hes3, List.length_map]
                have e2 : ((upTo (b + 1) c).flatMap (stepS (goS n v) v beg m s b)).length ≤ 8 * 4096 := by
                  refine Nat.le_trans (flatMap_le fun x _ => stepS_le hF v beg m s b x) (Nat.mul_le_mul_right _ ?_)
                  rw [upTo_length]; omega
                rw [e1, List.length_append, List.length_map]; omega
              by_cases hch : c ≤ hh
              · have hci : (c : Int) ≤ hh := by omega
                have hw_c : IntKind.i64.wrap ((c : Int) + 1) = (c : Int) + 1 := i64w (by omega) (by omega)
                have hsucc : (upTo (b + 1) (c + 1)).flatMap (stepS (goS n v) v beg m s b) = (upTo (b + 1) c).flatMap (stepS (goS n v) v beg m s b) ++ stepS (goS n v) v beg m s b c := by
                  rw [upTo_succ hc1, List.flatMap_append]; simp
                have no : stepS (goS n v) v beg m s b c = [] → ∀ fr' HH, H3 <+: HH → upF HH [(0, .int .i64 v), (1, lv 1 ib ob L), (2, .int .i64 m), (7, .int .i64 s), (8, lv 1 oid3 0 es3.length), (9, .int .i64 b), (10, .int .i64 (c + 1))] fr' → K3 fr' HH := fun hz fr' HH hpp hf =>
                  hK3 (c + 1, oid3, es3) _ _ (by simp only; omega) (by simpa using hf) ⟨by simp only; omega, by simp only; omega, by simp only [hsucc, hz, List.append_nil]; exact hes3, hout3.pre hpp⟩
                have ua : IntKind.u64.wrap (s : Int) = s := us
                have ub : IntKind.u64.wrap (b : Int) = b := by rw [IntKind.wrap_u64]; omega
                have uc : IntKind.u64.wrap (c : Int) = c := by rw [IntKind.wrap_u64]; omega
                have na : min s 64 = s := by omega
                have nb : min b 64 = b := by omega
                have nc : min c 64 = c := by omega
                have sa := pow_i64 (n := s) (by omega)
                have sb := pow_i64 (n := b) (by omega)
                have sc := pow_i64 (n := c) (by omega)
                have ha8 : 2 ^ s < 2 ^ 8 := Nat.pow_lt_pow_right (by omega) (by omega)
                have hb8 : 2 ^ b < 2 ^ 8 := Nat.pow_lt_pow_right (by omega) (by omega)
                have hc8 : 2 ^ c < 2 ^ 8 := Nat.pow_lt_pow_right (by omega) (by omega)
                have hab8 : 2 ^ s ||| 2 ^ b < 2 ^ 8 := Nat.or_lt_two_pow ha8 hb8
                have habc8 : 2 ^ s ||| 2 ^ b ||| 2 ^ c < 2 ^ 8 := Nat.or_lt_two_pow hab8 hc8
                have hmo : m ||| (2 ^ s ||| 2 ^ b ||| 2 ^ c) < 2 ^ 8 := Nat.or_lt_two_pow (by omega) habc8
                have oab := or_i64w (a := 2 ^ s) (b := 2 ^ b) (by omega) (by omega)
                have oabc := or_i64w (a := 2 ^ s ||| 2 ^ b) (b := 2 ^ c) (by omega) (by omega)
                have am := and_i64w (a := m) (b := 2 ^ s ||| 2 ^ b ||| 2 ^ c) (by omega) (by omega)
                have om := or_i64w (a := m) (b := 2 ^ s ||| 2 ^ b ||| 2 ^ c) (by omega) (by omega)
                have hst : stepS (goS n v) v beg m s b c = if m &&& (2 ^ s ||| 2 ^ b ||| 2 ^ c) = 0 then (if tripS v [(s : Int), b, c] then goS n v (beg ++ [[(s : Int), b, c]]) (m ||| (2 ^ s ||| 2 ^ b ||| 2 ^ c)) else []) else [] := rfl
                have hcl := @own_lt m s b c (by omega) (by omega) (by omega)
                obtain ⟨own, hown⟩ : ∃ own, 2 ^ s ||| 2 ^ b ||| 2 ^ c = own := ⟨_, rfl⟩
                obtain ⟨ab, hab⟩ : ∃ ab, 2 ^ s ||| 2 ^ b = ab := ⟨_, rfl⟩
                rw [hown] at oabc am om hst hcl hmo habc8
                rw [hab] at oab oabc
                obtain ⟨PA, hPA⟩ : ∃ P, 2 ^ s = P := ⟨_, rfl⟩
                obtain ⟨PB, hPB⟩ : ∃ P, 2 ^ b = P := ⟨_, rfl⟩
                obtain ⟨PC, hPC⟩ : ∃ P, 2 ^ c = P := ⟨_, rfl⟩
                rw [hPA] at sa oab
                rw [hPB] at sb oab
                rw [hPC] at sc oabc
                obtain ⟨q, hq⟩ : ∃ q, m &&& own = q := ⟨_, rfl⟩
                rw [hq] at am hst hcl
                by_cases h0 : q = 0
                · subst h0
                  rw [if_pos rfl] at hst
                  simp (maxSteps := 1000000) [go_sem, undef, wv, hd, wh, hch, hci, ua, ub, uc, na, nb, nc, sa, sb, sc, oab, oabc, am, hw_c]
                  have hpb : H3 <+: H3 ++ [⟨[.int .i64 s, .int .i64 b, .int .i64 c], true, true⟩] := List.prefix_append _ _
                  have hxB : (H3 ++ [(⟨[.int .i64 s, .int .i64 b, .int .i64 c], true, true⟩ : Blk)])[H3.length]? = some ⟨ints [(s : Int), b, c], true, true⟩ := by simp [ints]
                  generalize H3 ++ [(⟨[.int .i64 s, .int .i64 b, .int .i64 c], true, true⟩ : Blk)] = HB at hpb hxB ⊢
                  refine ACalls.up (args' := [.int .i64 v, lv 1 H3.length 0 3]) ⟨Up.refl _ _, Up.ex (by omega) (.inr (by rw [cellsAt_of hxB rfl (by simp [ints])]; rfl)), trivial⟩ ?_
                  refine l02Triple_ok (t := [(s : Int), b, c]) (by omega) ⟨H3.length, 0, rfl, Holds.at ⟨true, hxB⟩, by simp⟩ _ ?_
                  cases htr : tripS v [(s : Int), b, c] with
                  | false =>
                    rw [htr] at hst
                    simp (maxSteps := 1000000) [go_sem, undef, hw_c]
                    exact no (by simpa using hst) _ _ hpb (by simp [upF, Fr.get, Up.refl])
                  | true =>
                    rw [htr, if_pos rfl] at hst
                    obtain ⟨vs, v1, v2, v3⟩ := (hb.pre (hout3.1.trans hpb))
                    rw [hL] at v1
                    have hpC : HB <+: HB ++ [⟨[], true, true⟩] := List.prefix_append _ _
                    have hC0 : (HB ++ [(⟨[], true, true⟩ : Blk)])[HB.length]? = some ⟨[], true, true⟩ := by simp
                    have hsrc := (v2.pre hpC).src (e := 1) (n := L) (s := some 1) (by omega) (by omega) L
                    simp only [srcCells, Nat.mul_one] at hsrc
                    obtain ⟨ap, HD, hap, hpD, hcont⟩ := copyPush hC0 v1
                    simp (maxSteps := 1000000) [go_sem, undef, hsrc, hap]
                    have hpBD := hpC.trans hpD
                    have hlC : (HB ++ [(⟨[], true, true⟩ : Blk)]).length = HB.length + 1 := by simp
                    obtain ⟨H4, hH4⟩ : ∃ H4, HD ++ [(⟨[.int .i64 s, .int .i64 b, .int .i64 c], true, true⟩ : Blk)] = H4 := ⟨_, rfl⟩
                    have hpD4 : HD <+: H4 := hH4 ▸ List.prefix_append _ _
                    have hl4 : H4.length = HD.length + 1 := by rw [← hH4]; simp
                    have hx4 : H4[HD.length]? = some ⟨ints [(s : Int), b, c], true, true⟩ := by rw [← hH4]; simp [ints]
                    obtain ⟨H5, k, hap2, hb5, hs5, hk5⟩ := hcont (.slice (some ⟨HD.length, 0, none⟩) 3 3) H4 hpD4
                    rw [hlC] at hk5
                    have hle5 := hs5.1
                    have hleBD := hpBD.length_le
                    have hleB := hpb.length_le
                    have hleD := hpD.length_le
                    rw [hlC] at hleD
                    have hpB5 : HB <+: H5 := ((Same.of_prefix (hpBD.trans hpD4)).trans hs5).prefix (by rintro j hj rfl; omega)
                    have hx5 : H5[HD.length]? = some ⟨ints [(s : Int), b, c], true, true⟩ := hs5.get hx4 (by omega)
                    have hrows5 : RowsAt H5 (H4.length + 1) 0 (beg ++ [[(s : Int), b, c]]) := by
                      refine ⟨vs ++ [.slice (some ⟨HD.length, 0, none⟩) 3 3], by simp [v1, hL], Holds.at ⟨true, hb5⟩, ?_⟩
                      intro j x xs hx hxs
                      by_cases hj : j < L
                      · rw [List.getElem?_append_left (by omega)] at hx hxs
                        exact ⟨(v3 j x xs hx hxs).1.pre hpB5, (v3 j x xs hx hxs).2⟩
                      · have hjl := (List.getElem?_eq_some_iff.1 hx).1
                        rw [List.length_append, List.length_singleton] at hjl
                        obtain rfl : j = L := by omega
                        rw [List.getElem?_append_right (by omega), v1, Nat.sub_self] at hx
                        rw [List.getElem?_append_right (by omega), hL, Nat.sub_self] at hxs
                        cases hx; cases hxs
                        exact ⟨.inr ⟨HD.length, rfl, ⟨HD.length, 0, rfl, Holds.at ⟨true, hx5⟩, by simp⟩, hx5⟩, by simp⟩
                    have hrec := ih (H := H5) (ib := H4.length + 1) (ob := 0) (beg := beg ++ [[(s : Int), b, c]]) (v := v) (m := m ||| own) (by omega) hv (by omega) (by have := hcl rfl; omega) (by rw [List.length_append, hL, List.length_singleton]; omega) hrows5
                    have hl1 : (beg ++ [[(s : Int), b, c]]).length = L + 1 := by rw [List.length_append, hL, List.length_singleton]
                    rw [hl1] at hrec
                    have hid5 : H3.length ≤ H4.length + 1 := by omega
                    have hlt5 := (List.getElem?_eq_some_iff.1 hb5).1
                    have heq2 : HD ++ [(⟨[.int .i64 s, .int .i64 b, .int .i64 c], true, true⟩ : Blk), ⟨[.slice (some ⟨HD.length, 0, none⟩) 3 3], true, true⟩] = H4 ++ [⟨[.slice (some ⟨HD.length, 0, none⟩) 3 3], true, true⟩] := by rw [← hH4]; simp
                    rw [heq2]
                    simp (maxSteps := 1000000) [go_sem, hap2, om]
                    refine andK_intro (by omega) (andK_intro (by omega) ?_)
                    refine hrec _ ?_
                    intro H6 w hp6 hw
                    have hp36 : H3 <+: H6 := (hpb.trans hpB5).trans hp6
                    obtain ⟨ir, es2, rfl, he2, hsrc2, oid4, H7, hap3, hout7⟩ := hout3.add hp36 hw (by omega) hid5
                    have hes2 : es2.length ≤ 4096 := by
                      have e1 : es2.length = (goS n v (beg ++ [[(s : Int), b, c]]) (m ||| own)).length := by rw [← he2, List.length_map]
                      rw [e1]; exact hF _ _
                    obtain ⟨n2, hn2⟩ : ∃ n2, es2.length = n2 := ⟨_, rfl⟩
                    rw [hn2] at hsrc2 hap3 hes2 ⊢
                    simp only [srcCells] at hsrc2
                    try simp only [Nat.mul_one] at hsrc2
                    simp (maxSteps := 1000000) [go_sem, hsrc2, hap3, hw_c]
                    refine andK_intro (by omega) (hK3 (c + 1, oid4, es3 ++ es2) _ _ (by simp only; omega) (by simp [upF, Fr.get, Up.refl, hn2]) ⟨by simp only; omega, by simp only; omega, ?_, hout7⟩)
                    simp only [hsucc, hst, List.map_append, hes3, he2, List.append_assoc]
                · rw [if_neg h0] at hst
                  have hqz : ((q : Int) == 0) = false := beq_eq_false_iff_ne.2 (by omega)
                  simp (maxSteps := 1000000) [go_sem, undef, wv, hd, wh, hch, hci, ua, ub, uc, na, nb, nc, sa, sb, sc, oab, oabc, am, hqz, hw_c]
                  exact no hst _ _ (List.prefix_refl _) (by simp [upF, Fr.get, Up.refl])
              · have : c = hh + 1 := by omega
                subst this
                have hci : ¬ ((hh : Int) + 1 ≤ hh) := by omega
                simp (maxSteps := 1000000) [go_sem, wv, hd, wh, hci, hw_b]
                refine hK2 (b + 1, oid3, es3) _ _ (by simp only; omega) (by simp [upF, Fr.get, Up.refl]) ⟨by simp only; omega, by simp only; omega, ?_, hout3⟩
                simp only [upTo_succ hb1, List.flatMap_append, ← hes]
                rw [hes3]; simp [rowS]
          · have : b = hh + 1 := by omega
            subst this
            have hbi : ¬ ((hh : Int) + 1 ≤ hh) := by omega
            simp (maxSteps := 1000000) [go_sem, wv, hd, wh, hbi]
            refine ⟨_, Up.refl _ _, h H2 _ hout.1 ⟨oid, es, rfl, hout.2.1.at, hes, fun e he => ⟨(hout.2.2.2 e he).1, fun hn => ((hout.2.2.2 e he).2 hn).1⟩⟩⟩

end Go.Proofs.Ytdfeoccjllljiaa
end
