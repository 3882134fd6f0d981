/- Part 6 of what the proof of the law FnExactProductSystem rests on: contracts of functions of the program, for every argument that each names; no statement of the seat is proved here. -/
import Derived.Test.YtdfeoccjllljiaaFnExactProductSystemPart5

section
/- NamedSystem: the implementation's side. -/
set_option linter.all false
set_option maxRecDepth 20000
set_option maxHeartbeats 8000000
namespace Go.Proofs.Ytdfeoccjllljiaa
open Go.Ab Go.Sort

theorem upTo_asc (lo hi : Nat) : (upTo lo hi).Pairwise (· < ·) := List.pairwise_lt_range'
theorem asc_triples (v : Nat) : Asc (triples v) := by
  unfold Asc triples trip0
  rw [List.pairwise_flatMap]
  refine ⟨fun a _ => ?_, (upTo_asc 0 v).imp fun {a a'} h => ?_⟩
  · unfold trip1
    rw [List.pairwise_flatMap]
    refine ⟨fun b _ => ?_, (upTo_asc _ v).imp fun {b b'} h => ?_⟩
    · unfold trip2
      rw [List.pairwise_map]
      refine (upTo_asc _ v).imp fun {c c'} h => ?_
      rw [before_iff]; exact .inr ⟨rfl, .inr ⟨rfl, by simp only; omega⟩⟩
    · intro x hx y hy
      simp only [trip2, List.mem_map] at hx hy
      obtain ⟨c, _, rfl⟩ := hx
      obtain ⟨c', _, rfl⟩ := hy
      rw [before_iff]; exact .inr ⟨rfl, .inl (by simp only; omega)⟩
  · intro x hx y hy
    simp only [trip1, trip2, List.mem_flatMap, List.mem_map] at hx hy
    obtain ⟨b, _, c, _, rfl⟩ := hx
    obtain ⟨b', _, c', _, rfl⟩ := hy
    rw [before_iff]; exact .inl (by simp only; omega)
theorem triples_sort (v : Nat) (P : Bk → Bool) : sortB ((triples v).filter P) = (triples v).filter P := sortB_asc ((asc_triples v).filter _)

theorem end_sys {H H0 H1 : Heap} {Post : Value → Heap → Prop} {r : (Int × List Bk) × Int} {id : Nat} {p : Int} {bs : List Bk} {w : Value} {c : Int} (hp0 : H <+: H0) (hid : H.length ≤ id) (hb0 : H0[id]? = some ⟨[.int .i64 0, .slice none 0 0], true, true⟩)
    (h : ∀ H' w, H <+: H' → BlocksIn H.length H'.length H' w r.1.2 → Post (.tuple #[sysV r.1.1 w, .int .i64 r.2]) H') (hp : H0 <+: H1) (hw : BlocksIn H0.length H1.length H1 w bs) (hr : r = ((p, bs), c)) :
    ∃ H2, storeAt H1 id 0 [.int .i64 p, w] = some H2 ∧ cellsAt H2 id 0 2 = some [.int .i64 p, w] ∧ ∃ v', Up H2 (.tuple #[.agg #[.int .i64 p, w], .int .i64 c]) v' ∧ Post v' H2 := by
  obtain ⟨q1, q2, q3, q4⟩ := put2 (cs := [.int .i64 p, w]) hp0 hid hb0 rfl hp rfl (by simp [one_int, hw.one])
  have hl0 : id < H0.length := (List.getElem?_eq_some_iff.1 hb0).1
  have fin := h _ w q3 (by rw [hr, List.length_set]; exact (hw.keep q4 (fun j hj e => by have := hj.1; omega)).wider (by have := hp0.length_le; omega))
  rw [hr] at fin
  exact ⟨_, q1, q2, _, Up.refl _ _, fin⟩

end Go.Proofs.Ytdfeoccjllljiaa
end

section
/- NamedSystem: the specification's side (printed by wip/gennamed.py). -/
set_option linter.all false
set_option maxRecDepth 20000
set_option maxHeartbeats 8000000
namespace Go.Proofs.Ytdfeoccjllljiaa
open Go.Ab Go.Sort

theorem trip_le2 (v a b k : Nat) : (trip2 v a b k).length ≤ k := by rw [trip2, List.length_map, upTo_length]; omega
theorem trip_le1 (v a k : Nat) (hv : v ≤ 15) : (trip1 v a k).length ≤ k * 15 := by
  induction k with
  | zero => simp [trip1, upTo_self]
  | succ k ih =>
    by_cases hak : a + 1 ≤ k
    · rw [trip1_succ hak, List.length_append]; have := trip_le2 v a k v; omega
    · have : trip1 v a (k + 1) = [] := by unfold trip1; rw [upTo_self (by omega)]; rfl
      rw [this]; simp
theorem trip_le0 (v k : Nat) (hv : v ≤ 15) (hk : k ≤ 15) : (trip0 v k).length ≤ k * 225 := by
  induction k with
  | zero => simp [trip0, upTo_self]
  | succ k ih => rw [trip0_succ, List.length_append]; have := ih (by omega); have := trip_le1 v k v hv; omega
end Go.Proofs.Ytdfeoccjllljiaa
end

section
/- Regions with several operations that hang on nothing: ahead of an effect any of them may come first. It holds for every program. -/
set_option linter.all false
namespace Go.Ab
open Go.RowKit (Below)

section
variable {P : Program} {N : Nat} {ops : Array Oper} {K : Fr → Heap → Prop} {fs : List Nat}

/-- 'alt f t' t': f comes now, or the tree t goes on, in which f is seen to. -/
inductive TreeG
  | nil
  | one (i : Nat) (fl : Bool) (t : TreeG)
  | alt (f : Nat) (t' : TreeG) (t : TreeG)
def vG (P : Program) (N : Nat) (ops : Array Oper) (K : Fr → Heap → Prop) : TreeG → Fr → Heap → Prop
  | .nil, fr, H => K fr H
  | .one i fl t, fr, H => match ops[i]? with
    | none => False
    | some o => match isR o.op with
      | true => vstep P N ops o (vG P N ops K t) fr H
      | false => vstep P N ops o (eK fl H (vG P N ops K t)) fr H
  | .alt f t' t, fr, H => match ops[f]? with
    | some o' => vstep P N ops o' (eK true H (vG P N ops K t')) fr H ∧ vG P N ops K t fr H
    | none => False
def treeGOK (ops : Array Oper) (fs : List Nat) : TreeG → List Nat → List (Nat × Bool) → Bool
  | .nil, _, l => l.isEmpty
  | .one i fl t, cov, (j, fl') :: l => i == j && fl == fl' && ((match ops[i]? with | some o => isR o.op | none => false) || fs.all fun f => cov.contains f || !(l.map (·.1)).contains f) && treeGOK ops fs t [] l
  | .alt f t' t, cov, (j, fl') :: l => (match ops[f]? with | some o' => !isR o'.op | none => false) && decide ((l.filter fun y => y.1 != f).length < l.length) && treeGOK ops fs t' [] ((j, fl') :: l.filter fun y => y.1 != f) && treeGOK ops fs t (f :: cov) ((j, fl') :: l)
  | _, _, [] => false
theorem vG_vF : ∀ (t : TreeG) (cov : List Nat) (n : Nat) (l : List (Nat × Bool)) (fr : Fr) (H : Heap), l.length ≤ n → treeGOK ops fs t cov l = true → vG P N ops K t fr H →
    (∀ x l' m, l = x :: l' → n = m + 1 → ∀ f ∈ cov, ∃ o', ops[f]? = some o' ∧ isR o'.op = false ∧ vstep P N ops o' (eK true H (vF P N ops fs K m (x :: l'.filter fun y => y.1 != f))) fr H) → vF P N ops fs K n l fr H := by
  intro t
  induction t with
  | nil =>
    intro cov n l fr H hn hok h _
    cases l with
    | nil => cases n <;> exact h
    | cons x l => simp [treeGOK] at hok
  | one i fl t ih =>
    intro cov n l fr H hn hok h hcov
    cases l with
    | nil => simp [treeGOK] at hok
    | cons x l =>
      obtain ⟨j, fl'⟩ := x
      simp only [treeGOK, Bool.and_eq_true, beq_iff_eq] at hok
      obtain ⟨⟨⟨rfl, rfl⟩, hfl⟩, hok⟩ := hok
      cases n with
      | zero => simp at hn
      | succ n =>
        simp only [List.length_cons] at hn
        simp only [vG] at h
        simp only [vF]
        cases ho : ops[i]? with
        | none => simp [ho] at h
        | some o =>
          simp only [ho] at h hfl ⊢
          cases hR : isR o.op with
          | true => simp only [hR] at h ⊢; exact vstep_weak h fun f h hk => ih [] n l f h (by omega) hok hk (fun _ _ _ _ _ f hf => by cases hf)
          | false =>
            simp only [hR, Bool.false_or, List.all_eq_true] at h hfl ⊢
            refine ⟨vstep_weak h fun f h' hk => ?_, fun f hf hm => ?_⟩
            · cases fl with
              | true => exact ⟨hk.1, ih [] n l f h' (by omega) hok hk.2 (fun _ _ _ _ _ f hf => by cases hf)⟩
              | false => exact ih [] n l f h' (by omega) hok hk (fun _ _ _ _ _ f hf => by cases hf)
            · have := hfl f hf
              simp only [Bool.or_eq_true, Bool.not_eq_true', List.contains_eq_mem, decide_eq_false_iff_not, decide_eq_true_eq] at this
              exact hcov (i, fl) l n rfl rfl f (this.resolve_right fun e => e hm)
  | alt f t' t ih' ih =>
    intro cov n l fr H hn hok h hcov
    cases l with
    | nil => simp [treeGOK] at hok
    | cons x l =>
      obtain ⟨j, fl'⟩ := x
      simp only [treeGOK, Bool.and_eq_true, decide_eq_true_eq] at hok
      obtain ⟨⟨⟨hE, hlt⟩, hok'⟩, hok⟩ := hok
      simp only [vG] at h
      cases ho' : ops[f]? with
      | none => simp [ho'] at h
      | some o' =>
        simp only [ho', Bool.not_eq_true'] at h hE
        refine ih (f :: cov) n ((j, fl') :: l) fr H hn hok h.2 ?_
        rintro x l' m he hm g hg
        cases he
        rcases List.mem_cons.1 hg with rfl | hg
        · refine ⟨o', ho', hE, vstep_weak h.1 fun q h' hk => ⟨hk.1, ih' [] m _ q h' ?_ hok' hk.2 (fun _ _ _ _ _ f hf => by cases hf)⟩⟩
          simp only [List.length_cons] at hn ⊢
          omega
        · exact hcov (j, fl') l m rfl hm g hg

theorem AWp.drawG {id : Nat} {fr : Fr} {H : Heap} {Q : Exit → Fr → Heap → Prop} (hm : P.follows .mixedOrders = true) (fs : List Nat) (canon : List (Nat × Bool)) (t : TreeG) (hok : (drawOKF ops fs canon && treeGOK ops fs t [] canon) = true) (h : vG P N ops (Q .normal) t fr H) : AWp P N (.region id ops true) Q fr H := by
  intro B w0 ρ w a hR hF
  simp only [drawOKF, Bool.and_eq_true, decide_eq_true_eq, List.all_eq_true, List.mem_range, List.contains_iff_mem, List.mem_map] at hok
  obtain ⟨⟨⟨⟨⟨h1, h2⟩, h3⟩, h4⟩, h5⟩, h6⟩ := hok
  refine wp_region_any hm ?_
  let K : Fr → Heap → Prop := fun f h => ∃ g, feq g f ∧ Q .normal g h
  have hK : Closed K := fun f g h hfg ⟨k, hk, hq⟩ => ⟨k, hk.trans hfg, hq⟩
  have hv : vF P N ops fs K ops.size canon fr H := by
    refine vG_vF t [] ops.size canon fr H (by omega) h6 ?_ (fun _ _ _ _ _ f hf => by cases hf)
    have weak : ∀ (t : TreeG) (fr : Fr) (H : Heap), vG P N ops (Q .normal) t fr H → vG P N ops K t fr H := by
      intro t
      induction t with
      | nil => exact fun fr H h => ⟨fr, feq.rfl' _, h⟩
      | one i fl t ih =>
        intro fr H h
        simp only [vG] at h ⊢
        split at h
        · exact h
        · rename_i o ho
          cases hR : isR o.op with
          | true => simp only [hR] at h ⊢; exact vstep_weak h ih
          | false =>
            simp only [hR] at h ⊢
            refine vstep_weak h ?_
            intro f h' hk
            cases fl with
            | true => exact ⟨hk.1, ih _ _ hk.2⟩
            | false => exact ih _ _ hk
      | alt f t' t ih' ih =>
        intro fr H h
        simp only [vG] at h ⊢
        split at h
        · exact ⟨vstep_weak h.1 fun f h' hk => ⟨hk.1, ih' _ _ hk.2⟩, ih _ _ h.2⟩
        · exact h
    exact weak t fr H h
  have hgt : ∀ i, i < ops.size → (Array.replicate ops.size false).getD i true = false := by
    intro i hi
    simp [Array.getD_eq_getD_getElem?, hi]
  refine drawF_any (B := B) (w0 := w0) hK h2 ops.size (Array.replicate ops.size false) canon fr H ρ w.drew a (by simp) h3 h1 ?_ ?_ ?_ hv hR.drew hF ?_
  · intro x hx
    exact ⟨h4 x hx, hgt x.1 (h4 x hx)⟩
  · intro i hi _
    obtain ⟨x, hx, rfl⟩ := h5 i hi
    exact ⟨x, hx, rfl⟩
  · intro j o hj hl
    rw [Array.getD_eq_getD_getElem?, Array.getElem?_replicate] at hl
    split at hl <;> simp at hl
  · rintro ρ' fr' H' a' w' hp ⟨g, hg, hq⟩ hR' hF'
    exact ⟨ρ', g, H', hp, hR', hF'.feq hg.symm, hq⟩

def vGK (P : Program) (N : Nat) (ops : Array Oper) (K : Fr → Heap → Prop) (t : TreeG) (fr : Fr) (H : Heap) : Prop := vG P N ops K t fr H
def eGK (P : Program) (N : Nat) (ops : Array Oper) (K : Fr → Heap → Prop) (t : TreeG) (fl : Bool) (H : Heap) (fr : Fr) (H' : Heap) : Prop :=
  match fl with
  | true => andK (H <+: H') (vG P N ops K t fr H')
  | false => vG P N ops K t fr H'
def vGo (P : Program) (N : Nat) (ops : Array Oper) (K : Fr → Heap → Prop) (t : TreeG) (fl : Bool) (fr : Fr) (H : Heap) (o : Oper) : Prop :=
  match isR o.op with
  | true => vstep P N ops o (vGK P N ops K t) fr H
  | false => vstep P N ops o (eGK P N ops K t fl H) fr H
def vGe (P : Program) (N : Nat) (ops : Array Oper) (K : Fr → Heap → Prop) (t : TreeG) (fl : Bool) (fr : Fr) (H : Heap) (o : Oper) : Prop := vstep P N ops o (eGK P N ops K t fl H) fr H
theorem vG_nil (K : Fr → Heap → Prop) (fr : Fr) (H : Heap) : vG P N ops K .nil fr H = K fr H := rfl
theorem eGK_eq (K : Fr → Heap → Prop) (t : TreeG) (fl : Bool) (H : Heap) : eK fl H (vG P N ops K t) = eGK P N ops K t fl H := by
  funext f h
  cases fl <;> rfl
theorem vG_one (K : Fr → Heap → Prop) (i : Nat) (fl : Bool) (t : TreeG) (fr : Fr) (H : Heap) : vG P N ops K (.one i fl t) fr H = bindO ops[i]? (vGo P N ops K t fl fr H) := by
  simp only [vG]
  cases ops[i]? with
  | none => simp [bindO]
  | some o =>
    simp only [bindO_some, vGo]
    cases isR o.op with
    | true => rfl
    | false => simp only [eGK_eq]
theorem vG_alt {f : Nat} {t' t : TreeG} {K : Fr → Heap → Prop} {fr : Fr} {H : Heap} (h1 : bindO ops[f]? (vGe P N ops K t' true fr H)) (h2 : vG P N ops K t fr H) : vG P N ops K (.alt f t' t) fr H := by
  simp only [vG]
  cases ho' : ops[f]? with
  | none => simp [ho', bindO] at h1
  | some o' =>
    simp only [ho', bindO_some, vGe] at h1 ⊢
    exact ⟨by rw [eGK_eq]; exact h1, h2⟩

attribute [go_sem] vGK eGK vGo vGe vG_nil vG_one

end
end Go.Ab
end

section
/- ProductSystem: what both sides build on. -/
set_option linter.all false
set_option maxRecDepth 20000
set_option maxHeartbeats 8000000
namespace Go.Proofs.Ytdfeoccjllljiaa
open Go.Ab Go.Sort

def evB (bs : List Bk) (a b c : Int) : Bool := (decide (a = b) && decide (b = c)) || (decide (a ≠ b) && (decide (b ≠ c) && (decide (a ≠ c) && decide (third bs a b = c))))
def prodB (xs ys : List Bk) (w : Nat) (b : Bk) : Bool := evB xs (b.a / w) (b.b / w) (b.c / w) && evB ys (b.a % w) (b.b % w) (b.c % w)

theorem l02Even_ok {H : Heap} {u : Value} {p a b c : Int} {bs : List Bk} (hu : BlocksAt H u bs) (hg : ∀ x ∈ bs, good 15 x = true) (Post : Value → Heap → Prop) (h : ∀ H', H <+: H' → Post (.bool (evB bs a b c)) H') :
    ACalls Try.prog 78 [sysV p u, .int .i64 a, .int .i64 b, .int .i64 c] H Post := by
  have ou := hu.one
  refine acalls_vc (rs := [.tmp 8]) Try.func78 rfl rfl Try.ntmps78 rfl rfl ?_
  have hp0 : H <+: H ++ [⟨[.int .i64 p, u], true, true⟩] := List.prefix_append _ _
  have fin := h _ hp0
  by_cases h1 : a = b
  · have b1 : (a == b) = true := beq_iff_eq.2 h1
    have n1 : (a != b) = false := by simp [h1]
    by_cases h2 : b = c
    · have b2 : (b == c) = true := beq_iff_eq.2 h2
      simp (maxSteps := 1000000) [go_sem, undef, sysV, ou, b1, b2]
      simpa [evB, h1, h2] using fin
    · have b2 : (b == c) = false := beq_eq_false_iff_ne.2 h2
      have he : evB bs a b c = false := by
        rw [Bool.eq_false_iff]
        intro e
        simp only [evB, Bool.or_eq_true, Bool.and_eq_true, decide_eq_true_eq] at e
        rcases e with e | e
        · exact h2 e.2
        · exact e.1 h1
      rw [he] at fin
      simp (maxSteps := 1000000) [go_sem, undef, sysV, ou, b1, b2, n1]
      exact fin
  · have b1 : (a == b) = false := beq_eq_false_iff_ne.2 h1
    have n1 : (a != b) = true := by simp [h1]
    by_cases h2 : b = c
    · have n2 : (b != c) = false := by simp [h2]
      have he : evB bs a b c = false := by
        rw [Bool.eq_false_iff]
        intro e
        simp only [evB, Bool.or_eq_true, Bool.and_eq_true, decide_eq_true_eq] at e
        rcases e with e | e
        · exact h1 e.1
        · exact e.2.1 h2
      rw [he] at fin
      simp (maxSteps := 1000000) [go_sem, undef, sysV, ou, b1, n1, n2]
      exact fin
    · have n2 : (b != c) = true := by simp [h2]
      by_cases h3 : a = c
      · have n3 : (a != c) = false := by simp [h3]
        simp (maxSteps := 1000000) [go_sem, undef, sysV, ou, b1, n1, n2, n3]
        simpa [evB, h1, h2, h3] using fin
      · have n3 : (a != c) = true := by simp [h3]
        have hx0 := Holds.last H [.int .i64 p, u]
        simp (maxSteps := 1000000) [go_sem, undef, sysV, ou, b1, n1, n2, n3]
        generalize H ++ [(⟨[.int .i64 p, u], true, true⟩ : Blk)] = H0 at hp0 hx0 ⊢
        refine l01Third_ok (p := p) (hu.pre hp0) hg _ ?_
        intro H1 hp1
        have fin := h _ (hp0.trans hp1)
        have he : evB bs a b c = (third bs a b == c) := by simp [evB, h1, h2, h3]; rfl
        rw [he] at fin
        simp (maxSteps := 1000000) [go_sem, undef]
        exact fin

theorem evB_grid {gs : List Int} {bs : List Bk} (ho : GridOf gs bs) (hg : ∀ x ∈ bs, good 15 x = true) {a b c : Nat} (ha : a < 15) (hb : b < 15) (hab : a ≠ b) : evB bs a b c = decide (gAt gs a b = c) := by
  have e := ho.2 a b ha hb
  rw [if_neg hab] at e
  have hab' : (a : Int) ≠ b := by omega
  rw [e, Bool.eq_iff_iff]
  simp only [evB, Bool.or_eq_true, Bool.and_eq_true, decide_eq_true_eq]
  constructor
  · rintro (h | h)
    · exact absurd h.1 hab'
    · exact h.2.2.2
  · intro h
    obtain ⟨_, _, _, _, _, _, _, _, h1, h2⟩ := third_some hg hab' (by omega)
    exact .inr ⟨hab', by omega, by omega, h⟩
theorem isEqB_ok {H : Heap} {id : Nat} {gs : List Int} {bs : List Bk} (hga : GridAt H id gs) (ho : GridOf gs bs) (hg : ∀ x ∈ bs, good 15 x = true) {a b c : Nat} (ha : a < 15) (hb : b < 15) (Post : Value → Heap → Prop) (h : Post (.bool (evB bs a b c)) H) :
    ACalls Try.prog 85 [.pointer (some ⟨id, 0, none⟩), .int .i64 a, .int .i64 b, .int .i64 c] H Post := by
  refine acalls_vc (rs := [.tmp 8]) Try.func85 rfl rfl Try.ntmps85 rfl rfl ?_
  by_cases h1 : a = b
  · subst h1
    by_cases h2 : a = c
    · subst h2
      simp (maxSteps := 1000000) [go_sem, undef]
      simpa [evB] using h
    · have b2 : ((a : Int) == c) = false := beq_eq_false_iff_ne.2 (by omega)
      have h2' : ¬ (a : Int) = c := by omega
      have he : evB bs a a c = false := by simp [evB, h2']
      rw [he] at h
      simp (maxSteps := 1000000) [go_sem, undef, b2]
      exact h
  · have b1 : ((a : Int) == b) = false := beq_eq_false_iff_ne.2 (by omega)
    have n1 : ((a : Int) != b) = true := by simp; omega
    have c1 : cellsAt H id (a * 15 + b) 1 = some [.int .i64 (gAt gs a b)] := hga.load (by omega)
    have ha' : (a : Int) < 15 := by omega
    have hb' : (b : Int) < 15 := by omega
    rw [evB_grid ho hg ha hb h1] at h
    simp (maxSteps := 1000000) [go_sem, undef, b1, n1, c1, ha, hb, ha', hb']
    exact h

theorem prod1_ok {H : Heap} {k6 k7 k8 g1 g2 w : Nat} {gs hs : List Int} {xs ys : List Bk} {v : Nat} (h6 : Holds H k6 [.int .i64 w]) (h7 : Holds H k7 [.pointer (some ⟨g1, 0, none⟩)]) (h8 : Holds H k8 [.pointer (some ⟨g2, 0, none⟩)])
    (hg1 : GridAt H g1 gs) (hg2 : GridAt H g2 hs) (ho1 : GridOf gs xs) (ho2 : GridOf hs ys) (gx : ∀ x ∈ xs, good 15 x = true) (gy : ∀ x ∈ ys, good 15 x = true) (hw : 1 ≤ w ∧ w ≤ 15) (hv : v ≤ 15) :
    TellsB 84 [] [.pointer (some ⟨k7, 0, none⟩), .pointer (some ⟨k6, 0, none⟩), .pointer (some ⟨k8, 0, none⟩)] (fun b => b ∈ triples v) (prodB xs ys w) H := by
  intro H' b Post hp hb hP
  obtain ⟨hg, x, y, z, rfl, hxy, hyz, hz⟩ := mem_triples hb
  show ACalls Try.prog 84 [(⟨x, y, z⟩ : Bk).val, .pointer (some ⟨k7, 0, none⟩), .pointer (some ⟨k6, 0, none⟩), .pointer (some ⟨k8, 0, none⟩)] H' Post
  refine acalls_vc (rs := [.tmp 5]) Try.func84 rfl rfl Try.ntmps84 rfl rfl ?_
  simp (maxSteps := 1000000) [go_sem, Bk.val]
  have hpb : H' <+: H' ++ [⟨[.int .i64 x, .int .i64 y, .int .i64 z], true, true⟩] := List.prefix_append _ _
  have hx0 := Holds.last H' [.int .i64 x, .int .i64 y, .int .i64 z]
  generalize H' ++ [(⟨[.int .i64 x, .int .i64 y, .int .i64 z], true, true⟩ : Blk)] = H1 at hpb hx0 ⊢
  have hpp := hp.trans hpb
  obtain ⟨e0, e1, e2, e3⟩ := hx0.bk
  have l6 : cellsAt H1 k6 0 1 = some [.int .i64 w] := (h6.pre hpp).cell (o := 0) rfl
  have l7 : cellsAt H1 k7 0 1 = some [.pointer (some ⟨g1, 0, none⟩)] := (h7.pre hpp).cell (o := 0) rfl
  have l8 : cellsAt H1 k8 0 1 = some [.pointer (some ⟨g2, 0, none⟩)] := (h8.pre hpp).cell (o := 0) rfl
  have w0 : (w : Int) ≠ 0 := by omega
  have w00 : w ≠ 0 := by omega
  refine AWp.draw mixed [(0, false), (1, false), (2, false), (3, false), (4, false), (5, false), (6, false), (7, false), (8, false), (9, false), (10, false), (11, false), (12, false), (13, false), (14, false), (15, false), (16, false), (17, false), (18, false), (19, false), (20, false), (21, false), (22, false), (23, false), (24, false), (25, false), (26, false), (27, false), (28, false), (29, false), (30, false)] (by kernel_rfl) ?_
  have dv : ∀ {k : Nat}, k < v → IntKind.i64.wrap ((k : Int) / w) = (k : Int) / w := by
    intro k hk
    have h1 : k / w ≤ k := Nat.div_le_self _ _
    have h2 : (k : Int) / w = ((k / w : Nat) : Int) := rfl
    obtain ⟨q, hq⟩ : ∃ q, k / w = q := ⟨_, rfl⟩
    rw [hq] at h1
    rw [h2, hq]
    exact i64w (by omega) (by omega)
  have dl : ∀ {k : Nat}, k < v → k / w < 15 := by
    intro k hk
    have h1 : k / w ≤ k := Nat.div_le_self _ _
    omega
  have ml : ∀ {k : Nat}, k % w < 15 := by
    intro k
    have := Nat.mod_lt k (show w > 0 by omega)
    omega
  have mv : ∀ k : Nat, (k : Int).tmod w = (k : Int) % w := fun k => rfl
  have dx := dv (show x < v by omega)
  have dy := dv (show y < v by omega)
  have dz := dv hz
  have mx := mv x
  have my := mv y
  have mz := mv z
  simp (maxSteps := 1000000) [go_sem, e1, e2, e3, l6, l7, w0, w00, dx, dy, dz]
  refine isEqB_ok (a := x / w) (b := y / w) (c := z / w) (hg1.keep hpp) ho1 gx (dl (by omega)) (dl (by omega)) _ ?_
  have hP' := hP H1 hpb
  cases he : evB xs ((x / w : Nat) : Int) ((y / w : Nat) : Int) ((z / w : Nat) : Int) with
  | false =>
    have e : prodB xs ys w ⟨x, y, z⟩ = false := by
      show (evB xs ((x / w : Nat) : Int) ((y / w : Nat) : Int) ((z / w : Nat) : Int) && _) = false
      rw [he]; rfl
    rw [e] at hP'
    simp (maxSteps := 1000000) [go_sem, undef]
    exact hP'
  | true =>
    have e : prodB xs ys w ⟨x, y, z⟩ = evB ys ((x % w : Nat) : Int) ((y % w : Nat) : Int) ((z % w : Nat) : Int) := by
      show (evB xs ((x / w : Nat) : Int) ((y / w : Nat) : Int) ((z / w : Nat) : Int) && evB ys ((x % w : Nat) : Int) ((y % w : Nat) : Int) ((z % w : Nat) : Int)) = _
      rw [he]; rfl
    rw [e] at hP'
    simp (maxSteps := 1000000) [go_sem, undef, e1, e2, e3, l6, l7, l8, w0, w00, mx, my, mz]
    refine isEqB_ok (a := x % w) (b := y % w) (c := z % w) (hg2.keep hpp) ho2 gy ml ml _ ?_
    simp (maxSteps := 1000000) [go_sem, undef]
    exact hP'

end Go.Proofs.Ytdfeoccjllljiaa
end

section
/- ProductSystem: the specification's side. -/
set_option linter.all false
set_option maxRecDepth 20000
set_option maxHeartbeats 8000000
namespace Go.Proofs.Ytdfeoccjllljiaa
open Go.Ab Go.Sort

noncomputable def rProd (p : Int) (bs : List Bk) (q : Int) (cs : List Bk) : (Int × List Bk) × Int :=
  if sysB p bs && sysB q cs then (if fullB p bs && fullB q cs then (if p * q ≤ 15 then ((p * q, (triples (p * q).toNat).filter (prodB bs cs q.toNat)), 0) else ((0, []), 3)) else ((0, []), 5)) else ((0, []), 1)

theorem specProd_ok {H : Heap} {u v : Value} {p q : Int} {bs cs : List Bk} (hu : BlocksAt H u bs) (hl : bs.length ≤ 1048576) (hv : BlocksAt H v cs) (hl' : cs.length ≤ 1048576) (Post : Value → Heap → Prop)
    (h : ∀ H' z, H <+: H' → BlocksIn H.length H'.length H' z (rProd p bs q cs).1.2 → Post (.tuple #[sysV (rProd p bs q cs).1.1 z, .int .i64 (rProd p bs q cs).2]) H') :
    ACalls Try.prog 23 [sysV p u, sysV q v] H Post := by
  have ou := hu.one
  have ov := hv.one
  refine ACalls.res ?_
  refine acalls_vc (rs := [.cell 4 38, .tmp 5]) Try.func23 rfl rfl Try.ntmps23 rfl rfl ?_
  simp (maxSteps := 1000000) [go_sem, sysV, ou, ov]
  have hp0 : H <+: H ++ [⟨[.int .i64 p, u], true, true⟩, ⟨[.int .i64 q, v], true, true⟩, ⟨[.int .i64 0, .slice none 0 0], true, true⟩] := List.prefix_append _ _
  have hx0 : Holds (H ++ [⟨[.int .i64 p, u], true, true⟩, ⟨[.int .i64 q, v], true, true⟩, ⟨[.int .i64 0, .slice none 0 0], true, true⟩]) H.length [.int .i64 p, u] := ⟨true, by simp⟩
  have hy0 : Holds (H ++ [⟨[.int .i64 p, u], true, true⟩, ⟨[.int .i64 q, v], true, true⟩, ⟨[.int .i64 0, .slice none 0 0], true, true⟩]) (H.length + 1) [.int .i64 q, v] := ⟨true, by simp⟩
  have hb0 : (H ++ [(⟨[.int .i64 p, u], true, true⟩ : Blk), ⟨[.int .i64 q, v], true, true⟩, ⟨[.int .i64 0, .slice none 0 0], true, true⟩])[H.length + 2]? = some ⟨[.int .i64 0, .slice none 0 0], true, true⟩ := by simp
  have hlen0 : (H ++ [(⟨[.int .i64 p, u], true, true⟩ : Blk), ⟨[.int .i64 q, v], true, true⟩, ⟨[.int .i64 0, .slice none 0 0], true, true⟩]).length = H.length + 3 := by simp
  generalize H ++ [(⟨[.int .i64 p, u], true, true⟩ : Blk), ⟨[.int .i64 q, v], true, true⟩, ⟨[.int .i64 0, .slice none 0 0], true, true⟩] = H0 at hp0 hx0 hy0 hb0 hlen0 ⊢
  have bad := bad_sys hp0 (show H.length ≤ H.length + 2 by omega) hb0 h
  refine l01Is' (hu.pre hp0) hl _ ?_
  intro H1 hp1
  cases hs : sysB p bs with
  | false =>
    obtain ⟨H9, q1, q2, fin⟩ := bad H1 1 hp1 (by rw [rProd, hs]; simp)
    simp (maxSteps := 1000000) [go_sem, undef, q1, q2]
    exact fin
  | true =>
  obtain ⟨e0, e1, e2⟩ := (hy0.pre hp1).sys
  simp (maxSteps := 1000000) [go_sem, undef, e0, e1, e2]
  refine l01Is' (hv.pre (hp0.trans hp1)) hl' _ ?_
  intro H2 hp2
  have hp02 := hp1.trans hp2
  cases hs' : sysB q cs with
  | false =>
    obtain ⟨H9, q1, q2, fin⟩ := bad H2 1 hp02 (by rw [rProd, hs, hs']; simp)
    simp (maxSteps := 1000000) [go_sem, undef, q1, q2]
    exact fin
  | true =>
  obtain ⟨d0, d1, d2⟩ := (hx0.pre hp02).sys
  have hS := sysB_iff.1 hs
  have hS' := sysB_iff.1 hs'
  have hpx := hS.1
  have hqx := hS'.1
  simp (maxSteps := 1000000) [go_sem, undef, d0, d1, d2]
  refine l01Full_ok (hu.pre (hp0.trans hp02)) hpx hl _ ?_
  intro H3 hp3
  have hp03 := hp02.trans hp3
  cases hf : fullB p bs with
  | false =>
    obtain ⟨H9, q1, q2, fin⟩ := bad H3 5 hp03 (by rw [rProd, hs, hs', hf]; simp)
    simp (maxSteps := 1000000) [go_sem, undef, q1, q2]
    exact fin
  | true =>
  obtain ⟨e0, e1, e2⟩ := (hy0.pre hp03).sys
  simp (maxSteps := 1000000) [go_sem, undef, e0, e1, e2]
  refine l01Full_ok (hv.pre (hp0.trans hp03)) hqx hl' _ ?_
  intro H4 hp4
  have hp04 := hp03.trans hp4
  cases hf' : fullB q cs with
  | false =>
    obtain ⟨H9, q1, q2, fin⟩ := bad H4 5 hp04 (by rw [rProd, hs, hs', hf, hf']; simp)
    simp (maxSteps := 1000000) [go_sem, undef, q1, q2]
    exact fin
  | true =>
  obtain ⟨d0, d1, d2⟩ := (hx0.pre hp04).sys
  obtain ⟨e0, e1, e2⟩ := (hy0.pre hp04).sys
  have hpq : p * q ≤ 15 * 15 := Int.mul_le_mul hpx.2 hqx.2 (by omega) (by omega)
  have hpq0 : 0 ≤ p * q := Int.mul_nonneg (by omega) (by omega)
  have wpq : IntKind.i64.wrap (p * q) = p * q := i64w (by omega) (by omega)
  by_cases hbig : p * q ≤ 15
  · have hbn : ¬ (15 < p * q) := by omega
    have hr : rProd p bs q cs = ((p * q, (triples (p * q).toNat).filter (prodB bs cs q.toNat)), 0) := by rw [rProd, hs, hs', hf, hf']; simp [hbig]
    obtain ⟨n, hn⟩ : ∃ n : Nat, p * q = n := ⟨(p * q).toNat, by omega⟩
    obtain ⟨w, rfl⟩ : ∃ w : Nat, q = w := ⟨q.toNat, by omega⟩
    rw [hn] at hr wpq hbn hbig
    rw [Int.toNat_natCast, Int.toNat_natCast] at hr
    have w0 : (w : Int) ≠ 0 := by omega
    have w00 : w ≠ 0 := by omega
    have hn15 : n ≤ 15 := by omega
    simp (maxSteps := 1000000) [go_sem, undef, d0, d1, d2, e0, e1, e2, hn, wpq, hbn]
    refine AWp.draw mixed [(0, false), (1, false), (2, false), (3, false), (4, false), (5, false), (6, false), (8, false), (9, false), (7, true), (10, false)] (by kernel_rfl) ?_
    simp (maxSteps := 1000000) [go_sem, d0, d1, d2, e0, e1, e2, hn, wpq]
    have hbl0 : Bl 3 H0 (H4 ++ [(⟨[], true, true⟩ : Blk)]) H4.length (tri []) 0 := by
      have := Bl.nil 3 H4
      exact ⟨hp04.trans this.1, this.2.1, hp04.length_le⟩
    generalize H4 ++ [(⟨[], true, true⟩ : Blk)] = HG at hbl0 ⊢
    have gx : ∀ x ∈ bs, good 15 x = true := hS.good15
    have gy : ∀ x ∈ cs, good 15 x = true := hS'.good15
    have dv : ∀ {k : Nat}, k < n → IntKind.i64.wrap ((k : Int) / w) = (k : Int) / w := by
      intro k hk
      have h1 : k / w ≤ k := Nat.div_le_self _ _
      have h2 : (k : Int) / w = ((k / w : Nat) : Int) := rfl
      obtain ⟨q, hq⟩ : ∃ q, k / w = q := ⟨_, rfl⟩
      rw [hq] at h1
      rw [h2, hq]
      exact i64w (by omega) (by omega)
    have mv : ∀ k : Nat, (k : Int).tmod w = (k : Int) % w := fun k => rfl
    refine AWp.loopVc (St := Nat × Nat × List Bk) (fun s => [(2, .pointer (some ⟨H.length, 0, none⟩)), (3, .pointer (some ⟨H.length + 1, 0, none⟩)), (4, .pointer (some ⟨H.length + 2, 0, none⟩)), (6, .int .i64 n), (7, .int .i64 w), (8, lv 3 s.2.1 0 s.2.2.length), (9, .int .i64 s.1)])
      (fun s H' => s.1 ≤ n ∧ s.2.2 = (trip0 n s.1).filter (prodB bs cs w) ∧ Bl 3 H0 H' s.2.1 (tri s.2.2) s.2.2.length) (fun s => n - s.1) (0, H4.length, []) ?_ ?_ ?_
    · simp [upF, Fr.get, Up.refl, Up.ex0]
    · exact ⟨by simp, by simp [trip0_start], hbl0⟩
    · rintro K ⟨a, id, acc⟩ H' ⟨ha, hacc, hbl⟩ hK
      simp only at ha hacc hbl
      by_cases hlt : a < n
      · have hw_a : IntKind.i64.wrap ((a : Int) + 1) = (a : Int) + 1 := i64w (by omega) (by omega)
        simp (maxSteps := 1000000) [go_sem, hlt, hw_a]
        refine AWp.loopVc (St := Nat × Nat × List Bk) (fun s => [(2, .pointer (some ⟨H.length, 0, none⟩)), (3, .pointer (some ⟨H.length + 1, 0, none⟩)), (4, .pointer (some ⟨H.length + 2, 0, none⟩)), (6, .int .i64 n), (7, .int .i64 w), (8, lv 3 s.2.1 0 s.2.2.length), (9, .int .i64 a), (10, .int .i64 s.1)])
          (fun s H' => a + 1 ≤ s.1 ∧ s.1 ≤ n ∧ s.2.2 = (trip0 n a ++ trip1 n a s.1).filter (prodB bs cs w) ∧ Bl 3 H0 H' s.2.1 (tri s.2.2) s.2.2.length) (fun s => n - s.1) (a + 1, id, acc) ?_ ?_ ?_
        · simp [upF, Fr.get, Up.refl]
        · exact ⟨by simp, by simp only; omega, by simp [trip1_start, hacc], hbl⟩
        · rintro K2 ⟨b, id2, acc2⟩ H2 ⟨hab, hb, hacc2, hbl2⟩ hK2
          simp only at hab hb hacc2 hbl2
          by_cases hlt2 : b < n
          · have hw_b : IntKind.i64.wrap ((b : Int) + 1) = (b : Int) + 1 := i64w (by omega) (by omega)
            simp (maxSteps := 1000000) [go_sem, hlt2, hw_b]
            refine AWp.loopVc (St := Nat × Nat × List Bk) (fun s => [(2, .pointer (some ⟨H.length, 0, none⟩)), (3, .pointer (some ⟨H.length + 1, 0, none⟩)), (4, .pointer (some ⟨H.length + 2, 0, none⟩)), (6, .int .i64 n), (7, .int .i64 w), (8, lv 3 s.2.1 0 s.2.2.length), (9, .int .i64 a), (10, .int .i64 b), (11, .int .i64 s.1)])
              (fun s H' => b + 1 ≤ s.1 ∧ s.1 ≤ n ∧ s.2.2 = (trip0 n a ++ trip1 n a b ++ trip2 n a b s.1).filter (prodB bs cs w) ∧ Bl 3 H0 H' s.2.1 (tri s.2.2) s.2.2.length) (fun s => n - s.1) (b + 1, id2, acc2) ?_ ?_ ?_
            · simp [upF, Fr.get, Up.refl]
            · exact ⟨by simp, by simp only; omega, by simp [trip2_start, hacc2], hbl2⟩
            · rintro K3 ⟨c, id3, acc3⟩ H3 ⟨hbc, hc, hacc3, hbl3⟩ hK3
              simp only at hbc hc hacc3 hbl3
              by_cases hlt3 : c < n
              · have hw_c : IntKind.i64.wrap ((c : Int) + 1) = (c : Int) + 1 := i64w (by omega) (by omega)
                have hlen : acc3.length ≤ 10000 := by
                  rw [hacc3]
                  refine Nat.le_trans (List.length_filter_le _ _) ?_
                  simp only [List.length_append]
                  have := trip_le0 n a hn15 (by omega); have := trip_le1 n a b hn15; have := trip_le2 n a b c
                  omega
                have hsn : ∀ l : List Bk, (l ++ trip2 n a b (c + 1)).filter (prodB bs cs w) = (l ++ trip2 n a b c).filter (prodB bs cs w) ++ (if (prodB bs cs w) ⟨a, b, c⟩ then [⟨a, b, c⟩] else []) := by
                  intro l
                  rw [trip2_succ hbc, ← List.append_assoc, List.filter_append (_ ++ _)]
                  congr 1
                  cases hP : (prodB bs cs w) ⟨a, b, c⟩ <;> simp [hP]
                have no : (prodB bs cs w) ⟨a, b, c⟩ = false → ∀ fr' HH, H3 <+: HH → upF HH [(2, .pointer (some ⟨H.length, 0, none⟩)), (3, .pointer (some ⟨H.length + 1, 0, none⟩)), (4, .pointer (some ⟨H.length + 2, 0, none⟩)), (6, .int .i64 n), (7, .int .i64 w), (8, lv 3 id3 0 acc3.length), (9, .int .i64 a), (10, .int .i64 b), (11, .int .i64 (c + 1))] fr' → K3 fr' HH := fun hP fr' HH hpp hf =>
                  hK3 (c + 1, id3, acc3) _ _ (by simp only; omega) (by simpa using hf) ⟨by simp only; omega, by simp only; omega, by simp only [hsn, hP, hacc3]; simp, hbl3.pre hpp⟩
                have dx := dv (show a < n by omega)
                have dy := dv (show b < n by omega)
                have dz := dv hlt3
                have mx := mv a
                have my := mv b
                have mz := mv c
                obtain ⟨d0, d1, d2⟩ := (hx0.pre hbl3.1).sys
                have hP0 : prodB bs cs w ⟨a, b, c⟩ = (evB bs ((a : Int) / w) ((b : Int) / w) ((c : Int) / w) && evB cs ((a : Int) % w) ((b : Int) % w) ((c : Int) % w)) := rfl
                simp (maxSteps := 1000000) [go_sem, hlt3]
                refine AWp.draw mixed [(0, false), (1, false), (2, false), (3, false), (4, false), (5, false), (6, false), (7, false), (8, false), (9, false), (10, false), (11, false), (12, false), (13, false), (14, false), (15, false), (16, false), (17, false), (18, false), (19, false), (20, false), (21, false), (22, false), (23, false)] (by kernel_rfl) ?_
                simp (maxSteps := 1000000) [go_sem, d0, w0, w00, dx, dy, dz]
                refine l02Even_ok (p := p) (hu.pre (hp0.trans hbl3.1)) gx _ ?_
                intro H5 hp5
                cases hE : evB bs ((a : Int) / w) ((b : Int) / w) ((c : Int) / w) with
                | false =>
                  rw [hE, Bool.false_and] at hP0
                  simp (maxSteps := 1000000) [go_sem, undef, hw_c, hp5]
                  exact no hP0 _ _ hp5 (by simp [upF, Fr.get, Up.refl])
                | true =>
                  rw [hE, Bool.true_and] at hP0
                  obtain ⟨e0, e1, e2⟩ := (hy0.pre (hbl3.1.trans hp5)).sys
                  simp (maxSteps := 1000000) [go_sem, undef, e0, w0, w00, mx, my, mz, hp5]
                  refine l02Even_ok (p := w) (hv.pre (hp0.trans (hbl3.1.trans hp5))) gy _ ?_
                  intro H6 hp6
                  cases hE2 : evB cs ((a : Int) % w) ((b : Int) % w) ((c : Int) % w) with
                  | false =>
                    rw [hE2] at hP0
                    simp (maxSteps := 1000000) [go_sem, undef, hw_c, hp6]
                    exact no hP0 _ _ (hp5.trans hp6) (by simp [upF, Fr.get, Up.refl])
                  | true =>
                    rw [hE2] at hP0
                    obtain ⟨hsrc, H7, hap, hbl7⟩ := (hbl3.pre (hp5.trans hp6)).push (xs := (⟨a, b, c⟩ : Bk).cells) (by omega) rfl
                    simp only [Bk.cells] at hsrc hap hbl7
                    simp (maxSteps := 1000000) [go_sem, undef, hw_c, hp6, hsrc, hap]
                    refine andK_intro (by omega) (hK3 (c + 1, H6.length + 1, acc3 ++ [⟨a, b, c⟩]) _ _ (by simp only; omega) (by simp [upF, Fr.get, Up.refl]) ⟨by simp only; omega, by simp only; omega, by simp only [hsn, hP0, hacc3]; simp, ?_⟩)
                    simp only [List.length_append, List.length_singleton, tri_append, tri_one, Bk.cells]
                    exact hbl7
              · have : c = n := by omega
                subst this
                simp (maxSteps := 1000000) [go_sem, hw_b]
                exact hK2 (b + 1, id3, acc3) _ _ (by simp only; omega) (by simp [upF, Fr.get, Up.refl]) ⟨by simp only; omega, by simp only; omega, by simp only [trip1_succ hab, ← List.append_assoc]; exact hacc3, hbl3⟩
          · have : b = n := by omega
            subst this
            simp (maxSteps := 1000000) [go_sem, hw_a]
            exact hK (a + 1, id2, acc2) _ _ (by simp only; omega) (by simp [upF, Fr.get, Up.refl]) ⟨by simp only; omega, by simp only [trip0_succ]; exact hacc2, hbl2⟩
      · have : a = n := by omega
        subst this
        have hlen : acc.length ≤ 10000 := by
          rw [hacc]
          refine Nat.le_trans (List.length_filter_le _ _) ?_
          have := trip_le0 a a hn15 hn15
          omega
        have hown : BlocksIn H0.length H'.length H' (lv 3 id 0 acc.length) acc := OwnBlocks.inn (OwnBlocks.of_ol hbl.2.1 (by omega)) hbl.2.2
        simp (maxSteps := 1000000) [go_sem]
        refine l01Made_ok hown.read (by omega) _ ?_
        intro H6 z hp6 hz
        have hac : acc = (triples a).filter (prodB bs cs w) := hacc
        rw [hac, triples_sort] at hz
        obtain ⟨q1, q2, q3, q4⟩ := put2 (cs := [.int .i64 a, z]) hp0 (show H.length ≤ H.length + 2 by omega) hb0 rfl (hbl.1.trans hp6) rfl (by simp [one_int, hz.one])
        have hll := hbl.1.length_le
        have fin := h _ z q3 (by rw [hr, List.length_set]; exact (hz.keep q4 (fun j hj e => by have := hj.1; omega)).wider (by omega))
        rw [hr] at fin
        simp only [hn] at fin
        simp (maxSteps := 1000000) [go_sem, sysV, q1, q2]
        exact ⟨_, Up.refl _ _, fin⟩
  · have hbn : 15 < p * q := by omega
    obtain ⟨H9, q1, q2, fin⟩ := bad H4 3 hp04 (by rw [rProd, hs, hs', hf, hf']; simp; omega)
    simp (maxSteps := 1000000) [go_sem, undef, d0, d1, d2, e0, e1, e2, wpq, hbn, q1, q2]
    exact fin

end Go.Proofs.Ytdfeoccjllljiaa
end
