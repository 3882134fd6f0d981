/- Values and frames of which less is said; loops by a ghost state; ghosts. No statement of the seat is proved here; it holds for every program. -/
import Derived.Test.YtkgjdmbmdnmilaaAbDraw
set_option linter.all false
namespace Go.Ab
open Go.RowKit (Below)

/-- What v says of a value, v' says too. -/
def Up (H : Heap) (v v' : Value) : Prop := ∀ (B : Nat) (w0 : World) (ρ : Rho) (w : World) (cv : Value), R B w0 ρ H w → VR ρ v cv → VR ρ v' cv

theorem Up.refl (H : Heap) (v : Value) : Up H v v := fun _ _ _ _ _ _ h => h
theorem Up.of_eq {H : Heap} {v v' : Value} (h : v = v') : Up H v v' := h ▸ Up.refl H v
theorem Up.nil (H : Heap) (i o e : Nat) : Up H (.slice none 0 0) (.slice (some ⟨i, o, some e⟩) 0 0) := by
  intro B w0 ρ w cv _ h
  cases h
  exact .sliceZero _ _ _ _
theorem Up.ex {H : Heap} {i o e n : Nat} (he : 0 < e) (hc : n = 0 ∨ (cellsAt H i o (n * e)).isSome = true) : Up H (.slice (some ⟨i, o, none⟩) n n) (.slice (some ⟨i, o, some e⟩) n n) := by
  intro B w0 ρ w cv hR h
  cases h with
  | sliceEx _ _ _ l hl =>
    by_cases h0 : n = 0
    · subst h0; exact .sliceZero _ _ _ _
    · have hc' : (cellsAt H i o (n * e)).isSome = true := by rcases hc with hc | hc; exact absurd hc h0; exact hc
      refine .sliceUnk _ _ _ _ _ _ l hl (.inl rfl) (Nat.le_refl _) ?_
      obtain ⟨cs, hcs⟩ := Option.isSome_iff_exists.1 hc'
      obtain ⟨b, hb, hbl, hn, _⟩ := cellsAt_inv hcs
      obtain ⟨cur, el, fz, hg, hsz, hcell, _⟩ := hR.blk i b l hb hl hbl
      have hpos : 0 < n * e := Nat.mul_pos (by omega) he
      obtain ⟨_, cv, hcv, _⟩ := hcell (o + n * e - 1) _ (List.getElem?_eq_getElem (by omega))
      have := (Array.getElem?_eq_some_iff.1 hcv).1
      omega
theorem Up.ex0 (H : Heap) (i o e i' o' : Nat) : Up H (.slice (some ⟨i, o, none⟩) 0 0) (.slice (some ⟨i', o', some e⟩) 0 0) := by
  intro B w0 ρ w cv _ h
  cases h
  exact .sliceZero _ _ _ _

/-- Lists of values, one by one. -/
def Ups (H : Heap) : List Value → List Value → Prop
  | [], [] => True
  | v :: vs, u :: us => Up H v u ∧ Ups H vs us
  | _, _ => False

theorem Ups.refl (H : Heap) : ∀ vs, Ups H vs vs
  | [] => trivial
  | v :: vs => ⟨Up.refl H v, Ups.refl H vs⟩
theorem Ups.vrs {H : Heap} {B : Nat} {w0 : World} {ρ : Rho} {w : World} (hR : R B w0 ρ H w) : ∀ {vs us cs : List Value}, Ups H vs us → VRs ρ vs cs → VRs ρ us cs
  | [], [], _, _, h => h
  | v :: vs, u :: us, cs, h, hv => by
    obtain ⟨c, cs', rfl, h1, h2⟩ := hv.cons_inv
    exact VRs.cons (h.1 _ _ _ _ _ hR h1) (Ups.vrs hR h.2 h2)
  | [], _ :: _, _, h, _ => h.elim
  | _ :: _, [], _, h, _ => h.elim
theorem Up.agg {H : Heap} {xs ys : Array Value} (h : Ups H xs.toList ys.toList) : Up H (.agg xs) (.agg ys) := by
  intro B w0 ρ w cv hR hv
  obtain ⟨zs, rfl, hz⟩ := hv.agg_inv
  exact VR.agg_of (h.vrs hR hz)

/-- A frame of which less is said. -/
def upF (H : Heap) : Fr → Fr → Prop
  | [], _ => True
  | (t, v) :: l, f => (∃ u, Fr.get f t = some u ∧ Up H u v) ∧ upF H l f

theorem upF.get {H : Heap} : ∀ {l f : Fr}, upF H l f → ∀ t v, Fr.get l t = some v → ∃ u, Fr.get f t = some u ∧ Up H u v
  | [], _, _, t, v, h => by simp [Fr.get] at h
  | (s, u) :: l, f, h, t, v, hg => by
    simp only [Fr.get] at hg
    split at hg
    · rename_i e; subst e; cases hg; exact h.1
    · exact h.2.get t v hg

theorem FR.up {N B : Nat} {w0 : World} {ρ : Rho} {H : Heap} {w : World} {l f : Fr} {a : Act} (hR : R B w0 ρ H w) (h : upF H l f) (hf : FR N ρ f a) : FR N ρ l a :=
  ⟨hf.defers, hf.size, fun t v ht => by
    obtain ⟨u, h1, h2⟩ := h.get t v ht
    exact h2 _ _ _ _ _ hR (hf.get t u h1)⟩

section
variable {P : Program} {N : Nat} {H : Heap} {fr : Fr} {Q : Exit → Fr → Heap → Prop}

theorem AWp.up {c : Code} {f : Fr} (hf : upF H f fr) (h : AWp P N c Q f H) : AWp P N c Q fr H :=
  fun B w0 ρ w a hR hF => h B w0 ρ w a hR (FR.up hR hf hF)

theorem AWp.addGhost {c : Code} (h : AWp P N c Q fr (H ++ [⟨[], false, false⟩])) : AWp P N c Q fr H :=
  fun B w0 ρ w a hR hF => wp_mono (h B w0 _ w a hR.addGhost (hF.mono (List.prefix_append _ _))) fun _ _ _ hl => hl.mono (List.prefix_append _ _) fun _ _ _ h => h

theorem ACalls.up {f : FuncId} {args args' : List Value} {Post : Value → Heap → Prop} (hu : Ups H args args') (h : ACalls P f args' H Post) : ACalls P f args H Post :=
  ⟨h.1, fun B w0 ρ w cargs hR hv => h.2 B w0 ρ w cargs hR (hu.vrs hR hv)⟩

/-- A loop: at each round's head the frame shows L s, the heap meets I s, and m goes down. -/
theorem AWp.loopUp {St : Type} {c : Code} (L : St → Fr) (I : St → Heap → Prop) (m : St → Nat) (s0 : St) (h0 : upF H (L s0) fr) (hI : I s0 H)
    (round : ∀ s H, I s H → AWp P N c (thenA (fun fr' H' => ∃ s', m s' < m s ∧ upF H' (L s') fr' ∧ I s' H') Q) (L s) H) : AWp P N (.loop c) Q fr H := by
  refine AWp.up h0 ?_
  intro B w0 ρ w a hR hF b k cs
  have key : ∀ n (s : St) (H : Heap) (ρ1 : Rho) (w : World) (a : Act), m s = n → I s H → ρ <+: ρ1 → R B w0 ρ1 H w → FR N ρ1 (L s) a →
      ∃ e a' w', Lift B w0 N ρ Q e a' w' ∧ Arrives P (lone (b.at a (.code c :: .inLoop c :: k)) cs w) b k cs e a' w' := by
    intro n
    induction n using Nat.strongRecOn with
    | _ n ih =>
      intro s H ρ1 w a hn hI hp hR hF
      obtain ⟨e, a₁, w₁, hq, harr⟩ := round s H hI B w0 ρ1 w a hR hF b (.inLoop c :: k) cs
      obtain ⟨ρ2, f2, H2, h1, h2, h3, h4⟩ := hq
      cases e with
      | normal =>
        obtain ⟨s', hlt, hle, hI'⟩ := h4
        obtain ⟨e₂, a₂, w₂, hq₂, harr₂⟩ := ih (m s') (hn ▸ hlt) s' H2 ρ2 w₁ a₁ rfl hI' (hp.trans h1) h2 (FR.up h2 hle h3)
        exact ⟨e₂, a₂, w₂, hq₂, .of_steps (Steps.trans harr (.one step_inLoop)) harr₂⟩
      | exit id => exact ⟨_, a₁, w₁, ⟨ρ2, f2, H2, hp.trans h1, h2, h3, h4⟩, .pass (x := .inLoop c) rfl (fun _ _ => .inl (by simp)) harr⟩
      | goto l => exact ⟨_, a₁, w₁, ⟨ρ2, f2, H2, hp.trans h1, h2, h3, h4⟩, .pass (x := .inLoop c) rfl (fun _ _ => .inl (by simp)) harr⟩
      | ret => exact ⟨_, a₁, w₁, ⟨ρ2, f2, H2, hp.trans h1, h2, h3, h4⟩, .pass (x := .inLoop c) rfl (fun _ _ => .inl (by simp)) harr⟩
      | panic ch => exact ⟨_, a₁, w₁, ⟨ρ2, f2, H2, hp.trans h1, h2, h3, h4⟩, .pass (x := .inLoop c) rfl (fun _ _ => .inl (by simp)) harr⟩
      | outgrown => exact ⟨_, a₁, w₁, ⟨ρ2, f2, H2, hp.trans h1, h2, h3, h4⟩, .pass (x := .inLoop c) rfl (fun _ _ => .inl (by simp)) harr⟩
  obtain ⟨e, a', w', hq, harr⟩ := key _ s0 H ρ w a rfl hI (List.prefix_refl _) hR hF
  exact ⟨e, a', w', hq, .of_steps (.one step_loop) harr⟩

/-- The same; the round is given by its conditions; K stands for what a round owes at its end. -/
theorem AWp.loopVc {St : Type} {c : Code} (L : St → Fr) (I : St → Heap → Prop) (m : St → Nat) (s0 : St) (h0 : upF H (L s0) fr) (hI : I s0 H)
    (round : ∀ (K : Fr → Heap → Prop) (s : St) (H : Heap), I s H → (∀ (s' : St) (fr' : Fr) (H' : Heap), m s' < m s → upF H' (L s') fr' → I s' H' → K fr' H') → vc P N c (thenA K Q) (L s) H) : AWp P N (.loop c) Q fr H :=
  AWp.loopUp L I m s0 h0 hI fun s H hI => vc_sound _ _ _ _ (round _ s H hI fun s' _ _ h1 h2 h3 => ⟨s', h1, h2, h3⟩)

theorem vops_region {id : Nat} {ops : Array Oper} {canon : List (Nat × Bool)} (hm : P.follows .mixedOrders = true) (hok : drawOK ops canon = true) (h : vE P N ops (Q .normal) canon fr H) : vc P N (.region id ops true) Q fr H :=
  AWp.draw hm canon hok h
end

/-- A slice whose capacity is not told. -/
abbrev lv (e i o n : Nat) : Value := .slice (some ⟨i, o, some e⟩) n n

end Go.Ab
