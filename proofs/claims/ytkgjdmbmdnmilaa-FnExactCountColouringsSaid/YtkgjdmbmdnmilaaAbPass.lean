/- Stops on a walk: what stands behind a region is put off. No statement of the seat is proved here; it holds for every program. -/
import Derived.Test.YtkgjdmbmdnmilaaAbUp
set_option linter.all false
namespace Go.Ab

/-- The state that a region leaves behind. -/
def Hold (F : Fr) (H2 : Heap) (f : Fr) (h : Heap) : Prop := f = F ∧ h = H2

section
variable {P : Program} {N : Nat} {ops : Array Oper} {K K' : Fr → Heap → Prop}

theorem vE_weak (hk : ∀ f h, K f h → K' f h) : ∀ (l : List (Nat × Bool)) (fr : Fr) (H : Heap), vE P N ops K l fr H → vE P N ops K' l fr H
  | [], fr, H, h => hk fr H h
  | (i, fl) :: l, fr, H, h => by
    have ih := vE_weak hk l
    simp only [vE] at h ⊢
    split at h
    · exact h
    · rename_i o ho
      cases hR : isR o.op with
      | true => simp only [hR] at h ⊢; exact vstep_weak h ih
      | false =>
        simp only [hR] at h ⊢
        refine vstep_weak h ?_
        intro f h' hk
        cases fl with
        | true => exact ⟨hk.1, ih _ _ hk.2⟩
        | false => exact ih _ _ hk

theorem vE_pass {l : List (Nat × Bool)} {fr : Fr} {H : Heap} {F : Fr} {H2 : Heap} (h1 : vE P N ops (Hold F H2) l fr H) (h2 : K F H2) : vE P N ops K l fr H :=
  vE_weak (by rintro f h ⟨rfl, rfl⟩; exact h2) l fr H h1
end

end Go.Ab
