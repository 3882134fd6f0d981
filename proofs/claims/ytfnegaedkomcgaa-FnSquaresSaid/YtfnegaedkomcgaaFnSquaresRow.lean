/- The law FnSquares returns true, for every input. The statement is the given one; there is no condition beside it. -/
import Derived.Test.YtfnegaedkomcgaaFnSquaresPart11
set_option linter.all false
namespace Go.Proofs.Ytfnegaedkomcgaa.fnSquaresDone
open Go.Ab
set_option linter.unusedVariables false

theorem closedFact : joinedFacts Try.prog 3 Try.f3 Rows.fnSquaresSpec Rows.fnSquaresRow = true := by
  unfold joinedFacts; rw [enterFact, liftFact, mkFact, laidOut, rowedFact, heardFact]; kernel_rfl

theorem named : Try.prog.funcNamed Rows.fnSquaresRow.func = some 3 := by kernel_rfl

theorem lifted (os : Os) (started : os.Started) (D : Type) (enc : TypeId × Value → D) :
    ReturnsInHanded {} Try.checked os 3 .any (Rows.fnSquaresSpec.pre6 enc Try.prog Try.f3 Rows.fnSquaresRow.domain false) (Rows.fnSquaresSpec.post enc Try.prog Try.f3 false true false false) :=
  law_lifted [shBytes] own laidOut started (by kernel_rfl) Try.func3 (ChangeSpec.witness6 (enc := enc) (C := Try.checked) false ⟨#[], #[.slice none 0 0], []⟩ 8 (by kernel_rfl) (by kernel_rfl) (by kernel_rfl) (by kernel_rfl))
    rfl (by kernel_rfl) rfl Try.underlying4 rfl (fun ds h => by match ds, h with | [_], _ => rfl) (fun W x hx => by simp only [List.mem_cons, List.not_mem_nil, or_false] at hx; subst hx; exact fits_shBytes W)
    (fun H avs h => lawFnSquares H avs h)

theorem over : Rows.fnSquaresRow.holds Try.pinned (OpenSpec.ofChange Rows.fnSquaresSpec) :=
  OpenClaim.holds_of_wide 3 Try.f3 rfl rfl rfl rfl rfl rfl rfl ⟨rfl, rfl, rfl, rfl, rfl⟩ rfl rfl rfl rfl rfl named Try.func3 closedFact
    (of_decide_eq_true (by kernel_rfl)) (by unfold Func.isWrapper; rw [if_neg (of_decide_eq_false (by kernel_rfl))]; exact ⟨rfl, rfl⟩)
    (fun os started H enc _ => lifted os started H enc)

theorem proved : Rows.FnSquaresSaid := over
#print axioms proved
end Go.Proofs.Ytfnegaedkomcgaa.fnSquaresDone
