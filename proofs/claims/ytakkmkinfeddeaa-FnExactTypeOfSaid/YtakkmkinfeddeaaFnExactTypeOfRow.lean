/- The law FnExactTypeOf returns true, for every input. The statement is the given one; there is no condition beside it. -/
import Derived.Test.YtakkmkinfeddeaaFnExactTypeOfPart9
set_option linter.all false
namespace Go.Proofs.Ytakkmkinfeddeaa.fnExactTypeOfDone
open Go.Ab
set_option linter.unusedVariables false

theorem closedFact : joinedFacts Try.prog 15 Try.f15 Rows.fnExactTypeOfSpec Rows.fnExactTypeOfRow = true := by
  unfold joinedFacts; rw [enterFact, liftFact, mkFact, laidOut, rowedFact, heardFact]; kernel_rfl

theorem named : Try.prog.funcNamed Rows.fnExactTypeOfRow.func = some 15 := by kernel_rfl

theorem lifted (os : Os) (started : os.Started) (D : Type) (enc : TypeId × Value → D) :
    ReturnsInHanded {} Try.checked os 15 .any (Rows.fnExactTypeOfSpec.pre6 enc Try.prog Try.f15 Rows.fnExactTypeOfRow.domain false) (Rows.fnExactTypeOfSpec.post enc Try.prog Try.f15 false true false false) :=
  law_lifted [shSystem, shInt, shInt] own laidOut started (by kernel_rfl) Try.func15 (ChangeSpec.witness6 (enc := enc) (C := Try.checked) false ⟨#[], #[.agg #[.int .i64 0, .slice none 0 0], .int .i64 0, .int .i64 0], []⟩ 8 (by kernel_rfl) (by kernel_rfl) (by kernel_rfl) (by kernel_rfl))
    rfl (by kernel_rfl) rfl Try.underlying4 rfl (fun ds h => by match ds, h with | [_, _, _], _ => rfl) (fun W x hx => by simp only [List.mem_cons, List.not_mem_nil, or_false, false_or] at hx; rcases hx with rfl | rfl | rfl <;> first | exact fits_shSystem W | exact fits_shInt W )
    (fun H avs h => lawFnExactTypeOf H avs h)

theorem over : Rows.fnExactTypeOfRow.holds Try.pinned (OpenSpec.ofChange Rows.fnExactTypeOfSpec) :=
  OpenClaim.holds_of_wide 15 Try.f15 rfl rfl rfl rfl rfl rfl rfl ⟨rfl, rfl, rfl, rfl, rfl⟩ rfl rfl rfl rfl rfl named Try.func15 closedFact
    (of_decide_eq_true (by kernel_rfl)) (by unfold Func.isWrapper; rw [if_neg (of_decide_eq_false (by kernel_rfl))]; exact ⟨rfl, rfl⟩)
    (fun os started H enc _ => lifted os started H enc)

theorem proved : Rows.FnExactTypeOfSaid := over
#print axioms proved
end Go.Proofs.Ytakkmkinfeddeaa.fnExactTypeOfDone
