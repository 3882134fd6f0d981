/- The law FnExactTypesOf returns true, for every input. The statement is the given one; there is no condition beside it. -/
import Derived.Test.YtakkmkinfeddeaaFnExactTypesOfPart11
set_option linter.all false
namespace Go.Proofs.Ytakkmkinfeddeaa.fnExactTypesOfDone
open Go.Ab
set_option linter.unusedVariables false

theorem closedFact : joinedFacts Try.prog 19 Try.f19 Rows.fnExactTypesOfSpec Rows.fnExactTypesOfRow = true := by
  unfold joinedFacts; rw [enterFact, liftFact, mkFact, laidOut, rowedFact, heardFact]; kernel_rfl

theorem named : Try.prog.funcNamed Rows.fnExactTypesOfRow.func = some 19 := by kernel_rfl

theorem lifted (os : Os) (started : os.Started) (D : Type) (enc : TypeId × Value → D) :
    ReturnsInHanded {} Try.checked os 19 .any (Rows.fnExactTypesOfSpec.pre6 enc Try.prog Try.f19 Rows.fnExactTypesOfRow.domain false) (Rows.fnExactTypesOfSpec.post enc Try.prog Try.f19 false true false false) :=
  law_lifted [shSystem] own laidOut started (by kernel_rfl) Try.func19 (ChangeSpec.witness6 (enc := enc) (C := Try.checked) false ⟨#[], #[.agg #[.int .i64 0, .slice none 0 0]], []⟩ 8 (by kernel_rfl) (by kernel_rfl) (by kernel_rfl) (by kernel_rfl))
    rfl (by kernel_rfl) rfl Try.underlying4 rfl (fun ds h => by match ds, h with | [_], _ => rfl) (fun W x hx => by simp only [List.mem_cons, List.not_mem_nil, or_false] at hx; subst hx; exact fits_shSystem W)
    (fun H avs h => lawFnExactTypesOf H avs h)

theorem over : Rows.fnExactTypesOfRow.holds Try.pinned (OpenSpec.ofChange Rows.fnExactTypesOfSpec) :=
  OpenClaim.holds_of_wide 19 Try.f19 rfl rfl rfl rfl rfl rfl rfl ⟨rfl, rfl, rfl, rfl, rfl⟩ rfl rfl rfl rfl rfl named Try.func19 closedFact
    (of_decide_eq_true (by kernel_rfl)) (by unfold Func.isWrapper; rw [if_neg (of_decide_eq_false (by kernel_rfl))]; exact ⟨rfl, rfl⟩)
    (fun os started H enc _ => lifted os started H enc)

theorem proved : Rows.FnExactTypesOfSaid := over
#print axioms proved
end Go.Proofs.Ytakkmkinfeddeaa.fnExactTypesOfDone
