/- The law FnExactPutBlock returns true, for every input. The statement is the given one; there is no condition beside it. -/
import Derived.Test.YtakkmkinfeddeaaFnExactPutBlockPart13
set_option linter.all false
namespace Go.Proofs.Ytakkmkinfeddeaa.fnExactPutBlockDone
open Go.Ab
set_option linter.unusedVariables false

theorem closedFact : joinedFacts Try.prog 10 Try.f10 Rows.fnExactPutBlockSpec Rows.fnExactPutBlockRow = true := by
  unfold joinedFacts; rw [enterFact, liftFact, mkFact, laidOut, rowedFact, heardFact]; kernel_rfl

theorem named : Try.prog.funcNamed Rows.fnExactPutBlockRow.func = some 10 := by kernel_rfl

theorem lifted (os : Os) (started : os.Started) (D : Type) (enc : TypeId × Value → D) :
    ReturnsInHanded {} Try.checked os 10 .any (Rows.fnExactPutBlockSpec.pre6 enc Try.prog Try.f10 Rows.fnExactPutBlockRow.domain false) (Rows.fnExactPutBlockSpec.post enc Try.prog Try.f10 false true false false) :=
  law_lifted [shSystem, shBlock] own laidOut started (by kernel_rfl) Try.func10 (ChangeSpec.witness6 (enc := enc) (C := Try.checked) false ⟨#[], #[.agg #[.int .i64 0, .slice none 0 0], .agg #[.int .i64 0, .int .i64 0, .int .i64 0]], []⟩ 8 (by kernel_rfl) (by kernel_rfl) (by kernel_rfl) (by kernel_rfl))
    rfl (by kernel_rfl) rfl Try.underlying4 rfl (fun ds h => by match ds, h with | [_, _], _ => rfl) (fun W x hx => by simp only [List.mem_cons, List.not_mem_nil, or_false, false_or] at hx; rcases hx with rfl | rfl <;> first | exact fits_shSystem W | exact fits_shBlock W )
    (fun H avs h => lawFnExactPutBlock H avs h)

theorem over : Rows.fnExactPutBlockRow.holds Try.pinned (OpenSpec.ofChange Rows.fnExactPutBlockSpec) :=
  OpenClaim.holds_of_wide 10 Try.f10 rfl rfl rfl rfl rfl rfl rfl ⟨rfl, rfl, rfl, rfl, rfl⟩ rfl rfl rfl rfl rfl named Try.func10 closedFact
    (of_decide_eq_true (by kernel_rfl)) (by unfold Func.isWrapper; rw [if_neg (of_decide_eq_false (by kernel_rfl))]; exact ⟨rfl, rfl⟩)
    (fun os started H enc _ => lifted os started H enc)

theorem proved : Rows.FnExactPutBlockSaid := over
#print axioms proved
end Go.Proofs.Ytakkmkinfeddeaa.fnExactPutBlockDone
