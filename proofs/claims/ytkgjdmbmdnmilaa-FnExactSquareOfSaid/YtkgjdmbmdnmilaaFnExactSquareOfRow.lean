/- The law FnExactSquareOf returns true, for every input. The statement is the given one; there is no condition beside it. -/
import Derived.Test.YtkgjdmbmdnmilaaBase
import Derived.Test.YtkgjdmbmdnmilaaLawSquareOf
set_option linter.all false
namespace Go.Proofs.Ytkgjdmbmdnmilaa.fnExactSquareOfDone
open Go.Ab
set_option linter.unusedVariables false

theorem closedFact : joinedFacts Try.prog 4 Try.f4 Rows.fnExactSquareOfSpec Rows.fnExactSquareOfRow = true := by
  unfold joinedFacts; rw [enterFact, liftFact, mkFact, laidOut, rowedFact, heardFact]; kernel_rfl

theorem named : Try.prog.funcNamed Rows.fnExactSquareOfRow.func = some 4 := by kernel_rfl

theorem lifted (os : Os) (started : os.Started) (D : Type) (enc : TypeId × Value → D) :
    ReturnsInHanded {} Try.checked os 4 .any (Rows.fnExactSquareOfSpec.pre6 enc Try.prog Try.f4 Rows.fnExactSquareOfRow.domain false) (Rows.fnExactSquareOfSpec.post enc Try.prog Try.f4 false true false false) :=
  law_lifted [shInt] own laidOut started (by kernel_rfl) Try.func4 (ChangeSpec.witness6 (enc := enc) (C := Try.checked) false ⟨#[], #[.int .i64 0], []⟩ 8 (by kernel_rfl) (by kernel_rfl) (by kernel_rfl) (by kernel_rfl))
    rfl (by kernel_rfl) rfl Try.underlying4 rfl (fun ds h => by match ds, h with | [_], _ => rfl) (fun W x hx => by simp only [List.mem_cons, List.not_mem_nil, or_false] at hx; subst hx; exact fits_shInt W)
    (fun H avs h => lawFnExactSquareOf H avs h)

theorem over : Rows.fnExactSquareOfRow.holds Try.pinned (OpenSpec.ofChange Rows.fnExactSquareOfSpec) :=
  OpenClaim.holds_of_wide 4 Try.f4 rfl rfl rfl rfl rfl rfl rfl ⟨rfl, rfl, rfl, rfl, rfl⟩ rfl rfl rfl rfl rfl named Try.func4 closedFact
    (of_decide_eq_true (by kernel_rfl)) (by unfold Func.isWrapper; rw [if_neg (of_decide_eq_false (by kernel_rfl))]; exact ⟨rfl, rfl⟩)
    (fun os started H enc _ => lifted os started H enc)

theorem proved : Rows.FnExactSquareOfSaid := over
#print axioms proved
end Go.Proofs.Ytkgjdmbmdnmilaa.fnExactSquareOfDone
