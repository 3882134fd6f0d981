/- The law FnExactIsDifferenceFamily returns true, for every input. The statement is the given one; there is no condition beside it. -/
import Derived.Test.YtdfeoccjllljiaaFnExactIsDifferenceFamilyPart7
set_option linter.all false
namespace Go.Proofs.Ytdfeoccjllljiaa.fnExactIsDifferenceFamilyDone
open Go.Ab
set_option linter.unusedVariables false

theorem closedFact : joinedFacts Try.prog 8 Try.f8 Rows.fnExactIsDifferenceFamilySpec Rows.fnExactIsDifferenceFamilyRow = true := by
  unfold joinedFacts; rw [enterFact, liftFact, mkFact, laidOut, rowedFact, heardFact]; kernel_rfl

theorem named : Try.prog.funcNamed Rows.fnExactIsDifferenceFamilyRow.func = some 8 := by kernel_rfl

theorem lifted (os : Os) (started : os.Started) (D : Type) (enc : TypeId × Value → D) :
    ReturnsInHanded {} Try.checked os 8 .any (Rows.fnExactIsDifferenceFamilySpec.pre6 enc Try.prog Try.f8 Rows.fnExactIsDifferenceFamilyRow.domain false) (Rows.fnExactIsDifferenceFamilySpec.post enc Try.prog Try.f8 false true false false) :=
  law_lifted [shInt, shIntss] own laidOut started (by kernel_rfl) Try.func8 (ChangeSpec.witness6 (enc := enc) (C := Try.checked) false ⟨#[], #[.int .i64 0, .slice none 0 0], []⟩ 8 (by kernel_rfl) (by kernel_rfl) (by kernel_rfl) (by kernel_rfl))
    rfl (by kernel_rfl) rfl Try.underlying4 rfl (fun ds h => by match ds, h with | [_, _], _ => rfl) (fun W x hx => by simp only [List.mem_cons, List.not_mem_nil, or_false, false_or] at hx; rcases hx with rfl | rfl <;> first | exact fits_shInt W | exact fits_shIntss W )
    (fun H avs h => lawFnExactIsDifferenceFamily H avs h)

theorem over : Rows.fnExactIsDifferenceFamilyRow.holds Try.pinned (OpenSpec.ofChange Rows.fnExactIsDifferenceFamilySpec) :=
  OpenClaim.holds_of_wide 8 Try.f8 rfl rfl rfl rfl rfl rfl rfl ⟨rfl, rfl, rfl, rfl, rfl⟩ rfl rfl rfl rfl rfl named Try.func8 closedFact
    (of_decide_eq_true (by kernel_rfl)) (by unfold Func.isWrapper; rw [if_neg (of_decide_eq_false (by kernel_rfl))]; exact ⟨rfl, rfl⟩)
    (fun os started H enc _ => lifted os started H enc)

theorem proved : Rows.FnExactIsDifferenceFamilySaid := over
#print axioms proved
end Go.Proofs.Ytdfeoccjllljiaa.fnExactIsDifferenceFamilyDone
