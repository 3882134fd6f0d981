/- The law FnExactProductSystem returns true, for every input. The statement is the given one; there is no condition beside it. -/
import Derived.Test.YtdfeoccjllljiaaFnExactProductSystemPart8
set_option linter.all false
namespace Go.Proofs.Ytdfeoccjllljiaa.fnExactProductSystemDone
open Go.Ab
set_option linter.unusedVariables false

theorem closedFact : joinedFacts Try.prog 4 Try.f4 Rows.fnExactProductSystemSpec Rows.fnExactProductSystemRow = true := by
  unfold joinedFacts; rw [enterFact, liftFact, mkFact, laidOut, rowedFact, heardFact]; kernel_rfl

theorem named : Try.prog.funcNamed Rows.fnExactProductSystemRow.func = some 4 := by kernel_rfl

theorem lifted (os : Os) (started : os.Started) (D : Type) (enc : TypeId × Value → D) :
    ReturnsInHanded {} Try.checked os 4 .any (Rows.fnExactProductSystemSpec.pre6 enc Try.prog Try.f4 Rows.fnExactProductSystemRow.domain false) (Rows.fnExactProductSystemSpec.post enc Try.prog Try.f4 false true false false) :=
  law_lifted [shSystem, shSystem] own laidOut started (by kernel_rfl) Try.func4 (ChangeSpec.witness6 (enc := enc) (C := Try.checked) false ⟨#[], #[.agg #[.int .i64 0, .slice none 0 0], .agg #[.int .i64 0, .slice none 0 0]], []⟩ 8 (by kernel_rfl) (by kernel_rfl) (by kernel_rfl) (by kernel_rfl))
    rfl (by kernel_rfl) rfl Try.underlying4 rfl (fun ds h => by match ds, h with | [_, _], _ => rfl) (fun W x hx => by simp only [List.mem_cons, List.not_mem_nil, or_false, false_or] at hx; rcases hx with rfl | rfl <;> first | exact fits_shSystem W )
    (fun H avs h => lawFnExactProductSystem H avs h)

theorem over : Rows.fnExactProductSystemRow.holds Try.pinned (OpenSpec.ofChange Rows.fnExactProductSystemSpec) :=
  OpenClaim.holds_of_wide 4 Try.f4 rfl rfl rfl rfl rfl rfl rfl ⟨rfl, rfl, rfl, rfl, rfl⟩ rfl rfl rfl rfl rfl named Try.func4 closedFact
    (of_decide_eq_true (by kernel_rfl)) (by unfold Func.isWrapper; rw [if_neg (of_decide_eq_false (by kernel_rfl))]; exact ⟨rfl, rfl⟩)
    (fun os started H enc _ => lifted os started H enc)

theorem proved : Rows.FnExactProductSystemSaid := over
#print axioms proved
end Go.Proofs.Ytdfeoccjllljiaa.fnExactProductSystemDone
