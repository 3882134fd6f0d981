/- The law FnExactThreefoldSystem returns true, for every input. The statement is the given one; there is no condition beside it. -/
import Derived.Test.YtdfeoccjllljiaaFnExactThreefoldSystemPart9
set_option linter.all false
namespace Go.Proofs.Ytdfeoccjllljiaa.fnExactThreefoldSystemDone
open Go.Ab
set_option linter.unusedVariables false

theorem closedFact : joinedFacts Try.prog 16 Try.f16 Rows.fnExactThreefoldSystemSpec Rows.fnExactThreefoldSystemRow = true := by
  unfold joinedFacts; rw [enterFact, liftFact, mkFact, laidOut, rowedFact, heardFact]; kernel_rfl

theorem named : Try.prog.funcNamed Rows.fnExactThreefoldSystemRow.func = some 16 := by kernel_rfl

theorem lifted (os : Os) (started : os.Started) (D : Type) (enc : TypeId × Value → D) :
    ReturnsInHanded {} Try.checked os 16 .any (Rows.fnExactThreefoldSystemSpec.pre6 enc Try.prog Try.f16 Rows.fnExactThreefoldSystemRow.domain false) (Rows.fnExactThreefoldSystemSpec.post enc Try.prog Try.f16 false true false false) :=
  law_lifted [shIntss] own laidOut started (by kernel_rfl) Try.func16 (ChangeSpec.witness6 (enc := enc) (C := Try.checked) false ⟨#[], #[.slice none 0 0], []⟩ 8 (by kernel_rfl) (by kernel_rfl) (by kernel_rfl) (by kernel_rfl))
    rfl (by kernel_rfl) rfl Try.underlying4 rfl (fun ds h => by match ds, h with | [_], _ => rfl) (fun W x hx => by simp only [List.mem_cons, List.not_mem_nil, or_false] at hx; subst hx; exact fits_shIntss W)
    (fun H avs h => lawFnExactThreefoldSystem H avs h)

theorem over : Rows.fnExactThreefoldSystemRow.holds Try.pinned (OpenSpec.ofChange Rows.fnExactThreefoldSystemSpec) :=
  OpenClaim.holds_of_wide 16 Try.f16 rfl rfl rfl rfl rfl rfl rfl ⟨rfl, rfl, rfl, rfl, rfl⟩ rfl rfl rfl rfl rfl named Try.func16 closedFact
    (of_decide_eq_true (by kernel_rfl)) (by unfold Func.isWrapper; rw [if_neg (of_decide_eq_false (by kernel_rfl))]; exact ⟨rfl, rfl⟩)
    (fun os started H enc _ => lifted os started H enc)

theorem proved : Rows.FnExactThreefoldSystemSaid := over
#print axioms proved
end Go.Proofs.Ytdfeoccjllljiaa.fnExactThreefoldSystemDone
