/- The law FnExactNamedSystem returns true, for every input. The statement is the given one; there is no condition beside it. -/
import Derived.Test.YtdfeoccjllljiaaFnExactNamedSystemPart9
set_option linter.all false
namespace Go.Proofs.Ytdfeoccjllljiaa.fnExactNamedSystemDone
open Go.Ab
set_option linter.unusedVariables false

theorem closedFact : joinedFacts Try.prog 10 Try.f10 Rows.fnExactNamedSystemSpec Rows.fnExactNamedSystemRow = true := by
  unfold joinedFacts; rw [enterFact, liftFact, mkFact, laidOut, rowedFact, heardFact]; kernel_rfl

theorem named : Try.prog.funcNamed Rows.fnExactNamedSystemRow.func = some 10 := by kernel_rfl

theorem lifted (os : Os) (started : os.Started) (D : Type) (enc : TypeId × Value → D) :
    ReturnsInHanded {} Try.checked os 10 .any (Rows.fnExactNamedSystemSpec.pre6 enc Try.prog Try.f10 Rows.fnExactNamedSystemRow.domain false) (Rows.fnExactNamedSystemSpec.post enc Try.prog Try.f10 false true false false) :=
  law_lifted [shStr] own laidOut started (by kernel_rfl) Try.func10 (ChangeSpec.witness6 (enc := enc) (C := Try.checked) false ⟨#[], #[.string ByteArray.empty], []⟩ 8 (by kernel_rfl) (by kernel_rfl) (by kernel_rfl) (by kernel_rfl))
    rfl (by kernel_rfl) rfl Try.underlying4 rfl (fun ds h => by match ds, h with | [_], _ => rfl) (fun W x hx => by simp only [List.mem_cons, List.not_mem_nil, or_false] at hx; subst hx; exact fits_shStr W)
    (fun H avs h => lawFnExactNamedSystem H avs h)

theorem over : Rows.fnExactNamedSystemRow.holds Try.pinned (OpenSpec.ofChange Rows.fnExactNamedSystemSpec) :=
  OpenClaim.holds_of_wide 10 Try.f10 rfl rfl rfl rfl rfl rfl rfl ⟨rfl, rfl, rfl, rfl, rfl⟩ rfl rfl rfl rfl rfl named Try.func10 closedFact
    (of_decide_eq_true (by kernel_rfl)) (by unfold Func.isWrapper; rw [if_neg (of_decide_eq_false (by kernel_rfl))]; exact ⟨rfl, rfl⟩)
    (fun os started H enc _ => lifted os started H enc)

theorem proved : Rows.FnExactNamedSystemSaid := over
#print axioms proved
end Go.Proofs.Ytdfeoccjllljiaa.fnExactNamedSystemDone
