/- The law FnExactDoubleSystem returns true, for every input. The statement is the given one; there is no condition beside it. -/
import Derived.Test.YtdfeoccjllljiaaFnExactDoubleSystemPart9
set_option linter.all false
namespace Go.Proofs.Ytdfeoccjllljiaa.fnExactDoubleSystemDone
open Go.Ab
set_option linter.unusedVariables false

theorem closedFact : joinedFacts Try.prog 12 Try.f12 Rows.fnExactDoubleSystemSpec Rows.fnExactDoubleSystemRow = true := by
  unfold joinedFacts; rw [enterFact, liftFact, mkFact, laidOut, rowedFact, heardFact]; kernel_rfl

theorem named : Try.prog.funcNamed Rows.fnExactDoubleSystemRow.func = some 12 := by kernel_rfl

theorem lifted (os : Os) (started : os.Started) (D : Type) (enc : TypeId × Value → D) :
    ReturnsInHanded {} Try.checked os 12 .any (Rows.fnExactDoubleSystemSpec.pre6 enc Try.prog Try.f12 Rows.fnExactDoubleSystemRow.domain false) (Rows.fnExactDoubleSystemSpec.post enc Try.prog Try.f12 false true false false) :=
  law_lifted [shSystem] own laidOut started (by kernel_rfl) Try.func12 (ChangeSpec.witness6 (enc := enc) (C := Try.checked) false ⟨#[], #[.agg #[.int .i64 0, .slice none 0 0]], []⟩ 8 (by kernel_rfl) (by kernel_rfl) (by kernel_rfl) (by kernel_rfl))
    rfl (by kernel_rfl) rfl Try.underlying4 rfl (fun ds h => by match ds, h with | [_], _ => rfl) (fun W x hx => by simp only [List.mem_cons, List.not_mem_nil, or_false] at hx; subst hx; exact fits_shSystem W)
    (fun H avs h => lawFnExactDoubleSystem H avs h)

theorem over : Rows.fnExactDoubleSystemRow.holds Try.pinned (OpenSpec.ofChange Rows.fnExactDoubleSystemSpec) :=
  OpenClaim.holds_of_wide 12 Try.f12 rfl rfl rfl rfl rfl rfl rfl ⟨rfl, rfl, rfl, rfl, rfl⟩ rfl rfl rfl rfl rfl named Try.func12 closedFact
    (of_decide_eq_true (by kernel_rfl)) (by unfold Func.isWrapper; rw [if_neg (of_decide_eq_false (by kernel_rfl))]; exact ⟨rfl, rfl⟩)
    (fun os started H enc _ => lifted os started H enc)

theorem proved : Rows.FnExactDoubleSystemSaid := over
#print axioms proved
end Go.Proofs.Ytdfeoccjllljiaa.fnExactDoubleSystemDone
