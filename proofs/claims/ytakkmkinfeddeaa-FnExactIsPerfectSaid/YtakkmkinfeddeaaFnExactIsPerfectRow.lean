/- The law FnExactIsPerfect returns true, for every input. The statement is the given one; there is no condition beside it. -/
import Derived.Test.YtakkmkinfeddeaaFnExactIsPerfectPart11
set_option linter.all false
namespace Go.Proofs.Ytakkmkinfeddeaa.fnExactIsPerfectDone
open Go.Ab
set_option linter.unusedVariables false

theorem closedFact : joinedFacts Try.prog 17 Try.f17 Rows.fnExactIsPerfectSpec Rows.fnExactIsPerfectRow = true := by
  unfold joinedFacts; rw [enterFact, liftFact, mkFact, laidOut, rowedFact, heardFact]; kernel_rfl

theorem named : Try.prog.funcNamed Rows.fnExactIsPerfectRow.func = some 17 := by kernel_rfl

theorem lifted (os : Os) (started : os.Started) (D : Type) (enc : TypeId × Value → D) :
    ReturnsInHanded {} Try.checked os 17 .any (Rows.fnExactIsPerfectSpec.pre6 enc Try.prog Try.f17 Rows.fnExactIsPerfectRow.domain false) (Rows.fnExactIsPerfectSpec.post enc Try.prog Try.f17 false true false false) :=
  law_lifted [shSystem] own laidOut started (by kernel_rfl) Try.func17 (ChangeSpec.witness6 (enc := enc) (C := Try.checked) false ⟨#[], #[.agg #[.int .i64 0, .slice none 0 0]], []⟩ 8 (by kernel_rfl) (by kernel_rfl) (by kernel_rfl) (by kernel_rfl))
    rfl (by kernel_rfl) rfl Try.underlying4 rfl (fun ds h => by match ds, h with | [_], _ => rfl) (fun W x hx => by simp only [List.mem_cons, List.not_mem_nil, or_false] at hx; subst hx; exact fits_shSystem W)
    (fun H avs h => lawFnExactIsPerfect H avs h)

theorem over : Rows.fnExactIsPerfectRow.holds Try.pinned (OpenSpec.ofChange Rows.fnExactIsPerfectSpec) :=
  OpenClaim.holds_of_wide 17 Try.f17 rfl rfl rfl rfl rfl rfl rfl ⟨rfl, rfl, rfl, rfl, rfl⟩ rfl rfl rfl rfl rfl named Try.func17 closedFact
    (of_decide_eq_true (by kernel_rfl)) (by unfold Func.isWrapper; rw [if_neg (of_decide_eq_false (by kernel_rfl))]; exact ⟨rfl, rfl⟩)
    (fun os started H enc _ => lifted os started H enc)

theorem proved : Rows.FnExactIsPerfectSaid := over
#print axioms proved
end Go.Proofs.Ytakkmkinfeddeaa.fnExactIsPerfectDone
