/- The law FnExactCyclicSystem returns true, for every input. The statement is the given one; there is no condition beside it. -/
import Derived.Test.YtdfeoccjllljiaaFnExactCyclicSystemPart10
set_option linter.all false
namespace Go.Proofs.Ytdfeoccjllljiaa.fnExactCyclicSystemDone
open Go.Ab
set_option linter.unusedVariables false

theorem closedFact : joinedFacts Try.prog 15 Try.f15 Rows.fnExactCyclicSystemSpec Rows.fnExactCyclicSystemRow = true := by
  unfold joinedFacts; rw [enterFact, liftFact, mkFact, laidOut, rowedFact, heardFact]; kernel_rfl

theorem named : Try.prog.funcNamed Rows.fnExactCyclicSystemRow.func = some 15 := by kernel_rfl

theorem lifted (os : Os) (started : os.Started) (D : Type) (enc : TypeId × Value → D) :
    ReturnsInHanded {} Try.checked os 15 .any (Rows.fnExactCyclicSystemSpec.pre6 enc Try.prog Try.f15 Rows.fnExactCyclicSystemRow.domain false) (Rows.fnExactCyclicSystemSpec.post enc Try.prog Try.f15 false true false false) :=
  law_lifted [shInt, shIntss] own laidOut started (by kernel_rfl) Try.func15 (ChangeSpec.witness6 (enc := enc) (C := Try.checked) false ⟨#[], #[.int .i64 0, .slice none 0 0], []⟩ 8 (by kernel_rfl) (by kernel_rfl) (by kernel_rfl) (by kernel_rfl))
    rfl (by kernel_rfl) rfl Try.underlying4 rfl (fun ds h => by match ds, h with | [_, _], _ => rfl) (fun W x hx => by simp only [List.mem_cons, List.not_mem_nil, or_false, false_or] at hx; rcases hx with rfl | rfl <;> first | exact fits_shInt W | exact fits_shIntss W )
    (fun H avs h => lawFnExactCyclicSystem H avs h)

theorem over : Rows.fnExactCyclicSystemRow.holds Try.pinned (OpenSpec.ofChange Rows.fnExactCyclicSystemSpec) :=
  OpenClaim.holds_of_wide 15 Try.f15 rfl rfl rfl rfl rfl rfl rfl ⟨rfl, rfl, rfl, rfl, rfl⟩ rfl rfl rfl rfl rfl named Try.func15 closedFact
    (of_decide_eq_true (by kernel_rfl)) (by unfold Func.isWrapper; rw [if_neg (of_decide_eq_false (by kernel_rfl))]; exact ⟨rfl, rfl⟩)
    (fun os started H enc _ => lifted os started H enc)

theorem proved : Rows.FnExactCyclicSystemSaid := over
#print axioms proved
end Go.Proofs.Ytdfeoccjllljiaa.fnExactCyclicSystemDone
