/- The law FnExactDifferenceFamilies returns true, for every input. The statement is the given one; there is no condition beside it. -/
import Derived.Test.YtdfeoccjllljiaaFnExactDifferenceFamiliesPart6
set_option linter.all false
namespace Go.Proofs.Ytdfeoccjllljiaa.fnExactDifferenceFamiliesDone
open Go.Ab
set_option linter.unusedVariables false

theorem closedFact : joinedFacts Try.prog 9 Try.f9 Rows.fnExactDifferenceFamiliesSpec Rows.fnExactDifferenceFamiliesRow = true := by
  unfold joinedFacts; rw [enterFact, liftFact, mkFact, laidOut, rowedFact, heardFact]; kernel_rfl

theorem named : Try.prog.funcNamed Rows.fnExactDifferenceFamiliesRow.func = some 9 := by kernel_rfl

theorem lifted (os : Os) (started : os.Started) (D : Type) (enc : TypeId × Value → D) :
    ReturnsInHanded {} Try.checked os 9 .any (Rows.fnExactDifferenceFamiliesSpec.pre6 enc Try.prog Try.f9 Rows.fnExactDifferenceFamiliesRow.domain false) (Rows.fnExactDifferenceFamiliesSpec.post enc Try.prog Try.f9 false true false false) :=
  law_lifted [shInt] own laidOut started (by kernel_rfl) Try.func9 (ChangeSpec.witness6 (enc := enc) (C := Try.checked) false ⟨#[], #[.int .i64 0], []⟩ 8 (by kernel_rfl) (by kernel_rfl) (by kernel_rfl) (by kernel_rfl))
    rfl (by kernel_rfl) rfl Try.underlying4 rfl (fun ds h => by match ds, h with | [_], _ => rfl) (fun W x hx => by simp only [List.mem_cons, List.not_mem_nil, or_false] at hx; subst hx; exact fits_shInt W)
    (fun H avs h => lawFnExactDifferenceFamilies H avs h)

theorem over : Rows.fnExactDifferenceFamiliesRow.holds Try.pinned (OpenSpec.ofChange Rows.fnExactDifferenceFamiliesSpec) :=
  OpenClaim.holds_of_wide 9 Try.f9 rfl rfl rfl rfl rfl rfl rfl ⟨rfl, rfl, rfl, rfl, rfl⟩ rfl rfl rfl rfl rfl named Try.func9 closedFact
    (of_decide_eq_true (by kernel_rfl)) (by unfold Func.isWrapper; rw [if_neg (of_decide_eq_false (by kernel_rfl))]; exact ⟨rfl, rfl⟩)
    (fun os started H enc _ => lifted os started H enc)

theorem proved : Rows.FnExactDifferenceFamiliesSaid := over
#print axioms proved
end Go.Proofs.Ytdfeoccjllljiaa.fnExactDifferenceFamiliesDone
