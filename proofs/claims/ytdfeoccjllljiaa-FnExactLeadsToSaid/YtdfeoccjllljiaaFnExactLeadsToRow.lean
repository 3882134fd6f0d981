/- The law FnExactLeadsTo returns true, for every input. The statement is the given one; there is no condition beside it. -/
import Derived.Test.YtdfeoccjllljiaaFnExactLeadsToPart11
set_option linter.all false
namespace Go.Proofs.Ytdfeoccjllljiaa.fnExactLeadsToDone
open Go.Ab
set_option linter.unusedVariables false

theorem closedFact : joinedFacts Try.prog 13 Try.f13 Rows.fnExactLeadsToSpec Rows.fnExactLeadsToRow = true := by
  unfold joinedFacts; rw [enterFact, liftFact, mkFact, laidOut, rowedFact, heardFact]; kernel_rfl

theorem named : Try.prog.funcNamed Rows.fnExactLeadsToRow.func = some 13 := by kernel_rfl

theorem lifted (os : Os) (started : os.Started) (D : Type) (enc : TypeId × Value → D) :
    ReturnsInHanded {} Try.checked os 13 .any (Rows.fnExactLeadsToSpec.pre6 enc Try.prog Try.f13 Rows.fnExactLeadsToRow.domain false) (Rows.fnExactLeadsToSpec.post enc Try.prog Try.f13 false true false false) :=
  law_lifted [shSystem, shSystem, shInts] own laidOut started (by kernel_rfl) Try.func13 (ChangeSpec.witness6 (enc := enc) (C := Try.checked) false ⟨#[], #[.agg #[.int .i64 0, .slice none 0 0], .agg #[.int .i64 0, .slice none 0 0], .slice none 0 0], []⟩ 8 (by kernel_rfl) (by kernel_rfl) (by kernel_rfl) (by kernel_rfl))
    rfl (by kernel_rfl) rfl Try.underlying4 rfl (fun ds h => by match ds, h with | [_, _, _], _ => rfl) (fun W x hx => by simp only [List.mem_cons, List.not_mem_nil, or_false, false_or] at hx; rcases hx with rfl | rfl | rfl <;> first | exact fits_shSystem W | exact fits_shInts W )
    (fun H avs h => lawFnExactLeadsTo H avs h)

theorem over : Rows.fnExactLeadsToRow.holds Try.pinned (OpenSpec.ofChange Rows.fnExactLeadsToSpec) :=
  OpenClaim.holds_of_wide 13 Try.f13 rfl rfl rfl rfl rfl rfl rfl ⟨rfl, rfl, rfl, rfl, rfl⟩ rfl rfl rfl rfl rfl named Try.func13 closedFact
    (of_decide_eq_true (by kernel_rfl)) (by unfold Func.isWrapper; rw [if_neg (of_decide_eq_false (by kernel_rfl))]; exact ⟨rfl, rfl⟩)
    (fun os started H enc _ => lifted os started H enc)

theorem proved : Rows.FnExactLeadsToSaid := over
#print axioms proved
end Go.Proofs.Ytdfeoccjllljiaa.fnExactLeadsToDone
