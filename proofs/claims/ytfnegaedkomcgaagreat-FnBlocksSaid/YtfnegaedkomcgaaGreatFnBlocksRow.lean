/- The law FnBlocks returns true, for every input. The statement is the given one; there is no condition beside it. -/
import Derived.Test.YtfnegaedkomcgaaGreatFnBlocksPart14
set_option linter.all false
namespace Go.Proofs.YtfnegaedkomcgaaGreat.fnBlocksDone
open Go.Ab
set_option linter.unusedVariables false

theorem closedFact : joinedFacts Tryz.prog 4 Tryz.f4 Rows.fnBlocksSpec Rows.fnBlocksRow = true := by
  unfold joinedFacts; rw [enterFact, liftFact, mkFact, laidOut, rowedFact, heardFact]; kernel_rfl

theorem named : Tryz.prog.funcNamed Rows.fnBlocksRow.func = some 4 := by kernel_rfl

theorem lifted (os : Os) (started : os.Started) (D : Type) (enc : TypeId × Value → D) :
    ReturnsInHanded {} Tryz.checked os 4 .any (Rows.fnBlocksSpec.pre6 enc Tryz.prog Tryz.f4 Rows.fnBlocksRow.domain false) (Rows.fnBlocksSpec.post enc Tryz.prog Tryz.f4 false true false false) :=
  law_lifted [shBytes] own laidOut started (by kernel_rfl) Tryz.func4 (ChangeSpec.witness6 (enc := enc) (C := Tryz.checked) false ⟨#[], #[.slice none 0 0], []⟩ 8 (by kernel_rfl) (by kernel_rfl) (by kernel_rfl) (by kernel_rfl))
    rfl (by kernel_rfl) rfl Tryz.underlying4 rfl (fun ds h => by match ds, h with | [_], _ => rfl) (fun W x hx => by simp only [List.mem_cons, List.not_mem_nil, or_false] at hx; subst hx; exact fits_shBytes W)
    (fun H avs h => lawFnBlocks H avs h)

theorem over : Rows.fnBlocksRow.holds Tryz.pinned (OpenSpec.ofChange Rows.fnBlocksSpec) :=
  OpenClaim.holds_of_wide 4 Tryz.f4 rfl rfl rfl rfl rfl rfl rfl ⟨rfl, rfl, rfl, rfl, rfl⟩ rfl rfl rfl rfl rfl named Tryz.func4 closedFact
    (of_decide_eq_true (by kernel_rfl)) (by unfold Func.isWrapper; rw [if_neg (of_decide_eq_false (by kernel_rfl))]; exact ⟨rfl, rfl⟩)
    (fun os started H enc _ => lifted os started H enc)

theorem proved : Rows.FnBlocksSaid := over
#print axioms proved
end Go.Proofs.YtfnegaedkomcgaaGreat.fnBlocksDone
