/- The law FnTradeParts returns true, for every input. The statement is the given one; there is no condition beside it. -/
import Derived.Test.YtkimaohcmcfcnaaGreatFnTradePartsPart13
set_option linter.all false
namespace Go.Proofs.YtkimaohcmcfcnaaGreat.fnTradePartsDone
open Go.Ab
set_option linter.unusedVariables false

theorem closedFact : joinedFacts Tryz.prog 3 Tryz.f3 Rows.fnTradePartsSpec Rows.fnTradePartsRow = true := by
  unfold joinedFacts; rw [enterFact, liftFact, mkFact, laidOut, rowedFact, heardFact]; kernel_rfl

theorem named : Tryz.prog.funcNamed Rows.fnTradePartsRow.func = some 3 := by kernel_rfl

theorem lifted (os : Os) (started : os.Started) (D : Type) (enc : TypeId × Value → D) :
    ReturnsInHanded {} Tryz.checked os 3 .any (Rows.fnTradePartsSpec.pre6 enc Tryz.prog Tryz.f3 Rows.fnTradePartsRow.domain false) (Rows.fnTradePartsSpec.post enc Tryz.prog Tryz.f3 false true false false) :=
  law_lifted [shBytes] own laidOut started (by kernel_rfl) Tryz.func3 (ChangeSpec.witness6 (enc := enc) (C := Tryz.checked) false ⟨#[], #[.slice none 0 0], []⟩ 8 (by kernel_rfl) (by kernel_rfl) (by kernel_rfl) (by kernel_rfl))
    rfl (by kernel_rfl) rfl Tryz.underlying4 rfl (fun ds h => by match ds, h with | [_], _ => rfl) (fun W x hx => by simp only [List.mem_cons, List.not_mem_nil, or_false] at hx; subst hx; exact fits_shBytes W)
    (fun H avs h => lawFnTradeParts H avs h)

theorem over : Rows.fnTradePartsRow.holds Tryz.pinned (OpenSpec.ofChange Rows.fnTradePartsSpec) :=
  OpenClaim.holds_of_wide 3 Tryz.f3 rfl rfl rfl rfl rfl rfl rfl ⟨rfl, rfl, rfl, rfl, rfl⟩ rfl rfl rfl rfl rfl named Tryz.func3 closedFact
    (of_decide_eq_true (by kernel_rfl)) (by unfold Func.isWrapper; rw [if_neg (of_decide_eq_false (by kernel_rfl))]; exact ⟨rfl, rfl⟩)
    (fun os started H enc _ => lifted os started H enc)

theorem proved : Rows.FnTradePartsSaid := over
#print axioms proved
end Go.Proofs.YtkimaohcmcfcnaaGreat.fnTradePartsDone
