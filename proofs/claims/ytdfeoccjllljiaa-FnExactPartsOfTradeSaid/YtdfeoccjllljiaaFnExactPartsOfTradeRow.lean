/- The law FnExactPartsOfTrade returns true, for every input. The statement is the given one; there is no condition beside it. -/
import Derived.Test.YtdfeoccjllljiaaFnExactPartsOfTradePart9
set_option linter.all false
namespace Go.Proofs.Ytdfeoccjllljiaa.fnExactPartsOfTradeDone
open Go.Ab
set_option linter.unusedVariables false

theorem closedFact : joinedFacts Try.prog 5 Try.f5 Rows.fnExactPartsOfTradeSpec Rows.fnExactPartsOfTradeRow = true := by
  unfold joinedFacts; rw [enterFact, liftFact, mkFact, laidOut, rowedFact, heardFact]; kernel_rfl

theorem named : Try.prog.funcNamed Rows.fnExactPartsOfTradeRow.func = some 5 := by kernel_rfl

theorem lifted (os : Os) (started : os.Started) (D : Type) (enc : TypeId × Value → D) :
    ReturnsInHanded {} Try.checked os 5 .any (Rows.fnExactPartsOfTradeSpec.pre6 enc Try.prog Try.f5 Rows.fnExactPartsOfTradeRow.domain false) (Rows.fnExactPartsOfTradeSpec.post enc Try.prog Try.f5 false true false false) :=
  law_lifted [shTrade] own laidOut started (by kernel_rfl) Try.func5 (ChangeSpec.witness6 (enc := enc) (C := Try.checked) false ⟨#[], #[.agg #[.int .i64 0, .slice none 0 0, .slice none 0 0]], []⟩ 8 (by kernel_rfl) (by kernel_rfl) (by kernel_rfl) (by kernel_rfl))
    rfl (by kernel_rfl) rfl Try.underlying4 rfl (fun ds h => by match ds, h with | [_], _ => rfl) (fun W x hx => by simp only [List.mem_cons, List.not_mem_nil, or_false] at hx; subst hx; exact fits_shTrade W)
    (fun H avs h => lawFnExactPartsOfTrade H avs h)

theorem over : Rows.fnExactPartsOfTradeRow.holds Try.pinned (OpenSpec.ofChange Rows.fnExactPartsOfTradeSpec) :=
  OpenClaim.holds_of_wide 5 Try.f5 rfl rfl rfl rfl rfl rfl rfl ⟨rfl, rfl, rfl, rfl, rfl⟩ rfl rfl rfl rfl rfl named Try.func5 closedFact
    (of_decide_eq_true (by kernel_rfl)) (by unfold Func.isWrapper; rw [if_neg (of_decide_eq_false (by kernel_rfl))]; exact ⟨rfl, rfl⟩)
    (fun os started H enc _ => lifted os started H enc)

theorem proved : Rows.FnExactPartsOfTradeSaid := over
#print axioms proved
end Go.Proofs.Ytdfeoccjllljiaa.fnExactPartsOfTradeDone
