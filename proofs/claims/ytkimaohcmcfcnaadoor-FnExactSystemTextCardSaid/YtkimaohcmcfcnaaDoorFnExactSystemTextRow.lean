/- The law FnExactSystemText returns true, for every input. The statement is the given tied card; its row lists package-level variables as the program's text lays them. -/
import Derived.Test.YtkimaohcmcfcnaaDoorCards
import Derived.Test.YtkimaohcmcfcnaaDoorTie
import Derived.SevenTiedAt
import Derived.LaidMore
import Derived.LaidLaws
import Derived.Test.YtkimaohcmcfcnaaDoorFnExactSystemTextPart4
set_option linter.all false
namespace Go.Proofs.YtkimaohcmcfcnaaDoor.fnExactSystemTextDone
open Go Go.Ab
set_option linter.unusedVariables false

theorem closedFact : joinedFacts Tryd.prog 3 Tryd.f3 Rows.fnExactSystemTextSpec Rows.fnExactSystemTextRow = true := by
  unfold joinedFacts; rw [enterFact, liftFact, mkFact, laidOut, rowedFact, heardFact]; kernel_rfl

theorem named : Tryd.prog.funcNamed Rows.fnExactSystemTextRow.func = some 3 := by kernel_rfl

set_option maxRecDepth 100000 in
theorem door_met (os : Os) (args : Array Value) : laidMetH Tryd.prog Rows.fnExactSystemTextRow.laid ((World.doorLaid Tryd.prog 72 os).forCall (fun _ _ => 0) ⟨#[], args, []⟩).memory :=
  laidMetH_of_parts3 (fuel := 8) (laidMet_of_run' 8 (by kernel_rfl) (by kernel_rfl)) (by kernel_rfl) (by kernel_rfl)

set_option maxRecDepth 100000 in
theorem lifted (os : Os) (started : os.Started) (D : Type) (enc : TypeId × Value → D) :
    ReturnsInHanded {} Tryd.checked os 3 .any (fun w args => (Rows.fnExactSystemTextSpec.pre enc Tryd.prog Tryd.f3 Rows.fnExactSystemTextRow.domain false w args ∧ laidMetH Tryd.prog Rows.fnExactSystemTextRow.laid w) ∧ sizedMet enc Tryd.prog Tryd.f3 (OpenSpec.ofChange Rows.fnExactSystemTextSpec) false w args)
      (Rows.fnExactSystemTextSpec.post enc Tryd.prog Tryd.f3 false true false false) :=
  law_lifted_laid (X := fun w _ => laidMetH Tryd.prog Rows.fnExactSystemTextRow.laid w) (fun _ _ _ hh h => h.of_heap hh) [shSystem] own laidOut started (by kernel_rfl) Tryd.func3
    (ChangeSpec.witness_shaped (enc := enc) (C := Tryd.checked) (os := os) (X := fun w _ => laidMetH Tryd.prog Rows.fnExactSystemTextRow.laid w) false (World.doorLaid Tryd.prog 72 os) #[.agg #[.int .i64 0, .slice none 0 0]] 8 rfl (World.shaped_of_RefB (by kernel_rfl) (by kernel_rfl)) (by kernel_rfl) (by kernel_rfl) (by kernel_rfl) (door_met os _))
    rfl (by kernel_rfl) rfl Tryd.underlying4 rfl (fun ds h => by match ds, h with | [_], _ => rfl) (fun W x hx => by simp only [List.mem_cons, List.not_mem_nil, or_false] at hx; subst hx; exact fits_shSystem W)
    (fun H avs h => lawFnExactSystemText H avs h)

theorem over : Rows.fnExactSystemTextRow.holds Tryd.pinned (OpenSpec.ofChange Rows.fnExactSystemTextSpec) :=
  OpenClaim.holds_of_wide 3 Tryd.f3 rfl rfl rfl rfl rfl rfl rfl ⟨rfl, rfl, rfl, rfl, rfl⟩ rfl rfl rfl rfl rfl named Tryd.func3 closedFact
    (of_decide_eq_true (by kernel_rfl)) (by unfold Func.isWrapper; rw [if_neg (of_decide_eq_false (by kernel_rfl))]; exact ⟨rfl, rfl⟩)
    (fun os started H enc _ => lifted os started H enc)

theorem proved : Rows.FnExactSystemTextCardSaid :=
  Claim7.holds_tied_plain_at .later [] [.data, .data, .data] true (true, "5fcb91f2498d60155cc8d3d3315fa71196327347ab7ae9ac9bd5d8a09adf0f8b") true
    over (fun _ h => by cases h) (by kernel_rfl) (fun _ h => by cases h) fnExactSystemText_row_tie rfl ⟨rfl, rfl⟩ (by kernel_rfl) rfl
    (fun f fn hf hfn => by
      obtain rfl : f = 3 := Option.some.inj (named.symm.trans hf) |>.symm
      obtain rfl : fn = Tryd.f3 := (Option.some.inj (Tryd.func3.symm.trans hfn)).symm
      exact ⟨by kernel_rfl, fun j t ht => by
        have hm : t ∈ Tryd.f3.params.toList := by simpa using Array.mem_of_getElem? ht
        have hall : (Tryd.f3.params.toList.all fun u => !Tryd.prog.wantsStandIn u) = true := by kernel_rfl
        exact (show Tryd.prog.wantsStandIn t = false by simpa using List.all_eq_true.1 hall t hm)⟩)
    (by kernel_rfl)
#print axioms proved
end Go.Proofs.YtkimaohcmcfcnaaDoor.fnExactSystemTextDone
