/- The law FnExactParseSystem returns true, for every input. The statement is the given tied card; its row lists package-level variables as the program's text lays them. -/
import Derived.Test.YtkimaohcmcfcnaaDoorCards
import Derived.Test.YtkimaohcmcfcnaaDoorTie
import Derived.SevenTiedAt
import Derived.LaidMore
import Derived.LaidLaws
import Derived.Lay
import Derived.MakeChecks
import Derived.Test.YtkimaohcmcfcnaaDoorFnExactParseSystemPart5
set_option linter.all false
namespace Go.Proofs.YtkimaohcmcfcnaaDoor.fnExactParseSystemDone
open Go Go.Ab
set_option linter.unusedVariables false

theorem closedFact : joinedFacts Tryd.prog 4 Tryd.f4 Rows.fnExactParseSystemSpec Rows.fnExactParseSystemRow = true := by
  unfold joinedFacts; rw [enterFact, liftFact, mkFact, laidOut, rowedFact, heardFact]; kernel_rfl

theorem named : Tryd.prog.funcNamed Rows.fnExactParseSystemRow.func = some 4 := by kernel_rfl

set_option maxRecDepth 100000 in
theorem door_met (os : Os) (args : Array Value) : laidMetH Tryd.prog Rows.fnExactParseSystemRow.laid ((World.laidAll Tryd.prog os Rows.fnExactParseSystemRow.laid).forCall (fun _ _ => 0) ⟨#[], args, []⟩).memory := by
  rw [MakeChecks.laidMetH_plain _ _ _ (by kernel_rfl)]; exact laidMet_laidAll _ (by kernel_rfl) (by kernel_rfl)

set_option maxRecDepth 100000 in
theorem lifted (os : Os) (started : os.Started) (D : Type) (enc : TypeId × Value → D) :
    ReturnsInHanded {} Tryd.checked os 4 .any (fun w args => (Rows.fnExactParseSystemSpec.pre enc Tryd.prog Tryd.f4 Rows.fnExactParseSystemRow.domain false w args ∧ laidMetH Tryd.prog Rows.fnExactParseSystemRow.laid w) ∧ sizedMet enc Tryd.prog Tryd.f4 (OpenSpec.ofChange Rows.fnExactParseSystemSpec) false w args)
      (Rows.fnExactParseSystemSpec.post enc Tryd.prog Tryd.f4 false true false false) :=
  law_lifted_laid (X := fun w _ => laidMetH Tryd.prog Rows.fnExactParseSystemRow.laid w) (fun _ _ _ hh h => h.of_heap hh) [shStr] own laidOut started (by kernel_rfl) Tryd.func4
    (ChangeSpec.witness_shaped (enc := enc) (C := Tryd.checked) (os := os) (X := fun w _ => laidMetH Tryd.prog Rows.fnExactParseSystemRow.laid w) false (World.laidAll Tryd.prog os Rows.fnExactParseSystemRow.laid) #[.string ByteArray.empty] 8 (World.laidAll_os _ _ _) (World.shaped_of_ZipB (by kernel_rfl) (by kernel_rfl)) (by kernel_rfl) (by kernel_rfl) (by kernel_rfl) (door_met os _))
    rfl (by kernel_rfl) rfl Tryd.underlying4 rfl (fun ds h => by match ds, h with | [_], _ => rfl) (fun W x hx => by simp only [List.mem_cons, List.not_mem_nil, or_false] at hx; subst hx; exact fits_shStr W)
    (fun W _ hx hs => fixed_of hs hx) (fun H avs h => lawFnExactParseSystem H avs h)

theorem over : Rows.fnExactParseSystemRow.holds Tryd.pinned (OpenSpec.ofChange Rows.fnExactParseSystemSpec) :=
  OpenClaim.holds_of_wide 4 Tryd.f4 rfl rfl rfl rfl rfl rfl rfl ⟨rfl, rfl, rfl, rfl, rfl⟩ rfl rfl rfl rfl rfl named Tryd.func4 closedFact
    (of_decide_eq_true (by kernel_rfl)) (by unfold Func.isWrapper; rw [if_neg (of_decide_eq_false (by kernel_rfl))]; exact ⟨rfl, rfl⟩)
    (fun os started H enc _ => lifted os started H enc)

theorem proved : Rows.FnExactParseSystemCardSaid :=
  Claim7.holds_tied_plain_at .later [] [.data, .data, .data, .data, .sentinel, .sentinel, .pinned] true (true, "5fcb91f2498d60155cc8d3d3315fa71196327347ab7ae9ac9bd5d8a09adf0f8b") true
    over (fun _ h => by cases h) (by kernel_rfl) (fun _ h => by cases h) fnExactParseSystem_row_tie rfl ⟨rfl, rfl⟩ (by kernel_rfl) rfl
    (fun f fn hf hfn => by
      obtain rfl : f = 4 := Option.some.inj (named.symm.trans hf) |>.symm
      obtain rfl : fn = Tryd.f4 := (Option.some.inj (Tryd.func4.symm.trans hfn)).symm
      exact ⟨by kernel_rfl, fun j t ht => by
        have hm : t ∈ Tryd.f4.params.toList := by simpa using Array.mem_of_getElem? ht
        have hall : (Tryd.f4.params.toList.all fun u => !Tryd.prog.wantsStandIn u) = true := by kernel_rfl
        exact (show Tryd.prog.wantsStandIn t = false by simpa using List.all_eq_true.1 hall t hm)⟩)
    (by kernel_rfl)
#print axioms proved
end Go.Proofs.YtkimaohcmcfcnaaDoor.fnExactParseSystemDone
