/-
  DERIVED. GIVEN WITH THE SEED: THE CARDS: each row of YtkimaohcmcfcnaaDoorRows.lean that lists a variable, with what it lists TIED to the program's text (the seventh form; the later family's looks); each row that meets fmt, with fmt's text TOLD by the authors' own Lean function (tested against real Go, not proved from fmt's source: count such statements apart). THE CARD IS WHAT COUNTS. Prove the row's statement (the work); the ties are given (YtkimaohcmcfcnaaDoorTie.lean); close each card by the builder's one call (the guide's Derived/Test/ToyasCard.lean, 'card_holds'). Laid BY PROGRAM, IN A SANDBOX (cutbox-door.mjs). By AI agents, Wed Nov 11 2026. No macro, syntax, notation, axiom, sorry.
-/
import Derived.Test.YtkimaohcmcfcnaaDoorRows
import GoSem.ClaimSeven
namespace Go.Proofs.YtkimaohcmcfcnaaDoor
namespace Rows

/-- THE TIED CARD OF 'laws.FnExactSystemText'. -/
def fnExactSystemTextCard : Claim7 := { stood := { row := fnExactSystemTextRow, standIns := [], harness := (true, "5fcb91f2498d60155cc8d3d3315fa71196327347ab7ae9ac9bd5d8a09adf0f8b"), looks := true }, kinds := [], alts := [], laidByText := true, laidKinds := [.data, .data, .data], laidTests := true, laidLooks := .later }
def FnExactSystemTextCardSaid : Prop := Claim7.holds Tryd.pinned (.plain (OpenSpec.ofChange fnExactSystemTextSpec)) fnExactSystemTextCard

/-- THE TIED CARD OF 'laws.FnExactParseSystem'. -/
def fnExactParseSystemCard : Claim7 := { stood := { row := fnExactParseSystemRow, standIns := [], harness := (true, "5fcb91f2498d60155cc8d3d3315fa71196327347ab7ae9ac9bd5d8a09adf0f8b"), looks := true }, kinds := [], alts := [], laidByText := true, laidKinds := [.data, .data, .data, .data, .sentinel, .sentinel, .pinned], laidTests := true, laidLooks := .later }
def FnExactParseSystemCardSaid : Prop := Claim7.holds Tryd.pinned (.plain (OpenSpec.ofChange fnExactParseSystemSpec)) fnExactParseSystemCard

/-- THE SECOND FORM's CARD OF 'laws.FnExactSystemText'. -/
def fnExactSystemTextUptoCard : Claim7 := { stood := { row := fnExactSystemTextUptoRow, standIns := [], harness := (true, "5fcb91f2498d60155cc8d3d3315fa71196327347ab7ae9ac9bd5d8a09adf0f8b"), looks := true }, kinds := [], alts := [], laidByText := true, laidKinds := [.data, .data, .data], laidTests := true, laidLooks := .later }
def FnExactSystemTextUptoCardSaid : Prop := Claim7.holds Tryd.pinned (.plain (OpenSpec.upto fnExactSystemTextSpec)) fnExactSystemTextUptoCard

/-- THE SECOND FORM's CARD OF 'laws.FnExactParseSystem'. -/
def fnExactParseSystemUptoCard : Claim7 := { stood := { row := fnExactParseSystemUptoRow, standIns := [], harness := (true, "5fcb91f2498d60155cc8d3d3315fa71196327347ab7ae9ac9bd5d8a09adf0f8b"), looks := true }, kinds := [], alts := [], laidByText := true, laidKinds := [.data, .data, .data, .data, .sentinel, .sentinel, .pinned], laidTests := true, laidLooks := .later }
def FnExactParseSystemUptoCardSaid : Prop := Claim7.holds Tryd.pinned (.plain (OpenSpec.upto fnExactParseSystemSpec)) fnExactParseSystemUptoCard
end Rows
end Go.Proofs.YtkimaohcmcfcnaaDoor
