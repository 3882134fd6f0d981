/-
  No cell of these rows narrows 'for every input' (looked for: loops, veiled, ifaces, maps, wideKeys, modest, calm, conditions, laid).
  DERIVED. THE GIVEN ROWS OF THIS SEAT. 18 by the template 'for every input the law returns true; each argument reads behind the call as it read before'; 0 by the template 'total and deterministic' (their statements: YtakkmkinfeddeaaTotals.lean).
  GIVEN WITH THE SEED: the statements are not yours to turn. If you find one false, say at which input.
  Laid BY PROGRAM, IN A SANDBOX (cutbox-rows.mjs): the forced cells as the released guide's own fill.sh prints them over the translation 07f012052cde7c4f… (all of the seat's roots in one cut). By AI agents, Wed Nov 11 2026. No macro, syntax, notation, axiom, sorry.
-/
import Derived.Test.YtakkmkinfeddeaaChecked
import GoSem.Claim
import GoSem.ClaimJoined
import GoSem.ClaimMapViews
import Derived.JoinedTies
import Derived.KernelRfl
namespace Go.Proofs.Ytakkmkinfeddeaa
/- THE CELL 'sum', in the pinned program and in every row, IS THE sha256 OF THE DUMP (.gsa) THAT YtakkmkinfeddeaaProg.lean LOADS. Nothing in Lean hashes anything: it is a label: what it is worth is what the hold of that sum in a sandbox is worth. -/
noncomputable def Try.pinned : Pinned := { name := "ytakkmkinfeddeaa", sum := "07f012052cde7c4feb58d342eb425ac84f713ead9246f901fa5144786138dff5", checked := Try.checked }
namespace Rows
def none {H : Type} : Left H := { results := [], args := [] }

/-- 'laws.FnExactCyclesOf': WHATEVER THE INPUT: true; the input reads as it did. -/
def fnExactCyclesOfSpec : ChangeSpec := { name := "fnExactCyclesOf", fn := fun _ => fun
  | [d1, d2, d3] => { results := [.lit (.bool true)], args := [d1, d2, d3] }
  | _ => none }
def fnExactCyclesOfRow : OpenClaim := { program := "ytakkmkinfeddeaa", sum := "07f012052cde7c4feb58d342eb425ac84f713ead9246f901fa5144786138dff5", func := "loop.example/g01355/laws.FnExactCyclesOf", spec := "fnExactCyclesOf", apart := false }
def FnExactCyclesOfSaid : Prop := fnExactCyclesOfRow.holds Try.pinned (OpenSpec.ofChange fnExactCyclesOfSpec)

/-- ITS FALSE NEIGHBOUR: 'it returns false'. Refute it at one input. -/
def fnExactCyclesOfWrong : ChangeSpec := { name := "fnExactCyclesOf", fn := fun _ => fun
  | [d1, d2, d3] => { results := [.lit (.bool false)], args := [d1, d2, d3] }
  | _ => none }
def FnExactCyclesOfWrongFalsely : Prop := fnExactCyclesOfRow.holds Try.pinned (OpenSpec.ofChange fnExactCyclesOfWrong)

/-- 'laws.FnExactDifferenceFamilies': WHATEVER THE INPUT: true; the input reads as it did. -/
def fnExactDifferenceFamiliesSpec : ChangeSpec := { name := "fnExactDifferenceFamilies", fn := fun _ => fun
  | [d] => { results := [.lit (.bool true)], args := [d] }
  | _ => none }
def fnExactDifferenceFamiliesRow : OpenClaim := { program := "ytakkmkinfeddeaa", sum := "07f012052cde7c4feb58d342eb425ac84f713ead9246f901fa5144786138dff5", func := "loop.example/g01355/laws.FnExactDifferenceFamilies", spec := "fnExactDifferenceFamilies", unfollowed := true, recurses := true, apart := false }
def FnExactDifferenceFamiliesSaid : Prop := fnExactDifferenceFamiliesRow.holds Try.pinned (OpenSpec.ofChange fnExactDifferenceFamiliesSpec)

/-- ITS FALSE NEIGHBOUR: 'it returns false'. Refute it at one input. -/
def fnExactDifferenceFamiliesWrong : ChangeSpec := { name := "fnExactDifferenceFamilies", fn := fun _ => fun
  | [d] => { results := [.lit (.bool false)], args := [d] }
  | _ => none }
def FnExactDifferenceFamiliesWrongFalsely : Prop := fnExactDifferenceFamiliesRow.holds Try.pinned (OpenSpec.ofChange fnExactDifferenceFamiliesWrong)

/-- 'laws.FnExactProductSystem': WHATEVER THE INPUT: true; the input reads as it did. -/
def fnExactProductSystemSpec : ChangeSpec := { name := "fnExactProductSystem", fn := fun _ => fun
  | [d1, d2] => { results := [.lit (.bool true)], args := [d1, d2] }
  | _ => none }
def fnExactProductSystemRow : OpenClaim := { program := "ytakkmkinfeddeaa", sum := "07f012052cde7c4feb58d342eb425ac84f713ead9246f901fa5144786138dff5", func := "loop.example/g01355/laws.FnExactProductSystem", spec := "fnExactProductSystem", unfollowed := true, recurses := true, apart := false }
def FnExactProductSystemSaid : Prop := fnExactProductSystemRow.holds Try.pinned (OpenSpec.ofChange fnExactProductSystemSpec)

/-- ITS FALSE NEIGHBOUR: 'it returns false'. Refute it at one input. -/
def fnExactProductSystemWrong : ChangeSpec := { name := "fnExactProductSystem", fn := fun _ => fun
  | [d1, d2] => { results := [.lit (.bool false)], args := [d1, d2] }
  | _ => none }
def FnExactProductSystemWrongFalsely : Prop := fnExactProductSystemRow.holds Try.pinned (OpenSpec.ofChange fnExactProductSystemWrong)

/-- 'laws.FnExactIsSquare': WHATEVER THE INPUT: true; the input reads as it did. -/
def fnExactIsSquareSpec : ChangeSpec := { name := "fnExactIsSquare", fn := fun _ => fun
  | [d] => { results := [.lit (.bool true)], args := [d] }
  | _ => none }
def fnExactIsSquareRow : OpenClaim := { program := "ytakkmkinfeddeaa", sum := "07f012052cde7c4feb58d342eb425ac84f713ead9246f901fa5144786138dff5", func := "loop.example/g01355/laws.FnExactIsSquare", spec := "fnExactIsSquare", unfollowed := true, recurses := true, apart := false }
def FnExactIsSquareSaid : Prop := fnExactIsSquareRow.holds Try.pinned (OpenSpec.ofChange fnExactIsSquareSpec)

/-- ITS FALSE NEIGHBOUR: 'it returns false'. Refute it at one input. -/
def fnExactIsSquareWrong : ChangeSpec := { name := "fnExactIsSquare", fn := fun _ => fun
  | [d] => { results := [.lit (.bool false)], args := [d] }
  | _ => none }
def FnExactIsSquareWrongFalsely : Prop := fnExactIsSquareRow.holds Try.pinned (OpenSpec.ofChange fnExactIsSquareWrong)

/-- 'laws.FnExactSquareKinds': WHATEVER THE INPUT: true; the input reads as it did. -/
def fnExactSquareKindsSpec : ChangeSpec := { name := "fnExactSquareKinds", fn := fun _ => fun
  | [d] => { results := [.lit (.bool true)], args := [d] }
  | _ => none }
def fnExactSquareKindsRow : OpenClaim := { program := "ytakkmkinfeddeaa", sum := "07f012052cde7c4feb58d342eb425ac84f713ead9246f901fa5144786138dff5", func := "loop.example/g01355/laws.FnExactSquareKinds", spec := "fnExactSquareKinds", unfollowed := true, recurses := true, apart := false }
def FnExactSquareKindsSaid : Prop := fnExactSquareKindsRow.holds Try.pinned (OpenSpec.ofChange fnExactSquareKindsSpec)

/-- ITS FALSE NEIGHBOUR: 'it returns false'. Refute it at one input. -/
def fnExactSquareKindsWrong : ChangeSpec := { name := "fnExactSquareKinds", fn := fun _ => fun
  | [d] => { results := [.lit (.bool false)], args := [d] }
  | _ => none }
def FnExactSquareKindsWrongFalsely : Prop := fnExactSquareKindsRow.holds Try.pinned (OpenSpec.ofChange fnExactSquareKindsWrong)

/-- 'laws.FnExactIsDifferenceFamily': WHATEVER THE INPUT: true; the input reads as it did. -/
def fnExactIsDifferenceFamilySpec : ChangeSpec := { name := "fnExactIsDifferenceFamily", fn := fun _ => fun
  | [d1, d2] => { results := [.lit (.bool true)], args := [d1, d2] }
  | _ => none }
def fnExactIsDifferenceFamilyRow : OpenClaim := { program := "ytakkmkinfeddeaa", sum := "07f012052cde7c4feb58d342eb425ac84f713ead9246f901fa5144786138dff5", func := "loop.example/g01355/laws.FnExactIsDifferenceFamily", spec := "fnExactIsDifferenceFamily", unfollowed := true, recurses := true, apart := false }
def FnExactIsDifferenceFamilySaid : Prop := fnExactIsDifferenceFamilyRow.holds Try.pinned (OpenSpec.ofChange fnExactIsDifferenceFamilySpec)

/-- ITS FALSE NEIGHBOUR: 'it returns false'. Refute it at one input. -/
def fnExactIsDifferenceFamilyWrong : ChangeSpec := { name := "fnExactIsDifferenceFamily", fn := fun _ => fun
  | [d1, d2] => { results := [.lit (.bool false)], args := [d1, d2] }
  | _ => none }
def FnExactIsDifferenceFamilyWrongFalsely : Prop := fnExactIsDifferenceFamilyRow.holds Try.pinned (OpenSpec.ofChange fnExactIsDifferenceFamilyWrong)

/-- 'laws.FnExactIsTrade': WHATEVER THE INPUT: true; the input reads as it did. -/
def fnExactIsTradeSpec : ChangeSpec := { name := "fnExactIsTrade", fn := fun _ => fun
  | [d] => { results := [.lit (.bool true)], args := [d] }
  | _ => none }
def fnExactIsTradeRow : OpenClaim := { program := "ytakkmkinfeddeaa", sum := "07f012052cde7c4feb58d342eb425ac84f713ead9246f901fa5144786138dff5", func := "loop.example/g01355/laws.FnExactIsTrade", spec := "fnExactIsTrade", unfollowed := true, recurses := true, apart := false }
def FnExactIsTradeSaid : Prop := fnExactIsTradeRow.holds Try.pinned (OpenSpec.ofChange fnExactIsTradeSpec)

/-- ITS FALSE NEIGHBOUR: 'it returns false'. Refute it at one input. -/
def fnExactIsTradeWrong : ChangeSpec := { name := "fnExactIsTrade", fn := fun _ => fun
  | [d] => { results := [.lit (.bool false)], args := [d] }
  | _ => none }
def FnExactIsTradeWrongFalsely : Prop := fnExactIsTradeRow.holds Try.pinned (OpenSpec.ofChange fnExactIsTradeWrong)

/-- 'laws.FnExactPutBlock': WHATEVER THE INPUT: true; the input reads as it did. -/
def fnExactPutBlockSpec : ChangeSpec := { name := "fnExactPutBlock", fn := fun _ => fun
  | [d1, d2] => { results := [.lit (.bool true)], args := [d1, d2] }
  | _ => none }
def fnExactPutBlockRow : OpenClaim := { program := "ytakkmkinfeddeaa", sum := "07f012052cde7c4feb58d342eb425ac84f713ead9246f901fa5144786138dff5", func := "loop.example/g01355/laws.FnExactPutBlock", spec := "fnExactPutBlock", unfollowed := true, recurses := true, apart := false }
def FnExactPutBlockSaid : Prop := fnExactPutBlockRow.holds Try.pinned (OpenSpec.ofChange fnExactPutBlockSpec)

/-- ITS FALSE NEIGHBOUR: 'it returns false'. Refute it at one input. -/
def fnExactPutBlockWrong : ChangeSpec := { name := "fnExactPutBlock", fn := fun _ => fun
  | [d1, d2] => { results := [.lit (.bool false)], args := [d1, d2] }
  | _ => none }
def FnExactPutBlockWrongFalsely : Prop := fnExactPutBlockRow.holds Try.pinned (OpenSpec.ofChange fnExactPutBlockWrong)

/-- 'laws.FnExactFitsSystem': WHATEVER THE INPUT: true; the input reads as it did. -/
def fnExactFitsSystemSpec : ChangeSpec := { name := "fnExactFitsSystem", fn := fun _ => fun
  | [d1, d2] => { results := [.lit (.bool true)], args := [d1, d2] }
  | _ => none }
def fnExactFitsSystemRow : OpenClaim := { program := "ytakkmkinfeddeaa", sum := "07f012052cde7c4feb58d342eb425ac84f713ead9246f901fa5144786138dff5", func := "loop.example/g01355/laws.FnExactFitsSystem", spec := "fnExactFitsSystem", unfollowed := true, recurses := true, apart := false }
def FnExactFitsSystemSaid : Prop := fnExactFitsSystemRow.holds Try.pinned (OpenSpec.ofChange fnExactFitsSystemSpec)

/-- ITS FALSE NEIGHBOUR: 'it returns false'. Refute it at one input. -/
def fnExactFitsSystemWrong : ChangeSpec := { name := "fnExactFitsSystem", fn := fun _ => fun
  | [d1, d2] => { results := [.lit (.bool false)], args := [d1, d2] }
  | _ => none }
def FnExactFitsSystemWrongFalsely : Prop := fnExactFitsSystemRow.holds Try.pinned (OpenSpec.ofChange fnExactFitsSystemWrong)

/-- 'laws.FnExactInverseTrade': WHATEVER THE INPUT: true; the input reads as it did. -/
def fnExactInverseTradeSpec : ChangeSpec := { name := "fnExactInverseTrade", fn := fun _ => fun
  | [d] => { results := [.lit (.bool true)], args := [d] }
  | _ => none }
def fnExactInverseTradeRow : OpenClaim := { program := "ytakkmkinfeddeaa", sum := "07f012052cde7c4feb58d342eb425ac84f713ead9246f901fa5144786138dff5", func := "loop.example/g01355/laws.FnExactInverseTrade", spec := "fnExactInverseTrade", unfollowed := true, recurses := true, apart := false }
def FnExactInverseTradeSaid : Prop := fnExactInverseTradeRow.holds Try.pinned (OpenSpec.ofChange fnExactInverseTradeSpec)

/-- ITS FALSE NEIGHBOUR: 'it returns false'. Refute it at one input. -/
def fnExactInverseTradeWrong : ChangeSpec := { name := "fnExactInverseTrade", fn := fun _ => fun
  | [d] => { results := [.lit (.bool false)], args := [d] }
  | _ => none }
def FnExactInverseTradeWrongFalsely : Prop := fnExactInverseTradeRow.holds Try.pinned (OpenSpec.ofChange fnExactInverseTradeWrong)

/-- 'laws.FnExactDifferenceTrade': WHATEVER THE INPUT: true; the input reads as it did. -/
def fnExactDifferenceTradeSpec : ChangeSpec := { name := "fnExactDifferenceTrade", fn := fun _ => fun
  | [d1, d2] => { results := [.lit (.bool true)], args := [d1, d2] }
  | _ => none }
def fnExactDifferenceTradeRow : OpenClaim := { program := "ytakkmkinfeddeaa", sum := "07f012052cde7c4feb58d342eb425ac84f713ead9246f901fa5144786138dff5", func := "loop.example/g01355/laws.FnExactDifferenceTrade", spec := "fnExactDifferenceTrade", unfollowed := true, recurses := true, apart := false }
def FnExactDifferenceTradeSaid : Prop := fnExactDifferenceTradeRow.holds Try.pinned (OpenSpec.ofChange fnExactDifferenceTradeSpec)

/-- ITS FALSE NEIGHBOUR: 'it returns false'. Refute it at one input. -/
def fnExactDifferenceTradeWrong : ChangeSpec := { name := "fnExactDifferenceTrade", fn := fun _ => fun
  | [d1, d2] => { results := [.lit (.bool false)], args := [d1, d2] }
  | _ => none }
def FnExactDifferenceTradeWrongFalsely : Prop := fnExactDifferenceTradeRow.holds Try.pinned (OpenSpec.ofChange fnExactDifferenceTradeWrong)

/-- 'laws.FnExactIsMinimalTrade': WHATEVER THE INPUT: true; the input reads as it did. -/
def fnExactIsMinimalTradeSpec : ChangeSpec := { name := "fnExactIsMinimalTrade", fn := fun _ => fun
  | [d] => { results := [.lit (.bool true)], args := [d] }
  | _ => none }
def fnExactIsMinimalTradeRow : OpenClaim := { program := "ytakkmkinfeddeaa", sum := "07f012052cde7c4feb58d342eb425ac84f713ead9246f901fa5144786138dff5", func := "loop.example/g01355/laws.FnExactIsMinimalTrade", spec := "fnExactIsMinimalTrade", unfollowed := true, recurses := true, apart := false }
def FnExactIsMinimalTradeSaid : Prop := fnExactIsMinimalTradeRow.holds Try.pinned (OpenSpec.ofChange fnExactIsMinimalTradeSpec)

/-- ITS FALSE NEIGHBOUR: 'it returns false'. Refute it at one input. -/
def fnExactIsMinimalTradeWrong : ChangeSpec := { name := "fnExactIsMinimalTrade", fn := fun _ => fun
  | [d] => { results := [.lit (.bool false)], args := [d] }
  | _ => none }
def FnExactIsMinimalTradeWrongFalsely : Prop := fnExactIsMinimalTradeRow.holds Try.pinned (OpenSpec.ofChange fnExactIsMinimalTradeWrong)

/-- 'laws.FnExactTypeOf': WHATEVER THE INPUT: true; the input reads as it did. -/
def fnExactTypeOfSpec : ChangeSpec := { name := "fnExactTypeOf", fn := fun _ => fun
  | [d1, d2, d3] => { results := [.lit (.bool true)], args := [d1, d2, d3] }
  | _ => none }
def fnExactTypeOfRow : OpenClaim := { program := "ytakkmkinfeddeaa", sum := "07f012052cde7c4feb58d342eb425ac84f713ead9246f901fa5144786138dff5", func := "loop.example/g01355/laws.FnExactTypeOf", spec := "fnExactTypeOf", unfollowed := true, recurses := true, apart := false }
def FnExactTypeOfSaid : Prop := fnExactTypeOfRow.holds Try.pinned (OpenSpec.ofChange fnExactTypeOfSpec)

/-- ITS FALSE NEIGHBOUR: 'it returns false'. Refute it at one input. -/
def fnExactTypeOfWrong : ChangeSpec := { name := "fnExactTypeOf", fn := fun _ => fun
  | [d1, d2, d3] => { results := [.lit (.bool false)], args := [d1, d2, d3] }
  | _ => none }
def FnExactTypeOfWrongFalsely : Prop := fnExactTypeOfRow.holds Try.pinned (OpenSpec.ofChange fnExactTypeOfWrong)

/-- 'laws.FnExactIsUniform': WHATEVER THE INPUT: true; the input reads as it did. -/
def fnExactIsUniformSpec : ChangeSpec := { name := "fnExactIsUniform", fn := fun _ => fun
  | [d] => { results := [.lit (.bool true)], args := [d] }
  | _ => none }
def fnExactIsUniformRow : OpenClaim := { program := "ytakkmkinfeddeaa", sum := "07f012052cde7c4feb58d342eb425ac84f713ead9246f901fa5144786138dff5", func := "loop.example/g01355/laws.FnExactIsUniform", spec := "fnExactIsUniform", unfollowed := true, recurses := true, apart := false }
def FnExactIsUniformSaid : Prop := fnExactIsUniformRow.holds Try.pinned (OpenSpec.ofChange fnExactIsUniformSpec)

/-- ITS FALSE NEIGHBOUR: 'it returns false'. Refute it at one input. -/
def fnExactIsUniformWrong : ChangeSpec := { name := "fnExactIsUniform", fn := fun _ => fun
  | [d] => { results := [.lit (.bool false)], args := [d] }
  | _ => none }
def FnExactIsUniformWrongFalsely : Prop := fnExactIsUniformRow.holds Try.pinned (OpenSpec.ofChange fnExactIsUniformWrong)

/-- 'laws.FnExactIsPerfect': WHATEVER THE INPUT: true; the input reads as it did. -/
def fnExactIsPerfectSpec : ChangeSpec := { name := "fnExactIsPerfect", fn := fun _ => fun
  | [d] => { results := [.lit (.bool true)], args := [d] }
  | _ => none }
def fnExactIsPerfectRow : OpenClaim := { program := "ytakkmkinfeddeaa", sum := "07f012052cde7c4feb58d342eb425ac84f713ead9246f901fa5144786138dff5", func := "loop.example/g01355/laws.FnExactIsPerfect", spec := "fnExactIsPerfect", unfollowed := true, recurses := true, apart := false }
def FnExactIsPerfectSaid : Prop := fnExactIsPerfectRow.holds Try.pinned (OpenSpec.ofChange fnExactIsPerfectSpec)

/-- ITS FALSE NEIGHBOUR: 'it returns false'. Refute it at one input. -/
def fnExactIsPerfectWrong : ChangeSpec := { name := "fnExactIsPerfect", fn := fun _ => fun
  | [d] => { results := [.lit (.bool false)], args := [d] }
  | _ => none }
def FnExactIsPerfectWrongFalsely : Prop := fnExactIsPerfectRow.holds Try.pinned (OpenSpec.ofChange fnExactIsPerfectWrong)

/-- 'laws.FnExactCarryOut': WHATEVER THE INPUT: true; the input reads as it did. -/
def fnExactCarryOutSpec : ChangeSpec := { name := "fnExactCarryOut", fn := fun _ => fun
  | [d1, d2] => { results := [.lit (.bool true)], args := [d1, d2] }
  | _ => none }
def fnExactCarryOutRow : OpenClaim := { program := "ytakkmkinfeddeaa", sum := "07f012052cde7c4feb58d342eb425ac84f713ead9246f901fa5144786138dff5", func := "loop.example/g01355/laws.FnExactCarryOut", spec := "fnExactCarryOut", unfollowed := true, recurses := true, apart := false }
def FnExactCarryOutSaid : Prop := fnExactCarryOutRow.holds Try.pinned (OpenSpec.ofChange fnExactCarryOutSpec)

/-- ITS FALSE NEIGHBOUR: 'it returns false'. Refute it at one input. -/
def fnExactCarryOutWrong : ChangeSpec := { name := "fnExactCarryOut", fn := fun _ => fun
  | [d1, d2] => { results := [.lit (.bool false)], args := [d1, d2] }
  | _ => none }
def FnExactCarryOutWrongFalsely : Prop := fnExactCarryOutRow.holds Try.pinned (OpenSpec.ofChange fnExactCarryOutWrong)

/-- 'laws.FnExactTypesOf': WHATEVER THE INPUT: true; the input reads as it did. -/
def fnExactTypesOfSpec : ChangeSpec := { name := "fnExactTypesOf", fn := fun _ => fun
  | [d] => { results := [.lit (.bool true)], args := [d] }
  | _ => none }
def fnExactTypesOfRow : OpenClaim := { program := "ytakkmkinfeddeaa", sum := "07f012052cde7c4feb58d342eb425ac84f713ead9246f901fa5144786138dff5", func := "loop.example/g01355/laws.FnExactTypesOf", spec := "fnExactTypesOf", unfollowed := true, recurses := true, apart := false }
def FnExactTypesOfSaid : Prop := fnExactTypesOfRow.holds Try.pinned (OpenSpec.ofChange fnExactTypesOfSpec)

/-- ITS FALSE NEIGHBOUR: 'it returns false'. Refute it at one input. -/
def fnExactTypesOfWrong : ChangeSpec := { name := "fnExactTypesOf", fn := fun _ => fun
  | [d] => { results := [.lit (.bool false)], args := [d] }
  | _ => none }
def FnExactTypesOfWrongFalsely : Prop := fnExactTypesOfRow.holds Try.pinned (OpenSpec.ofChange fnExactTypesOfWrong)

/-- 'laws.FnExactPartsOfTrade': WHATEVER THE INPUT: true; the input reads as it did. -/
def fnExactPartsOfTradeSpec : ChangeSpec := { name := "fnExactPartsOfTrade", fn := fun _ => fun
  | [d] => { results := [.lit (.bool true)], args := [d] }
  | _ => none }
def fnExactPartsOfTradeRow : OpenClaim := { program := "ytakkmkinfeddeaa", sum := "07f012052cde7c4feb58d342eb425ac84f713ead9246f901fa5144786138dff5", func := "loop.example/g01355/laws.FnExactPartsOfTrade", spec := "fnExactPartsOfTrade", unfollowed := true, recurses := true, apart := false }
def FnExactPartsOfTradeSaid : Prop := fnExactPartsOfTradeRow.holds Try.pinned (OpenSpec.ofChange fnExactPartsOfTradeSpec)

/-- ITS FALSE NEIGHBOUR: 'it returns false'. Refute it at one input. -/
def fnExactPartsOfTradeWrong : ChangeSpec := { name := "fnExactPartsOfTrade", fn := fun _ => fun
  | [d] => { results := [.lit (.bool false)], args := [d] }
  | _ => none }
def FnExactPartsOfTradeWrongFalsely : Prop := fnExactPartsOfTradeRow.holds Try.pinned (OpenSpec.ofChange fnExactPartsOfTradeWrong)

/- THE SECOND FORM. 'bulk': how many values and letters a reading holds, each counted each time it is reached (what is shared counts as often as it is met; a slice's spare places count too). A statement '..UptoSaid' is the law's where the arguments, and the package variables that the reading takes, are together of bulk at most 1048576: NARROWER than '..Said'. Prove '..Said' where nothing that the law and all that it calls make is longer than what came in: it says more and counts as full. Else prove '..UptoSaid'. A law counts once. -/
mutual
def uptoBulk {H : Type} : DataW H → Nat
  | .lit (.string bytes) => bytes.length + 1
  | .lit _ => 1
  | .nil => 1
  | .ptr d => uptoBulk d + 1
  | .slice elems spare => uptoBulkAll elems + uptoBulkAll spare + 1
  | .agg parts => uptoBulkAll parts + 1
  | .iface _ d => uptoBulk d + 1
  | .map entries => uptoBulkEntries entries + 1
  | .held _ => 1
def uptoBulkAll {H : Type} : List (DataW H) → Nat
  | [] => 0
  | d :: r => uptoBulk d + uptoBulkAll r
def uptoBulkEntries {H : Type} : List (Lit × DataW H) → Nat
  | [] => 0
  | x :: r => uptoBulkEntry x + uptoBulkEntries r
def uptoBulkEntry {H : Type} : Lit × DataW H → Nat
  | (.string bytes, d) => bytes.length + uptoBulk d + 1
  | (_, d) => uptoBulk d + 1
 end
def uptoSmall : (H : Type) → List (DataW H) → Bool := fun _ ds => decide (uptoBulkAll ds ≤ 1048576)
def OpenSpec.upto (s : _root_.Go.ChangeSpec) : _root_.Go.OpenSpec := { _root_.Go.OpenSpec.ofChange s with cond := some uptoSmall }

/-- 'laws.FnExactCyclesOf', WHERE WHAT IT READS IS OF BULK AT MOST 1048576: true; the input reads as it did. -/
def fnExactCyclesOfUptoRow : OpenClaim := { program := "ytakkmkinfeddeaa", sum := "07f012052cde7c4feb58d342eb425ac84f713ead9246f901fa5144786138dff5", func := "loop.example/g01355/laws.FnExactCyclesOf", spec := "fnExactCyclesOf", apart := false, narrowed := true }
def FnExactCyclesOfUptoSaid : Prop := fnExactCyclesOfUptoRow.holds Try.pinned (OpenSpec.upto fnExactCyclesOfSpec)

/-- 'laws.FnExactDifferenceFamilies', WHERE WHAT IT READS IS OF BULK AT MOST 1048576: true; the input reads as it did. -/
def fnExactDifferenceFamiliesUptoRow : OpenClaim := { program := "ytakkmkinfeddeaa", sum := "07f012052cde7c4feb58d342eb425ac84f713ead9246f901fa5144786138dff5", func := "loop.example/g01355/laws.FnExactDifferenceFamilies", spec := "fnExactDifferenceFamilies", unfollowed := true, recurses := true, apart := false, narrowed := true }
def FnExactDifferenceFamiliesUptoSaid : Prop := fnExactDifferenceFamiliesUptoRow.holds Try.pinned (OpenSpec.upto fnExactDifferenceFamiliesSpec)

/-- 'laws.FnExactProductSystem', WHERE WHAT IT READS IS OF BULK AT MOST 1048576: true; the input reads as it did. -/
def fnExactProductSystemUptoRow : OpenClaim := { program := "ytakkmkinfeddeaa", sum := "07f012052cde7c4feb58d342eb425ac84f713ead9246f901fa5144786138dff5", func := "loop.example/g01355/laws.FnExactProductSystem", spec := "fnExactProductSystem", unfollowed := true, recurses := true, apart := false, narrowed := true }
def FnExactProductSystemUptoSaid : Prop := fnExactProductSystemUptoRow.holds Try.pinned (OpenSpec.upto fnExactProductSystemSpec)

/-- 'laws.FnExactIsSquare', WHERE WHAT IT READS IS OF BULK AT MOST 1048576: true; the input reads as it did. -/
def fnExactIsSquareUptoRow : OpenClaim := { program := "ytakkmkinfeddeaa", sum := "07f012052cde7c4feb58d342eb425ac84f713ead9246f901fa5144786138dff5", func := "loop.example/g01355/laws.FnExactIsSquare", spec := "fnExactIsSquare", unfollowed := true, recurses := true, apart := false, narrowed := true }
def FnExactIsSquareUptoSaid : Prop := fnExactIsSquareUptoRow.holds Try.pinned (OpenSpec.upto fnExactIsSquareSpec)

/-- 'laws.FnExactSquareKinds', WHERE WHAT IT READS IS OF BULK AT MOST 1048576: true; the input reads as it did. -/
def fnExactSquareKindsUptoRow : OpenClaim := { program := "ytakkmkinfeddeaa", sum := "07f012052cde7c4feb58d342eb425ac84f713ead9246f901fa5144786138dff5", func := "loop.example/g01355/laws.FnExactSquareKinds", spec := "fnExactSquareKinds", unfollowed := true, recurses := true, apart := false, narrowed := true }
def FnExactSquareKindsUptoSaid : Prop := fnExactSquareKindsUptoRow.holds Try.pinned (OpenSpec.upto fnExactSquareKindsSpec)

/-- 'laws.FnExactIsDifferenceFamily', WHERE WHAT IT READS IS OF BULK AT MOST 1048576: true; the input reads as it did. -/
def fnExactIsDifferenceFamilyUptoRow : OpenClaim := { program := "ytakkmkinfeddeaa", sum := "07f012052cde7c4feb58d342eb425ac84f713ead9246f901fa5144786138dff5", func := "loop.example/g01355/laws.FnExactIsDifferenceFamily", spec := "fnExactIsDifferenceFamily", unfollowed := true, recurses := true, apart := false, narrowed := true }
def FnExactIsDifferenceFamilyUptoSaid : Prop := fnExactIsDifferenceFamilyUptoRow.holds Try.pinned (OpenSpec.upto fnExactIsDifferenceFamilySpec)

/-- 'laws.FnExactIsTrade', WHERE WHAT IT READS IS OF BULK AT MOST 1048576: true; the input reads as it did. -/
def fnExactIsTradeUptoRow : OpenClaim := { program := "ytakkmkinfeddeaa", sum := "07f012052cde7c4feb58d342eb425ac84f713ead9246f901fa5144786138dff5", func := "loop.example/g01355/laws.FnExactIsTrade", spec := "fnExactIsTrade", unfollowed := true, recurses := true, apart := false, narrowed := true }
def FnExactIsTradeUptoSaid : Prop := fnExactIsTradeUptoRow.holds Try.pinned (OpenSpec.upto fnExactIsTradeSpec)

/-- 'laws.FnExactPutBlock', WHERE WHAT IT READS IS OF BULK AT MOST 1048576: true; the input reads as it did. -/
def fnExactPutBlockUptoRow : OpenClaim := { program := "ytakkmkinfeddeaa", sum := "07f012052cde7c4feb58d342eb425ac84f713ead9246f901fa5144786138dff5", func := "loop.example/g01355/laws.FnExactPutBlock", spec := "fnExactPutBlock", unfollowed := true, recurses := true, apart := false, narrowed := true }
def FnExactPutBlockUptoSaid : Prop := fnExactPutBlockUptoRow.holds Try.pinned (OpenSpec.upto fnExactPutBlockSpec)

/-- 'laws.FnExactFitsSystem', WHERE WHAT IT READS IS OF BULK AT MOST 1048576: true; the input reads as it did. -/
def fnExactFitsSystemUptoRow : OpenClaim := { program := "ytakkmkinfeddeaa", sum := "07f012052cde7c4feb58d342eb425ac84f713ead9246f901fa5144786138dff5", func := "loop.example/g01355/laws.FnExactFitsSystem", spec := "fnExactFitsSystem", unfollowed := true, recurses := true, apart := false, narrowed := true }
def FnExactFitsSystemUptoSaid : Prop := fnExactFitsSystemUptoRow.holds Try.pinned (OpenSpec.upto fnExactFitsSystemSpec)

/-- 'laws.FnExactInverseTrade', WHERE WHAT IT READS IS OF BULK AT MOST 1048576: true; the input reads as it did. -/
def fnExactInverseTradeUptoRow : OpenClaim := { program := "ytakkmkinfeddeaa", sum := "07f012052cde7c4feb58d342eb425ac84f713ead9246f901fa5144786138dff5", func := "loop.example/g01355/laws.FnExactInverseTrade", spec := "fnExactInverseTrade", unfollowed := true, recurses := true, apart := false, narrowed := true }
def FnExactInverseTradeUptoSaid : Prop := fnExactInverseTradeUptoRow.holds Try.pinned (OpenSpec.upto fnExactInverseTradeSpec)

/-- 'laws.FnExactDifferenceTrade', WHERE WHAT IT READS IS OF BULK AT MOST 1048576: true; the input reads as it did. -/
def fnExactDifferenceTradeUptoRow : OpenClaim := { program := "ytakkmkinfeddeaa", sum := "07f012052cde7c4feb58d342eb425ac84f713ead9246f901fa5144786138dff5", func := "loop.example/g01355/laws.FnExactDifferenceTrade", spec := "fnExactDifferenceTrade", unfollowed := true, recurses := true, apart := false, narrowed := true }
def FnExactDifferenceTradeUptoSaid : Prop := fnExactDifferenceTradeUptoRow.holds Try.pinned (OpenSpec.upto fnExactDifferenceTradeSpec)

/-- 'laws.FnExactIsMinimalTrade', WHERE WHAT IT READS IS OF BULK AT MOST 1048576: true; the input reads as it did. -/
def fnExactIsMinimalTradeUptoRow : OpenClaim := { program := "ytakkmkinfeddeaa", sum := "07f012052cde7c4feb58d342eb425ac84f713ead9246f901fa5144786138dff5", func := "loop.example/g01355/laws.FnExactIsMinimalTrade", spec := "fnExactIsMinimalTrade", unfollowed := true, recurses := true, apart := false, narrowed := true }
def FnExactIsMinimalTradeUptoSaid : Prop := fnExactIsMinimalTradeUptoRow.holds Try.pinned (OpenSpec.upto fnExactIsMinimalTradeSpec)

/-- 'laws.FnExactTypeOf', WHERE WHAT IT READS IS OF BULK AT MOST 1048576: true; the input reads as it did. -/
def fnExactTypeOfUptoRow : OpenClaim := { program := "ytakkmkinfeddeaa", sum := "07f012052cde7c4feb58d342eb425ac84f713ead9246f901fa5144786138dff5", func := "loop.example/g01355/laws.FnExactTypeOf", spec := "fnExactTypeOf", unfollowed := true, recurses := true, apart := false, narrowed := true }
def FnExactTypeOfUptoSaid : Prop := fnExactTypeOfUptoRow.holds Try.pinned (OpenSpec.upto fnExactTypeOfSpec)

/-- 'laws.FnExactIsUniform', WHERE WHAT IT READS IS OF BULK AT MOST 1048576: true; the input reads as it did. -/
def fnExactIsUniformUptoRow : OpenClaim := { program := "ytakkmkinfeddeaa", sum := "07f012052cde7c4feb58d342eb425ac84f713ead9246f901fa5144786138dff5", func := "loop.example/g01355/laws.FnExactIsUniform", spec := "fnExactIsUniform", unfollowed := true, recurses := true, apart := false, narrowed := true }
def FnExactIsUniformUptoSaid : Prop := fnExactIsUniformUptoRow.holds Try.pinned (OpenSpec.upto fnExactIsUniformSpec)

/-- 'laws.FnExactIsPerfect', WHERE WHAT IT READS IS OF BULK AT MOST 1048576: true; the input reads as it did. -/
def fnExactIsPerfectUptoRow : OpenClaim := { program := "ytakkmkinfeddeaa", sum := "07f012052cde7c4feb58d342eb425ac84f713ead9246f901fa5144786138dff5", func := "loop.example/g01355/laws.FnExactIsPerfect", spec := "fnExactIsPerfect", unfollowed := true, recurses := true, apart := false, narrowed := true }
def FnExactIsPerfectUptoSaid : Prop := fnExactIsPerfectUptoRow.holds Try.pinned (OpenSpec.upto fnExactIsPerfectSpec)

/-- 'laws.FnExactCarryOut', WHERE WHAT IT READS IS OF BULK AT MOST 1048576: true; the input reads as it did. -/
def fnExactCarryOutUptoRow : OpenClaim := { program := "ytakkmkinfeddeaa", sum := "07f012052cde7c4feb58d342eb425ac84f713ead9246f901fa5144786138dff5", func := "loop.example/g01355/laws.FnExactCarryOut", spec := "fnExactCarryOut", unfollowed := true, recurses := true, apart := false, narrowed := true }
def FnExactCarryOutUptoSaid : Prop := fnExactCarryOutUptoRow.holds Try.pinned (OpenSpec.upto fnExactCarryOutSpec)

/-- 'laws.FnExactTypesOf', WHERE WHAT IT READS IS OF BULK AT MOST 1048576: true; the input reads as it did. -/
def fnExactTypesOfUptoRow : OpenClaim := { program := "ytakkmkinfeddeaa", sum := "07f012052cde7c4feb58d342eb425ac84f713ead9246f901fa5144786138dff5", func := "loop.example/g01355/laws.FnExactTypesOf", spec := "fnExactTypesOf", unfollowed := true, recurses := true, apart := false, narrowed := true }
def FnExactTypesOfUptoSaid : Prop := fnExactTypesOfUptoRow.holds Try.pinned (OpenSpec.upto fnExactTypesOfSpec)

/-- 'laws.FnExactPartsOfTrade', WHERE WHAT IT READS IS OF BULK AT MOST 1048576: true; the input reads as it did. -/
def fnExactPartsOfTradeUptoRow : OpenClaim := { program := "ytakkmkinfeddeaa", sum := "07f012052cde7c4feb58d342eb425ac84f713ead9246f901fa5144786138dff5", func := "loop.example/g01355/laws.FnExactPartsOfTrade", spec := "fnExactPartsOfTrade", unfollowed := true, recurses := true, apart := false, narrowed := true }
def FnExactPartsOfTradeUptoSaid : Prop := fnExactPartsOfTradeUptoRow.holds Try.pinned (OpenSpec.upto fnExactPartsOfTradeSpec)

end Rows
end Go.Proofs.Ytakkmkinfeddeaa
