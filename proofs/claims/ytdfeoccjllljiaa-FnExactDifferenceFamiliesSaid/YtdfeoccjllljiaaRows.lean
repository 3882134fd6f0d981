/-
  No cell of these rows narrows 'for every input' (looked for: loops, veiled, ifaces, maps, wideKeys, modest, calm, conditions, laid).
  DERIVED. THE GIVEN ROWS OF THIS SEAT. 14 by the template 'for every input the law returns true; each argument reads behind the call as it read before'; 0 by the template 'total and deterministic' (their statements: YtdfeoccjllljiaaTotals.lean).
  GIVEN WITH THE SEED: the statements are not yours to turn. If you find one false, say at which input.
  Laid BY PROGRAM, IN A SANDBOX (cutbox-rows.mjs): the forced cells as the released guide's own fill.sh prints them over the translation 3a9620b4bb39e30f… (all of the seat's roots in one cut). By AI agents, Wed Nov 11 2026. No macro, syntax, notation, axiom, sorry.
-/
import Derived.Test.YtdfeoccjllljiaaChecked
import GoSem.Claim
import GoSem.ClaimJoined
import GoSem.ClaimMapViews
import Derived.JoinedTies
import Derived.KernelRfl
namespace Go.Proofs.Ytdfeoccjllljiaa
/- THE CELL 'sum', in the pinned program and in every row, IS THE sha256 OF THE DUMP (.gsa) THAT YtdfeoccjllljiaaProg.lean LOADS. Nothing in Lean hashes anything: it is a label: what it is worth is what the hold of that sum in a sandbox is worth. -/
noncomputable def Try.pinned : Pinned := { name := "ytdfeoccjllljiaa", sum := "3a9620b4bb39e30f707f6ac50cee79546d708a3ab0c9faffdfb6cb9b7cf3a1e1", checked := Try.checked }
namespace Rows
def none {H : Type} : Left H := { results := [], args := [] }

/-- 'laws.FnExactIsMinimalTrade': WHATEVER THE INPUT: true; the input reads as it did. -/
def fnExactIsMinimalTradeSpec : ChangeSpec := { name := "fnExactIsMinimalTrade", fn := fun _ => fun
  | [d] => { results := [.lit (.bool true)], args := [d] }
  | _ => none }
def fnExactIsMinimalTradeRow : OpenClaim := { program := "ytdfeoccjllljiaa", sum := "3a9620b4bb39e30f707f6ac50cee79546d708a3ab0c9faffdfb6cb9b7cf3a1e1", func := "loop.example/g01355/laws.FnExactIsMinimalTrade", spec := "fnExactIsMinimalTrade", unfollowed := true, recurses := true, apart := false }
def FnExactIsMinimalTradeSaid : Prop := fnExactIsMinimalTradeRow.holds Try.pinned (OpenSpec.ofChange fnExactIsMinimalTradeSpec)

/-- ITS FALSE NEIGHBOUR: 'it returns false'. Refute it at one input. -/
def fnExactIsMinimalTradeWrong : ChangeSpec := { name := "fnExactIsMinimalTrade", fn := fun _ => fun
  | [d] => { results := [.lit (.bool false)], args := [d] }
  | _ => none }
def FnExactIsMinimalTradeWrongFalsely : Prop := fnExactIsMinimalTradeRow.holds Try.pinned (OpenSpec.ofChange fnExactIsMinimalTradeWrong)

/-- 'laws.FnExactProductSystem': WHATEVER THE INPUT: true; the input reads as it did. -/
def fnExactProductSystemSpec : ChangeSpec := { name := "fnExactProductSystem", fn := fun _ => fun
  | [d1, d2] => { results := [.lit (.bool true)], args := [d1, d2] }
  | _ => none }
def fnExactProductSystemRow : OpenClaim := { program := "ytdfeoccjllljiaa", sum := "3a9620b4bb39e30f707f6ac50cee79546d708a3ab0c9faffdfb6cb9b7cf3a1e1", func := "loop.example/g01355/laws.FnExactProductSystem", spec := "fnExactProductSystem", unfollowed := true, recurses := true, apart := false }
def FnExactProductSystemSaid : Prop := fnExactProductSystemRow.holds Try.pinned (OpenSpec.ofChange fnExactProductSystemSpec)

/-- ITS FALSE NEIGHBOUR: 'it returns false'. Refute it at one input. -/
def fnExactProductSystemWrong : ChangeSpec := { name := "fnExactProductSystem", fn := fun _ => fun
  | [d1, d2] => { results := [.lit (.bool false)], args := [d1, d2] }
  | _ => none }
def FnExactProductSystemWrongFalsely : Prop := fnExactProductSystemRow.holds Try.pinned (OpenSpec.ofChange fnExactProductSystemWrong)

/-- 'laws.FnExactPartsOfTrade': WHATEVER THE INPUT: true; the input reads as it did. -/
def fnExactPartsOfTradeSpec : ChangeSpec := { name := "fnExactPartsOfTrade", fn := fun _ => fun
  | [d] => { results := [.lit (.bool true)], args := [d] }
  | _ => none }
def fnExactPartsOfTradeRow : OpenClaim := { program := "ytdfeoccjllljiaa", sum := "3a9620b4bb39e30f707f6ac50cee79546d708a3ab0c9faffdfb6cb9b7cf3a1e1", func := "loop.example/g01355/laws.FnExactPartsOfTrade", spec := "fnExactPartsOfTrade", unfollowed := true, recurses := true, apart := false }
def FnExactPartsOfTradeSaid : Prop := fnExactPartsOfTradeRow.holds Try.pinned (OpenSpec.ofChange fnExactPartsOfTradeSpec)

/-- ITS FALSE NEIGHBOUR: 'it returns false'. Refute it at one input. -/
def fnExactPartsOfTradeWrong : ChangeSpec := { name := "fnExactPartsOfTrade", fn := fun _ => fun
  | [d] => { results := [.lit (.bool false)], args := [d] }
  | _ => none }
def FnExactPartsOfTradeWrongFalsely : Prop := fnExactPartsOfTradeRow.holds Try.pinned (OpenSpec.ofChange fnExactPartsOfTradeWrong)

/-- 'laws.FnExactIsSquare': WHATEVER THE INPUT: true; the input reads as it did. -/
def fnExactIsSquareSpec : ChangeSpec := { name := "fnExactIsSquare", fn := fun _ => fun
  | [d] => { results := [.lit (.bool true)], args := [d] }
  | _ => none }
def fnExactIsSquareRow : OpenClaim := { program := "ytdfeoccjllljiaa", sum := "3a9620b4bb39e30f707f6ac50cee79546d708a3ab0c9faffdfb6cb9b7cf3a1e1", func := "loop.example/g01355/laws.FnExactIsSquare", spec := "fnExactIsSquare", unfollowed := true, recurses := true, apart := false }
def FnExactIsSquareSaid : Prop := fnExactIsSquareRow.holds Try.pinned (OpenSpec.ofChange fnExactIsSquareSpec)

/-- ITS FALSE NEIGHBOUR: 'it returns false'. Refute it at one input. -/
def fnExactIsSquareWrong : ChangeSpec := { name := "fnExactIsSquare", fn := fun _ => fun
  | [d] => { results := [.lit (.bool false)], args := [d] }
  | _ => none }
def FnExactIsSquareWrongFalsely : Prop := fnExactIsSquareRow.holds Try.pinned (OpenSpec.ofChange fnExactIsSquareWrong)

/-- 'laws.FnExactSquareKinds': WHATEVER THE INPUT: true; the input reads as it did. -/
def fnExactSquareKindsSpec : ChangeSpec := { name := "fnExactSquareKinds", fn := fun _ => fun
  | [d] => { results := [.lit (.bool true)], args := [d] }
  | _ => none }
def fnExactSquareKindsRow : OpenClaim := { program := "ytdfeoccjllljiaa", sum := "3a9620b4bb39e30f707f6ac50cee79546d708a3ab0c9faffdfb6cb9b7cf3a1e1", func := "loop.example/g01355/laws.FnExactSquareKinds", spec := "fnExactSquareKinds", unfollowed := true, recurses := true, apart := false }
def FnExactSquareKindsSaid : Prop := fnExactSquareKindsRow.holds Try.pinned (OpenSpec.ofChange fnExactSquareKindsSpec)

/-- ITS FALSE NEIGHBOUR: 'it returns false'. Refute it at one input. -/
def fnExactSquareKindsWrong : ChangeSpec := { name := "fnExactSquareKinds", fn := fun _ => fun
  | [d] => { results := [.lit (.bool false)], args := [d] }
  | _ => none }
def FnExactSquareKindsWrongFalsely : Prop := fnExactSquareKindsRow.holds Try.pinned (OpenSpec.ofChange fnExactSquareKindsWrong)

/-- 'laws.FnExactIsDifferenceFamily': WHATEVER THE INPUT: true; the input reads as it did. -/
def fnExactIsDifferenceFamilySpec : ChangeSpec := { name := "fnExactIsDifferenceFamily", fn := fun _ => fun
  | [d1, d2] => { results := [.lit (.bool true)], args := [d1, d2] }
  | _ => none }
def fnExactIsDifferenceFamilyRow : OpenClaim := { program := "ytdfeoccjllljiaa", sum := "3a9620b4bb39e30f707f6ac50cee79546d708a3ab0c9faffdfb6cb9b7cf3a1e1", func := "loop.example/g01355/laws.FnExactIsDifferenceFamily", spec := "fnExactIsDifferenceFamily", unfollowed := true, recurses := true, apart := false }
def FnExactIsDifferenceFamilySaid : Prop := fnExactIsDifferenceFamilyRow.holds Try.pinned (OpenSpec.ofChange fnExactIsDifferenceFamilySpec)

/-- ITS FALSE NEIGHBOUR: 'it returns false'. Refute it at one input. -/
def fnExactIsDifferenceFamilyWrong : ChangeSpec := { name := "fnExactIsDifferenceFamily", fn := fun _ => fun
  | [d1, d2] => { results := [.lit (.bool false)], args := [d1, d2] }
  | _ => none }
def FnExactIsDifferenceFamilyWrongFalsely : Prop := fnExactIsDifferenceFamilyRow.holds Try.pinned (OpenSpec.ofChange fnExactIsDifferenceFamilyWrong)

/-- 'laws.FnExactDifferenceFamilies': WHATEVER THE INPUT: true; the input reads as it did. -/
def fnExactDifferenceFamiliesSpec : ChangeSpec := { name := "fnExactDifferenceFamilies", fn := fun _ => fun
  | [d] => { results := [.lit (.bool true)], args := [d] }
  | _ => none }
def fnExactDifferenceFamiliesRow : OpenClaim := { program := "ytdfeoccjllljiaa", sum := "3a9620b4bb39e30f707f6ac50cee79546d708a3ab0c9faffdfb6cb9b7cf3a1e1", func := "loop.example/g01355/laws.FnExactDifferenceFamilies", spec := "fnExactDifferenceFamilies", unfollowed := true, recurses := true, apart := false }
def FnExactDifferenceFamiliesSaid : Prop := fnExactDifferenceFamiliesRow.holds Try.pinned (OpenSpec.ofChange fnExactDifferenceFamiliesSpec)

/-- ITS FALSE NEIGHBOUR: 'it returns false'. Refute it at one input. -/
def fnExactDifferenceFamiliesWrong : ChangeSpec := { name := "fnExactDifferenceFamilies", fn := fun _ => fun
  | [d] => { results := [.lit (.bool false)], args := [d] }
  | _ => none }
def FnExactDifferenceFamiliesWrongFalsely : Prop := fnExactDifferenceFamiliesRow.holds Try.pinned (OpenSpec.ofChange fnExactDifferenceFamiliesWrong)

/-- 'laws.FnExactNamedSystem': WHATEVER THE INPUT: true; the input reads as it did. -/
def fnExactNamedSystemSpec : ChangeSpec := { name := "fnExactNamedSystem", fn := fun _ => fun
  | [d] => { results := [.lit (.bool true)], args := [d] }
  | _ => none }
def fnExactNamedSystemRow : OpenClaim := { program := "ytdfeoccjllljiaa", sum := "3a9620b4bb39e30f707f6ac50cee79546d708a3ab0c9faffdfb6cb9b7cf3a1e1", func := "loop.example/g01355/laws.FnExactNamedSystem", spec := "fnExactNamedSystem", unfollowed := true, recurses := true, apart := false }
def FnExactNamedSystemSaid : Prop := fnExactNamedSystemRow.holds Try.pinned (OpenSpec.ofChange fnExactNamedSystemSpec)

/-- ITS FALSE NEIGHBOUR: 'it returns false'. Refute it at one input. -/
def fnExactNamedSystemWrong : ChangeSpec := { name := "fnExactNamedSystem", fn := fun _ => fun
  | [d] => { results := [.lit (.bool false)], args := [d] }
  | _ => none }
def FnExactNamedSystemWrongFalsely : Prop := fnExactNamedSystemRow.holds Try.pinned (OpenSpec.ofChange fnExactNamedSystemWrong)

/-- 'laws.FnExactSystemOf': WHATEVER THE INPUT: true; the input reads as it did. -/
def fnExactSystemOfSpec : ChangeSpec := { name := "fnExactSystemOf", fn := fun _ => fun
  | [d1, d2] => { results := [.lit (.bool true)], args := [d1, d2] }
  | _ => none }
def fnExactSystemOfRow : OpenClaim := { program := "ytdfeoccjllljiaa", sum := "3a9620b4bb39e30f707f6ac50cee79546d708a3ab0c9faffdfb6cb9b7cf3a1e1", func := "loop.example/g01355/laws.FnExactSystemOf", spec := "fnExactSystemOf", unfollowed := true, recurses := true, apart := false }
def FnExactSystemOfSaid : Prop := fnExactSystemOfRow.holds Try.pinned (OpenSpec.ofChange fnExactSystemOfSpec)

/-- ITS FALSE NEIGHBOUR: 'it returns false'. Refute it at one input. -/
def fnExactSystemOfWrong : ChangeSpec := { name := "fnExactSystemOf", fn := fun _ => fun
  | [d1, d2] => { results := [.lit (.bool false)], args := [d1, d2] }
  | _ => none }
def FnExactSystemOfWrongFalsely : Prop := fnExactSystemOfRow.holds Try.pinned (OpenSpec.ofChange fnExactSystemOfWrong)

/-- 'laws.FnExactDoubleSystem': WHATEVER THE INPUT: true; the input reads as it did. -/
def fnExactDoubleSystemSpec : ChangeSpec := { name := "fnExactDoubleSystem", fn := fun _ => fun
  | [d] => { results := [.lit (.bool true)], args := [d] }
  | _ => none }
def fnExactDoubleSystemRow : OpenClaim := { program := "ytdfeoccjllljiaa", sum := "3a9620b4bb39e30f707f6ac50cee79546d708a3ab0c9faffdfb6cb9b7cf3a1e1", func := "loop.example/g01355/laws.FnExactDoubleSystem", spec := "fnExactDoubleSystem", unfollowed := true, recurses := true, apart := false }
def FnExactDoubleSystemSaid : Prop := fnExactDoubleSystemRow.holds Try.pinned (OpenSpec.ofChange fnExactDoubleSystemSpec)

/-- ITS FALSE NEIGHBOUR: 'it returns false'. Refute it at one input. -/
def fnExactDoubleSystemWrong : ChangeSpec := { name := "fnExactDoubleSystem", fn := fun _ => fun
  | [d] => { results := [.lit (.bool false)], args := [d] }
  | _ => none }
def FnExactDoubleSystemWrongFalsely : Prop := fnExactDoubleSystemRow.holds Try.pinned (OpenSpec.ofChange fnExactDoubleSystemWrong)

/-- 'laws.FnExactLeadsTo': WHATEVER THE INPUT: true; the input reads as it did. -/
def fnExactLeadsToSpec : ChangeSpec := { name := "fnExactLeadsTo", fn := fun _ => fun
  | [d1, d2, d3] => { results := [.lit (.bool true)], args := [d1, d2, d3] }
  | _ => none }
def fnExactLeadsToRow : OpenClaim := { program := "ytdfeoccjllljiaa", sum := "3a9620b4bb39e30f707f6ac50cee79546d708a3ab0c9faffdfb6cb9b7cf3a1e1", func := "loop.example/g01355/laws.FnExactLeadsTo", spec := "fnExactLeadsTo", unfollowed := true, recurses := true, apart := false }
def FnExactLeadsToSaid : Prop := fnExactLeadsToRow.holds Try.pinned (OpenSpec.ofChange fnExactLeadsToSpec)

/-- ITS FALSE NEIGHBOUR: 'it returns false'. Refute it at one input. -/
def fnExactLeadsToWrong : ChangeSpec := { name := "fnExactLeadsTo", fn := fun _ => fun
  | [d1, d2, d3] => { results := [.lit (.bool false)], args := [d1, d2, d3] }
  | _ => none }
def FnExactLeadsToWrongFalsely : Prop := fnExactLeadsToRow.holds Try.pinned (OpenSpec.ofChange fnExactLeadsToWrong)

/-- 'laws.FnExactRenumberSystem': WHATEVER THE INPUT: true; the input reads as it did. -/
def fnExactRenumberSystemSpec : ChangeSpec := { name := "fnExactRenumberSystem", fn := fun _ => fun
  | [d1, d2] => { results := [.lit (.bool true)], args := [d1, d2] }
  | _ => none }
def fnExactRenumberSystemRow : OpenClaim := { program := "ytdfeoccjllljiaa", sum := "3a9620b4bb39e30f707f6ac50cee79546d708a3ab0c9faffdfb6cb9b7cf3a1e1", func := "loop.example/g01355/laws.FnExactRenumberSystem", spec := "fnExactRenumberSystem", unfollowed := true, recurses := true, apart := false }
def FnExactRenumberSystemSaid : Prop := fnExactRenumberSystemRow.holds Try.pinned (OpenSpec.ofChange fnExactRenumberSystemSpec)

/-- ITS FALSE NEIGHBOUR: 'it returns false'. Refute it at one input. -/
def fnExactRenumberSystemWrong : ChangeSpec := { name := "fnExactRenumberSystem", fn := fun _ => fun
  | [d1, d2] => { results := [.lit (.bool false)], args := [d1, d2] }
  | _ => none }
def FnExactRenumberSystemWrongFalsely : Prop := fnExactRenumberSystemRow.holds Try.pinned (OpenSpec.ofChange fnExactRenumberSystemWrong)

/-- 'laws.FnExactCyclicSystem': WHATEVER THE INPUT: true; the input reads as it did. -/
def fnExactCyclicSystemSpec : ChangeSpec := { name := "fnExactCyclicSystem", fn := fun _ => fun
  | [d1, d2] => { results := [.lit (.bool true)], args := [d1, d2] }
  | _ => none }
def fnExactCyclicSystemRow : OpenClaim := { program := "ytdfeoccjllljiaa", sum := "3a9620b4bb39e30f707f6ac50cee79546d708a3ab0c9faffdfb6cb9b7cf3a1e1", func := "loop.example/g01355/laws.FnExactCyclicSystem", spec := "fnExactCyclicSystem", unfollowed := true, recurses := true, apart := false }
def FnExactCyclicSystemSaid : Prop := fnExactCyclicSystemRow.holds Try.pinned (OpenSpec.ofChange fnExactCyclicSystemSpec)

/-- ITS FALSE NEIGHBOUR: 'it returns false'. Refute it at one input. -/
def fnExactCyclicSystemWrong : ChangeSpec := { name := "fnExactCyclicSystem", fn := fun _ => fun
  | [d1, d2] => { results := [.lit (.bool false)], args := [d1, d2] }
  | _ => none }
def FnExactCyclicSystemWrongFalsely : Prop := fnExactCyclicSystemRow.holds Try.pinned (OpenSpec.ofChange fnExactCyclicSystemWrong)

/-- 'laws.FnExactThreefoldSystem': WHATEVER THE INPUT: true; the input reads as it did. -/
def fnExactThreefoldSystemSpec : ChangeSpec := { name := "fnExactThreefoldSystem", fn := fun _ => fun
  | [d] => { results := [.lit (.bool true)], args := [d] }
  | _ => none }
def fnExactThreefoldSystemRow : OpenClaim := { program := "ytdfeoccjllljiaa", sum := "3a9620b4bb39e30f707f6ac50cee79546d708a3ab0c9faffdfb6cb9b7cf3a1e1", func := "loop.example/g01355/laws.FnExactThreefoldSystem", spec := "fnExactThreefoldSystem", unfollowed := true, recurses := true, apart := false }
def FnExactThreefoldSystemSaid : Prop := fnExactThreefoldSystemRow.holds Try.pinned (OpenSpec.ofChange fnExactThreefoldSystemSpec)

/-- ITS FALSE NEIGHBOUR: 'it returns false'. Refute it at one input. -/
def fnExactThreefoldSystemWrong : ChangeSpec := { name := "fnExactThreefoldSystem", fn := fun _ => fun
  | [d] => { results := [.lit (.bool false)], args := [d] }
  | _ => none }
def FnExactThreefoldSystemWrongFalsely : Prop := fnExactThreefoldSystemRow.holds Try.pinned (OpenSpec.ofChange fnExactThreefoldSystemWrong)

/- THE SECOND FORM. 'bulk': how many values and letters a reading holds, each counted each time it is reached (what is shared counts as often as it is met; a slice's spare places count too). A statement '..UptoSaid' is the law's where the arguments, and the package variables that the reading takes, are together of bulk at most 1048576: NARROWER than '..Said'. Prove '..Said' where nothing that the law and all that it calls make is longer than what came in: it says more and counts as full. Else prove '..UptoSaid'. A law counts once. -/
mutual
def uptoBulk {H : Type} : DataW H → Nat
  | .lit (.string bytes) => bytes.length + 1
  | .lit _ => 1
  | .nil => 1
  | .ptr d => uptoBulk d + 1
  | .slice elems spare => uptoBulkAll elems + uptoBulkAll spare + 1
  | .agg parts => uptoBulkAll parts + 1
  | .iface _ d => uptoBulk d + 1
  | .map entries => uptoBulkEntries entries + 1
  | .held _ => 1
def uptoBulkAll {H : Type} : List (DataW H) → Nat
  | [] => 0
  | d :: r => uptoBulk d + uptoBulkAll r
def uptoBulkEntries {H : Type} : List (Lit × DataW H) → Nat
  | [] => 0
  | x :: r => uptoBulkEntry x + uptoBulkEntries r
def uptoBulkEntry {H : Type} : Lit × DataW H → Nat
  | (.string bytes, d) => bytes.length + uptoBulk d + 1
  | (_, d) => uptoBulk d + 1
 end
def uptoSmall : (H : Type) → List (DataW H) → Bool := fun _ ds => decide (uptoBulkAll ds ≤ 1048576)
def OpenSpec.upto (s : _root_.Go.ChangeSpec) : _root_.Go.OpenSpec := { _root_.Go.OpenSpec.ofChange s with cond := some uptoSmall }

/-- 'laws.FnExactIsMinimalTrade', WHERE WHAT IT READS IS OF BULK AT MOST 1048576: true; the input reads as it did. -/
def fnExactIsMinimalTradeUptoRow : OpenClaim := { program := "ytdfeoccjllljiaa", sum := "3a9620b4bb39e30f707f6ac50cee79546d708a3ab0c9faffdfb6cb9b7cf3a1e1", func := "loop.example/g01355/laws.FnExactIsMinimalTrade", spec := "fnExactIsMinimalTrade", unfollowed := true, recurses := true, apart := false, narrowed := true }
def FnExactIsMinimalTradeUptoSaid : Prop := fnExactIsMinimalTradeUptoRow.holds Try.pinned (OpenSpec.upto fnExactIsMinimalTradeSpec)

/-- 'laws.FnExactProductSystem', WHERE WHAT IT READS IS OF BULK AT MOST 1048576: true; the input reads as it did. -/
def fnExactProductSystemUptoRow : OpenClaim := { program := "ytdfeoccjllljiaa", sum := "3a9620b4bb39e30f707f6ac50cee79546d708a3ab0c9faffdfb6cb9b7cf3a1e1", func := "loop.example/g01355/laws.FnExactProductSystem", spec := "fnExactProductSystem", unfollowed := true, recurses := true, apart := false, narrowed := true }
def FnExactProductSystemUptoSaid : Prop := fnExactProductSystemUptoRow.holds Try.pinned (OpenSpec.upto fnExactProductSystemSpec)

/-- 'laws.FnExactPartsOfTrade', WHERE WHAT IT READS IS OF BULK AT MOST 1048576: true; the input reads as it did. -/
def fnExactPartsOfTradeUptoRow : OpenClaim := { program := "ytdfeoccjllljiaa", sum := "3a9620b4bb39e30f707f6ac50cee79546d708a3ab0c9faffdfb6cb9b7cf3a1e1", func := "loop.example/g01355/laws.FnExactPartsOfTrade", spec := "fnExactPartsOfTrade", unfollowed := true, recurses := true, apart := false, narrowed := true }
def FnExactPartsOfTradeUptoSaid : Prop := fnExactPartsOfTradeUptoRow.holds Try.pinned (OpenSpec.upto fnExactPartsOfTradeSpec)

/-- 'laws.FnExactIsSquare', WHERE WHAT IT READS IS OF BULK AT MOST 1048576: true; the input reads as it did. -/
def fnExactIsSquareUptoRow : OpenClaim := { program := "ytdfeoccjllljiaa", sum := "3a9620b4bb39e30f707f6ac50cee79546d708a3ab0c9faffdfb6cb9b7cf3a1e1", func := "loop.example/g01355/laws.FnExactIsSquare", spec := "fnExactIsSquare", unfollowed := true, recurses := true, apart := false, narrowed := true }
def FnExactIsSquareUptoSaid : Prop := fnExactIsSquareUptoRow.holds Try.pinned (OpenSpec.upto fnExactIsSquareSpec)

/-- 'laws.FnExactSquareKinds', WHERE WHAT IT READS IS OF BULK AT MOST 1048576: true; the input reads as it did. -/
def fnExactSquareKindsUptoRow : OpenClaim := { program := "ytdfeoccjllljiaa", sum := "3a9620b4bb39e30f707f6ac50cee79546d708a3ab0c9faffdfb6cb9b7cf3a1e1", func := "loop.example/g01355/laws.FnExactSquareKinds", spec := "fnExactSquareKinds", unfollowed := true, recurses := true, apart := false, narrowed := true }
def FnExactSquareKindsUptoSaid : Prop := fnExactSquareKindsUptoRow.holds Try.pinned (OpenSpec.upto fnExactSquareKindsSpec)

/-- 'laws.FnExactIsDifferenceFamily', WHERE WHAT IT READS IS OF BULK AT MOST 1048576: true; the input reads as it did. -/
def fnExactIsDifferenceFamilyUptoRow : OpenClaim := { program := "ytdfeoccjllljiaa", sum := "3a9620b4bb39e30f707f6ac50cee79546d708a3ab0c9faffdfb6cb9b7cf3a1e1", func := "loop.example/g01355/laws.FnExactIsDifferenceFamily", spec := "fnExactIsDifferenceFamily", unfollowed := true, recurses := true, apart := false, narrowed := true }
def FnExactIsDifferenceFamilyUptoSaid : Prop := fnExactIsDifferenceFamilyUptoRow.holds Try.pinned (OpenSpec.upto fnExactIsDifferenceFamilySpec)

/-- 'laws.FnExactDifferenceFamilies', WHERE WHAT IT READS IS OF BULK AT MOST 1048576: true; the input reads as it did. -/
def fnExactDifferenceFamiliesUptoRow : OpenClaim := { program := "ytdfeoccjllljiaa", sum := "3a9620b4bb39e30f707f6ac50cee79546d708a3ab0c9faffdfb6cb9b7cf3a1e1", func := "loop.example/g01355/laws.FnExactDifferenceFamilies", spec := "fnExactDifferenceFamilies", unfollowed := true, recurses := true, apart := false, narrowed := true }
def FnExactDifferenceFamiliesUptoSaid : Prop := fnExactDifferenceFamiliesUptoRow.holds Try.pinned (OpenSpec.upto fnExactDifferenceFamiliesSpec)

/-- 'laws.FnExactNamedSystem', WHERE WHAT IT READS IS OF BULK AT MOST 1048576: true; the input reads as it did. -/
def fnExactNamedSystemUptoRow : OpenClaim := { program := "ytdfeoccjllljiaa", sum := "3a9620b4bb39e30f707f6ac50cee79546d708a3ab0c9faffdfb6cb9b7cf3a1e1", func := "loop.example/g01355/laws.FnExactNamedSystem", spec := "fnExactNamedSystem", unfollowed := true, recurses := true, apart := false, narrowed := true }
def FnExactNamedSystemUptoSaid : Prop := fnExactNamedSystemUptoRow.holds Try.pinned (OpenSpec.upto fnExactNamedSystemSpec)

/-- 'laws.FnExactSystemOf', WHERE WHAT IT READS IS OF BULK AT MOST 1048576: true; the input reads as it did. -/
def fnExactSystemOfUptoRow : OpenClaim := { program := "ytdfeoccjllljiaa", sum := "3a9620b4bb39e30f707f6ac50cee79546d708a3ab0c9faffdfb6cb9b7cf3a1e1", func := "loop.example/g01355/laws.FnExactSystemOf", spec := "fnExactSystemOf", unfollowed := true, recurses := true, apart := false, narrowed := true }
def FnExactSystemOfUptoSaid : Prop := fnExactSystemOfUptoRow.holds Try.pinned (OpenSpec.upto fnExactSystemOfSpec)

/-- 'laws.FnExactDoubleSystem', WHERE WHAT IT READS IS OF BULK AT MOST 1048576: true; the input reads as it did. -/
def fnExactDoubleSystemUptoRow : OpenClaim := { program := "ytdfeoccjllljiaa", sum := "3a9620b4bb39e30f707f6ac50cee79546d708a3ab0c9faffdfb6cb9b7cf3a1e1", func := "loop.example/g01355/laws.FnExactDoubleSystem", spec := "fnExactDoubleSystem", unfollowed := true, recurses := true, apart := false, narrowed := true }
def FnExactDoubleSystemUptoSaid : Prop := fnExactDoubleSystemUptoRow.holds Try.pinned (OpenSpec.upto fnExactDoubleSystemSpec)

/-- 'laws.FnExactLeadsTo', WHERE WHAT IT READS IS OF BULK AT MOST 1048576: true; the input reads as it did. -/
def fnExactLeadsToUptoRow : OpenClaim := { program := "ytdfeoccjllljiaa", sum := "3a9620b4bb39e30f707f6ac50cee79546d708a3ab0c9faffdfb6cb9b7cf3a1e1", func := "loop.example/g01355/laws.FnExactLeadsTo", spec := "fnExactLeadsTo", unfollowed := true, recurses := true, apart := false, narrowed := true }
def FnExactLeadsToUptoSaid : Prop := fnExactLeadsToUptoRow.holds Try.pinned (OpenSpec.upto fnExactLeadsToSpec)

/-- 'laws.FnExactRenumberSystem', WHERE WHAT IT READS IS OF BULK AT MOST 1048576: true; the input reads as it did. -/
def fnExactRenumberSystemUptoRow : OpenClaim := { program := "ytdfeoccjllljiaa", sum := "3a9620b4bb39e30f707f6ac50cee79546d708a3ab0c9faffdfb6cb9b7cf3a1e1", func := "loop.example/g01355/laws.FnExactRenumberSystem", spec := "fnExactRenumberSystem", unfollowed := true, recurses := true, apart := false, narrowed := true }
def FnExactRenumberSystemUptoSaid : Prop := fnExactRenumberSystemUptoRow.holds Try.pinned (OpenSpec.upto fnExactRenumberSystemSpec)

/-- 'laws.FnExactCyclicSystem', WHERE WHAT IT READS IS OF BULK AT MOST 1048576: true; the input reads as it did. -/
def fnExactCyclicSystemUptoRow : OpenClaim := { program := "ytdfeoccjllljiaa", sum := "3a9620b4bb39e30f707f6ac50cee79546d708a3ab0c9faffdfb6cb9b7cf3a1e1", func := "loop.example/g01355/laws.FnExactCyclicSystem", spec := "fnExactCyclicSystem", unfollowed := true, recurses := true, apart := false, narrowed := true }
def FnExactCyclicSystemUptoSaid : Prop := fnExactCyclicSystemUptoRow.holds Try.pinned (OpenSpec.upto fnExactCyclicSystemSpec)

/-- 'laws.FnExactThreefoldSystem', WHERE WHAT IT READS IS OF BULK AT MOST 1048576: true; the input reads as it did. -/
def fnExactThreefoldSystemUptoRow : OpenClaim := { program := "ytdfeoccjllljiaa", sum := "3a9620b4bb39e30f707f6ac50cee79546d708a3ab0c9faffdfb6cb9b7cf3a1e1", func := "loop.example/g01355/laws.FnExactThreefoldSystem", spec := "fnExactThreefoldSystem", unfollowed := true, recurses := true, apart := false, narrowed := true }
def FnExactThreefoldSystemUptoSaid : Prop := fnExactThreefoldSystemUptoRow.holds Try.pinned (OpenSpec.upto fnExactThreefoldSystemSpec)

end Rows
end Go.Proofs.Ytdfeoccjllljiaa
