/-
  No cell of these rows narrows 'for every input' (looked for: loops, veiled, ifaces, maps, wideKeys, modest, calm, conditions, laid).
  DERIVED. THE GIVEN ROWS OF THIS SEAT. 22 by the template 'for every input the law returns true; each argument reads behind the call as it read before'; 0 by the template 'total and deterministic' (their statements: YtkgjdmbmdnmilaaTotals.lean).
  GIVEN WITH THE SEED: the statements are not yours to turn. If you find one false, say at which input.
  Laid BY PROGRAM, IN A SANDBOX (cutbox-rows.mjs): the forced cells as the released guide's own fill.sh prints them over the translation 83f3e76db284b669… (all of the seat's roots in one cut). By AI agents, Wed Nov 11 2026. No macro, syntax, notation, axiom, sorry.
-/
import Derived.Test.YtkgjdmbmdnmilaaChecked
import GoSem.Claim
import GoSem.ClaimJoined
import GoSem.ClaimMapViews
import Derived.JoinedTies
import Derived.KernelRfl
namespace Go.Proofs.Ytkgjdmbmdnmilaa
/- THE CELL 'sum', in the pinned program and in every row, IS THE sha256 OF THE DUMP (.gsa) THAT YtkgjdmbmdnmilaaProg.lean LOADS. Nothing in Lean hashes anything: it is a label: what it is worth is what the hold of that sum in a sandbox is worth. -/
noncomputable def Try.pinned : Pinned := { name := "ytkgjdmbmdnmilaa", sum := "83f3e76db284b669401b9e262dcb0d61442100a282d3d7614a2bfffbdd17738b", checked := Try.checked }
namespace Rows
def none {H : Type} : Left H := { results := [], args := [] }

/-- 'laws.FnExactConstants': WHATEVER THE INPUT: true; the input reads as it did. -/
def fnExactConstantsSpec : ChangeSpec := { name := "fnExactConstants", fn := fun _ => fun
  | [] => { results := [.lit (.bool true)], args := [] }
  | _ => none }
def fnExactConstantsRow : OpenClaim := { program := "ytkgjdmbmdnmilaa", sum := "83f3e76db284b669401b9e262dcb0d61442100a282d3d7614a2bfffbdd17738b", func := "loop.example/g01355/laws.FnExactConstants", spec := "fnExactConstants", apart := false }
def FnExactConstantsSaid : Prop := fnExactConstantsRow.holds Try.pinned (OpenSpec.ofChange fnExactConstantsSpec)

/-- ITS FALSE NEIGHBOUR: 'it returns false'. Refute it at one input. -/
def fnExactConstantsWrong : ChangeSpec := { name := "fnExactConstants", fn := fun _ => fun
  | [] => { results := [.lit (.bool false)], args := [] }
  | _ => none }
def FnExactConstantsWrongFalsely : Prop := fnExactConstantsRow.holds Try.pinned (OpenSpec.ofChange fnExactConstantsWrong)

/-- 'laws.FnExactSquareOf': WHATEVER THE INPUT: true; the input reads as it did. -/
def fnExactSquareOfSpec : ChangeSpec := { name := "fnExactSquareOf", fn := fun _ => fun
  | [d] => { results := [.lit (.bool true)], args := [d] }
  | _ => none }
def fnExactSquareOfRow : OpenClaim := { program := "ytkgjdmbmdnmilaa", sum := "83f3e76db284b669401b9e262dcb0d61442100a282d3d7614a2bfffbdd17738b", func := "loop.example/g01355/laws.FnExactSquareOf", spec := "fnExactSquareOf", apart := false }
def FnExactSquareOfSaid : Prop := fnExactSquareOfRow.holds Try.pinned (OpenSpec.ofChange fnExactSquareOfSpec)

/-- ITS FALSE NEIGHBOUR: 'it returns false'. Refute it at one input. -/
def fnExactSquareOfWrong : ChangeSpec := { name := "fnExactSquareOf", fn := fun _ => fun
  | [d] => { results := [.lit (.bool false)], args := [d] }
  | _ => none }
def FnExactSquareOfWrongFalsely : Prop := fnExactSquareOfRow.holds Try.pinned (OpenSpec.ofChange fnExactSquareOfWrong)

/-- 'laws.FnExactIsSystem': WHATEVER THE INPUT: true; the input reads as it did. -/
def fnExactIsSystemSpec : ChangeSpec := { name := "fnExactIsSystem", fn := fun _ => fun
  | [d] => { results := [.lit (.bool true)], args := [d] }
  | _ => none }
def fnExactIsSystemRow : OpenClaim := { program := "ytkgjdmbmdnmilaa", sum := "83f3e76db284b669401b9e262dcb0d61442100a282d3d7614a2bfffbdd17738b", func := "loop.example/g01355/laws.FnExactIsSystem", spec := "fnExactIsSystem", apart := false }
def FnExactIsSystemSaid : Prop := fnExactIsSystemRow.holds Try.pinned (OpenSpec.ofChange fnExactIsSystemSpec)

/-- ITS FALSE NEIGHBOUR: 'it returns false'. Refute it at one input. -/
def fnExactIsSystemWrong : ChangeSpec := { name := "fnExactIsSystem", fn := fun _ => fun
  | [d] => { results := [.lit (.bool false)], args := [d] }
  | _ => none }
def FnExactIsSystemWrongFalsely : Prop := fnExactIsSystemRow.holds Try.pinned (OpenSpec.ofChange fnExactIsSystemWrong)

/-- 'laws.FnExactIsFull': WHATEVER THE INPUT: true; the input reads as it did. -/
def fnExactIsFullSpec : ChangeSpec := { name := "fnExactIsFull", fn := fun _ => fun
  | [d] => { results := [.lit (.bool true)], args := [d] }
  | _ => none }
def fnExactIsFullRow : OpenClaim := { program := "ytkgjdmbmdnmilaa", sum := "83f3e76db284b669401b9e262dcb0d61442100a282d3d7614a2bfffbdd17738b", func := "loop.example/g01355/laws.FnExactIsFull", spec := "fnExactIsFull", apart := false }
def FnExactIsFullSaid : Prop := fnExactIsFullRow.holds Try.pinned (OpenSpec.ofChange fnExactIsFullSpec)

/-- ITS FALSE NEIGHBOUR: 'it returns false'. Refute it at one input. -/
def fnExactIsFullWrong : ChangeSpec := { name := "fnExactIsFull", fn := fun _ => fun
  | [d] => { results := [.lit (.bool false)], args := [d] }
  | _ => none }
def FnExactIsFullWrongFalsely : Prop := fnExactIsFullRow.holds Try.pinned (OpenSpec.ofChange fnExactIsFullWrong)

/-- 'laws.FnExactDifferenceFamilies': WHATEVER THE INPUT: true; the input reads as it did. -/
def fnExactDifferenceFamiliesSpec : ChangeSpec := { name := "fnExactDifferenceFamilies", fn := fun _ => fun
  | [d] => { results := [.lit (.bool true)], args := [d] }
  | _ => none }
def fnExactDifferenceFamiliesRow : OpenClaim := { program := "ytkgjdmbmdnmilaa", sum := "83f3e76db284b669401b9e262dcb0d61442100a282d3d7614a2bfffbdd17738b", func := "loop.example/g01355/laws.FnExactDifferenceFamilies", spec := "fnExactDifferenceFamilies", unfollowed := true, recurses := true, apart := false }
def FnExactDifferenceFamiliesSaid : Prop := fnExactDifferenceFamiliesRow.holds Try.pinned (OpenSpec.ofChange fnExactDifferenceFamiliesSpec)

/-- ITS FALSE NEIGHBOUR: 'it returns false'. Refute it at one input. -/
def fnExactDifferenceFamiliesWrong : ChangeSpec := { name := "fnExactDifferenceFamilies", fn := fun _ => fun
  | [d] => { results := [.lit (.bool false)], args := [d] }
  | _ => none }
def FnExactDifferenceFamiliesWrongFalsely : Prop := fnExactDifferenceFamiliesRow.holds Try.pinned (OpenSpec.ofChange fnExactDifferenceFamiliesWrong)

/-- 'laws.FnExactThirdPoint': WHATEVER THE INPUT: true; the input reads as it did. -/
def fnExactThirdPointSpec : ChangeSpec := { name := "fnExactThirdPoint", fn := fun _ => fun
  | [d1, d2, d3] => { results := [.lit (.bool true)], args := [d1, d2, d3] }
  | _ => none }
def fnExactThirdPointRow : OpenClaim := { program := "ytkgjdmbmdnmilaa", sum := "83f3e76db284b669401b9e262dcb0d61442100a282d3d7614a2bfffbdd17738b", func := "loop.example/g01355/laws.FnExactThirdPoint", spec := "fnExactThirdPoint", apart := false }
def FnExactThirdPointSaid : Prop := fnExactThirdPointRow.holds Try.pinned (OpenSpec.ofChange fnExactThirdPointSpec)

/-- ITS FALSE NEIGHBOUR: 'it returns false'. Refute it at one input. -/
def fnExactThirdPointWrong : ChangeSpec := { name := "fnExactThirdPoint", fn := fun _ => fun
  | [d1, d2, d3] => { results := [.lit (.bool false)], args := [d1, d2, d3] }
  | _ => none }
def FnExactThirdPointWrongFalsely : Prop := fnExactThirdPointRow.holds Try.pinned (OpenSpec.ofChange fnExactThirdPointWrong)

/-- 'laws.FnExactDegreesOf': WHATEVER THE INPUT: true; the input reads as it did. -/
def fnExactDegreesOfSpec : ChangeSpec := { name := "fnExactDegreesOf", fn := fun _ => fun
  | [d] => { results := [.lit (.bool true)], args := [d] }
  | _ => none }
def fnExactDegreesOfRow : OpenClaim := { program := "ytkgjdmbmdnmilaa", sum := "83f3e76db284b669401b9e262dcb0d61442100a282d3d7614a2bfffbdd17738b", func := "loop.example/g01355/laws.FnExactDegreesOf", spec := "fnExactDegreesOf", apart := false }
def FnExactDegreesOfSaid : Prop := fnExactDegreesOfRow.holds Try.pinned (OpenSpec.ofChange fnExactDegreesOfSpec)

/-- ITS FALSE NEIGHBOUR: 'it returns false'. Refute it at one input. -/
def fnExactDegreesOfWrong : ChangeSpec := { name := "fnExactDegreesOf", fn := fun _ => fun
  | [d] => { results := [.lit (.bool false)], args := [d] }
  | _ => none }
def FnExactDegreesOfWrongFalsely : Prop := fnExactDegreesOfRow.holds Try.pinned (OpenSpec.ofChange fnExactDegreesOfWrong)

/-- 'laws.FnExactFreeBlocks': WHATEVER THE INPUT: true; the input reads as it did. -/
def fnExactFreeBlocksSpec : ChangeSpec := { name := "fnExactFreeBlocks", fn := fun _ => fun
  | [d] => { results := [.lit (.bool true)], args := [d] }
  | _ => none }
def fnExactFreeBlocksRow : OpenClaim := { program := "ytkgjdmbmdnmilaa", sum := "83f3e76db284b669401b9e262dcb0d61442100a282d3d7614a2bfffbdd17738b", func := "loop.example/g01355/laws.FnExactFreeBlocks", spec := "fnExactFreeBlocks", unfollowed := true, recurses := true, apart := false }
def FnExactFreeBlocksSaid : Prop := fnExactFreeBlocksRow.holds Try.pinned (OpenSpec.ofChange fnExactFreeBlocksSpec)

/-- ITS FALSE NEIGHBOUR: 'it returns false'. Refute it at one input. -/
def fnExactFreeBlocksWrong : ChangeSpec := { name := "fnExactFreeBlocks", fn := fun _ => fun
  | [d] => { results := [.lit (.bool false)], args := [d] }
  | _ => none }
def FnExactFreeBlocksWrongFalsely : Prop := fnExactFreeBlocksRow.holds Try.pinned (OpenSpec.ofChange fnExactFreeBlocksWrong)

/-- 'laws.FnExactCommonBlocks': WHATEVER THE INPUT: true; the input reads as it did. -/
def fnExactCommonBlocksSpec : ChangeSpec := { name := "fnExactCommonBlocks", fn := fun _ => fun
  | [d1, d2] => { results := [.lit (.bool true)], args := [d1, d2] }
  | _ => none }
def fnExactCommonBlocksRow : OpenClaim := { program := "ytkgjdmbmdnmilaa", sum := "83f3e76db284b669401b9e262dcb0d61442100a282d3d7614a2bfffbdd17738b", func := "loop.example/g01355/laws.FnExactCommonBlocks", spec := "fnExactCommonBlocks", apart := false }
def FnExactCommonBlocksSaid : Prop := fnExactCommonBlocksRow.holds Try.pinned (OpenSpec.ofChange fnExactCommonBlocksSpec)

/-- ITS FALSE NEIGHBOUR: 'it returns false'. Refute it at one input. -/
def fnExactCommonBlocksWrong : ChangeSpec := { name := "fnExactCommonBlocks", fn := fun _ => fun
  | [d1, d2] => { results := [.lit (.bool false)], args := [d1, d2] }
  | _ => none }
def FnExactCommonBlocksWrongFalsely : Prop := fnExactCommonBlocksRow.holds Try.pinned (OpenSpec.ofChange fnExactCommonBlocksWrong)

/-- 'laws.FnExactTakeBlock': WHATEVER THE INPUT: true; the input reads as it did. -/
def fnExactTakeBlockSpec : ChangeSpec := { name := "fnExactTakeBlock", fn := fun _ => fun
  | [d1, d2] => { results := [.lit (.bool true)], args := [d1, d2] }
  | _ => none }
def fnExactTakeBlockRow : OpenClaim := { program := "ytkgjdmbmdnmilaa", sum := "83f3e76db284b669401b9e262dcb0d61442100a282d3d7614a2bfffbdd17738b", func := "loop.example/g01355/laws.FnExactTakeBlock", spec := "fnExactTakeBlock", apart := false }
def FnExactTakeBlockSaid : Prop := fnExactTakeBlockRow.holds Try.pinned (OpenSpec.ofChange fnExactTakeBlockSpec)

/-- ITS FALSE NEIGHBOUR: 'it returns false'. Refute it at one input. -/
def fnExactTakeBlockWrong : ChangeSpec := { name := "fnExactTakeBlock", fn := fun _ => fun
  | [d1, d2] => { results := [.lit (.bool false)], args := [d1, d2] }
  | _ => none }
def FnExactTakeBlockWrongFalsely : Prop := fnExactTakeBlockRow.holds Try.pinned (OpenSpec.ofChange fnExactTakeBlockWrong)

/-- 'laws.FnExactCountColourings': WHATEVER THE INPUT: true; the input reads as it did. -/
def fnExactCountColouringsSpec : ChangeSpec := { name := "fnExactCountColourings", fn := fun _ => fun
  | [d1, d2] => { results := [.lit (.bool true)], args := [d1, d2] }
  | _ => none }
def fnExactCountColouringsRow : OpenClaim := { program := "ytkgjdmbmdnmilaa", sum := "83f3e76db284b669401b9e262dcb0d61442100a282d3d7614a2bfffbdd17738b", func := "loop.example/g01355/laws.FnExactCountColourings", spec := "fnExactCountColourings", recurses := true, apart := false }
def FnExactCountColouringsSaid : Prop := fnExactCountColouringsRow.holds Try.pinned (OpenSpec.ofChange fnExactCountColouringsSpec)

/-- ITS FALSE NEIGHBOUR: 'it returns false'. Refute it at one input. -/
def fnExactCountColouringsWrong : ChangeSpec := { name := "fnExactCountColourings", fn := fun _ => fun
  | [d1, d2] => { results := [.lit (.bool false)], args := [d1, d2] }
  | _ => none }
def FnExactCountColouringsWrongFalsely : Prop := fnExactCountColouringsRow.holds Try.pinned (OpenSpec.ofChange fnExactCountColouringsWrong)

/-- 'laws.FnExactIsColouring': WHATEVER THE INPUT: true; the input reads as it did. -/
def fnExactIsColouringSpec : ChangeSpec := { name := "fnExactIsColouring", fn := fun _ => fun
  | [d1, d2, d3] => { results := [.lit (.bool true)], args := [d1, d2, d3] }
  | _ => none }
def fnExactIsColouringRow : OpenClaim := { program := "ytkgjdmbmdnmilaa", sum := "83f3e76db284b669401b9e262dcb0d61442100a282d3d7614a2bfffbdd17738b", func := "loop.example/g01355/laws.FnExactIsColouring", spec := "fnExactIsColouring", unfollowed := true, recurses := true, apart := false }
def FnExactIsColouringSaid : Prop := fnExactIsColouringRow.holds Try.pinned (OpenSpec.ofChange fnExactIsColouringSpec)

/-- ITS FALSE NEIGHBOUR: 'it returns false'. Refute it at one input. -/
def fnExactIsColouringWrong : ChangeSpec := { name := "fnExactIsColouring", fn := fun _ => fun
  | [d1, d2, d3] => { results := [.lit (.bool false)], args := [d1, d2, d3] }
  | _ => none }
def FnExactIsColouringWrongFalsely : Prop := fnExactIsColouringRow.holds Try.pinned (OpenSpec.ofChange fnExactIsColouringWrong)

/-- 'laws.FnExactIsStrict': WHATEVER THE INPUT: true; the input reads as it did. -/
def fnExactIsStrictSpec : ChangeSpec := { name := "fnExactIsStrict", fn := fun _ => fun
  | [d1, d2, d3] => { results := [.lit (.bool true)], args := [d1, d2, d3] }
  | _ => none }
def fnExactIsStrictRow : OpenClaim := { program := "ytkgjdmbmdnmilaa", sum := "83f3e76db284b669401b9e262dcb0d61442100a282d3d7614a2bfffbdd17738b", func := "loop.example/g01355/laws.FnExactIsStrict", spec := "fnExactIsStrict", unfollowed := true, recurses := true, apart := false }
def FnExactIsStrictSaid : Prop := fnExactIsStrictRow.holds Try.pinned (OpenSpec.ofChange fnExactIsStrictSpec)

/-- ITS FALSE NEIGHBOUR: 'it returns false'. Refute it at one input. -/
def fnExactIsStrictWrong : ChangeSpec := { name := "fnExactIsStrict", fn := fun _ => fun
  | [d1, d2, d3] => { results := [.lit (.bool false)], args := [d1, d2, d3] }
  | _ => none }
def FnExactIsStrictWrongFalsely : Prop := fnExactIsStrictRow.holds Try.pinned (OpenSpec.ofChange fnExactIsStrictWrong)

/-- 'laws.FnExactIsIndependent': WHATEVER THE INPUT: true; the input reads as it did. -/
def fnExactIsIndependentSpec : ChangeSpec := { name := "fnExactIsIndependent", fn := fun _ => fun
  | [d1, d2] => { results := [.lit (.bool true)], args := [d1, d2] }
  | _ => none }
def fnExactIsIndependentRow : OpenClaim := { program := "ytkgjdmbmdnmilaa", sum := "83f3e76db284b669401b9e262dcb0d61442100a282d3d7614a2bfffbdd17738b", func := "loop.example/g01355/laws.FnExactIsIndependent", spec := "fnExactIsIndependent", unfollowed := true, recurses := true, apart := false }
def FnExactIsIndependentSaid : Prop := fnExactIsIndependentRow.holds Try.pinned (OpenSpec.ofChange fnExactIsIndependentSpec)

/-- ITS FALSE NEIGHBOUR: 'it returns false'. Refute it at one input. -/
def fnExactIsIndependentWrong : ChangeSpec := { name := "fnExactIsIndependent", fn := fun _ => fun
  | [d1, d2] => { results := [.lit (.bool false)], args := [d1, d2] }
  | _ => none }
def FnExactIsIndependentWrongFalsely : Prop := fnExactIsIndependentRow.holds Try.pinned (OpenSpec.ofChange fnExactIsIndependentWrong)

/-- 'laws.FnExactPairsLeft': WHATEVER THE INPUT: true; the input reads as it did. -/
def fnExactPairsLeftSpec : ChangeSpec := { name := "fnExactPairsLeft", fn := fun _ => fun
  | [d] => { results := [.lit (.bool true)], args := [d] }
  | _ => none }
def fnExactPairsLeftRow : OpenClaim := { program := "ytkgjdmbmdnmilaa", sum := "83f3e76db284b669401b9e262dcb0d61442100a282d3d7614a2bfffbdd17738b", func := "loop.example/g01355/laws.FnExactPairsLeft", spec := "fnExactPairsLeft", apart := false }
def FnExactPairsLeftSaid : Prop := fnExactPairsLeftRow.holds Try.pinned (OpenSpec.ofChange fnExactPairsLeftSpec)

/-- ITS FALSE NEIGHBOUR: 'it returns false'. Refute it at one input. -/
def fnExactPairsLeftWrong : ChangeSpec := { name := "fnExactPairsLeft", fn := fun _ => fun
  | [d] => { results := [.lit (.bool false)], args := [d] }
  | _ => none }
def FnExactPairsLeftWrongFalsely : Prop := fnExactPairsLeftRow.holds Try.pinned (OpenSpec.ofChange fnExactPairsLeftWrong)

/-- 'laws.FnExactCountIndependent': WHATEVER THE INPUT: true; the input reads as it did. -/
def fnExactCountIndependentSpec : ChangeSpec := { name := "fnExactCountIndependent", fn := fun _ => fun
  | [d1, d2] => { results := [.lit (.bool true)], args := [d1, d2] }
  | _ => none }
def fnExactCountIndependentRow : OpenClaim := { program := "ytkgjdmbmdnmilaa", sum := "83f3e76db284b669401b9e262dcb0d61442100a282d3d7614a2bfffbdd17738b", func := "loop.example/g01355/laws.FnExactCountIndependent", spec := "fnExactCountIndependent", unfollowed := true, recurses := true, apart := false }
def FnExactCountIndependentSaid : Prop := fnExactCountIndependentRow.holds Try.pinned (OpenSpec.ofChange fnExactCountIndependentSpec)

/-- ITS FALSE NEIGHBOUR: 'it returns false'. Refute it at one input. -/
def fnExactCountIndependentWrong : ChangeSpec := { name := "fnExactCountIndependent", fn := fun _ => fun
  | [d1, d2] => { results := [.lit (.bool false)], args := [d1, d2] }
  | _ => none }
def FnExactCountIndependentWrongFalsely : Prop := fnExactCountIndependentRow.holds Try.pinned (OpenSpec.ofChange fnExactCountIndependentWrong)

/-- 'laws.FnExactProductSystem': WHATEVER THE INPUT: true; the input reads as it did. -/
def fnExactProductSystemSpec : ChangeSpec := { name := "fnExactProductSystem", fn := fun _ => fun
  | [d1, d2] => { results := [.lit (.bool true)], args := [d1, d2] }
  | _ => none }
def fnExactProductSystemRow : OpenClaim := { program := "ytkgjdmbmdnmilaa", sum := "83f3e76db284b669401b9e262dcb0d61442100a282d3d7614a2bfffbdd17738b", func := "loop.example/g01355/laws.FnExactProductSystem", spec := "fnExactProductSystem", unfollowed := true, recurses := true, apart := false }
def FnExactProductSystemSaid : Prop := fnExactProductSystemRow.holds Try.pinned (OpenSpec.ofChange fnExactProductSystemSpec)

/-- ITS FALSE NEIGHBOUR: 'it returns false'. Refute it at one input. -/
def fnExactProductSystemWrong : ChangeSpec := { name := "fnExactProductSystem", fn := fun _ => fun
  | [d1, d2] => { results := [.lit (.bool false)], args := [d1, d2] }
  | _ => none }
def FnExactProductSystemWrongFalsely : Prop := fnExactProductSystemRow.holds Try.pinned (OpenSpec.ofChange fnExactProductSystemWrong)

/-- 'laws.FnExactBlocksOn': WHATEVER THE INPUT: true; the input reads as it did. -/
def fnExactBlocksOnSpec : ChangeSpec := { name := "fnExactBlocksOn", fn := fun _ => fun
  | [d1, d2] => { results := [.lit (.bool true)], args := [d1, d2] }
  | _ => none }
def fnExactBlocksOnRow : OpenClaim := { program := "ytkgjdmbmdnmilaa", sum := "83f3e76db284b669401b9e262dcb0d61442100a282d3d7614a2bfffbdd17738b", func := "loop.example/g01355/laws.FnExactBlocksOn", spec := "fnExactBlocksOn", apart := false }
def FnExactBlocksOnSaid : Prop := fnExactBlocksOnRow.holds Try.pinned (OpenSpec.ofChange fnExactBlocksOnSpec)

/-- ITS FALSE NEIGHBOUR: 'it returns false'. Refute it at one input. -/
def fnExactBlocksOnWrong : ChangeSpec := { name := "fnExactBlocksOn", fn := fun _ => fun
  | [d1, d2] => { results := [.lit (.bool false)], args := [d1, d2] }
  | _ => none }
def FnExactBlocksOnWrongFalsely : Prop := fnExactBlocksOnRow.holds Try.pinned (OpenSpec.ofChange fnExactBlocksOnWrong)

/-- 'laws.FnExactCyclesOf': WHATEVER THE INPUT: true; the input reads as it did. -/
def fnExactCyclesOfSpec : ChangeSpec := { name := "fnExactCyclesOf", fn := fun _ => fun
  | [d1, d2, d3] => { results := [.lit (.bool true)], args := [d1, d2, d3] }
  | _ => none }
def fnExactCyclesOfRow : OpenClaim := { program := "ytkgjdmbmdnmilaa", sum := "83f3e76db284b669401b9e262dcb0d61442100a282d3d7614a2bfffbdd17738b", func := "loop.example/g01355/laws.FnExactCyclesOf", spec := "fnExactCyclesOf", apart := false }
def FnExactCyclesOfSaid : Prop := fnExactCyclesOfRow.holds Try.pinned (OpenSpec.ofChange fnExactCyclesOfSpec)

/-- ITS FALSE NEIGHBOUR: 'it returns false'. Refute it at one input. -/
def fnExactCyclesOfWrong : ChangeSpec := { name := "fnExactCyclesOf", fn := fun _ => fun
  | [d1, d2, d3] => { results := [.lit (.bool false)], args := [d1, d2, d3] }
  | _ => none }
def FnExactCyclesOfWrongFalsely : Prop := fnExactCyclesOfRow.holds Try.pinned (OpenSpec.ofChange fnExactCyclesOfWrong)

/-- 'laws.FnExactIsSquare': WHATEVER THE INPUT: true; the input reads as it did. -/
def fnExactIsSquareSpec : ChangeSpec := { name := "fnExactIsSquare", fn := fun _ => fun
  | [d] => { results := [.lit (.bool true)], args := [d] }
  | _ => none }
def fnExactIsSquareRow : OpenClaim := { program := "ytkgjdmbmdnmilaa", sum := "83f3e76db284b669401b9e262dcb0d61442100a282d3d7614a2bfffbdd17738b", func := "loop.example/g01355/laws.FnExactIsSquare", spec := "fnExactIsSquare", unfollowed := true, recurses := true, apart := false }
def FnExactIsSquareSaid : Prop := fnExactIsSquareRow.holds Try.pinned (OpenSpec.ofChange fnExactIsSquareSpec)

/-- ITS FALSE NEIGHBOUR: 'it returns false'. Refute it at one input. -/
def fnExactIsSquareWrong : ChangeSpec := { name := "fnExactIsSquare", fn := fun _ => fun
  | [d] => { results := [.lit (.bool false)], args := [d] }
  | _ => none }
def FnExactIsSquareWrongFalsely : Prop := fnExactIsSquareRow.holds Try.pinned (OpenSpec.ofChange fnExactIsSquareWrong)

/-- 'laws.FnExactSquareKinds': WHATEVER THE INPUT: true; the input reads as it did. -/
def fnExactSquareKindsSpec : ChangeSpec := { name := "fnExactSquareKinds", fn := fun _ => fun
  | [d] => { results := [.lit (.bool true)], args := [d] }
  | _ => none }
def fnExactSquareKindsRow : OpenClaim := { program := "ytkgjdmbmdnmilaa", sum := "83f3e76db284b669401b9e262dcb0d61442100a282d3d7614a2bfffbdd17738b", func := "loop.example/g01355/laws.FnExactSquareKinds", spec := "fnExactSquareKinds", unfollowed := true, recurses := true, apart := false }
def FnExactSquareKindsSaid : Prop := fnExactSquareKindsRow.holds Try.pinned (OpenSpec.ofChange fnExactSquareKindsSpec)

/-- ITS FALSE NEIGHBOUR: 'it returns false'. Refute it at one input. -/
def fnExactSquareKindsWrong : ChangeSpec := { name := "fnExactSquareKinds", fn := fun _ => fun
  | [d] => { results := [.lit (.bool false)], args := [d] }
  | _ => none }
def FnExactSquareKindsWrongFalsely : Prop := fnExactSquareKindsRow.holds Try.pinned (OpenSpec.ofChange fnExactSquareKindsWrong)

/-- 'laws.FnExactIsDifferenceFamily': WHATEVER THE INPUT: true; the input reads as it did. -/
def fnExactIsDifferenceFamilySpec : ChangeSpec := { name := "fnExactIsDifferenceFamily", fn := fun _ => fun
  | [d1, d2] => { results := [.lit (.bool true)], args := [d1, d2] }
  | _ => none }
def fnExactIsDifferenceFamilyRow : OpenClaim := { program := "ytkgjdmbmdnmilaa", sum := "83f3e76db284b669401b9e262dcb0d61442100a282d3d7614a2bfffbdd17738b", func := "loop.example/g01355/laws.FnExactIsDifferenceFamily", spec := "fnExactIsDifferenceFamily", unfollowed := true, recurses := true, apart := false }
def FnExactIsDifferenceFamilySaid : Prop := fnExactIsDifferenceFamilyRow.holds Try.pinned (OpenSpec.ofChange fnExactIsDifferenceFamilySpec)

/-- ITS FALSE NEIGHBOUR: 'it returns false'. Refute it at one input. -/
def fnExactIsDifferenceFamilyWrong : ChangeSpec := { name := "fnExactIsDifferenceFamily", fn := fun _ => fun
  | [d1, d2] => { results := [.lit (.bool false)], args := [d1, d2] }
  | _ => none }
def FnExactIsDifferenceFamilyWrongFalsely : Prop := fnExactIsDifferenceFamilyRow.holds Try.pinned (OpenSpec.ofChange fnExactIsDifferenceFamilyWrong)

/- THE SECOND FORM. 'bulk': how many values and letters a reading holds, each counted each time it is reached (what is shared counts as often as it is met; a slice's spare places count too). A statement '..UptoSaid' is the law's where the arguments, and the package variables that the reading takes, are together of bulk at most 1048576: NARROWER than '..Said'. Prove '..Said' where nothing that the law and all that it calls make is longer than what came in: it says more and counts as full. Else prove '..UptoSaid'. A law counts once. -/
mutual
def uptoBulk {H : Type} : DataW H → Nat
  | .lit (.string bytes) => bytes.length + 1
  | .lit _ => 1
  | .nil => 1
  | .ptr d => uptoBulk d + 1
  | .slice elems spare => uptoBulkAll elems + uptoBulkAll spare + 1
  | .agg parts => uptoBulkAll parts + 1
  | .iface _ d => uptoBulk d + 1
  | .map entries => uptoBulkEntries entries + 1
  | .held _ => 1
def uptoBulkAll {H : Type} : List (DataW H) → Nat
  | [] => 0
  | d :: r => uptoBulk d + uptoBulkAll r
def uptoBulkEntries {H : Type} : List (Lit × DataW H) → Nat
  | [] => 0
  | x :: r => uptoBulkEntry x + uptoBulkEntries r
def uptoBulkEntry {H : Type} : Lit × DataW H → Nat
  | (.string bytes, d) => bytes.length + uptoBulk d + 1
  | (_, d) => uptoBulk d + 1
 end
def uptoSmall : (H : Type) → List (DataW H) → Bool := fun _ ds => decide (uptoBulkAll ds ≤ 1048576)
def OpenSpec.upto (s : _root_.Go.ChangeSpec) : _root_.Go.OpenSpec := { _root_.Go.OpenSpec.ofChange s with cond := some uptoSmall }

/-- 'laws.FnExactConstants', WHERE WHAT IT READS IS OF BULK AT MOST 1048576: true; the input reads as it did. -/
def fnExactConstantsUptoRow : OpenClaim := { program := "ytkgjdmbmdnmilaa", sum := "83f3e76db284b669401b9e262dcb0d61442100a282d3d7614a2bfffbdd17738b", func := "loop.example/g01355/laws.FnExactConstants", spec := "fnExactConstants", apart := false, narrowed := true }
def FnExactConstantsUptoSaid : Prop := fnExactConstantsUptoRow.holds Try.pinned (OpenSpec.upto fnExactConstantsSpec)

/-- 'laws.FnExactSquareOf', WHERE WHAT IT READS IS OF BULK AT MOST 1048576: true; the input reads as it did. -/
def fnExactSquareOfUptoRow : OpenClaim := { program := "ytkgjdmbmdnmilaa", sum := "83f3e76db284b669401b9e262dcb0d61442100a282d3d7614a2bfffbdd17738b", func := "loop.example/g01355/laws.FnExactSquareOf", spec := "fnExactSquareOf", apart := false, narrowed := true }
def FnExactSquareOfUptoSaid : Prop := fnExactSquareOfUptoRow.holds Try.pinned (OpenSpec.upto fnExactSquareOfSpec)

/-- 'laws.FnExactIsSystem', WHERE WHAT IT READS IS OF BULK AT MOST 1048576: true; the input reads as it did. -/
def fnExactIsSystemUptoRow : OpenClaim := { program := "ytkgjdmbmdnmilaa", sum := "83f3e76db284b669401b9e262dcb0d61442100a282d3d7614a2bfffbdd17738b", func := "loop.example/g01355/laws.FnExactIsSystem", spec := "fnExactIsSystem", apart := false, narrowed := true }
def FnExactIsSystemUptoSaid : Prop := fnExactIsSystemUptoRow.holds Try.pinned (OpenSpec.upto fnExactIsSystemSpec)

/-- 'laws.FnExactIsFull', WHERE WHAT IT READS IS OF BULK AT MOST 1048576: true; the input reads as it did. -/
def fnExactIsFullUptoRow : OpenClaim := { program := "ytkgjdmbmdnmilaa", sum := "83f3e76db284b669401b9e262dcb0d61442100a282d3d7614a2bfffbdd17738b", func := "loop.example/g01355/laws.FnExactIsFull", spec := "fnExactIsFull", apart := false, narrowed := true }
def FnExactIsFullUptoSaid : Prop := fnExactIsFullUptoRow.holds Try.pinned (OpenSpec.upto fnExactIsFullSpec)

/-- 'laws.FnExactDifferenceFamilies', WHERE WHAT IT READS IS OF BULK AT MOST 1048576: true; the input reads as it did. -/
def fnExactDifferenceFamiliesUptoRow : OpenClaim := { program := "ytkgjdmbmdnmilaa", sum := "83f3e76db284b669401b9e262dcb0d61442100a282d3d7614a2bfffbdd17738b", func := "loop.example/g01355/laws.FnExactDifferenceFamilies", spec := "fnExactDifferenceFamilies", unfollowed := true, recurses := true, apart := false, narrowed := true }
def FnExactDifferenceFamiliesUptoSaid : Prop := fnExactDifferenceFamiliesUptoRow.holds Try.pinned (OpenSpec.upto fnExactDifferenceFamiliesSpec)

/-- 'laws.FnExactThirdPoint', WHERE WHAT IT READS IS OF BULK AT MOST 1048576: true; the input reads as it did. -/
def fnExactThirdPointUptoRow : OpenClaim := { program := "ytkgjdmbmdnmilaa", sum := "83f3e76db284b669401b9e262dcb0d61442100a282d3d7614a2bfffbdd17738b", func := "loop.example/g01355/laws.FnExactThirdPoint", spec := "fnExactThirdPoint", apart := false, narrowed := true }
def FnExactThirdPointUptoSaid : Prop := fnExactThirdPointUptoRow.holds Try.pinned (OpenSpec.upto fnExactThirdPointSpec)

/-- 'laws.FnExactDegreesOf', WHERE WHAT IT READS IS OF BULK AT MOST 1048576: true; the input reads as it did. -/
def fnExactDegreesOfUptoRow : OpenClaim := { program := "ytkgjdmbmdnmilaa", sum := "83f3e76db284b669401b9e262dcb0d61442100a282d3d7614a2bfffbdd17738b", func := "loop.example/g01355/laws.FnExactDegreesOf", spec := "fnExactDegreesOf", apart := false, narrowed := true }
def FnExactDegreesOfUptoSaid : Prop := fnExactDegreesOfUptoRow.holds Try.pinned (OpenSpec.upto fnExactDegreesOfSpec)

/-- 'laws.FnExactFreeBlocks', WHERE WHAT IT READS IS OF BULK AT MOST 1048576: true; the input reads as it did. -/
def fnExactFreeBlocksUptoRow : OpenClaim := { program := "ytkgjdmbmdnmilaa", sum := "83f3e76db284b669401b9e262dcb0d61442100a282d3d7614a2bfffbdd17738b", func := "loop.example/g01355/laws.FnExactFreeBlocks", spec := "fnExactFreeBlocks", unfollowed := true, recurses := true, apart := false, narrowed := true }
def FnExactFreeBlocksUptoSaid : Prop := fnExactFreeBlocksUptoRow.holds Try.pinned (OpenSpec.upto fnExactFreeBlocksSpec)

/-- 'laws.FnExactCommonBlocks', WHERE WHAT IT READS IS OF BULK AT MOST 1048576: true; the input reads as it did. -/
def fnExactCommonBlocksUptoRow : OpenClaim := { program := "ytkgjdmbmdnmilaa", sum := "83f3e76db284b669401b9e262dcb0d61442100a282d3d7614a2bfffbdd17738b", func := "loop.example/g01355/laws.FnExactCommonBlocks", spec := "fnExactCommonBlocks", apart := false, narrowed := true }
def FnExactCommonBlocksUptoSaid : Prop := fnExactCommonBlocksUptoRow.holds Try.pinned (OpenSpec.upto fnExactCommonBlocksSpec)

/-- 'laws.FnExactTakeBlock', WHERE WHAT IT READS IS OF BULK AT MOST 1048576: true; the input reads as it did. -/
def fnExactTakeBlockUptoRow : OpenClaim := { program := "ytkgjdmbmdnmilaa", sum := "83f3e76db284b669401b9e262dcb0d61442100a282d3d7614a2bfffbdd17738b", func := "loop.example/g01355/laws.FnExactTakeBlock", spec := "fnExactTakeBlock", apart := false, narrowed := true }
def FnExactTakeBlockUptoSaid : Prop := fnExactTakeBlockUptoRow.holds Try.pinned (OpenSpec.upto fnExactTakeBlockSpec)

/-- 'laws.FnExactCountColourings', WHERE WHAT IT READS IS OF BULK AT MOST 1048576: true; the input reads as it did. -/
def fnExactCountColouringsUptoRow : OpenClaim := { program := "ytkgjdmbmdnmilaa", sum := "83f3e76db284b669401b9e262dcb0d61442100a282d3d7614a2bfffbdd17738b", func := "loop.example/g01355/laws.FnExactCountColourings", spec := "fnExactCountColourings", recurses := true, apart := false, narrowed := true }
def FnExactCountColouringsUptoSaid : Prop := fnExactCountColouringsUptoRow.holds Try.pinned (OpenSpec.upto fnExactCountColouringsSpec)

/-- 'laws.FnExactIsColouring', WHERE WHAT IT READS IS OF BULK AT MOST 1048576: true; the input reads as it did. -/
def fnExactIsColouringUptoRow : OpenClaim := { program := "ytkgjdmbmdnmilaa", sum := "83f3e76db284b669401b9e262dcb0d61442100a282d3d7614a2bfffbdd17738b", func := "loop.example/g01355/laws.FnExactIsColouring", spec := "fnExactIsColouring", unfollowed := true, recurses := true, apart := false, narrowed := true }
def FnExactIsColouringUptoSaid : Prop := fnExactIsColouringUptoRow.holds Try.pinned (OpenSpec.upto fnExactIsColouringSpec)

/-- 'laws.FnExactIsStrict', WHERE WHAT IT READS IS OF BULK AT MOST 1048576: true; the input reads as it did. -/
def fnExactIsStrictUptoRow : OpenClaim := { program := "ytkgjdmbmdnmilaa", sum := "83f3e76db284b669401b9e262dcb0d61442100a282d3d7614a2bfffbdd17738b", func := "loop.example/g01355/laws.FnExactIsStrict", spec := "fnExactIsStrict", unfollowed := true, recurses := true, apart := false, narrowed := true }
def FnExactIsStrictUptoSaid : Prop := fnExactIsStrictUptoRow.holds Try.pinned (OpenSpec.upto fnExactIsStrictSpec)

/-- 'laws.FnExactIsIndependent', WHERE WHAT IT READS IS OF BULK AT MOST 1048576: true; the input reads as it did. -/
def fnExactIsIndependentUptoRow : OpenClaim := { program := "ytkgjdmbmdnmilaa", sum := "83f3e76db284b669401b9e262dcb0d61442100a282d3d7614a2bfffbdd17738b", func := "loop.example/g01355/laws.FnExactIsIndependent", spec := "fnExactIsIndependent", unfollowed := true, recurses := true, apart := false, narrowed := true }
def FnExactIsIndependentUptoSaid : Prop := fnExactIsIndependentUptoRow.holds Try.pinned (OpenSpec.upto fnExactIsIndependentSpec)

/-- 'laws.FnExactPairsLeft', WHERE WHAT IT READS IS OF BULK AT MOST 1048576: true; the input reads as it did. -/
def fnExactPairsLeftUptoRow : OpenClaim := { program := "ytkgjdmbmdnmilaa", sum := "83f3e76db284b669401b9e262dcb0d61442100a282d3d7614a2bfffbdd17738b", func := "loop.example/g01355/laws.FnExactPairsLeft", spec := "fnExactPairsLeft", apart := false, narrowed := true }
def FnExactPairsLeftUptoSaid : Prop := fnExactPairsLeftUptoRow.holds Try.pinned (OpenSpec.upto fnExactPairsLeftSpec)

/-- 'laws.FnExactCountIndependent', WHERE WHAT IT READS IS OF BULK AT MOST 1048576: true; the input reads as it did. -/
def fnExactCountIndependentUptoRow : OpenClaim := { program := "ytkgjdmbmdnmilaa", sum := "83f3e76db284b669401b9e262dcb0d61442100a282d3d7614a2bfffbdd17738b", func := "loop.example/g01355/laws.FnExactCountIndependent", spec := "fnExactCountIndependent", unfollowed := true, recurses := true, apart := false, narrowed := true }
def FnExactCountIndependentUptoSaid : Prop := fnExactCountIndependentUptoRow.holds Try.pinned (OpenSpec.upto fnExactCountIndependentSpec)

/-- 'laws.FnExactProductSystem', WHERE WHAT IT READS IS OF BULK AT MOST 1048576: true; the input reads as it did. -/
def fnExactProductSystemUptoRow : OpenClaim := { program := "ytkgjdmbmdnmilaa", sum := "83f3e76db284b669401b9e262dcb0d61442100a282d3d7614a2bfffbdd17738b", func := "loop.example/g01355/laws.FnExactProductSystem", spec := "fnExactProductSystem", unfollowed := true, recurses := true, apart := false, narrowed := true }
def FnExactProductSystemUptoSaid : Prop := fnExactProductSystemUptoRow.holds Try.pinned (OpenSpec.upto fnExactProductSystemSpec)

/-- 'laws.FnExactBlocksOn', WHERE WHAT IT READS IS OF BULK AT MOST 1048576: true; the input reads as it did. -/
def fnExactBlocksOnUptoRow : OpenClaim := { program := "ytkgjdmbmdnmilaa", sum := "83f3e76db284b669401b9e262dcb0d61442100a282d3d7614a2bfffbdd17738b", func := "loop.example/g01355/laws.FnExactBlocksOn", spec := "fnExactBlocksOn", apart := false, narrowed := true }
def FnExactBlocksOnUptoSaid : Prop := fnExactBlocksOnUptoRow.holds Try.pinned (OpenSpec.upto fnExactBlocksOnSpec)

/-- 'laws.FnExactCyclesOf', WHERE WHAT IT READS IS OF BULK AT MOST 1048576: true; the input reads as it did. -/
def fnExactCyclesOfUptoRow : OpenClaim := { program := "ytkgjdmbmdnmilaa", sum := "83f3e76db284b669401b9e262dcb0d61442100a282d3d7614a2bfffbdd17738b", func := "loop.example/g01355/laws.FnExactCyclesOf", spec := "fnExactCyclesOf", apart := false, narrowed := true }
def FnExactCyclesOfUptoSaid : Prop := fnExactCyclesOfUptoRow.holds Try.pinned (OpenSpec.upto fnExactCyclesOfSpec)

/-- 'laws.FnExactIsSquare', WHERE WHAT IT READS IS OF BULK AT MOST 1048576: true; the input reads as it did. -/
def fnExactIsSquareUptoRow : OpenClaim := { program := "ytkgjdmbmdnmilaa", sum := "83f3e76db284b669401b9e262dcb0d61442100a282d3d7614a2bfffbdd17738b", func := "loop.example/g01355/laws.FnExactIsSquare", spec := "fnExactIsSquare", unfollowed := true, recurses := true, apart := false, narrowed := true }
def FnExactIsSquareUptoSaid : Prop := fnExactIsSquareUptoRow.holds Try.pinned (OpenSpec.upto fnExactIsSquareSpec)

/-- 'laws.FnExactSquareKinds', WHERE WHAT IT READS IS OF BULK AT MOST 1048576: true; the input reads as it did. -/
def fnExactSquareKindsUptoRow : OpenClaim := { program := "ytkgjdmbmdnmilaa", sum := "83f3e76db284b669401b9e262dcb0d61442100a282d3d7614a2bfffbdd17738b", func := "loop.example/g01355/laws.FnExactSquareKinds", spec := "fnExactSquareKinds", unfollowed := true, recurses := true, apart := false, narrowed := true }
def FnExactSquareKindsUptoSaid : Prop := fnExactSquareKindsUptoRow.holds Try.pinned (OpenSpec.upto fnExactSquareKindsSpec)

/-- 'laws.FnExactIsDifferenceFamily', WHERE WHAT IT READS IS OF BULK AT MOST 1048576: true; the input reads as it did. -/
def fnExactIsDifferenceFamilyUptoRow : OpenClaim := { program := "ytkgjdmbmdnmilaa", sum := "83f3e76db284b669401b9e262dcb0d61442100a282d3d7614a2bfffbdd17738b", func := "loop.example/g01355/laws.FnExactIsDifferenceFamily", spec := "fnExactIsDifferenceFamily", unfollowed := true, recurses := true, apart := false, narrowed := true }
def FnExactIsDifferenceFamilyUptoSaid : Prop := fnExactIsDifferenceFamilyUptoRow.holds Try.pinned (OpenSpec.upto fnExactIsDifferenceFamilySpec)

end Rows
end Go.Proofs.Ytkgjdmbmdnmilaa
