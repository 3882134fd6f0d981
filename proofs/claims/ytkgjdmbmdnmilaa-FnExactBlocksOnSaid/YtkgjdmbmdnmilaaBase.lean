/- What every row of this seat needs of the program: closed facts. No statement of the seat is proved here. -/
import Derived.Test.YtkgjdmbmdnmilaaRows
import Derived.Test.YtkgjdmbmdnmilaaLists
import Derived.Test.YtkgjdmbmdnmilaaAbFacts
set_option linter.all false
namespace Go.Proofs.Ytkgjdmbmdnmilaa
open Go.Ab
theorem own : ownKnob Try.prog.godebug = none := by kernel_rfl
theorem laidOut : laidOutB Try.prog = true := by kernel_rfl
theorem mixed : Try.prog.follows .mixedOrders = true := by kernel_rfl
theorem head_io : Try.prog.initOrder = "harness" ++ (" " ++ ("8f16191373871cd35cd1966829dc442739694ecde0f276f91feddead41c4f333" ++ (" " ++ ("cut" ++ (" " ++ ("at" ++ (" " ++ "loop.example/g01355/laws.FnExactConstants loop.example/g01355/laws.FnExactSquareOf loop.example/g01355/laws.FnExactIsSystem loop.example/g01355/laws.FnExactIsFull loop.example/g01355/laws.FnExactDifferenceFamilies loop.example/g01355/laws.FnExactThirdPoint loop.example/g01355/laws.FnExactDegreesOf loop.example/g01355/laws.FnExactFreeBlocks loop.example/g01355/laws.FnExactCommonBlocks loop.example/g01355/laws.FnExactTakeBlock loop.example/g01355/laws.FnExactCountColourings loop.example/g01355/laws.FnExactIsColouring loop.example/g01355/laws.FnExactIsStrict loop.example/g01355/laws.FnExactIsIndependent loop.example/g01355/laws.FnExactPairsLeft loop.example/g01355/laws.FnExactCountIndependent loop.example/g01355/laws.FnExactProductSystem loop.example/g01355/laws.FnExactBlocksOn loop.example/g01355/laws.FnExactCyclesOf loop.example/g01355/laws.FnExactIsSquare loop.example/g01355/laws.FnExactSquareKinds loop.example/g01355/laws.FnExactIsDifferenceFamily"))))))) := by kernel_rfl
theorem head_ws : behindMainWord (wordsSigns Try.prog.initOrder.toList) = "cut".toList :: "at".toList :: wordsSigns "loop.example/g01355/laws.FnExactConstants loop.example/g01355/laws.FnExactSquareOf loop.example/g01355/laws.FnExactIsSystem loop.example/g01355/laws.FnExactIsFull loop.example/g01355/laws.FnExactDifferenceFamilies loop.example/g01355/laws.FnExactThirdPoint loop.example/g01355/laws.FnExactDegreesOf loop.example/g01355/laws.FnExactFreeBlocks loop.example/g01355/laws.FnExactCommonBlocks loop.example/g01355/laws.FnExactTakeBlock loop.example/g01355/laws.FnExactCountColourings loop.example/g01355/laws.FnExactIsColouring loop.example/g01355/laws.FnExactIsStrict loop.example/g01355/laws.FnExactIsIndependent loop.example/g01355/laws.FnExactPairsLeft loop.example/g01355/laws.FnExactCountIndependent loop.example/g01355/laws.FnExactProductSystem loop.example/g01355/laws.FnExactBlocksOn loop.example/g01355/laws.FnExactCyclesOf loop.example/g01355/laws.FnExactIsSquare loop.example/g01355/laws.FnExactSquareKinds loop.example/g01355/laws.FnExactIsDifferenceFamily".toList :=
  cut_words head_io (by kernel_rfl) (by kernel_rfl) (by kernel_rfl) (by kernel_rfl) (by kernel_rfl) (by kernel_rfl)
theorem mkFact : Try.prog.make = some .cut := make_of head_ws (by kernel_rfl) (by kernel_rfl)
theorem liftFact : Try.prog.liftsFinal = false := liftsFinal_of head_ws
theorem enterFact : Try.prog.mayEnter = true := mayEnter_of head_ws (by kernel_rfl) (by kernel_rfl) (by kernel_rfl)
theorem rowedFact : mapsRowed Try.prog = true := by kernel_rfl
theorem heardFact : Try.prog.stopsHeard = true := by kernel_rfl
end Go.Proofs.Ytkgjdmbmdnmilaa
