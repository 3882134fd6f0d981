/- The law on the constants, in abstract terms: its code returns true. It holds with no condition. -/
import Derived.Test.YtkgjdmbmdnmilaaBase
set_option linter.all false
namespace Go.Proofs.Ytkgjdmbmdnmilaa
open Go.Ab

theorem lawFnExactConstants (H : Heap) (avs : List Value) (h : argsSay [] H avs) : ACalls Try.prog 3 avs H fun v _ => v = .bool true := by
  obtain rfl := h
  refine acalls_vc (rs := [.tmp 0]) Try.func3 rfl rfl Try.ntmps3 rfl rfl ?_
  simp (maxSteps := 1000000) [go_sem]

end Go.Proofs.Ytkgjdmbmdnmilaa
