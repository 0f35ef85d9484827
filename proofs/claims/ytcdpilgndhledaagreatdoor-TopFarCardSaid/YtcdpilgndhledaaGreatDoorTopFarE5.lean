/-
  No claim by itself: cases of TopFar, evaluated. No condition.
-/
import Derived.Test.YtcdpilgndhledaaGreatDoorTopFarD
namespace Go.Proofs.YtcdpilgndhledaaGreatDoor
theorem kFar_25 : GoodTopFar 25 := by unfold GoodTopFar; kernel_rfl
theorem kFar_17 : GoodTopFar 17 := by unfold GoodTopFar; kernel_rfl
theorem kFar_9 : GoodTopFar 9 := by unfold GoodTopFar; kernel_rfl
theorem kFar_1 : GoodTopFar 1 := by unfold GoodTopFar; kernel_rfl
end Go.Proofs.YtcdpilgndhledaaGreatDoor
