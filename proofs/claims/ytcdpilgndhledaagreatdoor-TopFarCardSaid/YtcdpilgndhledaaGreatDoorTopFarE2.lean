/-
  No claim by itself: cases of TopFar, evaluated. No condition.
-/
import Derived.Test.YtcdpilgndhledaaGreatDoorTopFarD
namespace Go.Proofs.YtcdpilgndhledaaGreatDoor
theorem kFar_28 : GoodTopFar 28 := by unfold GoodTopFar; kernel_rfl
theorem kFar_20 : GoodTopFar 20 := by unfold GoodTopFar; kernel_rfl
theorem kFar_12 : GoodTopFar 12 := by unfold GoodTopFar; kernel_rfl
theorem kFar_4 : GoodTopFar 4 := by unfold GoodTopFar; kernel_rfl
end Go.Proofs.YtcdpilgndhledaaGreatDoor
