/-
  No claim by itself: cases of TopFar, evaluated. No condition.
-/
import Derived.Test.YtcdpilgndhledaaGreatDoorTopFarD
namespace Go.Proofs.YtcdpilgndhledaaGreatDoor
theorem kFar_24 : GoodTopFar 24 := by unfold GoodTopFar; kernel_rfl
theorem kFar_18 : GoodTopFar 18 := by unfold GoodTopFar; kernel_rfl
theorem kFar_12 : GoodTopFar 12 := by unfold GoodTopFar; kernel_rfl
theorem kFar_6 : GoodTopFar 6 := by unfold GoodTopFar; kernel_rfl
theorem kFar_0 : GoodTopFar 0 := by unfold GoodTopFar; kernel_rfl
end Go.Proofs.YtcdpilgndhledaaGreatDoor
