/-
  No claim by itself: cases of TopFar, evaluated. No condition.
-/
import Derived.Test.YtcdpilgndhledaaGreatDoorTopFarD
namespace Go.Proofs.YtcdpilgndhledaaGreatDoor
theorem kFar_28 : GoodTopFar 28 := by unfold GoodTopFar; kernel_rfl
theorem kFar_22 : GoodTopFar 22 := by unfold GoodTopFar; kernel_rfl
theorem kFar_16 : GoodTopFar 16 := by unfold GoodTopFar; kernel_rfl
theorem kFar_10 : GoodTopFar 10 := by unfold GoodTopFar; kernel_rfl
theorem kFar_4 : GoodTopFar 4 := by unfold GoodTopFar; kernel_rfl
end Go.Proofs.YtcdpilgndhledaaGreatDoor
