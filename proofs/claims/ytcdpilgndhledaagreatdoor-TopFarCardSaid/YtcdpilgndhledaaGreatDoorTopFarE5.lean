/-
  No claim by itself: cases of TopFar, evaluated. No condition.
-/
import Derived.Test.YtcdpilgndhledaaGreatDoorTopFarD
namespace Go.Proofs.YtcdpilgndhledaaGreatDoor
theorem kFar_25 : GoodTopFar 25 := by unfold GoodTopFar; kernel_rfl
theorem kFar_19 : GoodTopFar 19 := by unfold GoodTopFar; kernel_rfl
theorem kFar_13 : GoodTopFar 13 := by unfold GoodTopFar; kernel_rfl
theorem kFar_7 : GoodTopFar 7 := by unfold GoodTopFar; kernel_rfl
theorem kFar_1 : GoodTopFar 1 := by unfold GoodTopFar; kernel_rfl
end Go.Proofs.YtcdpilgndhledaaGreatDoor
