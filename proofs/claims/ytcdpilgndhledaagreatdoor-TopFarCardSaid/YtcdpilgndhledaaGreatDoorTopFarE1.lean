/-
  No claim by itself: cases of TopFar, evaluated. No condition.
-/
import Derived.Test.YtcdpilgndhledaaGreatDoorTopFarD
namespace Go.Proofs.YtcdpilgndhledaaGreatDoor
theorem kFar_29 : GoodTopFar 29 := by unfold GoodTopFar; kernel_rfl
theorem kFar_23 : GoodTopFar 23 := by unfold GoodTopFar; kernel_rfl
theorem kFar_17 : GoodTopFar 17 := by unfold GoodTopFar; kernel_rfl
theorem kFar_11 : GoodTopFar 11 := by unfold GoodTopFar; kernel_rfl
theorem kFar_5 : GoodTopFar 5 := by unfold GoodTopFar; kernel_rfl
end Go.Proofs.YtcdpilgndhledaaGreatDoor
