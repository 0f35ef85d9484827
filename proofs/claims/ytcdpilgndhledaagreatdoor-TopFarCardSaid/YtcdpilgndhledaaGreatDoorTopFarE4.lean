/-
  No claim by itself: cases of TopFar, evaluated. No condition.
-/
import Derived.Test.YtcdpilgndhledaaGreatDoorTopFarD
namespace Go.Proofs.YtcdpilgndhledaaGreatDoor
theorem kFar_26 : GoodTopFar 26 := by unfold GoodTopFar; kernel_rfl
theorem kFar_20 : GoodTopFar 20 := by unfold GoodTopFar; kernel_rfl
theorem kFar_14 : GoodTopFar 14 := by unfold GoodTopFar; kernel_rfl
theorem kFar_8 : GoodTopFar 8 := by unfold GoodTopFar; kernel_rfl
theorem kFar_2 : GoodTopFar 2 := by unfold GoodTopFar; kernel_rfl
end Go.Proofs.YtcdpilgndhledaaGreatDoor
