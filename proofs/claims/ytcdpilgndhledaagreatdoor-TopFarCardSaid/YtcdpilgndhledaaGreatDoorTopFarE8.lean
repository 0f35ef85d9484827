/-
  No claim by itself: cases of TopFar, evaluated. No condition.
-/
import Derived.Test.YtcdpilgndhledaaGreatDoorTopFarD
namespace Go.Proofs.YtcdpilgndhledaaGreatDoor
theorem kFar_22 : GoodTopFar 22 := by unfold GoodTopFar; kernel_rfl
theorem kFar_14 : GoodTopFar 14 := by unfold GoodTopFar; kernel_rfl
theorem kFar_6 : GoodTopFar 6 := by unfold GoodTopFar; kernel_rfl
end Go.Proofs.YtcdpilgndhledaaGreatDoor
