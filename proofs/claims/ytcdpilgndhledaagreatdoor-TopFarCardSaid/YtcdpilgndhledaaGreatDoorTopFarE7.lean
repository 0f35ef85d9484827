/-
  No claim by itself: cases of TopFar, evaluated. No condition.
-/
import Derived.Test.YtcdpilgndhledaaGreatDoorTopFarD
namespace Go.Proofs.YtcdpilgndhledaaGreatDoor
theorem kFar_23 : GoodTopFar 23 := by unfold GoodTopFar; kernel_rfl
theorem kFar_15 : GoodTopFar 15 := by unfold GoodTopFar; kernel_rfl
theorem kFar_7 : GoodTopFar 7 := by unfold GoodTopFar; kernel_rfl
end Go.Proofs.YtcdpilgndhledaaGreatDoor
