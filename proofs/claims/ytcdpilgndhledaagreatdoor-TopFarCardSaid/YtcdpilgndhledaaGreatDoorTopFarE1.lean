/-
  No claim by itself: cases of TopFar, evaluated. No condition.
-/
import Derived.Test.YtcdpilgndhledaaGreatDoorTopFarD
namespace Go.Proofs.YtcdpilgndhledaaGreatDoor
theorem kFar_29 : GoodTopFar 29 := by unfold GoodTopFar; kernel_rfl
theorem kFar_21 : GoodTopFar 21 := by unfold GoodTopFar; kernel_rfl
theorem kFar_13 : GoodTopFar 13 := by unfold GoodTopFar; kernel_rfl
theorem kFar_5 : GoodTopFar 5 := by unfold GoodTopFar; kernel_rfl
end Go.Proofs.YtcdpilgndhledaaGreatDoor
