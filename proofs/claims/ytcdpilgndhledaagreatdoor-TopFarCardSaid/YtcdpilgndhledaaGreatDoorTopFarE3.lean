/-
  No claim by itself: cases of TopFar, evaluated. No condition.
-/
import Derived.Test.YtcdpilgndhledaaGreatDoorTopFarD
namespace Go.Proofs.YtcdpilgndhledaaGreatDoor
theorem kFar_27 : GoodTopFar 27 := by unfold GoodTopFar; kernel_rfl
theorem kFar_21 : GoodTopFar 21 := by unfold GoodTopFar; kernel_rfl
theorem kFar_15 : GoodTopFar 15 := by unfold GoodTopFar; kernel_rfl
theorem kFar_9 : GoodTopFar 9 := by unfold GoodTopFar; kernel_rfl
theorem kFar_3 : GoodTopFar 3 := by unfold GoodTopFar; kernel_rfl
end Go.Proofs.YtcdpilgndhledaaGreatDoor
