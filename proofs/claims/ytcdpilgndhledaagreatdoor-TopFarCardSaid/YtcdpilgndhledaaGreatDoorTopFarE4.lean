/-
  No claim by itself: cases of TopFar, evaluated. No condition.
-/
import Derived.Test.YtcdpilgndhledaaGreatDoorTopFarD
namespace Go.Proofs.YtcdpilgndhledaaGreatDoor
theorem kFar_26 : GoodTopFar 26 := by unfold GoodTopFar; kernel_rfl
theorem kFar_18 : GoodTopFar 18 := by unfold GoodTopFar; kernel_rfl
theorem kFar_10 : GoodTopFar 10 := by unfold GoodTopFar; kernel_rfl
theorem kFar_2 : GoodTopFar 2 := by unfold GoodTopFar; kernel_rfl
end Go.Proofs.YtcdpilgndhledaaGreatDoor
