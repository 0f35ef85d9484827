/-
  No claim by itself: cases of TopFar, evaluated. No condition.
-/
import Derived.Test.YtcdpilgndhledaaGreatDoorTopFarD
namespace Go.Proofs.YtcdpilgndhledaaGreatDoor
theorem kFar_24 : GoodTopFar 24 := by unfold GoodTopFar; kernel_rfl
theorem kFar_16 : GoodTopFar 16 := by unfold GoodTopFar; kernel_rfl
theorem kFar_8 : GoodTopFar 8 := by unfold GoodTopFar; kernel_rfl
theorem kFar_0 : GoodTopFar 0 := by unfold GoodTopFar; kernel_rfl
end Go.Proofs.YtcdpilgndhledaaGreatDoor
