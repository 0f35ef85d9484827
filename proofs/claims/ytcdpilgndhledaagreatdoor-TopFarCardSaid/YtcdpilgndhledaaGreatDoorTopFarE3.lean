/-
  No claim by itself: cases of TopFar, evaluated. No condition.
-/
import Derived.Test.YtcdpilgndhledaaGreatDoorTopFarD
namespace Go.Proofs.YtcdpilgndhledaaGreatDoor
theorem kFar_27 : GoodTopFar 27 := by unfold GoodTopFar; kernel_rfl
theorem kFar_19 : GoodTopFar 19 := by unfold GoodTopFar; kernel_rfl
theorem kFar_11 : GoodTopFar 11 := by unfold GoodTopFar; kernel_rfl
theorem kFar_3 : GoodTopFar 3 := by unfold GoodTopFar; kernel_rfl
end Go.Proofs.YtcdpilgndhledaaGreatDoor
