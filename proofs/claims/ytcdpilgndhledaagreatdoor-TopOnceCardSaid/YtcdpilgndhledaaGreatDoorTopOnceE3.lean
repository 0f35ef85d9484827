/-
  No claim by itself: cases of TopOnce, evaluated. No condition.
-/
import Derived.Test.YtcdpilgndhledaaGreatDoorTopOnceD
namespace Go.Proofs.YtcdpilgndhledaaGreatDoor
theorem kOnce_4_3 : GoodTopOnce 4 3 := by unfold GoodTopOnce; kernel_rfl
theorem kOnce_3_3 : GoodTopOnce 3 3 := by unfold GoodTopOnce; kernel_rfl
theorem kOnce_2_3 : GoodTopOnce 2 3 := by unfold GoodTopOnce; kernel_rfl
theorem kOnce_1_3 : GoodTopOnce 1 3 := by unfold GoodTopOnce; kernel_rfl
theorem kOnce_0_3 : GoodTopOnce 0 3 := by unfold GoodTopOnce; kernel_rfl
end Go.Proofs.YtcdpilgndhledaaGreatDoor
