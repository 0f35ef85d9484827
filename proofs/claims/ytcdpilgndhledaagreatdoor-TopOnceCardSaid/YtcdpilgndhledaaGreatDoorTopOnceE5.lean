/-
  No claim by itself: cases of TopOnce, evaluated. No condition.
-/
import Derived.Test.YtcdpilgndhledaaGreatDoorTopOnceD
namespace Go.Proofs.YtcdpilgndhledaaGreatDoor
theorem kOnce_4_1 : GoodTopOnce 4 1 := by unfold GoodTopOnce; kernel_rfl
theorem kOnce_3_1 : GoodTopOnce 3 1 := by unfold GoodTopOnce; kernel_rfl
theorem kOnce_2_1 : GoodTopOnce 2 1 := by unfold GoodTopOnce; kernel_rfl
theorem kOnce_1_1 : GoodTopOnce 1 1 := by unfold GoodTopOnce; kernel_rfl
theorem kOnce_0_1 : GoodTopOnce 0 1 := by unfold GoodTopOnce; kernel_rfl
end Go.Proofs.YtcdpilgndhledaaGreatDoor
