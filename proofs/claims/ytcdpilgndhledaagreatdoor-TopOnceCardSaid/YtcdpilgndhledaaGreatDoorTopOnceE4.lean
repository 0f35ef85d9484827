/-
  No claim by itself: cases of TopOnce, evaluated. No condition.
-/
import Derived.Test.YtcdpilgndhledaaGreatDoorTopOnceD
namespace Go.Proofs.YtcdpilgndhledaaGreatDoor
theorem kOnce_4_2 : GoodTopOnce 4 2 := by unfold GoodTopOnce; kernel_rfl
theorem kOnce_3_2 : GoodTopOnce 3 2 := by unfold GoodTopOnce; kernel_rfl
theorem kOnce_2_2 : GoodTopOnce 2 2 := by unfold GoodTopOnce; kernel_rfl
theorem kOnce_1_2 : GoodTopOnce 1 2 := by unfold GoodTopOnce; kernel_rfl
theorem kOnce_0_2 : GoodTopOnce 0 2 := by unfold GoodTopOnce; kernel_rfl
end Go.Proofs.YtcdpilgndhledaaGreatDoor
