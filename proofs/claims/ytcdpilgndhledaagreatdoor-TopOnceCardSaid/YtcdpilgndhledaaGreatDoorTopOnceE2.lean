/-
  No claim by itself: cases of TopOnce, evaluated. No condition.
-/
import Derived.Test.YtcdpilgndhledaaGreatDoorTopOnceD
namespace Go.Proofs.YtcdpilgndhledaaGreatDoor
theorem kOnce_4_4 : GoodTopOnce 4 4 := by unfold GoodTopOnce; kernel_rfl
theorem kOnce_3_4 : GoodTopOnce 3 4 := by unfold GoodTopOnce; kernel_rfl
theorem kOnce_2_4 : GoodTopOnce 2 4 := by unfold GoodTopOnce; kernel_rfl
theorem kOnce_1_4 : GoodTopOnce 1 4 := by unfold GoodTopOnce; kernel_rfl
theorem kOnce_0_4 : GoodTopOnce 0 4 := by unfold GoodTopOnce; kernel_rfl
end Go.Proofs.YtcdpilgndhledaaGreatDoor
