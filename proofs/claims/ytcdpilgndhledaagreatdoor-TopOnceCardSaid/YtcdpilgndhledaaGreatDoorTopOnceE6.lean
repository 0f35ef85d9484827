/-
  No claim by itself: cases of TopOnce, evaluated. No condition.
-/
import Derived.Test.YtcdpilgndhledaaGreatDoorTopOnceD
namespace Go.Proofs.YtcdpilgndhledaaGreatDoor
theorem kOnce_4_0 : GoodTopOnce 4 0 := by unfold GoodTopOnce; kernel_rfl
theorem kOnce_3_0 : GoodTopOnce 3 0 := by unfold GoodTopOnce; kernel_rfl
theorem kOnce_2_0 : GoodTopOnce 2 0 := by unfold GoodTopOnce; kernel_rfl
theorem kOnce_1_0 : GoodTopOnce 1 0 := by unfold GoodTopOnce; kernel_rfl
theorem kOnce_0_0 : GoodTopOnce 0 0 := by unfold GoodTopOnce; kernel_rfl
end Go.Proofs.YtcdpilgndhledaaGreatDoor
