/-
  No claim by itself: cases of TopOnce, evaluated. No condition.
-/
import Derived.Test.YtcdpilgndhledaaGreatDoorTopOnceD
namespace Go.Proofs.YtcdpilgndhledaaGreatDoor
theorem kOnce_4_5 : GoodTopOnce 4 5 := by unfold GoodTopOnce; kernel_rfl
theorem kOnce_3_5 : GoodTopOnce 3 5 := by unfold GoodTopOnce; kernel_rfl
theorem kOnce_2_5 : GoodTopOnce 2 5 := by unfold GoodTopOnce; kernel_rfl
theorem kOnce_1_5 : GoodTopOnce 1 5 := by unfold GoodTopOnce; kernel_rfl
theorem kOnce_0_5 : GoodTopOnce 0 5 := by unfold GoodTopOnce; kernel_rfl
end Go.Proofs.YtcdpilgndhledaaGreatDoor
