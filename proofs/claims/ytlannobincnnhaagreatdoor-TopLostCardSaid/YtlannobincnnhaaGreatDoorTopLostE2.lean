/-
  No claim by itself: cases of TopLost, evaluated. No condition.
-/
import Derived.Test.YtlannobincnnhaaGreatDoorTopLostD
namespace Go.Proofs.YtlannobincnnhaaGreatDoor
theorem kLost_4_28 : GoodTopLost 4 28 := by unfold GoodTopLost; kernel_rfl
theorem kLost_3_28 : GoodTopLost 3 28 := by unfold GoodTopLost; kernel_rfl
theorem kLost_2_28 : GoodTopLost 2 28 := by unfold GoodTopLost; kernel_rfl
theorem kLost_1_28 : GoodTopLost 1 28 := by unfold GoodTopLost; kernel_rfl
theorem kLost_0_28 : GoodTopLost 0 28 := by unfold GoodTopLost; kernel_rfl
end Go.Proofs.YtlannobincnnhaaGreatDoor
