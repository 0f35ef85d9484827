/-
  No claim by itself: cases of TopLost, evaluated. No condition.
-/
import Derived.Test.YtlannobincnnhaaGreatDoorTopLostD
namespace Go.Proofs.YtlannobincnnhaaGreatDoor
theorem kLost_4_22 : GoodTopLost 4 22 := by unfold GoodTopLost; kernel_rfl
theorem kLost_3_22 : GoodTopLost 3 22 := by unfold GoodTopLost; kernel_rfl
theorem kLost_2_22 : GoodTopLost 2 22 := by unfold GoodTopLost; kernel_rfl
theorem kLost_1_22 : GoodTopLost 1 22 := by unfold GoodTopLost; kernel_rfl
theorem kLost_0_22 : GoodTopLost 0 22 := by unfold GoodTopLost; kernel_rfl
end Go.Proofs.YtlannobincnnhaaGreatDoor
