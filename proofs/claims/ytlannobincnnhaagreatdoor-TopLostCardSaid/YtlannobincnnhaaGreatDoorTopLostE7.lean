/-
  No claim by itself: cases of TopLost, evaluated. No condition.
-/
import Derived.Test.YtlannobincnnhaaGreatDoorTopLostD
namespace Go.Proofs.YtlannobincnnhaaGreatDoor
theorem kLost_4_23 : GoodTopLost 4 23 := by unfold GoodTopLost; kernel_rfl
theorem kLost_3_23 : GoodTopLost 3 23 := by unfold GoodTopLost; kernel_rfl
theorem kLost_2_23 : GoodTopLost 2 23 := by unfold GoodTopLost; kernel_rfl
theorem kLost_1_23 : GoodTopLost 1 23 := by unfold GoodTopLost; kernel_rfl
theorem kLost_0_23 : GoodTopLost 0 23 := by unfold GoodTopLost; kernel_rfl
end Go.Proofs.YtlannobincnnhaaGreatDoor
