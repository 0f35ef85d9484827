/-
  No claim by itself: cases of TopLost, evaluated. No condition.
-/
import Derived.Test.YtlannobincnnhaaGreatDoorTopLostD
namespace Go.Proofs.YtlannobincnnhaaGreatDoor
theorem kLost_4_12 : GoodTopLost 4 12 := by unfold GoodTopLost; kernel_rfl
theorem kLost_3_12 : GoodTopLost 3 12 := by unfold GoodTopLost; kernel_rfl
theorem kLost_2_12 : GoodTopLost 2 12 := by unfold GoodTopLost; kernel_rfl
theorem kLost_1_12 : GoodTopLost 1 12 := by unfold GoodTopLost; kernel_rfl
theorem kLost_0_12 : GoodTopLost 0 12 := by unfold GoodTopLost; kernel_rfl
end Go.Proofs.YtlannobincnnhaaGreatDoor
