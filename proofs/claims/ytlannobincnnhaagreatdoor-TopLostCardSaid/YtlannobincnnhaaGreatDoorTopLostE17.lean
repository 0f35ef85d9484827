/-
  No claim by itself: cases of TopLost, evaluated. No condition.
-/
import Derived.Test.YtlannobincnnhaaGreatDoorTopLostD
namespace Go.Proofs.YtlannobincnnhaaGreatDoor
theorem kLost_4_13 : GoodTopLost 4 13 := by unfold GoodTopLost; kernel_rfl
theorem kLost_3_13 : GoodTopLost 3 13 := by unfold GoodTopLost; kernel_rfl
theorem kLost_2_13 : GoodTopLost 2 13 := by unfold GoodTopLost; kernel_rfl
theorem kLost_1_13 : GoodTopLost 1 13 := by unfold GoodTopLost; kernel_rfl
theorem kLost_0_13 : GoodTopLost 0 13 := by unfold GoodTopLost; kernel_rfl
end Go.Proofs.YtlannobincnnhaaGreatDoor
