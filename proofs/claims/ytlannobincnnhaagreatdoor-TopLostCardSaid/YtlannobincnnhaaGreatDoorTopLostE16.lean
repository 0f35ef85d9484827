/-
  No claim by itself: cases of TopLost, evaluated. No condition.
-/
import Derived.Test.YtlannobincnnhaaGreatDoorTopLostD
namespace Go.Proofs.YtlannobincnnhaaGreatDoor
theorem kLost_4_14 : GoodTopLost 4 14 := by unfold GoodTopLost; kernel_rfl
theorem kLost_3_14 : GoodTopLost 3 14 := by unfold GoodTopLost; kernel_rfl
theorem kLost_2_14 : GoodTopLost 2 14 := by unfold GoodTopLost; kernel_rfl
theorem kLost_1_14 : GoodTopLost 1 14 := by unfold GoodTopLost; kernel_rfl
theorem kLost_0_14 : GoodTopLost 0 14 := by unfold GoodTopLost; kernel_rfl
end Go.Proofs.YtlannobincnnhaaGreatDoor
