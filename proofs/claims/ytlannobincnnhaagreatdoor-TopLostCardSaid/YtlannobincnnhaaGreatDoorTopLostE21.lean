/-
  No claim by itself: cases of TopLost, evaluated. No condition.
-/
import Derived.Test.YtlannobincnnhaaGreatDoorTopLostD
namespace Go.Proofs.YtlannobincnnhaaGreatDoor
theorem kLost_4_9 : GoodTopLost 4 9 := by unfold GoodTopLost; kernel_rfl
theorem kLost_3_9 : GoodTopLost 3 9 := by unfold GoodTopLost; kernel_rfl
theorem kLost_2_9 : GoodTopLost 2 9 := by unfold GoodTopLost; kernel_rfl
theorem kLost_1_9 : GoodTopLost 1 9 := by unfold GoodTopLost; kernel_rfl
theorem kLost_0_9 : GoodTopLost 0 9 := by unfold GoodTopLost; kernel_rfl
end Go.Proofs.YtlannobincnnhaaGreatDoor
