/-
  No claim by itself: cases of TopLost, evaluated. No condition.
-/
import Derived.Test.YtlannobincnnhaaGreatDoorTopLostD
namespace Go.Proofs.YtlannobincnnhaaGreatDoor
theorem kLost_4_1 : GoodTopLost 4 1 := by unfold GoodTopLost; kernel_rfl
theorem kLost_3_1 : GoodTopLost 3 1 := by unfold GoodTopLost; kernel_rfl
theorem kLost_2_1 : GoodTopLost 2 1 := by unfold GoodTopLost; kernel_rfl
theorem kLost_1_1 : GoodTopLost 1 1 := by unfold GoodTopLost; kernel_rfl
theorem kLost_0_1 : GoodTopLost 0 1 := by unfold GoodTopLost; kernel_rfl
end Go.Proofs.YtlannobincnnhaaGreatDoor
