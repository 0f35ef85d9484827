/-
  No claim by itself: cases of TopLost, evaluated. No condition.
-/
import Derived.Test.YtlannobincnnhaaGreatDoorTopLostD
namespace Go.Proofs.YtlannobincnnhaaGreatDoor
theorem kLost_4_3 : GoodTopLost 4 3 := by unfold GoodTopLost; kernel_rfl
theorem kLost_3_3 : GoodTopLost 3 3 := by unfold GoodTopLost; kernel_rfl
theorem kLost_2_3 : GoodTopLost 2 3 := by unfold GoodTopLost; kernel_rfl
theorem kLost_1_3 : GoodTopLost 1 3 := by unfold GoodTopLost; kernel_rfl
theorem kLost_0_3 : GoodTopLost 0 3 := by unfold GoodTopLost; kernel_rfl
end Go.Proofs.YtlannobincnnhaaGreatDoor
