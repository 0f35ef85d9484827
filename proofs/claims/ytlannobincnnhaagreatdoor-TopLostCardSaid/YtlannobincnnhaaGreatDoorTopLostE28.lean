/-
  No claim by itself: cases of TopLost, evaluated. No condition.
-/
import Derived.Test.YtlannobincnnhaaGreatDoorTopLostD
namespace Go.Proofs.YtlannobincnnhaaGreatDoor
theorem kLost_4_2 : GoodTopLost 4 2 := by unfold GoodTopLost; kernel_rfl
theorem kLost_3_2 : GoodTopLost 3 2 := by unfold GoodTopLost; kernel_rfl
theorem kLost_2_2 : GoodTopLost 2 2 := by unfold GoodTopLost; kernel_rfl
theorem kLost_1_2 : GoodTopLost 1 2 := by unfold GoodTopLost; kernel_rfl
theorem kLost_0_2 : GoodTopLost 0 2 := by unfold GoodTopLost; kernel_rfl
end Go.Proofs.YtlannobincnnhaaGreatDoor
