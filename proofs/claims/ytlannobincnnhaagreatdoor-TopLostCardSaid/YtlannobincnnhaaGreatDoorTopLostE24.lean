/-
  No claim by itself: cases of TopLost, evaluated. No condition.
-/
import Derived.Test.YtlannobincnnhaaGreatDoorTopLostD
namespace Go.Proofs.YtlannobincnnhaaGreatDoor
theorem kLost_4_6 : GoodTopLost 4 6 := by unfold GoodTopLost; kernel_rfl
theorem kLost_3_6 : GoodTopLost 3 6 := by unfold GoodTopLost; kernel_rfl
theorem kLost_2_6 : GoodTopLost 2 6 := by unfold GoodTopLost; kernel_rfl
theorem kLost_1_6 : GoodTopLost 1 6 := by unfold GoodTopLost; kernel_rfl
theorem kLost_0_6 : GoodTopLost 0 6 := by unfold GoodTopLost; kernel_rfl
end Go.Proofs.YtlannobincnnhaaGreatDoor
