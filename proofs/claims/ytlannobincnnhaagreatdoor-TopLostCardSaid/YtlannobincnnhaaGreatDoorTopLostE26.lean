/-
  No claim by itself: cases of TopLost, evaluated. No condition.
-/
import Derived.Test.YtlannobincnnhaaGreatDoorTopLostD
namespace Go.Proofs.YtlannobincnnhaaGreatDoor
theorem kLost_4_4 : GoodTopLost 4 4 := by unfold GoodTopLost; kernel_rfl
theorem kLost_3_4 : GoodTopLost 3 4 := by unfold GoodTopLost; kernel_rfl
theorem kLost_2_4 : GoodTopLost 2 4 := by unfold GoodTopLost; kernel_rfl
theorem kLost_1_4 : GoodTopLost 1 4 := by unfold GoodTopLost; kernel_rfl
theorem kLost_0_4 : GoodTopLost 0 4 := by unfold GoodTopLost; kernel_rfl
end Go.Proofs.YtlannobincnnhaaGreatDoor
