/-
  No claim by itself: cases of TopLost, evaluated. No condition.
-/
import Derived.Test.YtlannobincnnhaaGreatDoorTopLostD
namespace Go.Proofs.YtlannobincnnhaaGreatDoor
theorem kLost_4_11 : GoodTopLost 4 11 := by unfold GoodTopLost; kernel_rfl
theorem kLost_3_11 : GoodTopLost 3 11 := by unfold GoodTopLost; kernel_rfl
theorem kLost_2_11 : GoodTopLost 2 11 := by unfold GoodTopLost; kernel_rfl
theorem kLost_1_11 : GoodTopLost 1 11 := by unfold GoodTopLost; kernel_rfl
theorem kLost_0_11 : GoodTopLost 0 11 := by unfold GoodTopLost; kernel_rfl
end Go.Proofs.YtlannobincnnhaaGreatDoor
