/-
  No claim by itself: cases of TopLost, evaluated. No condition.
-/
import Derived.Test.YtlannobincnnhaaGreatDoorTopLostD
namespace Go.Proofs.YtlannobincnnhaaGreatDoor
theorem kLost_4_20 : GoodTopLost 4 20 := by unfold GoodTopLost; kernel_rfl
theorem kLost_3_20 : GoodTopLost 3 20 := by unfold GoodTopLost; kernel_rfl
theorem kLost_2_20 : GoodTopLost 2 20 := by unfold GoodTopLost; kernel_rfl
theorem kLost_1_20 : GoodTopLost 1 20 := by unfold GoodTopLost; kernel_rfl
theorem kLost_0_20 : GoodTopLost 0 20 := by unfold GoodTopLost; kernel_rfl
end Go.Proofs.YtlannobincnnhaaGreatDoor
