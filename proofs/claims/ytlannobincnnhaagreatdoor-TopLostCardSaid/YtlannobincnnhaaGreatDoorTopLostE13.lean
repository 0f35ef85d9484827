/-
  No claim by itself: cases of TopLost, evaluated. No condition.
-/
import Derived.Test.YtlannobincnnhaaGreatDoorTopLostD
namespace Go.Proofs.YtlannobincnnhaaGreatDoor
theorem kLost_4_17 : GoodTopLost 4 17 := by unfold GoodTopLost; kernel_rfl
theorem kLost_3_17 : GoodTopLost 3 17 := by unfold GoodTopLost; kernel_rfl
theorem kLost_2_17 : GoodTopLost 2 17 := by unfold GoodTopLost; kernel_rfl
theorem kLost_1_17 : GoodTopLost 1 17 := by unfold GoodTopLost; kernel_rfl
theorem kLost_0_17 : GoodTopLost 0 17 := by unfold GoodTopLost; kernel_rfl
end Go.Proofs.YtlannobincnnhaaGreatDoor
