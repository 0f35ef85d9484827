/-
  No claim by itself: cases of TopLost, evaluated. No condition.
-/
import Derived.Test.YtlannobincnnhaaGreatDoorTopLostD
namespace Go.Proofs.YtlannobincnnhaaGreatDoor
theorem kLost_4_26 : GoodTopLost 4 26 := by unfold GoodTopLost; kernel_rfl
theorem kLost_3_26 : GoodTopLost 3 26 := by unfold GoodTopLost; kernel_rfl
theorem kLost_2_26 : GoodTopLost 2 26 := by unfold GoodTopLost; kernel_rfl
theorem kLost_1_26 : GoodTopLost 1 26 := by unfold GoodTopLost; kernel_rfl
theorem kLost_0_26 : GoodTopLost 0 26 := by unfold GoodTopLost; kernel_rfl
end Go.Proofs.YtlannobincnnhaaGreatDoor
