/-
  No claim by itself: cases of TopLost, evaluated. No condition.
-/
import Derived.Test.YtlannobincnnhaaGreatDoorTopLostD
namespace Go.Proofs.YtlannobincnnhaaGreatDoor
theorem kLost_4_0 : GoodTopLost 4 0 := by unfold GoodTopLost; kernel_rfl
theorem kLost_3_0 : GoodTopLost 3 0 := by unfold GoodTopLost; kernel_rfl
theorem kLost_2_0 : GoodTopLost 2 0 := by unfold GoodTopLost; kernel_rfl
theorem kLost_1_0 : GoodTopLost 1 0 := by unfold GoodTopLost; kernel_rfl
theorem kLost_0_0 : GoodTopLost 0 0 := by unfold GoodTopLost; kernel_rfl
end Go.Proofs.YtlannobincnnhaaGreatDoor
