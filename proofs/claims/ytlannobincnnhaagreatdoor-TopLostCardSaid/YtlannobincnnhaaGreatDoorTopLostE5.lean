/-
  No claim by itself: cases of TopLost, evaluated. No condition.
-/
import Derived.Test.YtlannobincnnhaaGreatDoorTopLostD
namespace Go.Proofs.YtlannobincnnhaaGreatDoor
theorem kLost_4_25 : GoodTopLost 4 25 := by unfold GoodTopLost; kernel_rfl
theorem kLost_3_25 : GoodTopLost 3 25 := by unfold GoodTopLost; kernel_rfl
theorem kLost_2_25 : GoodTopLost 2 25 := by unfold GoodTopLost; kernel_rfl
theorem kLost_1_25 : GoodTopLost 1 25 := by unfold GoodTopLost; kernel_rfl
theorem kLost_0_25 : GoodTopLost 0 25 := by unfold GoodTopLost; kernel_rfl
end Go.Proofs.YtlannobincnnhaaGreatDoor
