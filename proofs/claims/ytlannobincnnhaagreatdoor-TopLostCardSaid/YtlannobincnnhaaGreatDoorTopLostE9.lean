/-
  No claim by itself: cases of TopLost, evaluated. No condition.
-/
import Derived.Test.YtlannobincnnhaaGreatDoorTopLostD
namespace Go.Proofs.YtlannobincnnhaaGreatDoor
theorem kLost_4_21 : GoodTopLost 4 21 := by unfold GoodTopLost; kernel_rfl
theorem kLost_3_21 : GoodTopLost 3 21 := by unfold GoodTopLost; kernel_rfl
theorem kLost_2_21 : GoodTopLost 2 21 := by unfold GoodTopLost; kernel_rfl
theorem kLost_1_21 : GoodTopLost 1 21 := by unfold GoodTopLost; kernel_rfl
theorem kLost_0_21 : GoodTopLost 0 21 := by unfold GoodTopLost; kernel_rfl
end Go.Proofs.YtlannobincnnhaaGreatDoor
