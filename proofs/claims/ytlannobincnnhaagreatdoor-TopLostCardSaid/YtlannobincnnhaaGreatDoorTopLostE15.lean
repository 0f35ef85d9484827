/-
  No claim by itself: cases of TopLost, evaluated. No condition.
-/
import Derived.Test.YtlannobincnnhaaGreatDoorTopLostD
namespace Go.Proofs.YtlannobincnnhaaGreatDoor
theorem kLost_4_15 : GoodTopLost 4 15 := by unfold GoodTopLost; kernel_rfl
theorem kLost_3_15 : GoodTopLost 3 15 := by unfold GoodTopLost; kernel_rfl
theorem kLost_2_15 : GoodTopLost 2 15 := by unfold GoodTopLost; kernel_rfl
theorem kLost_1_15 : GoodTopLost 1 15 := by unfold GoodTopLost; kernel_rfl
theorem kLost_0_15 : GoodTopLost 0 15 := by unfold GoodTopLost; kernel_rfl
end Go.Proofs.YtlannobincnnhaaGreatDoor
