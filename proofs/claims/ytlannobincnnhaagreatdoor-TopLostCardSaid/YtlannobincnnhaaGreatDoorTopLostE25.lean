/-
  No claim by itself: cases of TopLost, evaluated. No condition.
-/
import Derived.Test.YtlannobincnnhaaGreatDoorTopLostD
namespace Go.Proofs.YtlannobincnnhaaGreatDoor
theorem kLost_4_5 : GoodTopLost 4 5 := by unfold GoodTopLost; kernel_rfl
theorem kLost_3_5 : GoodTopLost 3 5 := by unfold GoodTopLost; kernel_rfl
theorem kLost_2_5 : GoodTopLost 2 5 := by unfold GoodTopLost; kernel_rfl
theorem kLost_1_5 : GoodTopLost 1 5 := by unfold GoodTopLost; kernel_rfl
theorem kLost_0_5 : GoodTopLost 0 5 := by unfold GoodTopLost; kernel_rfl
end Go.Proofs.YtlannobincnnhaaGreatDoor
