/-
  No claim by itself: cases of TopLost, evaluated. No condition.
-/
import Derived.Test.YtlannobincnnhaaGreatDoorTopLostD
namespace Go.Proofs.YtlannobincnnhaaGreatDoor
theorem kLost_4_7 : GoodTopLost 4 7 := by unfold GoodTopLost; kernel_rfl
theorem kLost_3_7 : GoodTopLost 3 7 := by unfold GoodTopLost; kernel_rfl
theorem kLost_2_7 : GoodTopLost 2 7 := by unfold GoodTopLost; kernel_rfl
theorem kLost_1_7 : GoodTopLost 1 7 := by unfold GoodTopLost; kernel_rfl
theorem kLost_0_7 : GoodTopLost 0 7 := by unfold GoodTopLost; kernel_rfl
end Go.Proofs.YtlannobincnnhaaGreatDoor
