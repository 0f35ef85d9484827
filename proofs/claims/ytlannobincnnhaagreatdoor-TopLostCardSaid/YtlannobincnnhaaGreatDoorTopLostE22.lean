/-
  No claim by itself: cases of TopLost, evaluated. No condition.
-/
import Derived.Test.YtlannobincnnhaaGreatDoorTopLostD
namespace Go.Proofs.YtlannobincnnhaaGreatDoor
theorem kLost_4_8 : GoodTopLost 4 8 := by unfold GoodTopLost; kernel_rfl
theorem kLost_3_8 : GoodTopLost 3 8 := by unfold GoodTopLost; kernel_rfl
theorem kLost_2_8 : GoodTopLost 2 8 := by unfold GoodTopLost; kernel_rfl
theorem kLost_1_8 : GoodTopLost 1 8 := by unfold GoodTopLost; kernel_rfl
theorem kLost_0_8 : GoodTopLost 0 8 := by unfold GoodTopLost; kernel_rfl
end Go.Proofs.YtlannobincnnhaaGreatDoor
