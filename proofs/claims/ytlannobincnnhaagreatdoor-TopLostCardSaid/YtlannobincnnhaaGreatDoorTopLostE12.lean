/-
  No claim by itself: cases of TopLost, evaluated. No condition.
-/
import Derived.Test.YtlannobincnnhaaGreatDoorTopLostD
namespace Go.Proofs.YtlannobincnnhaaGreatDoor
theorem kLost_4_18 : GoodTopLost 4 18 := by unfold GoodTopLost; kernel_rfl
theorem kLost_3_18 : GoodTopLost 3 18 := by unfold GoodTopLost; kernel_rfl
theorem kLost_2_18 : GoodTopLost 2 18 := by unfold GoodTopLost; kernel_rfl
theorem kLost_1_18 : GoodTopLost 1 18 := by unfold GoodTopLost; kernel_rfl
theorem kLost_0_18 : GoodTopLost 0 18 := by unfold GoodTopLost; kernel_rfl
end Go.Proofs.YtlannobincnnhaaGreatDoor
