/-
  No claim by itself: cases of TopLost, evaluated. No condition.
-/
import Derived.Test.YtlannobincnnhaaGreatDoorTopLostD
namespace Go.Proofs.YtlannobincnnhaaGreatDoor
theorem kLost_4_19 : GoodTopLost 4 19 := by unfold GoodTopLost; kernel_rfl
theorem kLost_3_19 : GoodTopLost 3 19 := by unfold GoodTopLost; kernel_rfl
theorem kLost_2_19 : GoodTopLost 2 19 := by unfold GoodTopLost; kernel_rfl
theorem kLost_1_19 : GoodTopLost 1 19 := by unfold GoodTopLost; kernel_rfl
theorem kLost_0_19 : GoodTopLost 0 19 := by unfold GoodTopLost; kernel_rfl
end Go.Proofs.YtlannobincnnhaaGreatDoor
