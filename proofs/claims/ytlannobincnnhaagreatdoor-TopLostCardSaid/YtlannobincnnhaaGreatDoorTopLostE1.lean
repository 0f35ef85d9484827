/-
  No claim by itself: cases of TopLost, evaluated. No condition.
-/
import Derived.Test.YtlannobincnnhaaGreatDoorTopLostD
namespace Go.Proofs.YtlannobincnnhaaGreatDoor
theorem kLost_4_29 : GoodTopLost 4 29 := by unfold GoodTopLost; kernel_rfl
theorem kLost_3_29 : GoodTopLost 3 29 := by unfold GoodTopLost; kernel_rfl
theorem kLost_2_29 : GoodTopLost 2 29 := by unfold GoodTopLost; kernel_rfl
theorem kLost_1_29 : GoodTopLost 1 29 := by unfold GoodTopLost; kernel_rfl
theorem kLost_0_29 : GoodTopLost 0 29 := by unfold GoodTopLost; kernel_rfl
end Go.Proofs.YtlannobincnnhaaGreatDoor
