/-
  No claim by itself: cases of TopLost, evaluated. No condition.
-/
import Derived.Test.YtlannobincnnhaaGreatDoorTopLostD
namespace Go.Proofs.YtlannobincnnhaaGreatDoor
theorem kLost_4_16 : GoodTopLost 4 16 := by unfold GoodTopLost; kernel_rfl
theorem kLost_3_16 : GoodTopLost 3 16 := by unfold GoodTopLost; kernel_rfl
theorem kLost_2_16 : GoodTopLost 2 16 := by unfold GoodTopLost; kernel_rfl
theorem kLost_1_16 : GoodTopLost 1 16 := by unfold GoodTopLost; kernel_rfl
theorem kLost_0_16 : GoodTopLost 0 16 := by unfold GoodTopLost; kernel_rfl
end Go.Proofs.YtlannobincnnhaaGreatDoor
