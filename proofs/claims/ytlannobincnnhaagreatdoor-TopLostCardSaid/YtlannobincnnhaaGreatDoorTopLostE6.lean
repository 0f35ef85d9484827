/-
  No claim by itself: cases of TopLost, evaluated. No condition.
-/
import Derived.Test.YtlannobincnnhaaGreatDoorTopLostD
namespace Go.Proofs.YtlannobincnnhaaGreatDoor
theorem kLost_4_24 : GoodTopLost 4 24 := by unfold GoodTopLost; kernel_rfl
theorem kLost_3_24 : GoodTopLost 3 24 := by unfold GoodTopLost; kernel_rfl
theorem kLost_2_24 : GoodTopLost 2 24 := by unfold GoodTopLost; kernel_rfl
theorem kLost_1_24 : GoodTopLost 1 24 := by unfold GoodTopLost; kernel_rfl
theorem kLost_0_24 : GoodTopLost 0 24 := by unfold GoodTopLost; kernel_rfl
end Go.Proofs.YtlannobincnnhaaGreatDoor
