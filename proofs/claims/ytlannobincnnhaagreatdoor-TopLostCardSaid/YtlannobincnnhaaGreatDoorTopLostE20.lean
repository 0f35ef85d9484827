/-
  No claim by itself: cases of TopLost, evaluated. No condition.
-/
import Derived.Test.YtlannobincnnhaaGreatDoorTopLostD
namespace Go.Proofs.YtlannobincnnhaaGreatDoor
theorem kLost_4_10 : GoodTopLost 4 10 := by unfold GoodTopLost; kernel_rfl
theorem kLost_3_10 : GoodTopLost 3 10 := by unfold GoodTopLost; kernel_rfl
theorem kLost_2_10 : GoodTopLost 2 10 := by unfold GoodTopLost; kernel_rfl
theorem kLost_1_10 : GoodTopLost 1 10 := by unfold GoodTopLost; kernel_rfl
theorem kLost_0_10 : GoodTopLost 0 10 := by unfold GoodTopLost; kernel_rfl
end Go.Proofs.YtlannobincnnhaaGreatDoor
