/-
  No claim by itself: cases of TopLost, evaluated. No condition.
-/
import Derived.Test.YtlannobincnnhaaGreatDoorTopLostD
namespace Go.Proofs.YtlannobincnnhaaGreatDoor
theorem kLost_4_27 : GoodTopLost 4 27 := by unfold GoodTopLost; kernel_rfl
theorem kLost_3_27 : GoodTopLost 3 27 := by unfold GoodTopLost; kernel_rfl
theorem kLost_2_27 : GoodTopLost 2 27 := by unfold GoodTopLost; kernel_rfl
theorem kLost_1_27 : GoodTopLost 1 27 := by unfold GoodTopLost; kernel_rfl
theorem kLost_0_27 : GoodTopLost 0 27 := by unfold GoodTopLost; kernel_rfl
end Go.Proofs.YtlannobincnnhaaGreatDoor
