/-
  No claim by itself: cases of TopStays, evaluated. No condition.
-/
import Derived.Test.YtcdpilgndhledaaGreatDoorTopStaysD
namespace Go.Proofs.YtcdpilgndhledaaGreatDoor
theorem kStays_6_6 : GoodTopStays 6 6 := by unfold GoodTopStays; kernel_rfl
theorem kStays_5_7 : GoodTopStays 5 7 := by unfold GoodTopStays; kernel_rfl
theorem kStays_4_8 : GoodTopStays 4 8 := by unfold GoodTopStays; kernel_rfl
theorem kStays_3_9 : GoodTopStays 3 9 := by unfold GoodTopStays; kernel_rfl
theorem kStays_3_0 : GoodTopStays 3 0 := by unfold GoodTopStays; kernel_rfl
theorem kStays_2_1 : GoodTopStays 2 1 := by unfold GoodTopStays; kernel_rfl
theorem kStays_1_2 : GoodTopStays 1 2 := by unfold GoodTopStays; kernel_rfl
theorem kStays_0_3 : GoodTopStays 0 3 := by unfold GoodTopStays; kernel_rfl
end Go.Proofs.YtcdpilgndhledaaGreatDoor
