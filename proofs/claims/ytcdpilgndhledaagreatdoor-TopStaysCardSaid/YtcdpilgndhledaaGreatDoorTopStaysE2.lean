/-
  No claim by itself: cases of TopStays, evaluated. No condition.
-/
import Derived.Test.YtcdpilgndhledaaGreatDoorTopStaysD
namespace Go.Proofs.YtcdpilgndhledaaGreatDoor
theorem kStays_6_8 : GoodTopStays 6 8 := by unfold GoodTopStays; kernel_rfl
theorem kStays_5_9 : GoodTopStays 5 9 := by unfold GoodTopStays; kernel_rfl
theorem kStays_5_0 : GoodTopStays 5 0 := by unfold GoodTopStays; kernel_rfl
theorem kStays_4_1 : GoodTopStays 4 1 := by unfold GoodTopStays; kernel_rfl
theorem kStays_3_2 : GoodTopStays 3 2 := by unfold GoodTopStays; kernel_rfl
theorem kStays_2_3 : GoodTopStays 2 3 := by unfold GoodTopStays; kernel_rfl
theorem kStays_1_4 : GoodTopStays 1 4 := by unfold GoodTopStays; kernel_rfl
theorem kStays_0_5 : GoodTopStays 0 5 := by unfold GoodTopStays; kernel_rfl
end Go.Proofs.YtcdpilgndhledaaGreatDoor
