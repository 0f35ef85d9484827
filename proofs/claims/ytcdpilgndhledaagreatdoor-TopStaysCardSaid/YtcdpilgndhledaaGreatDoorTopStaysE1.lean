/-
  No claim by itself: cases of TopStays, evaluated. No condition.
-/
import Derived.Test.YtcdpilgndhledaaGreatDoorTopStaysD
namespace Go.Proofs.YtcdpilgndhledaaGreatDoor
theorem kStays_6_9 : GoodTopStays 6 9 := by unfold GoodTopStays; kernel_rfl
theorem kStays_6_0 : GoodTopStays 6 0 := by unfold GoodTopStays; kernel_rfl
theorem kStays_5_1 : GoodTopStays 5 1 := by unfold GoodTopStays; kernel_rfl
theorem kStays_4_2 : GoodTopStays 4 2 := by unfold GoodTopStays; kernel_rfl
theorem kStays_3_3 : GoodTopStays 3 3 := by unfold GoodTopStays; kernel_rfl
theorem kStays_2_4 : GoodTopStays 2 4 := by unfold GoodTopStays; kernel_rfl
theorem kStays_1_5 : GoodTopStays 1 5 := by unfold GoodTopStays; kernel_rfl
theorem kStays_0_6 : GoodTopStays 0 6 := by unfold GoodTopStays; kernel_rfl
end Go.Proofs.YtcdpilgndhledaaGreatDoor
