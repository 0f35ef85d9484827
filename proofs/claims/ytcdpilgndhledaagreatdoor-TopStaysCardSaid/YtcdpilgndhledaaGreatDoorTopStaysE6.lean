/-
  No claim by itself: cases of TopStays, evaluated. No condition.
-/
import Derived.Test.YtcdpilgndhledaaGreatDoorTopStaysD
namespace Go.Proofs.YtcdpilgndhledaaGreatDoor
theorem kStays_6_4 : GoodTopStays 6 4 := by unfold GoodTopStays; kernel_rfl
theorem kStays_5_5 : GoodTopStays 5 5 := by unfold GoodTopStays; kernel_rfl
theorem kStays_4_6 : GoodTopStays 4 6 := by unfold GoodTopStays; kernel_rfl
theorem kStays_3_7 : GoodTopStays 3 7 := by unfold GoodTopStays; kernel_rfl
theorem kStays_2_8 : GoodTopStays 2 8 := by unfold GoodTopStays; kernel_rfl
theorem kStays_1_9 : GoodTopStays 1 9 := by unfold GoodTopStays; kernel_rfl
theorem kStays_1_0 : GoodTopStays 1 0 := by unfold GoodTopStays; kernel_rfl
theorem kStays_0_1 : GoodTopStays 0 1 := by unfold GoodTopStays; kernel_rfl
end Go.Proofs.YtcdpilgndhledaaGreatDoor
