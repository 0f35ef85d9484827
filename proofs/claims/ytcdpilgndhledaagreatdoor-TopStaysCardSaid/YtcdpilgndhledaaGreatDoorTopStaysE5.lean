/-
  No claim by itself: cases of TopStays, evaluated. No condition.
-/
import Derived.Test.YtcdpilgndhledaaGreatDoorTopStaysD
namespace Go.Proofs.YtcdpilgndhledaaGreatDoor
theorem kStays_6_5 : GoodTopStays 6 5 := by unfold GoodTopStays; kernel_rfl
theorem kStays_5_6 : GoodTopStays 5 6 := by unfold GoodTopStays; kernel_rfl
theorem kStays_4_7 : GoodTopStays 4 7 := by unfold GoodTopStays; kernel_rfl
theorem kStays_3_8 : GoodTopStays 3 8 := by unfold GoodTopStays; kernel_rfl
theorem kStays_2_9 : GoodTopStays 2 9 := by unfold GoodTopStays; kernel_rfl
theorem kStays_2_0 : GoodTopStays 2 0 := by unfold GoodTopStays; kernel_rfl
theorem kStays_1_1 : GoodTopStays 1 1 := by unfold GoodTopStays; kernel_rfl
theorem kStays_0_2 : GoodTopStays 0 2 := by unfold GoodTopStays; kernel_rfl
end Go.Proofs.YtcdpilgndhledaaGreatDoor
