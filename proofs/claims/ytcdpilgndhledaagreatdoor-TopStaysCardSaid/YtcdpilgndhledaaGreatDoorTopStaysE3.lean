/-
  No claim by itself: cases of TopStays, evaluated. No condition.
-/
import Derived.Test.YtcdpilgndhledaaGreatDoorTopStaysD
namespace Go.Proofs.YtcdpilgndhledaaGreatDoor
theorem kStays_6_7 : GoodTopStays 6 7 := by unfold GoodTopStays; kernel_rfl
theorem kStays_5_8 : GoodTopStays 5 8 := by unfold GoodTopStays; kernel_rfl
theorem kStays_4_9 : GoodTopStays 4 9 := by unfold GoodTopStays; kernel_rfl
theorem kStays_4_0 : GoodTopStays 4 0 := by unfold GoodTopStays; kernel_rfl
theorem kStays_3_1 : GoodTopStays 3 1 := by unfold GoodTopStays; kernel_rfl
theorem kStays_2_2 : GoodTopStays 2 2 := by unfold GoodTopStays; kernel_rfl
theorem kStays_1_3 : GoodTopStays 1 3 := by unfold GoodTopStays; kernel_rfl
theorem kStays_0_4 : GoodTopStays 0 4 := by unfold GoodTopStays; kernel_rfl
end Go.Proofs.YtcdpilgndhledaaGreatDoor
