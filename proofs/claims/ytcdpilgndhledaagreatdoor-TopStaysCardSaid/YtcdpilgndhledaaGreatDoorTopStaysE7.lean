/-
  No claim by itself: cases of TopStays, evaluated. No condition.
-/
import Derived.Test.YtcdpilgndhledaaGreatDoorTopStaysD
namespace Go.Proofs.YtcdpilgndhledaaGreatDoor
theorem kStays_6_3 : GoodTopStays 6 3 := by unfold GoodTopStays; kernel_rfl
theorem kStays_5_4 : GoodTopStays 5 4 := by unfold GoodTopStays; kernel_rfl
theorem kStays_4_5 : GoodTopStays 4 5 := by unfold GoodTopStays; kernel_rfl
theorem kStays_3_6 : GoodTopStays 3 6 := by unfold GoodTopStays; kernel_rfl
theorem kStays_2_7 : GoodTopStays 2 7 := by unfold GoodTopStays; kernel_rfl
theorem kStays_1_8 : GoodTopStays 1 8 := by unfold GoodTopStays; kernel_rfl
theorem kStays_0_9 : GoodTopStays 0 9 := by unfold GoodTopStays; kernel_rfl
theorem kStays_0_0 : GoodTopStays 0 0 := by unfold GoodTopStays; kernel_rfl
end Go.Proofs.YtcdpilgndhledaaGreatDoor
