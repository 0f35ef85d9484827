/-
  No claim by itself: cases of TopStays, evaluated. No condition.
-/
import Derived.Test.YtcdpilgndhledaaGreatDoorTopStaysD
namespace Go.Proofs.YtcdpilgndhledaaGreatDoor
theorem kStays_6_1 : GoodTopStays 6 1 := by unfold GoodTopStays; kernel_rfl
theorem kStays_5_2 : GoodTopStays 5 2 := by unfold GoodTopStays; kernel_rfl
theorem kStays_4_3 : GoodTopStays 4 3 := by unfold GoodTopStays; kernel_rfl
theorem kStays_3_4 : GoodTopStays 3 4 := by unfold GoodTopStays; kernel_rfl
theorem kStays_2_5 : GoodTopStays 2 5 := by unfold GoodTopStays; kernel_rfl
theorem kStays_1_6 : GoodTopStays 1 6 := by unfold GoodTopStays; kernel_rfl
theorem kStays_0_7 : GoodTopStays 0 7 := by unfold GoodTopStays; kernel_rfl
end Go.Proofs.YtcdpilgndhledaaGreatDoor
