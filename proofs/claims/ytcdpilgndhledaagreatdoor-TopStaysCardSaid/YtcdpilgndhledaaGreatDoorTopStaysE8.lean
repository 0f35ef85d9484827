/-
  No claim by itself: cases of TopStays, evaluated. No condition.
-/
import Derived.Test.YtcdpilgndhledaaGreatDoorTopStaysD
namespace Go.Proofs.YtcdpilgndhledaaGreatDoor
theorem kStays_6_2 : GoodTopStays 6 2 := by unfold GoodTopStays; kernel_rfl
theorem kStays_5_3 : GoodTopStays 5 3 := by unfold GoodTopStays; kernel_rfl
theorem kStays_4_4 : GoodTopStays 4 4 := by unfold GoodTopStays; kernel_rfl
theorem kStays_3_5 : GoodTopStays 3 5 := by unfold GoodTopStays; kernel_rfl
theorem kStays_2_6 : GoodTopStays 2 6 := by unfold GoodTopStays; kernel_rfl
theorem kStays_1_7 : GoodTopStays 1 7 := by unfold GoodTopStays; kernel_rfl
theorem kStays_0_8 : GoodTopStays 0 8 := by unfold GoodTopStays; kernel_rfl
end Go.Proofs.YtcdpilgndhledaaGreatDoor
