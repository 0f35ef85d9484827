/-
  No claim by itself: cases of TopReverse, evaluated. No condition.
-/
import Derived.Test.YtcdpilgndhledaaGreatDoorTopReverseD
namespace Go.Proofs.YtcdpilgndhledaaGreatDoor
theorem kReverse_5 : GoodTopReverse 5 := by unfold GoodTopReverse; kernel_rfl
theorem kReverse_1 : GoodTopReverse 1 := by unfold GoodTopReverse; kernel_rfl
end Go.Proofs.YtcdpilgndhledaaGreatDoor
