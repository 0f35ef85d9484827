/-
  No claim by itself: cases of TopReverse, evaluated. No condition.
-/
import Derived.Test.YtcdpilgndhledaaGreatDoorTopReverseD
namespace Go.Proofs.YtcdpilgndhledaaGreatDoor
theorem kReverse_6 : GoodTopReverse 6 := by unfold GoodTopReverse; kernel_rfl
theorem kReverse_2 : GoodTopReverse 2 := by unfold GoodTopReverse; kernel_rfl
end Go.Proofs.YtcdpilgndhledaaGreatDoor
