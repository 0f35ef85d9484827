/-
  No claim by itself: cases of TopReverse, evaluated. No condition.
-/
import Derived.Test.YtcdpilgndhledaaGreatDoorTopReverseD
namespace Go.Proofs.YtcdpilgndhledaaGreatDoor
theorem kReverse_4 : GoodTopReverse 4 := by unfold GoodTopReverse; kernel_rfl
theorem kReverse_0 : GoodTopReverse 0 := by unfold GoodTopReverse; kernel_rfl
end Go.Proofs.YtcdpilgndhledaaGreatDoor
