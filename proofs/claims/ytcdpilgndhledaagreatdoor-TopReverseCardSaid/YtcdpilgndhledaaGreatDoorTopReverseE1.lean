/-
  No claim by itself: cases of TopReverse, evaluated. No condition.
-/
import Derived.Test.YtcdpilgndhledaaGreatDoorTopReverseD
namespace Go.Proofs.YtcdpilgndhledaaGreatDoor
theorem kReverse_7 : GoodTopReverse 7 := by unfold GoodTopReverse; kernel_rfl
theorem kReverse_3 : GoodTopReverse 3 := by unfold GoodTopReverse; kernel_rfl
end Go.Proofs.YtcdpilgndhledaaGreatDoor
