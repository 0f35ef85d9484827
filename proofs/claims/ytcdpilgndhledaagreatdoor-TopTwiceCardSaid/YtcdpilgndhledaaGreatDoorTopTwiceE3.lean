/-
  No claim by itself: cases of TopTwice, evaluated. No condition.
-/
import Derived.Test.YtcdpilgndhledaaGreatDoorTopTwiceD
namespace Go.Proofs.YtcdpilgndhledaaGreatDoor
theorem kTwice_2_1 : GoodTopTwice 2 1 := by unfold GoodTopTwice; kernel_rfl
theorem kTwice_0_1 : GoodTopTwice 0 1 := by unfold GoodTopTwice; kernel_rfl
end Go.Proofs.YtcdpilgndhledaaGreatDoor
