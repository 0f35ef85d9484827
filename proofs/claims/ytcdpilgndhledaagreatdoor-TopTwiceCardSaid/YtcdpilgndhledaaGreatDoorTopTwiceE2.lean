/-
  No claim by itself: cases of TopTwice, evaluated. No condition.
-/
import Derived.Test.YtcdpilgndhledaaGreatDoorTopTwiceD
namespace Go.Proofs.YtcdpilgndhledaaGreatDoor
theorem kTwice_3_0 : GoodTopTwice 3 0 := by unfold GoodTopTwice; kernel_rfl
theorem kTwice_1_0 : GoodTopTwice 1 0 := by unfold GoodTopTwice; kernel_rfl
end Go.Proofs.YtcdpilgndhledaaGreatDoor
