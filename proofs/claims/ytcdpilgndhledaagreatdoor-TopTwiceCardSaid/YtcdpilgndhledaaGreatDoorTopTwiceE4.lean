/-
  No claim by itself: cases of TopTwice, evaluated. No condition.
-/
import Derived.Test.YtcdpilgndhledaaGreatDoorTopTwiceD
namespace Go.Proofs.YtcdpilgndhledaaGreatDoor
theorem kTwice_2_0 : GoodTopTwice 2 0 := by unfold GoodTopTwice; kernel_rfl
theorem kTwice_0_0 : GoodTopTwice 0 0 := by unfold GoodTopTwice; kernel_rfl
end Go.Proofs.YtcdpilgndhledaaGreatDoor
