/-
  No claim by itself: cases of TopTwice, evaluated. No condition.
-/
import Derived.Test.YtcdpilgndhledaaGreatDoorTopTwiceD
namespace Go.Proofs.YtcdpilgndhledaaGreatDoor
theorem kTwice_3_1 : GoodTopTwice 3 1 := by unfold GoodTopTwice; kernel_rfl
theorem kTwice_1_1 : GoodTopTwice 1 1 := by unfold GoodTopTwice; kernel_rfl
end Go.Proofs.YtcdpilgndhledaaGreatDoor
