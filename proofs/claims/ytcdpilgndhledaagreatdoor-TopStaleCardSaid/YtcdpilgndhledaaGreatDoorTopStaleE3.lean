/-
  No claim by itself: cases of TopStale, evaluated. No condition.
-/
import Derived.Test.YtcdpilgndhledaaGreatDoorTopStaleD
namespace Go.Proofs.YtcdpilgndhledaaGreatDoor
theorem kStale_2 : GoodTopStale 2 := by unfold GoodTopStale; kernel_rfl
end Go.Proofs.YtcdpilgndhledaaGreatDoor
