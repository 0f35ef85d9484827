/-
  No claim by itself: cases of TopStale, evaluated. No condition.
-/
import Derived.Test.YtcdpilgndhledaaGreatDoorTopStaleD
namespace Go.Proofs.YtcdpilgndhledaaGreatDoor
theorem kStale_3 : GoodTopStale 3 := by unfold GoodTopStale; kernel_rfl
theorem kStale_0 : GoodTopStale 0 := by unfold GoodTopStale; kernel_rfl
end Go.Proofs.YtcdpilgndhledaaGreatDoor
