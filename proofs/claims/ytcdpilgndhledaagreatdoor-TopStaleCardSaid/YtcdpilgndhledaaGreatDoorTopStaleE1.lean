/-
  No claim by itself: cases of TopStale, evaluated. No condition.
-/
import Derived.Test.YtcdpilgndhledaaGreatDoorTopStaleD
namespace Go.Proofs.YtcdpilgndhledaaGreatDoor
theorem kStale_4 : GoodTopStale 4 := by unfold GoodTopStale; kernel_rfl
theorem kStale_1 : GoodTopStale 1 := by unfold GoodTopStale; kernel_rfl
end Go.Proofs.YtcdpilgndhledaaGreatDoor
