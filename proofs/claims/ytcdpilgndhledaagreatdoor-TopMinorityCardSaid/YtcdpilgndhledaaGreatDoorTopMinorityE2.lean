/-
  No claim by itself: cases of TopMinority, evaluated. No condition.
-/
import Derived.Test.YtcdpilgndhledaaGreatDoorTopMinorityD
namespace Go.Proofs.YtcdpilgndhledaaGreatDoor
theorem kMinority_5 : GoodTopMinority 5 := by unfold GoodTopMinority; kernel_rfl
end Go.Proofs.YtcdpilgndhledaaGreatDoor
