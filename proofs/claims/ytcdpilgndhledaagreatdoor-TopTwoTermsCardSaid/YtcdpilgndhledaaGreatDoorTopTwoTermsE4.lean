/-
  No claim by itself: cases of TopTwoTerms, evaluated. No condition.
-/
import Derived.Test.YtcdpilgndhledaaGreatDoorTopTwoTermsD
namespace Go.Proofs.YtcdpilgndhledaaGreatDoor
theorem kTwoTerms_0 : GoodTopTwoTerms 0 := by unfold GoodTopTwoTerms; kernel_rfl
end Go.Proofs.YtcdpilgndhledaaGreatDoor
