/-
  No claim by itself: cases of TopTwoTerms, evaluated. No condition.
-/
import Derived.Test.YtcdpilgndhledaaGreatDoorTopTwoTermsD
namespace Go.Proofs.YtcdpilgndhledaaGreatDoor
theorem kTwoTerms_1 : GoodTopTwoTerms 1 := by unfold GoodTopTwoTerms; kernel_rfl
end Go.Proofs.YtcdpilgndhledaaGreatDoor
