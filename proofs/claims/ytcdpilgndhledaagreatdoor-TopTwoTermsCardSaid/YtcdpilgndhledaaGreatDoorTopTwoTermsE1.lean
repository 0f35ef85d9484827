/-
  No claim by itself: cases of TopTwoTerms, evaluated. No condition.
-/
import Derived.Test.YtcdpilgndhledaaGreatDoorTopTwoTermsD
namespace Go.Proofs.YtcdpilgndhledaaGreatDoor
theorem kTwoTerms_3 : GoodTopTwoTerms 3 := by unfold GoodTopTwoTerms; kernel_rfl
end Go.Proofs.YtcdpilgndhledaaGreatDoor
