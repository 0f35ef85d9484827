/-
  No claim by itself: cases of TopLead, evaluated. No condition.
-/
import Derived.Test.YtcdpilgndhledaaGreatDoorTopLeadD
namespace Go.Proofs.YtcdpilgndhledaaGreatDoor
theorem kLead_6_1 : GoodTopLead 6 1 := by unfold GoodTopLead; kernel_rfl
theorem kLead_5_0 : GoodTopLead 5 0 := by unfold GoodTopLead; kernel_rfl
theorem kLead_3_2 : GoodTopLead 3 2 := by unfold GoodTopLead; kernel_rfl
theorem kLead_1_0 : GoodTopLead 1 0 := by unfold GoodTopLead; kernel_rfl
end Go.Proofs.YtcdpilgndhledaaGreatDoor
