/-
  No claim by itself: cases of TopLead, evaluated. No condition.
-/
import Derived.Test.YtcdpilgndhledaaGreatDoorTopLeadD
namespace Go.Proofs.YtcdpilgndhledaaGreatDoor
theorem kLead_6_2 : GoodTopLead 6 2 := by unfold GoodTopLead; kernel_rfl
theorem kLead_5_1 : GoodTopLead 5 1 := by unfold GoodTopLead; kernel_rfl
theorem kLead_3_3 : GoodTopLead 3 3 := by unfold GoodTopLead; kernel_rfl
theorem kLead_1_1 : GoodTopLead 1 1 := by unfold GoodTopLead; kernel_rfl
end Go.Proofs.YtcdpilgndhledaaGreatDoor
