/-
  No claim by itself: cases of TopLead, evaluated. No condition.
-/
import Derived.Test.YtcdpilgndhledaaGreatDoorTopLeadD
namespace Go.Proofs.YtcdpilgndhledaaGreatDoor
theorem kLead_6_0 : GoodTopLead 6 0 := by unfold GoodTopLead; kernel_rfl
theorem kLead_4_4 : GoodTopLead 4 4 := by unfold GoodTopLead; kernel_rfl
theorem kLead_3_1 : GoodTopLead 3 1 := by unfold GoodTopLead; kernel_rfl
theorem kLead_0_0 : GoodTopLead 0 0 := by unfold GoodTopLead; kernel_rfl
end Go.Proofs.YtcdpilgndhledaaGreatDoor
