/-
  No claim by itself: cases of TopLead, evaluated. No condition.
-/
import Derived.Test.YtcdpilgndhledaaGreatDoorTopLeadD
namespace Go.Proofs.YtcdpilgndhledaaGreatDoor
theorem kLead_6_6 : GoodTopLead 6 6 := by unfold GoodTopLead; kernel_rfl
theorem kLead_5_5 : GoodTopLead 5 5 := by unfold GoodTopLead; kernel_rfl
theorem kLead_4_3 : GoodTopLead 4 3 := by unfold GoodTopLead; kernel_rfl
theorem kLead_3_0 : GoodTopLead 3 0 := by unfold GoodTopLead; kernel_rfl
end Go.Proofs.YtcdpilgndhledaaGreatDoor
