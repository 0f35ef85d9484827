/-
  No claim by itself: cases of TopLead, evaluated. No condition.
-/
import Derived.Test.YtcdpilgndhledaaGreatDoorTopLeadD
namespace Go.Proofs.YtcdpilgndhledaaGreatDoor
theorem kLead_6_5 : GoodTopLead 6 5 := by unfold GoodTopLead; kernel_rfl
theorem kLead_5_4 : GoodTopLead 5 4 := by unfold GoodTopLead; kernel_rfl
theorem kLead_4_2 : GoodTopLead 4 2 := by unfold GoodTopLead; kernel_rfl
theorem kLead_2_2 : GoodTopLead 2 2 := by unfold GoodTopLead; kernel_rfl
end Go.Proofs.YtcdpilgndhledaaGreatDoor
