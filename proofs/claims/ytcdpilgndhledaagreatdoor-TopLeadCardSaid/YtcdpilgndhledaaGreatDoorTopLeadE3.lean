/-
  No claim by itself: cases of TopLead, evaluated. No condition.
-/
import Derived.Test.YtcdpilgndhledaaGreatDoorTopLeadD
namespace Go.Proofs.YtcdpilgndhledaaGreatDoor
theorem kLead_6_4 : GoodTopLead 6 4 := by unfold GoodTopLead; kernel_rfl
theorem kLead_5_3 : GoodTopLead 5 3 := by unfold GoodTopLead; kernel_rfl
theorem kLead_4_1 : GoodTopLead 4 1 := by unfold GoodTopLead; kernel_rfl
theorem kLead_2_1 : GoodTopLead 2 1 := by unfold GoodTopLead; kernel_rfl
end Go.Proofs.YtcdpilgndhledaaGreatDoor
