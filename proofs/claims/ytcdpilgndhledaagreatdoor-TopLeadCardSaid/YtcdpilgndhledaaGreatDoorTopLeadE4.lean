/-
  No claim by itself: cases of TopLead, evaluated. No condition.
-/
import Derived.Test.YtcdpilgndhledaaGreatDoorTopLeadD
namespace Go.Proofs.YtcdpilgndhledaaGreatDoor
theorem kLead_6_3 : GoodTopLead 6 3 := by unfold GoodTopLead; kernel_rfl
theorem kLead_5_2 : GoodTopLead 5 2 := by unfold GoodTopLead; kernel_rfl
theorem kLead_4_0 : GoodTopLead 4 0 := by unfold GoodTopLead; kernel_rfl
theorem kLead_2_0 : GoodTopLead 2 0 := by unfold GoodTopLead; kernel_rfl
end Go.Proofs.YtcdpilgndhledaaGreatDoor
