/-
  No claim by itself: TopOrder: pushes, number by number. No condition.
-/
import Derived.Test.YtpchmdddkpocgaaGreatDoorP25
namespace Go.Proofs.YtpchmdddkpocgaaGreatDoor
theorem faP_1_0 : allU (pbK 1 0) 13 = true := by kernel_rfl
theorem gaP_1_0 : allU (hiK 13 (pbK 1 0)) 24 = true := by kernel_rfl
theorem faP_1_1 : allU (pbK 1 1) 13 = true := by kernel_rfl
theorem gaP_1_1 : allU (hiK 13 (pbK 1 1)) 24 = true := by kernel_rfl
theorem faP_1_2 : allU (pbK 1 2) 13 = true := by kernel_rfl
theorem gaP_1_2 : allU (hiK 13 (pbK 1 2)) 24 = true := by kernel_rfl
theorem faP_1_3 : allU (pbK 1 3) 13 = true := by kernel_rfl
theorem gaP_1_3 : allU (hiK 13 (pbK 1 3)) 24 = true := by kernel_rfl
end Go.Proofs.YtpchmdddkpocgaaGreatDoor
