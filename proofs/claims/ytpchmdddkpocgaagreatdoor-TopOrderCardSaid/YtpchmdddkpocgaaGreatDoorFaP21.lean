/-
  No claim by itself: TopOrder: pushes, number by number. No condition.
-/
import Derived.Test.YtpchmdddkpocgaaGreatDoorP25
namespace Go.Proofs.YtpchmdddkpocgaaGreatDoor
theorem faP_2_0 : allU (pbK 2 0) 13 = true := by kernel_rfl
theorem gaP_2_0 : allU (hiK 13 (pbK 2 0)) 24 = true := by kernel_rfl
theorem faP_2_1 : allU (pbK 2 1) 13 = true := by kernel_rfl
theorem gaP_2_1 : allU (hiK 13 (pbK 2 1)) 24 = true := by kernel_rfl
theorem faP_2_2 : allU (pbK 2 2) 13 = true := by kernel_rfl
theorem gaP_2_2 : allU (hiK 13 (pbK 2 2)) 24 = true := by kernel_rfl
theorem faP_2_3 : allU (pbK 2 3) 13 = true := by kernel_rfl
theorem gaP_2_3 : allU (hiK 13 (pbK 2 3)) 24 = true := by kernel_rfl
end Go.Proofs.YtpchmdddkpocgaaGreatDoor
