/-
  No claim by itself: TopOrder: pushes, number by number. No condition.
-/
import Derived.Test.YtpchmdddkpocgaaGreatDoorP25
namespace Go.Proofs.YtpchmdddkpocgaaGreatDoor
theorem faP_3_0 : allU (pbK 3 0) 13 = true := by kernel_rfl
theorem gaP_3_0 : allU (hiK 13 (pbK 3 0)) 24 = true := by kernel_rfl
theorem faP_3_1 : allU (pbK 3 1) 13 = true := by kernel_rfl
theorem gaP_3_1 : allU (hiK 13 (pbK 3 1)) 24 = true := by kernel_rfl
theorem faP_3_2 : allU (pbK 3 2) 13 = true := by kernel_rfl
theorem gaP_3_2 : allU (hiK 13 (pbK 3 2)) 24 = true := by kernel_rfl
theorem faP_3_3 : allU (pbK 3 3) 13 = true := by kernel_rfl
theorem gaP_3_3 : allU (hiK 13 (pbK 3 3)) 24 = true := by kernel_rfl
end Go.Proofs.YtpchmdddkpocgaaGreatDoor
