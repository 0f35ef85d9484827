/-
  No claim by itself: TopOrder: pushes, number by number. No condition.
-/
import Derived.Test.YtpchmdddkpocgaaGreatDoorP25
namespace Go.Proofs.YtpchmdddkpocgaaGreatDoor
theorem faP_1_4 : allU (pbK 1 4) 13 = true := by kernel_rfl
theorem gaP_1_4 : allU (hiK 13 (pbK 1 4)) 24 = true := by kernel_rfl
theorem faP_1_5 : allU (pbK 1 5) 13 = true := by kernel_rfl
theorem gaP_1_5 : allU (hiK 13 (pbK 1 5)) 24 = true := by kernel_rfl
theorem faP_1_6 : allU (pbK 1 6) 13 = true := by kernel_rfl
theorem gaP_1_6 : allU (hiK 13 (pbK 1 6)) 24 = true := by kernel_rfl
theorem faP_1_7 : allU (pbK 1 7) 13 = true := by kernel_rfl
theorem gaP_1_7 : allU (hiK 13 (pbK 1 7)) 24 = true := by kernel_rfl
end Go.Proofs.YtpchmdddkpocgaaGreatDoor
