/-
  No claim by itself: TopOrder: pushes, number by number. No condition.
-/
import Derived.Test.YtpchmdddkpocgaaGreatDoorP25
namespace Go.Proofs.YtpchmdddkpocgaaGreatDoor
theorem faP_2_4 : allU (pbK 2 4) 13 = true := by kernel_rfl
theorem gaP_2_4 : allU (hiK 13 (pbK 2 4)) 24 = true := by kernel_rfl
theorem faP_2_5 : allU (pbK 2 5) 13 = true := by kernel_rfl
theorem gaP_2_5 : allU (hiK 13 (pbK 2 5)) 24 = true := by kernel_rfl
theorem faP_2_6 : allU (pbK 2 6) 13 = true := by kernel_rfl
theorem gaP_2_6 : allU (hiK 13 (pbK 2 6)) 24 = true := by kernel_rfl
theorem faP_2_7 : allU (pbK 2 7) 13 = true := by kernel_rfl
theorem gaP_2_7 : allU (hiK 13 (pbK 2 7)) 24 = true := by kernel_rfl
end Go.Proofs.YtpchmdddkpocgaaGreatDoor
