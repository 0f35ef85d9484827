/-
  No claim by itself: TopOrder: pushes, number by number. No condition.
-/
import Derived.Test.YtpchmdddkpocgaaGreatDoorP25
namespace Go.Proofs.YtpchmdddkpocgaaGreatDoor
theorem faP_3_4 : allU (pbK 3 4) 13 = true := by kernel_rfl
theorem gaP_3_4 : allU (hiK 13 (pbK 3 4)) 24 = true := by kernel_rfl
theorem faP_3_5 : allU (pbK 3 5) 13 = true := by kernel_rfl
theorem gaP_3_5 : allU (hiK 13 (pbK 3 5)) 24 = true := by kernel_rfl
theorem faP_3_6 : allU (pbK 3 6) 13 = true := by kernel_rfl
theorem gaP_3_6 : allU (hiK 13 (pbK 3 6)) 24 = true := by kernel_rfl
theorem faP_3_7 : allU (pbK 3 7) 13 = true := by kernel_rfl
theorem gaP_3_7 : allU (hiK 13 (pbK 3 7)) 24 = true := by kernel_rfl
end Go.Proofs.YtpchmdddkpocgaaGreatDoor
