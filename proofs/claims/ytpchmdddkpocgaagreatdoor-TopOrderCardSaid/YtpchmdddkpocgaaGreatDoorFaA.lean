/-
  No claim by itself: TopOrder: files that grow, number by number. No condition.
-/
import Derived.Test.YtpchmdddkpocgaaGreatDoorP25
namespace Go.Proofs.YtpchmdddkpocgaaGreatDoor
theorem faA_1 : allU (abK 1) 24 = true := by kernel_rfl
theorem faA_2 : allU (abK 2) 23 = true := by kernel_rfl
theorem faA_3 : allU (abK 3) 22 = true := by kernel_rfl
theorem faA_4 : allU (abK 4) 21 = true := by kernel_rfl
theorem faA_5 : allU (abK 5) 20 = true := by kernel_rfl
theorem faA_6 : allU (abK 6) 19 = true := by kernel_rfl
theorem faA_7 : allU (abK 7) 18 = true := by kernel_rfl
theorem faA_8 : allU (abK 8) 17 = true := by kernel_rfl
theorem faA_9 : allU (abK 9) 16 = true := by kernel_rfl
theorem faA_10 : allU (abK 10) 15 = true := by kernel_rfl
end Go.Proofs.YtpchmdddkpocgaaGreatDoor
