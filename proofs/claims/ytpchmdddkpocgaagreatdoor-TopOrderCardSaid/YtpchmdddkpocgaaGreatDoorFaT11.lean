/-
  No claim by itself: TopOrder: told pushes, number by number. No condition.
-/
import Derived.Test.YtpchmdddkpocgaaGreatDoorP25
namespace Go.Proofs.YtpchmdddkpocgaaGreatDoor
theorem faT_1_1 : allU (tbK 1 1) 25 = true := by kernel_rfl
theorem faT_1_2 : allU (tbK 1 2) 25 = true := by kernel_rfl
theorem faT_1_3 : allU (tbK 1 3) 25 = true := by kernel_rfl
theorem faT_1_4 : allU (tbK 1 4) 25 = true := by kernel_rfl
end Go.Proofs.YtpchmdddkpocgaaGreatDoor
