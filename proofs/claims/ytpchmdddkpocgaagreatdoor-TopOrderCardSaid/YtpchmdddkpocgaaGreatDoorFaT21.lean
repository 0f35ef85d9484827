/-
  No claim by itself: TopOrder: told pushes, number by number. No condition.
-/
import Derived.Test.YtpchmdddkpocgaaGreatDoorP25
namespace Go.Proofs.YtpchmdddkpocgaaGreatDoor
theorem faT_2_1 : allU (tbK 2 1) 25 = true := by kernel_rfl
theorem faT_2_2 : allU (tbK 2 2) 25 = true := by kernel_rfl
theorem faT_2_3 : allU (tbK 2 3) 25 = true := by kernel_rfl
theorem faT_2_4 : allU (tbK 2 4) 25 = true := by kernel_rfl
end Go.Proofs.YtpchmdddkpocgaaGreatDoor
