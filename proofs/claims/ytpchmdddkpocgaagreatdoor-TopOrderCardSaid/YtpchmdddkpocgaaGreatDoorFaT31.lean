/-
  No claim by itself: TopOrder: told pushes, number by number. No condition.
-/
import Derived.Test.YtpchmdddkpocgaaGreatDoorP25
namespace Go.Proofs.YtpchmdddkpocgaaGreatDoor
theorem faT_3_1 : allU (tbK 3 1) 25 = true := by kernel_rfl
theorem faT_3_2 : allU (tbK 3 2) 25 = true := by kernel_rfl
theorem faT_3_3 : allU (tbK 3 3) 25 = true := by kernel_rfl
theorem faT_3_4 : allU (tbK 3 4) 25 = true := by kernel_rfl
end Go.Proofs.YtpchmdddkpocgaaGreatDoor
