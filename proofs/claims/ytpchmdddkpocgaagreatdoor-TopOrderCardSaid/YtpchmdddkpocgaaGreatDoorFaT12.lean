/-
  No claim by itself: TopOrder: told pushes, number by number. No condition.
-/
import Derived.Test.YtpchmdddkpocgaaGreatDoorP25
namespace Go.Proofs.YtpchmdddkpocgaaGreatDoor
theorem faT_1_5 : allU (tbK 1 5) 25 = true := by kernel_rfl
theorem faT_1_6 : allU (tbK 1 6) 25 = true := by kernel_rfl
theorem faT_1_7 : allU (tbK 1 7) 25 = true := by kernel_rfl
theorem faT_1_8 : allU (tbK 1 8) 25 = true := by kernel_rfl
end Go.Proofs.YtpchmdddkpocgaaGreatDoor
