/-
  No claim by itself: TopOrder: told pushes, number by number. No condition.
-/
import Derived.Test.YtpchmdddkpocgaaGreatDoorP25
namespace Go.Proofs.YtpchmdddkpocgaaGreatDoor
theorem faT_2_5 : allU (tbK 2 5) 25 = true := by kernel_rfl
theorem faT_2_6 : allU (tbK 2 6) 25 = true := by kernel_rfl
theorem faT_2_7 : allU (tbK 2 7) 25 = true := by kernel_rfl
theorem faT_2_8 : allU (tbK 2 8) 25 = true := by kernel_rfl
end Go.Proofs.YtpchmdddkpocgaaGreatDoor
