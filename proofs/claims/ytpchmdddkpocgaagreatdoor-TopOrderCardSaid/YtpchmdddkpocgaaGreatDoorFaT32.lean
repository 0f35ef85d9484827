/-
  No claim by itself: TopOrder: told pushes, number by number. No condition.
-/
import Derived.Test.YtpchmdddkpocgaaGreatDoorP25
namespace Go.Proofs.YtpchmdddkpocgaaGreatDoor
theorem faT_3_5 : allU (tbK 3 5) 25 = true := by kernel_rfl
theorem faT_3_6 : allU (tbK 3 6) 25 = true := by kernel_rfl
theorem faT_3_7 : allU (tbK 3 7) 25 = true := by kernel_rfl
theorem faT_3_8 : allU (tbK 3 8) 25 = true := by kernel_rfl
end Go.Proofs.YtpchmdddkpocgaaGreatDoor
