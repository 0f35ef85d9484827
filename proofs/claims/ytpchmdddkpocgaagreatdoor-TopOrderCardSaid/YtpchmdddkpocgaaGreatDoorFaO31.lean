/-
  No claim by itself: TopOrder: rows taken, number by number. No condition.
-/
import Derived.Test.YtpchmdddkpocgaaGreatDoorP25
namespace Go.Proofs.YtpchmdddkpocgaaGreatDoor
theorem faO_3_1 : allU (obK 3 1) 24 = true := by kernel_rfl
theorem faO_3_2 : allU (obK 3 2) 24 = true := by kernel_rfl
theorem faO_3_3 : allU (obK 3 3) 24 = true := by kernel_rfl
theorem faO_3_4 : allU (obK 3 4) 24 = true := by kernel_rfl
end Go.Proofs.YtpchmdddkpocgaaGreatDoor
