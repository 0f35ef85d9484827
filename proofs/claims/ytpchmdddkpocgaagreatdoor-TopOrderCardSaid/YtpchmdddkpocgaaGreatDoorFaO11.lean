/-
  No claim by itself: TopOrder: rows taken, number by number. No condition.
-/
import Derived.Test.YtpchmdddkpocgaaGreatDoorP25
namespace Go.Proofs.YtpchmdddkpocgaaGreatDoor
theorem faO_1_1 : allU (obK 1 1) 24 = true := by kernel_rfl
theorem faO_1_2 : allU (obK 1 2) 24 = true := by kernel_rfl
theorem faO_1_3 : allU (obK 1 3) 24 = true := by kernel_rfl
theorem faO_1_4 : allU (obK 1 4) 24 = true := by kernel_rfl
end Go.Proofs.YtpchmdddkpocgaaGreatDoor
