/-
  No claim by itself: TopOrder: rows taken, number by number. No condition.
-/
import Derived.Test.YtpchmdddkpocgaaGreatDoorP25
namespace Go.Proofs.YtpchmdddkpocgaaGreatDoor
theorem faO_2_1 : allU (obK 2 1) 24 = true := by kernel_rfl
theorem faO_2_2 : allU (obK 2 2) 24 = true := by kernel_rfl
theorem faO_2_3 : allU (obK 2 3) 24 = true := by kernel_rfl
theorem faO_2_4 : allU (obK 2 4) 24 = true := by kernel_rfl
end Go.Proofs.YtpchmdddkpocgaaGreatDoor
