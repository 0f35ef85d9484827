/-
  No claim by itself: TopOrder: rows taken, number by number. No condition.
-/
import Derived.Test.YtpchmdddkpocgaaGreatDoorP25
namespace Go.Proofs.YtpchmdddkpocgaaGreatDoor
theorem faO_1_5 : allU (obK 1 5) 24 = true := by kernel_rfl
theorem faO_1_6 : allU (obK 1 6) 24 = true := by kernel_rfl
theorem faO_1_7 : allU (obK 1 7) 24 = true := by kernel_rfl
theorem faO_1_8 : allU (obK 1 8) 24 = true := by kernel_rfl
end Go.Proofs.YtpchmdddkpocgaaGreatDoor
