/-
  No claim by itself: TopOrder: rows taken, number by number. No condition.
-/
import Derived.Test.YtpchmdddkpocgaaGreatDoorP25
namespace Go.Proofs.YtpchmdddkpocgaaGreatDoor
theorem faO_2_5 : allU (obK 2 5) 24 = true := by kernel_rfl
theorem faO_2_6 : allU (obK 2 6) 24 = true := by kernel_rfl
theorem faO_2_7 : allU (obK 2 7) 24 = true := by kernel_rfl
theorem faO_2_8 : allU (obK 2 8) 24 = true := by kernel_rfl
end Go.Proofs.YtpchmdddkpocgaaGreatDoor
