/-
  No claim by itself: TopOrder: rows taken, number by number. No condition.
-/
import Derived.Test.YtpchmdddkpocgaaGreatDoorP25
namespace Go.Proofs.YtpchmdddkpocgaaGreatDoor
theorem faO_3_5 : allU (obK 3 5) 24 = true := by kernel_rfl
theorem faO_3_6 : allU (obK 3 6) 24 = true := by kernel_rfl
theorem faO_3_7 : allU (obK 3 7) 24 = true := by kernel_rfl
theorem faO_3_8 : allU (obK 3 8) 24 = true := by kernel_rfl
end Go.Proofs.YtpchmdddkpocgaaGreatDoor
