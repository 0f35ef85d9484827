/-
  No claim by itself: TopOrder: what else is evaluated, number by number. No condition.
-/
import Derived.Test.YtpchmdddkpocgaaGreatDoorP25
namespace Go.Proofs.YtpchmdddkpocgaaGreatDoor
theorem faX : allU xbK 25 = true := by kernel_rfl
end Go.Proofs.YtpchmdddkpocgaaGreatDoor
