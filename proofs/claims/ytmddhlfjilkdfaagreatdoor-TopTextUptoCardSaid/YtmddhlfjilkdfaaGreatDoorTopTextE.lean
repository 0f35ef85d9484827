/-
  No claim by itself: TopText evaluated, its texts unknown; the laws' first lines evaluated. No condition.
-/
import Derived.Test.YtmddhlfjilkdfaaGreatDoorTD3
namespace Go.Proofs.YtmddhlfjilkdfaaGreatDoor
set_option linter.unusedVariables false
theorem ev_text : s3 [.y (.os 0), .y (.os 1)] h00 (fun y _ => isT y) = true := by kernel_rfl
theorem ev_begun : s4 [] h00 (fun y _ => isT y) = true := by kernel_rfl
end Go.Proofs.YtmddhlfjilkdfaaGreatDoor
