/-
  No claim by itself: the document's EqEntry, EqEntries, EqSnap: of what is the same they say so. No condition.
-/
import Derived.Test.YtankebgpkhcgnaaEnt
import Derived.Test.YtankebgpkhcgnaaRegion
import Derived.Deep.QuietTactic
import Derived.Deep.DeepCutAuto
import Derived.Deep.Cut
import Derived.WalkSmall
namespace Go.Proofs.Ytankebgpkhcgnaa
open Go.ChangeShapes Go.WideShapes Go.ChangeAt Go.RowKit

set_option maxRecDepth 100000 in
theorem eq_entry (e : Ent) (w : World) : Calls Try.prog 63 #[entAgg e, entAgg e] w fun x w' => x = .returned (.bool true) ∧ Below w.heap.size w w' := by
  have hb : ∀ a b, Below w.heap.size w ((w.alloc a).alloc b) := fun a b => ((Below.refl w.heap.size w).alloc (Nat.le_refl _) _).alloc (by simp) _
  have HB := Lib.hid hb
  clear hb
  unfold entAgg
  go_enter Try.func63, Try.ntmps63
  go_wp2_with fail
  go_ret
  exact ⟨rfl, HB.out _ _⟩

set_option maxRecDepth 100000 in
theorem eq_snap (e : Snp) (w : World) : Calls Try.prog 48 #[snpAgg e, snpAgg e] w fun x w' => x = .returned (.bool true) ∧ Below w.heap.size w w' := by
  have hb : ∀ a b, Below w.heap.size w ((w.alloc a).alloc b) := fun a b => ((Below.refl w.heap.size w).alloc (Nat.le_refl _) _).alloc (by simp) _
  have HB := Lib.hid hb
  clear hb
  unfold snpAgg
  go_enter Try.func48, Try.ntmps48
  go_wp2_with fail
  go_ret
  exact ⟨rfl, HB.out _ _⟩

end Go.Proofs.Ytankebgpkhcgnaa
