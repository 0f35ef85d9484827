/-
  No claim by itself: closed facts on the program. No condition.
-/
import Derived.Test.YtlannobincnnhaaGreatDoorTie
import Derived.Test.YtlannobincnnhaaGreatDoorCards
import Derived.JoinedOf
import Derived.KernelRfl
import Derived.SevenTiedAt
namespace Go.Proofs.YtlannobincnnhaaGreatDoor
set_option linter.unusedVariables false
theorem pf1 : (fun (P : Program) (f : FuncId) (fn : Func) (s : ChangeSpec) (c : OpenClaim) => (laidOutB P : Bool)) Tryz.prog 3 Tryz.f3 Rows.topLostSpec Rows.topLostRow = true := by kernel_rfl
theorem pf2 : (fun (P : Program) (f : FuncId) (fn : Func) (s : ChangeSpec) (c : OpenClaim) => (mapsRowed P : Bool)) Tryz.prog 3 Tryz.f3 Rows.topLostSpec Rows.topLostRow = true := by kernel_rfl
theorem pf5 : (fun (P : Program) (f : FuncId) (fn : Func) (s : ChangeSpec) (c : OpenClaim) => ((c.stops == []) : Bool)) Tryz.prog 3 Tryz.f3 Rows.topLostSpec Rows.topLostRow = true := by kernel_rfl
theorem pf6 : (fun (P : Program) (f : FuncId) (fn : Func) (s : ChangeSpec) (c : OpenClaim) => ((P.stops == []) : Bool)) Tryz.prog 3 Tryz.f3 Rows.topLostSpec Rows.topLostRow = true := by kernel_rfl
theorem pf7 : (fun (P : Program) (f : FuncId) (fn : Func) (s : ChangeSpec) (c : OpenClaim) => ((c.knobs == []) : Bool)) Tryz.prog 3 Tryz.f3 Rows.topLostSpec Rows.topLostRow = true := by kernel_rfl
theorem pf8 : (fun (P : Program) (f : FuncId) (fn : Func) (s : ChangeSpec) (c : OpenClaim) => ((P.stopKnobs == []) : Bool)) Tryz.prog 3 Tryz.f3 Rows.topLostSpec Rows.topLostRow = true := by kernel_rfl
theorem pf22 : (fun (P : Program) (f : FuncId) (fn : Func) (s : ChangeSpec) (c : OpenClaim) => ((c.plainKeys == P.plainKeys) : Bool)) Tryz.prog 3 Tryz.f3 Rows.topLostSpec Rows.topLostRow = true := by kernel_rfl
theorem pf23 : (fun (P : Program) (f : FuncId) (fn : Func) (s : ChangeSpec) (c : OpenClaim) => (c.shortTexts.isNone : Bool)) Tryz.prog 3 Tryz.f3 Rows.topLostSpec Rows.topLostRow = true := by kernel_rfl
theorem pf24 : (fun (P : Program) (f : FuncId) (fn : Func) (s : ChangeSpec) (c : OpenClaim) => (P.stopsHeard : Bool)) Tryz.prog 3 Tryz.f3 Rows.topLostSpec Rows.topLostRow = true := by kernel_rfl
theorem pf25 : (fun (P : Program) (f : FuncId) (fn : Func) (s : ChangeSpec) (c : OpenClaim) => (P.mayEnter : Bool)) Tryz.prog 3 Tryz.f3 Rows.topLostSpec Rows.topLostRow = true := by kernel_rfl
theorem pf26 : (fun (P : Program) (f : FuncId) (fn : Func) (s : ChangeSpec) (c : OpenClaim) => ((c.lifted == P.liftsFinal) : Bool)) Tryz.prog 3 Tryz.f3 Rows.topLostSpec Rows.topLostRow = true := by kernel_rfl
theorem pf27 : (fun (P : Program) (f : FuncId) (fn : Func) (s : ChangeSpec) (c : OpenClaim) => ((P.make == some c.make) : Bool)) Tryz.prog 3 Tryz.f3 Rows.topLostSpec Rows.topLostRow = true := by kernel_rfl
theorem pmain : Tryz.pinned.checked.prog.mainIs = some (true, "133d6048f6a4480e48a851a6a7a74aa7ee59824815d525944080e10dafb294d9".toList) := by kernel_rfl
theorem plooks : true = Tryz.pinned.checked.prog.looks [] := by kernel_rfl
theorem andT {a b : Bool} (ha : a = true) (hb : b = true) : (a && b) = true := by rw [ha, hb]; rfl
end Go.Proofs.YtlannobincnnhaaGreatDoor
