/-
  No claim by itself: closed facts on TopFar. No condition.
-/
import Derived.Test.YtcdpilgndhledaaGreatDoorFacts
namespace Go.Proofs.YtcdpilgndhledaaGreatDoor
set_option linter.unusedVariables false
theorem topFar_jf0 : (fun (P : Program) (f : FuncId) (fn : Func) (s : ChangeSpec) (c : OpenClaim) => (c.wf (OpenSpec.ofChange s) : Bool)) Tryz.prog 6 Tryz.f6 Rows.topFarSpec Rows.topFarRow = true := by kernel_rfl
theorem topFar_jf3 : (fun (P : Program) (f : FuncId) (fn : Func) (s : ChangeSpec) (c : OpenClaim) => (fn.params.all (P.readableRec ·) : Bool)) Tryz.prog 6 Tryz.f6 Rows.topFarSpec Rows.topFarRow = true := by kernel_rfl
theorem topFar_jf4 : (fun (P : Program) (f : FuncId) (fn : Func) (s : ChangeSpec) (c : OpenClaim) => (namedTie P c.named s.vars : Bool)) Tryz.prog 6 Tryz.f6 Rows.topFarSpec Rows.topFarRow = true := by kernel_rfl
theorem topFar_jf9 : (fun (P : Program) (f : FuncId) (fn : Func) (s : ChangeSpec) (c : OpenClaim) => ((c.inPlace == P.inPlace f) : Bool)) Tryz.prog 6 Tryz.f6 Rows.topFarSpec Rows.topFarRow = true := by kernel_rfl
theorem topFar_jf10 : (fun (P : Program) (f : FuncId) (fn : Func) (s : ChangeSpec) (c : OpenClaim) => ((c.unfollowed == P.unfollowed f) : Bool)) Tryz.prog 6 Tryz.f6 Rows.topFarSpec Rows.topFarRow = true := by kernel_rfl
theorem topFar_jf11 : (fun (P : Program) (f : FuncId) (fn : Func) (s : ChangeSpec) (c : OpenClaim) => ((c.recurses == P.recurses f) : Bool)) Tryz.prog 6 Tryz.f6 Rows.topFarSpec Rows.topFarRow = true := by kernel_rfl
theorem topFar_jf12 : (fun (P : Program) (f : FuncId) (fn : Func) (s : ChangeSpec) (c : OpenClaim) => ((c.named == P.varsNamed f) : Bool)) Tryz.prog 6 Tryz.f6 Rows.topFarSpec Rows.topFarRow = true := by kernel_rfl
theorem topFar_jf13 : (fun (P : Program) (f : FuncId) (fn : Func) (s : ChangeSpec) (c : OpenClaim) => ((c.maps == (fn.params.toList ++ s.plain.varTypes P).any (P.mapsRec ·)) : Bool)) Tryz.prog 6 Tryz.f6 Rows.topFarSpec Rows.topFarRow = true := by kernel_rfl
theorem topFar_jf14 : (fun (P : Program) (f : FuncId) (fn : Func) (s : ChangeSpec) (c : OpenClaim) => ((c.ifaces == (fn.params.toList ++ s.plain.varTypes P).any (P.ifacesRec ·)) : Bool)) Tryz.prog 6 Tryz.f6 Rows.topFarSpec Rows.topFarRow = true := by kernel_rfl
theorem topFar_jf15 : (fun (P : Program) (f : FuncId) (fn : Func) (s : ChangeSpec) (c : OpenClaim) => ((c.mapsOut == P.mapsAmong fn.resultTypes.toList) : Bool)) Tryz.prog 6 Tryz.f6 Rows.topFarSpec Rows.topFarRow = true := by kernel_rfl
theorem topFar_jf16 : (fun (P : Program) (f : FuncId) (fn : Func) (s : ChangeSpec) (c : OpenClaim) => ((c.loops == (fn.params.toList ++ s.plain.varTypes P).any (P.loopsFrom ·)) : Bool)) Tryz.prog 6 Tryz.f6 Rows.topFarSpec Rows.topFarRow = true := by kernel_rfl
theorem topFar_jf17 : (fun (P : Program) (f : FuncId) (fn : Func) (s : ChangeSpec) (c : OpenClaim) => ((c.wideKeys == (fn.params.toList ++ s.plain.varTypes P ++ fn.resultTypes.toList).any (P.wideKeysFrom ·)) : Bool)) Tryz.prog 6 Tryz.f6 Rows.topFarSpec Rows.topFarRow = true := by kernel_rfl
theorem topFar_jf18 : (fun (P : Program) (f : FuncId) (fn : Func) (s : ChangeSpec) (c : OpenClaim) => (s.vars.all (P.varReadable ·) : Bool)) Tryz.prog 6 Tryz.f6 Rows.topFarSpec Rows.topFarRow = true := by kernel_rfl
theorem topFar_jf19 : (fun (P : Program) (f : FuncId) (fn : Func) (s : ChangeSpec) (c : OpenClaim) => (fn.resultTypes.all (fun t => P.readableRec t && decide (t < P.types.size)) : Bool)) Tryz.prog 6 Tryz.f6 Rows.topFarSpec Rows.topFarRow = true := by kernel_rfl
theorem topFar_jf20 : (fun (P : Program) (f : FuncId) (fn : Func) (s : ChangeSpec) (c : OpenClaim) => ((c.ifacesOut == fn.resultTypes.toList.any (P.ifacesRec ·)) : Bool)) Tryz.prog 6 Tryz.f6 Rows.topFarSpec Rows.topFarRow = true := by kernel_rfl
theorem topFar_jf21 : (fun (P : Program) (f : FuncId) (fn : Func) (s : ChangeSpec) (c : OpenClaim) => ((c.loopsOut == fn.resultTypes.toList.any (P.loopsFrom ·)) : Bool)) Tryz.prog 6 Tryz.f6 Rows.topFarSpec Rows.topFarRow = true := by kernel_rfl
theorem topFar_jf28 : (fun (P : Program) (f : FuncId) (fn : Func) (s : ChangeSpec) (c : OpenClaim) => ((c.kinds == (if c.domain.isEmpty then [] else fn.params.toList.map fun t => match P.underlying t with | some (.int k) => some k | _ => none)) : Bool)) Tryz.prog 6 Tryz.f6 Rows.topFarSpec Rows.topFarRow = true := by kernel_rfl
theorem topFar_jf29 : (fun (P : Program) (f : FuncId) (fn : Func) (s : ChangeSpec) (c : OpenClaim) => ((c.pinned == c.pinnedBy) : Bool)) Tryz.prog 6 Tryz.f6 Rows.topFarSpec Rows.topFarRow = true := by kernel_rfl
theorem topFar_jf30 : (fun (P : Program) (f : FuncId) (fn : Func) (s : ChangeSpec) (c : OpenClaim) => ((c.veiled == (fn.params.toList ++ s.plain.varTypes P ++ fn.resultTypes.toList).any (P.veiledRec ·)) : Bool)) Tryz.prog 6 Tryz.f6 Rows.topFarSpec Rows.topFarRow = true := by kernel_rfl
theorem topFar_jf31 : (fun (P : Program) (f : FuncId) (fn : Func) (s : ChangeSpec) (c : OpenClaim) => (c.veiledFits P fn.params.toList (fn.params.toList ++ s.plain.varTypes P ++ fn.resultTypes.toList) : Bool)) Tryz.prog 6 Tryz.f6 Rows.topFarSpec Rows.topFarRow = true := by kernel_rfl
theorem topFar_named : Tryz.prog.funcNamed "packhorse/packhorsetop.TopFar" = some 6 := by kernel_rfl
theorem topFar_wf : Rows.topFarRow.wfByText (OpenSpec.ofChange Rows.topFarSpec) = true := by kernel_rfl
theorem topFar_goes : false = Rows.topFarRow.goesBy Tryz.pinned.checked.prog := by kernel_rfl
end Go.Proofs.YtcdpilgndhledaaGreatDoor
