/-
  No claim by itself: closed facts on TopLost. No condition.
-/
import Derived.Test.YtlannobincnnhaaGreatDoorFacts
namespace Go.Proofs.YtlannobincnnhaaGreatDoor
set_option linter.unusedVariables false
theorem topLost_jf0 : (fun (P : Program) (f : FuncId) (fn : Func) (s : ChangeSpec) (c : OpenClaim) => (c.wf (OpenSpec.ofChange s) : Bool)) Tryz.prog 3 Tryz.f3 Rows.topLostSpec Rows.topLostRow = true := by kernel_rfl
theorem topLost_jf3 : (fun (P : Program) (f : FuncId) (fn : Func) (s : ChangeSpec) (c : OpenClaim) => (fn.params.all (P.readableRec ·) : Bool)) Tryz.prog 3 Tryz.f3 Rows.topLostSpec Rows.topLostRow = true := by kernel_rfl
theorem topLost_jf4 : (fun (P : Program) (f : FuncId) (fn : Func) (s : ChangeSpec) (c : OpenClaim) => (namedTie P c.named s.vars : Bool)) Tryz.prog 3 Tryz.f3 Rows.topLostSpec Rows.topLostRow = true := by kernel_rfl
theorem topLost_jf9 : (fun (P : Program) (f : FuncId) (fn : Func) (s : ChangeSpec) (c : OpenClaim) => ((c.inPlace == P.inPlace f) : Bool)) Tryz.prog 3 Tryz.f3 Rows.topLostSpec Rows.topLostRow = true := by kernel_rfl
theorem topLost_jf10 : (fun (P : Program) (f : FuncId) (fn : Func) (s : ChangeSpec) (c : OpenClaim) => ((c.unfollowed == P.unfollowed f) : Bool)) Tryz.prog 3 Tryz.f3 Rows.topLostSpec Rows.topLostRow = true := by kernel_rfl
theorem topLost_jf11 : (fun (P : Program) (f : FuncId) (fn : Func) (s : ChangeSpec) (c : OpenClaim) => ((c.recurses == P.recurses f) : Bool)) Tryz.prog 3 Tryz.f3 Rows.topLostSpec Rows.topLostRow = true := by kernel_rfl
theorem topLost_jf12 : (fun (P : Program) (f : FuncId) (fn : Func) (s : ChangeSpec) (c : OpenClaim) => ((c.named == P.varsNamed f) : Bool)) Tryz.prog 3 Tryz.f3 Rows.topLostSpec Rows.topLostRow = true := by kernel_rfl
theorem topLost_jf13 : (fun (P : Program) (f : FuncId) (fn : Func) (s : ChangeSpec) (c : OpenClaim) => ((c.maps == (fn.params.toList ++ s.plain.varTypes P).any (P.mapsRec ·)) : Bool)) Tryz.prog 3 Tryz.f3 Rows.topLostSpec Rows.topLostRow = true := by kernel_rfl
theorem topLost_jf14 : (fun (P : Program) (f : FuncId) (fn : Func) (s : ChangeSpec) (c : OpenClaim) => ((c.ifaces == (fn.params.toList ++ s.plain.varTypes P).any (P.ifacesRec ·)) : Bool)) Tryz.prog 3 Tryz.f3 Rows.topLostSpec Rows.topLostRow = true := by kernel_rfl
theorem topLost_jf15 : (fun (P : Program) (f : FuncId) (fn : Func) (s : ChangeSpec) (c : OpenClaim) => ((c.mapsOut == P.mapsAmong fn.resultTypes.toList) : Bool)) Tryz.prog 3 Tryz.f3 Rows.topLostSpec Rows.topLostRow = true := by kernel_rfl
theorem topLost_jf16 : (fun (P : Program) (f : FuncId) (fn : Func) (s : ChangeSpec) (c : OpenClaim) => ((c.loops == (fn.params.toList ++ s.plain.varTypes P).any (P.loopsFrom ·)) : Bool)) Tryz.prog 3 Tryz.f3 Rows.topLostSpec Rows.topLostRow = true := by kernel_rfl
theorem topLost_jf17 : (fun (P : Program) (f : FuncId) (fn : Func) (s : ChangeSpec) (c : OpenClaim) => ((c.wideKeys == (fn.params.toList ++ s.plain.varTypes P ++ fn.resultTypes.toList).any (P.wideKeysFrom ·)) : Bool)) Tryz.prog 3 Tryz.f3 Rows.topLostSpec Rows.topLostRow = true := by kernel_rfl
theorem topLost_jf18 : (fun (P : Program) (f : FuncId) (fn : Func) (s : ChangeSpec) (c : OpenClaim) => (s.vars.all (P.varReadable ·) : Bool)) Tryz.prog 3 Tryz.f3 Rows.topLostSpec Rows.topLostRow = true := by kernel_rfl
theorem topLost_jf19 : (fun (P : Program) (f : FuncId) (fn : Func) (s : ChangeSpec) (c : OpenClaim) => (fn.resultTypes.all (fun t => P.readableRec t && decide (t < P.types.size)) : Bool)) Tryz.prog 3 Tryz.f3 Rows.topLostSpec Rows.topLostRow = true := by kernel_rfl
theorem topLost_jf20 : (fun (P : Program) (f : FuncId) (fn : Func) (s : ChangeSpec) (c : OpenClaim) => ((c.ifacesOut == fn.resultTypes.toList.any (P.ifacesRec ·)) : Bool)) Tryz.prog 3 Tryz.f3 Rows.topLostSpec Rows.topLostRow = true := by kernel_rfl
theorem topLost_jf21 : (fun (P : Program) (f : FuncId) (fn : Func) (s : ChangeSpec) (c : OpenClaim) => ((c.loopsOut == fn.resultTypes.toList.any (P.loopsFrom ·)) : Bool)) Tryz.prog 3 Tryz.f3 Rows.topLostSpec Rows.topLostRow = true := by kernel_rfl
theorem topLost_jf28 : (fun (P : Program) (f : FuncId) (fn : Func) (s : ChangeSpec) (c : OpenClaim) => ((c.kinds == (if c.domain.isEmpty then [] else fn.params.toList.map fun t => match P.underlying t with | some (.int k) => some k | _ => none)) : Bool)) Tryz.prog 3 Tryz.f3 Rows.topLostSpec Rows.topLostRow = true := by kernel_rfl
theorem topLost_jf29 : (fun (P : Program) (f : FuncId) (fn : Func) (s : ChangeSpec) (c : OpenClaim) => ((c.pinned == c.pinnedBy) : Bool)) Tryz.prog 3 Tryz.f3 Rows.topLostSpec Rows.topLostRow = true := by kernel_rfl
theorem topLost_jf30 : (fun (P : Program) (f : FuncId) (fn : Func) (s : ChangeSpec) (c : OpenClaim) => ((c.veiled == (fn.params.toList ++ s.plain.varTypes P ++ fn.resultTypes.toList).any (P.veiledRec ·)) : Bool)) Tryz.prog 3 Tryz.f3 Rows.topLostSpec Rows.topLostRow = true := by kernel_rfl
theorem topLost_jf31 : (fun (P : Program) (f : FuncId) (fn : Func) (s : ChangeSpec) (c : OpenClaim) => (c.veiledFits P fn.params.toList (fn.params.toList ++ s.plain.varTypes P ++ fn.resultTypes.toList) : Bool)) Tryz.prog 3 Tryz.f3 Rows.topLostSpec Rows.topLostRow = true := by kernel_rfl
theorem topLost_named : Tryz.prog.funcNamed "packhorse/packhorsetop.TopLost" = some 3 := by kernel_rfl
theorem topLost_wf : Rows.topLostRow.wfByText (OpenSpec.ofChange Rows.topLostSpec) = true := by kernel_rfl
theorem topLost_goes : false = Rows.topLostRow.goesBy Tryz.pinned.checked.prog := by kernel_rfl
end Go.Proofs.YtlannobincnnhaaGreatDoor
