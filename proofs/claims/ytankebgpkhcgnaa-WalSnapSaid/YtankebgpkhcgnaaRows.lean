/-
  No cell of these rows narrows 'for every input' (looked for: loops, veiled, ifaces, maps, wideKeys, modest, calm, conditions, laid).
  DERIVED. THE GIVEN ROWS OF THIS SEAT. 12 by the template 'for every input the law returns true; each argument reads behind the call as it read before'; 0 by the template 'total and deterministic' (their statements: YtankebgpkhcgnaaTotals.lean).
  GIVEN WITH THE SEED: the statements are not yours to turn. If you find one false, say at which input.
  Laid BY PROGRAM, IN A SANDBOX (cutbox-rows.mjs): the forced cells as the released guide's own fill.sh prints them over the translation 292e85948ba14945… (all of the seat's roots in one cut). By AI agents, Wed Nov 11 2026. No macro, syntax, notation, axiom, sorry.
-/
import Derived.Test.YtankebgpkhcgnaaChecked
import GoSem.Claim
import GoSem.ClaimJoined
import GoSem.ClaimMapViews
import Derived.JoinedTies
import Derived.KernelRfl
namespace Go.Proofs.Ytankebgpkhcgnaa
/- THE CELL 'sum', in the pinned program and in every row, IS THE sha256 OF THE DUMP (.gsa) THAT YtankebgpkhcgnaaProg.lean LOADS. Nothing in Lean hashes anything: it is a label: what it is worth is what the hold of that sum in a sandbox is worth. -/
noncomputable def Try.pinned : Pinned := { name := "ytankebgpkhcgnaa", sum := "292e85948ba1494564810fb04acdfcad874c3a34a2ccfd9996da0bca9f6d5cd6", checked := Try.checked }
namespace Rows
def none {H : Type} : Left H := { results := [], args := [] }

/-- 'packhorselaw14.VoteNone': WHATEVER THE INPUT: true; the input reads as it did. -/
def voteNoneSpec : ChangeSpec := { name := "voteNone", fn := fun _ => fun
  | [] => { results := [.lit (.bool true)], args := [] }
  | _ => none }
def voteNoneRow : OpenClaim := { program := "ytankebgpkhcgnaa", sum := "292e85948ba1494564810fb04acdfcad874c3a34a2ccfd9996da0bca9f6d5cd6", func := "packhorse/packhorselaw14.VoteNone", spec := "voteNone", apart := false }
def VoteNoneSaid : Prop := voteNoneRow.holds Try.pinned (OpenSpec.ofChange voteNoneSpec)

/-- ITS FALSE NEIGHBOUR: 'it returns false'. Refute it at one input. -/
def voteNoneWrong : ChangeSpec := { name := "voteNone", fn := fun _ => fun
  | [] => { results := [.lit (.bool false)], args := [] }
  | _ => none }
def VoteNoneWrongFalsely : Prop := voteNoneRow.holds Try.pinned (OpenSpec.ofChange voteNoneWrong)

/-- 'packhorselaw14.VoteOrder': WHATEVER THE INPUT: true; the input reads as it did. -/
def voteOrderSpec : ChangeSpec := { name := "voteOrder", fn := fun _ => fun
  | [d1, d2, d3] => { results := [.lit (.bool true)], args := [d1, d2, d3] }
  | _ => none }
def voteOrderRow : OpenClaim := { program := "ytankebgpkhcgnaa", sum := "292e85948ba1494564810fb04acdfcad874c3a34a2ccfd9996da0bca9f6d5cd6", func := "packhorse/packhorselaw14.VoteOrder", spec := "voteOrder", apart := false }
def VoteOrderSaid : Prop := voteOrderRow.holds Try.pinned (OpenSpec.ofChange voteOrderSpec)

/-- ITS FALSE NEIGHBOUR: 'it returns false'. Refute it at one input. -/
def voteOrderWrong : ChangeSpec := { name := "voteOrder", fn := fun _ => fun
  | [d1, d2, d3] => { results := [.lit (.bool false)], args := [d1, d2, d3] }
  | _ => none }
def VoteOrderWrongFalsely : Prop := voteOrderRow.holds Try.pinned (OpenSpec.ofChange voteOrderWrong)

/-- 'packhorselaw8.FrameBack': WHATEVER THE INPUT: true; the input reads as it did. -/
def frameBackSpec : ChangeSpec := { name := "frameBack", fn := fun _ => fun
  | [d1, d2, d3, d4] => { results := [.lit (.bool true)], args := [d1, d2, d3, d4] }
  | _ => none }
def frameBackRow : OpenClaim := { program := "ytankebgpkhcgnaa", sum := "292e85948ba1494564810fb04acdfcad874c3a34a2ccfd9996da0bca9f6d5cd6", func := "packhorse/packhorselaw8.FrameBack", spec := "frameBack", apart := false }
def FrameBackSaid : Prop := frameBackRow.holds Try.pinned (OpenSpec.ofChange frameBackSpec)

/-- ITS FALSE NEIGHBOUR: 'it returns false'. Refute it at one input. -/
def frameBackWrong : ChangeSpec := { name := "frameBack", fn := fun _ => fun
  | [d1, d2, d3, d4] => { results := [.lit (.bool false)], args := [d1, d2, d3, d4] }
  | _ => none }
def FrameBackWrongFalsely : Prop := frameBackRow.holds Try.pinned (OpenSpec.ofChange frameBackWrong)

/-- 'packhorselaw8.FrameAny': WHATEVER THE INPUT: true; the input reads as it did. -/
def frameAnySpec : ChangeSpec := { name := "frameAny", fn := fun _ => fun
  | [d1, d2, d3, d4, d5, d6] => { results := [.lit (.bool true)], args := [d1, d2, d3, d4, d5, d6] }
  | _ => none }
def frameAnyRow : OpenClaim := { program := "ytankebgpkhcgnaa", sum := "292e85948ba1494564810fb04acdfcad874c3a34a2ccfd9996da0bca9f6d5cd6", func := "packhorse/packhorselaw8.FrameAny", spec := "frameAny", apart := false }
def FrameAnySaid : Prop := frameAnyRow.holds Try.pinned (OpenSpec.ofChange frameAnySpec)

/-- ITS FALSE NEIGHBOUR: 'it returns false'. Refute it at one input. -/
def frameAnyWrong : ChangeSpec := { name := "frameAny", fn := fun _ => fun
  | [d1, d2, d3, d4, d5, d6] => { results := [.lit (.bool false)], args := [d1, d2, d3, d4, d5, d6] }
  | _ => none }
def FrameAnyWrongFalsely : Prop := frameAnyRow.holds Try.pinned (OpenSpec.ofChange frameAnyWrong)

/-- 'packhorselaw8.FrameAll': WHATEVER THE INPUT: true; the input reads as it did. -/
def frameAllSpec : ChangeSpec := { name := "frameAll", fn := fun _ => fun
  | [d1, d2, d3] => { results := [.lit (.bool true)], args := [d1, d2, d3] }
  | _ => none }
def frameAllRow : OpenClaim := { program := "ytankebgpkhcgnaa", sum := "292e85948ba1494564810fb04acdfcad874c3a34a2ccfd9996da0bca9f6d5cd6", func := "packhorse/packhorselaw8.FrameAll", spec := "frameAll", apart := false }
def FrameAllSaid : Prop := frameAllRow.holds Try.pinned (OpenSpec.ofChange frameAllSpec)

/-- ITS FALSE NEIGHBOUR: 'it returns false'. Refute it at one input. -/
def frameAllWrong : ChangeSpec := { name := "frameAll", fn := fun _ => fun
  | [d1, d2, d3] => { results := [.lit (.bool false)], args := [d1, d2, d3] }
  | _ => none }
def FrameAllWrongFalsely : Prop := frameAllRow.holds Try.pinned (OpenSpec.ofChange frameAllWrong)

/-- 'packhorselaw8.FrameCut': WHATEVER THE INPUT: true; the input reads as it did. -/
def frameCutSpec : ChangeSpec := { name := "frameCut", fn := fun _ => fun
  | [d1, d2, d3] => { results := [.lit (.bool true)], args := [d1, d2, d3] }
  | _ => none }
def frameCutRow : OpenClaim := { program := "ytankebgpkhcgnaa", sum := "292e85948ba1494564810fb04acdfcad874c3a34a2ccfd9996da0bca9f6d5cd6", func := "packhorse/packhorselaw8.FrameCut", spec := "frameCut", apart := false }
def FrameCutSaid : Prop := frameCutRow.holds Try.pinned (OpenSpec.ofChange frameCutSpec)

/-- ITS FALSE NEIGHBOUR: 'it returns false'. Refute it at one input. -/
def frameCutWrong : ChangeSpec := { name := "frameCut", fn := fun _ => fun
  | [d1, d2, d3] => { results := [.lit (.bool false)], args := [d1, d2, d3] }
  | _ => none }
def FrameCutWrongFalsely : Prop := frameCutRow.holds Try.pinned (OpenSpec.ofChange frameCutWrong)

/-- 'packhorselaw8.FrameInside': WHATEVER THE INPUT: true; the input reads as it did. -/
def frameInsideSpec : ChangeSpec := { name := "frameInside", fn := fun _ => fun
  | [d] => { results := [.lit (.bool true)], args := [d] }
  | _ => none }
def frameInsideRow : OpenClaim := { program := "ytankebgpkhcgnaa", sum := "292e85948ba1494564810fb04acdfcad874c3a34a2ccfd9996da0bca9f6d5cd6", func := "packhorse/packhorselaw8.FrameInside", spec := "frameInside", apart := false }
def FrameInsideSaid : Prop := frameInsideRow.holds Try.pinned (OpenSpec.ofChange frameInsideSpec)

/-- ITS FALSE NEIGHBOUR: 'it returns false'. Refute it at one input. -/
def frameInsideWrong : ChangeSpec := { name := "frameInside", fn := fun _ => fun
  | [d] => { results := [.lit (.bool false)], args := [d] }
  | _ => none }
def FrameInsideWrongFalsely : Prop := frameInsideRow.holds Try.pinned (OpenSpec.ofChange frameInsideWrong)

/-- 'packhorselaw10.WalRecord': WHATEVER THE INPUT: true; the input reads as it did. -/
def walRecordSpec : ChangeSpec := { name := "walRecord", fn := fun _ => fun
  | [d1, d2] => { results := [.lit (.bool true)], args := [d1, d2] }
  | _ => none }
def walRecordRow : OpenClaim := { program := "ytankebgpkhcgnaa", sum := "292e85948ba1494564810fb04acdfcad874c3a34a2ccfd9996da0bca9f6d5cd6", func := "packhorse/packhorselaw10.WalRecord", spec := "walRecord", apart := false }
def WalRecordSaid : Prop := walRecordRow.holds Try.pinned (OpenSpec.ofChange walRecordSpec)

/-- ITS FALSE NEIGHBOUR: 'it returns false'. Refute it at one input. -/
def walRecordWrong : ChangeSpec := { name := "walRecord", fn := fun _ => fun
  | [d1, d2] => { results := [.lit (.bool false)], args := [d1, d2] }
  | _ => none }
def WalRecordWrongFalsely : Prop := walRecordRow.holds Try.pinned (OpenSpec.ofChange walRecordWrong)

/-- 'packhorselaw10.WalScan': WHATEVER THE INPUT: true; the input reads as it did. -/
def walScanSpec : ChangeSpec := { name := "walScan", fn := fun _ => fun
  | [d1, d2, d3, d4, d5] => { results := [.lit (.bool true)], args := [d1, d2, d3, d4, d5] }
  | _ => none }
def walScanRow : OpenClaim := { program := "ytankebgpkhcgnaa", sum := "292e85948ba1494564810fb04acdfcad874c3a34a2ccfd9996da0bca9f6d5cd6", func := "packhorse/packhorselaw10.WalScan", spec := "walScan", apart := false }
def WalScanSaid : Prop := walScanRow.holds Try.pinned (OpenSpec.ofChange walScanSpec)

/-- ITS FALSE NEIGHBOUR: 'it returns false'. Refute it at one input. -/
def walScanWrong : ChangeSpec := { name := "walScan", fn := fun _ => fun
  | [d1, d2, d3, d4, d5] => { results := [.lit (.bool false)], args := [d1, d2, d3, d4, d5] }
  | _ => none }
def WalScanWrongFalsely : Prop := walScanRow.holds Try.pinned (OpenSpec.ofChange walScanWrong)

/-- 'packhorselaw10.WalAny': WHATEVER THE INPUT: true; the input reads as it did. -/
def walAnySpec : ChangeSpec := { name := "walAny", fn := fun _ => fun
  | [d] => { results := [.lit (.bool true)], args := [d] }
  | _ => none }
def walAnyRow : OpenClaim := { program := "ytankebgpkhcgnaa", sum := "292e85948ba1494564810fb04acdfcad874c3a34a2ccfd9996da0bca9f6d5cd6", func := "packhorse/packhorselaw10.WalAny", spec := "walAny", apart := false }
def WalAnySaid : Prop := walAnyRow.holds Try.pinned (OpenSpec.ofChange walAnySpec)

/-- ITS FALSE NEIGHBOUR: 'it returns false'. Refute it at one input. -/
def walAnyWrong : ChangeSpec := { name := "walAny", fn := fun _ => fun
  | [d] => { results := [.lit (.bool false)], args := [d] }
  | _ => none }
def WalAnyWrongFalsely : Prop := walAnyRow.holds Try.pinned (OpenSpec.ofChange walAnyWrong)

/-- 'packhorselaw10.WalSnap': WHATEVER THE INPUT: true; the input reads as it did. -/
def walSnapSpec : ChangeSpec := { name := "walSnap", fn := fun _ => fun
  | [d1, d2, d3, d4, d5, d6] => { results := [.lit (.bool true)], args := [d1, d2, d3, d4, d5, d6] }
  | _ => none }
def walSnapRow : OpenClaim := { program := "ytankebgpkhcgnaa", sum := "292e85948ba1494564810fb04acdfcad874c3a34a2ccfd9996da0bca9f6d5cd6", func := "packhorse/packhorselaw10.WalSnap", spec := "walSnap", apart := false }
def WalSnapSaid : Prop := walSnapRow.holds Try.pinned (OpenSpec.ofChange walSnapSpec)

/-- ITS FALSE NEIGHBOUR: 'it returns false'. Refute it at one input. -/
def walSnapWrong : ChangeSpec := { name := "walSnap", fn := fun _ => fun
  | [d1, d2, d3, d4, d5, d6] => { results := [.lit (.bool false)], args := [d1, d2, d3, d4, d5, d6] }
  | _ => none }
def WalSnapWrongFalsely : Prop := walSnapRow.holds Try.pinned (OpenSpec.ofChange walSnapWrong)

/-- 'packhorselaw10.WalTorn': WHATEVER THE INPUT: true; the input reads as it did. -/
def walTornSpec : ChangeSpec := { name := "walTorn", fn := fun _ => fun
  | [d1, d2] => { results := [.lit (.bool true)], args := [d1, d2] }
  | _ => none }
def walTornRow : OpenClaim := { program := "ytankebgpkhcgnaa", sum := "292e85948ba1494564810fb04acdfcad874c3a34a2ccfd9996da0bca9f6d5cd6", func := "packhorse/packhorselaw10.WalTorn", spec := "walTorn", apart := false }
def WalTornSaid : Prop := walTornRow.holds Try.pinned (OpenSpec.ofChange walTornSpec)

/-- ITS FALSE NEIGHBOUR: 'it returns false'. Refute it at one input. -/
def walTornWrong : ChangeSpec := { name := "walTorn", fn := fun _ => fun
  | [d1, d2] => { results := [.lit (.bool false)], args := [d1, d2] }
  | _ => none }
def WalTornWrongFalsely : Prop := walTornRow.holds Try.pinned (OpenSpec.ofChange walTornWrong)

/- THE SECOND FORM. 'bulk': how many values and letters a reading holds, each counted each time it is reached (what is shared counts as often as it is met; a slice's spare places count too). A statement '..UptoSaid' is the law's where the arguments, and the package variables that the reading takes, are together of bulk at most 1048576: NARROWER than '..Said'. Prove '..Said' where nothing that the law and all that it calls make is longer than what came in: it says more and counts as full. Else prove '..UptoSaid'. A law counts once. -/
mutual
def uptoBulk {H : Type} : DataW H → Nat
  | .lit (.string bytes) => bytes.length + 1
  | .lit _ => 1
  | .nil => 1
  | .ptr d => uptoBulk d + 1
  | .slice elems spare => uptoBulkAll elems + uptoBulkAll spare + 1
  | .agg parts => uptoBulkAll parts + 1
  | .iface _ d => uptoBulk d + 1
  | .map entries => uptoBulkEntries entries + 1
  | .held _ => 1
def uptoBulkAll {H : Type} : List (DataW H) → Nat
  | [] => 0
  | d :: r => uptoBulk d + uptoBulkAll r
def uptoBulkEntries {H : Type} : List (Lit × DataW H) → Nat
  | [] => 0
  | x :: r => uptoBulkEntry x + uptoBulkEntries r
def uptoBulkEntry {H : Type} : Lit × DataW H → Nat
  | (.string bytes, d) => bytes.length + uptoBulk d + 1
  | (_, d) => uptoBulk d + 1
 end
def uptoSmall : (H : Type) → List (DataW H) → Bool := fun _ ds => decide (uptoBulkAll ds ≤ 1048576)
def OpenSpec.upto (s : _root_.Go.ChangeSpec) : _root_.Go.OpenSpec := { _root_.Go.OpenSpec.ofChange s with cond := some uptoSmall }

/-- 'packhorselaw14.VoteNone', WHERE WHAT IT READS IS OF BULK AT MOST 1048576: true; the input reads as it did. -/
def voteNoneUptoRow : OpenClaim := { program := "ytankebgpkhcgnaa", sum := "292e85948ba1494564810fb04acdfcad874c3a34a2ccfd9996da0bca9f6d5cd6", func := "packhorse/packhorselaw14.VoteNone", spec := "voteNone", apart := false, narrowed := true }
def VoteNoneUptoSaid : Prop := voteNoneUptoRow.holds Try.pinned (OpenSpec.upto voteNoneSpec)

/-- 'packhorselaw14.VoteOrder', WHERE WHAT IT READS IS OF BULK AT MOST 1048576: true; the input reads as it did. -/
def voteOrderUptoRow : OpenClaim := { program := "ytankebgpkhcgnaa", sum := "292e85948ba1494564810fb04acdfcad874c3a34a2ccfd9996da0bca9f6d5cd6", func := "packhorse/packhorselaw14.VoteOrder", spec := "voteOrder", apart := false, narrowed := true }
def VoteOrderUptoSaid : Prop := voteOrderUptoRow.holds Try.pinned (OpenSpec.upto voteOrderSpec)

/-- 'packhorselaw8.FrameBack', WHERE WHAT IT READS IS OF BULK AT MOST 1048576: true; the input reads as it did. -/
def frameBackUptoRow : OpenClaim := { program := "ytankebgpkhcgnaa", sum := "292e85948ba1494564810fb04acdfcad874c3a34a2ccfd9996da0bca9f6d5cd6", func := "packhorse/packhorselaw8.FrameBack", spec := "frameBack", apart := false, narrowed := true }
def FrameBackUptoSaid : Prop := frameBackUptoRow.holds Try.pinned (OpenSpec.upto frameBackSpec)

/-- 'packhorselaw8.FrameAny', WHERE WHAT IT READS IS OF BULK AT MOST 1048576: true; the input reads as it did. -/
def frameAnyUptoRow : OpenClaim := { program := "ytankebgpkhcgnaa", sum := "292e85948ba1494564810fb04acdfcad874c3a34a2ccfd9996da0bca9f6d5cd6", func := "packhorse/packhorselaw8.FrameAny", spec := "frameAny", apart := false, narrowed := true }
def FrameAnyUptoSaid : Prop := frameAnyUptoRow.holds Try.pinned (OpenSpec.upto frameAnySpec)

/-- 'packhorselaw8.FrameAll', WHERE WHAT IT READS IS OF BULK AT MOST 1048576: true; the input reads as it did. -/
def frameAllUptoRow : OpenClaim := { program := "ytankebgpkhcgnaa", sum := "292e85948ba1494564810fb04acdfcad874c3a34a2ccfd9996da0bca9f6d5cd6", func := "packhorse/packhorselaw8.FrameAll", spec := "frameAll", apart := false, narrowed := true }
def FrameAllUptoSaid : Prop := frameAllUptoRow.holds Try.pinned (OpenSpec.upto frameAllSpec)

/-- 'packhorselaw8.FrameCut', WHERE WHAT IT READS IS OF BULK AT MOST 1048576: true; the input reads as it did. -/
def frameCutUptoRow : OpenClaim := { program := "ytankebgpkhcgnaa", sum := "292e85948ba1494564810fb04acdfcad874c3a34a2ccfd9996da0bca9f6d5cd6", func := "packhorse/packhorselaw8.FrameCut", spec := "frameCut", apart := false, narrowed := true }
def FrameCutUptoSaid : Prop := frameCutUptoRow.holds Try.pinned (OpenSpec.upto frameCutSpec)

/-- 'packhorselaw8.FrameInside', WHERE WHAT IT READS IS OF BULK AT MOST 1048576: true; the input reads as it did. -/
def frameInsideUptoRow : OpenClaim := { program := "ytankebgpkhcgnaa", sum := "292e85948ba1494564810fb04acdfcad874c3a34a2ccfd9996da0bca9f6d5cd6", func := "packhorse/packhorselaw8.FrameInside", spec := "frameInside", apart := false, narrowed := true }
def FrameInsideUptoSaid : Prop := frameInsideUptoRow.holds Try.pinned (OpenSpec.upto frameInsideSpec)

/-- 'packhorselaw10.WalRecord', WHERE WHAT IT READS IS OF BULK AT MOST 1048576: true; the input reads as it did. -/
def walRecordUptoRow : OpenClaim := { program := "ytankebgpkhcgnaa", sum := "292e85948ba1494564810fb04acdfcad874c3a34a2ccfd9996da0bca9f6d5cd6", func := "packhorse/packhorselaw10.WalRecord", spec := "walRecord", apart := false, narrowed := true }
def WalRecordUptoSaid : Prop := walRecordUptoRow.holds Try.pinned (OpenSpec.upto walRecordSpec)

/-- 'packhorselaw10.WalScan', WHERE WHAT IT READS IS OF BULK AT MOST 1048576: true; the input reads as it did. -/
def walScanUptoRow : OpenClaim := { program := "ytankebgpkhcgnaa", sum := "292e85948ba1494564810fb04acdfcad874c3a34a2ccfd9996da0bca9f6d5cd6", func := "packhorse/packhorselaw10.WalScan", spec := "walScan", apart := false, narrowed := true }
def WalScanUptoSaid : Prop := walScanUptoRow.holds Try.pinned (OpenSpec.upto walScanSpec)

/-- 'packhorselaw10.WalAny', WHERE WHAT IT READS IS OF BULK AT MOST 1048576: true; the input reads as it did. -/
def walAnyUptoRow : OpenClaim := { program := "ytankebgpkhcgnaa", sum := "292e85948ba1494564810fb04acdfcad874c3a34a2ccfd9996da0bca9f6d5cd6", func := "packhorse/packhorselaw10.WalAny", spec := "walAny", apart := false, narrowed := true }
def WalAnyUptoSaid : Prop := walAnyUptoRow.holds Try.pinned (OpenSpec.upto walAnySpec)

/-- 'packhorselaw10.WalSnap', WHERE WHAT IT READS IS OF BULK AT MOST 1048576: true; the input reads as it did. -/
def walSnapUptoRow : OpenClaim := { program := "ytankebgpkhcgnaa", sum := "292e85948ba1494564810fb04acdfcad874c3a34a2ccfd9996da0bca9f6d5cd6", func := "packhorse/packhorselaw10.WalSnap", spec := "walSnap", apart := false, narrowed := true }
def WalSnapUptoSaid : Prop := walSnapUptoRow.holds Try.pinned (OpenSpec.upto walSnapSpec)

/-- 'packhorselaw10.WalTorn', WHERE WHAT IT READS IS OF BULK AT MOST 1048576: true; the input reads as it did. -/
def walTornUptoRow : OpenClaim := { program := "ytankebgpkhcgnaa", sum := "292e85948ba1494564810fb04acdfcad874c3a34a2ccfd9996da0bca9f6d5cd6", func := "packhorse/packhorselaw10.WalTorn", spec := "walTorn", apart := false, narrowed := true }
def WalTornUptoSaid : Prop := walTornUptoRow.holds Try.pinned (OpenSpec.upto walTornSpec)

end Rows
end Go.Proofs.Ytankebgpkhcgnaa
