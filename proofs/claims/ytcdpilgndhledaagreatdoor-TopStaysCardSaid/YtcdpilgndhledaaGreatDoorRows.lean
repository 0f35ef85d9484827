/-
  NARROWER THAN 'FOR EVERY INPUT', by the rows' own cells (each row's printed sentence says how): TopStays: laid · TopLead: laid · TopStale: laid · TopFar: laid · TopOnce: laid · TopMinority: laid · TopTwice: laid · TopReverse: laid · TopTwoTerms: laid.
  DERIVED. THE GIVEN ROWS OF THIS SEAT. 9 by the template 'for every input the law returns true; each argument reads behind the call as it read before'; 0 by the template 'total and deterministic' (their statements: YtcdpilgndhledaaGreatDoorTotals.lean).
  GIVEN WITH THE SEED: the statements are not yours to turn. If you find one false, say at which input.
  Laid BY PROGRAM, IN A SANDBOX (cutbox-rows.mjs): the forced cells as the released guide's own fill.sh prints them over the translation 50d6f76767c7494a… (all of the seat's roots in one cut). By AI agents, Wed Nov 11 2026. No macro, syntax, notation, axiom, sorry.
-/
import Derived.Test.YtcdpilgndhledaaGreatDoorChecked
import GoSem.PinnedTables
import GoSem.Claim
import GoSem.ClaimJoined
import GoSem.ClaimMapViews
import Derived.JoinedTies
import Derived.KernelRfl
namespace Go.Proofs.YtcdpilgndhledaaGreatDoor
/- THE CELL 'sum', in the pinned program and in every row, IS THE sha256 OF THE DUMP (.gsa) THAT YtcdpilgndhledaaGreatDoorProg.lean LOADS. Nothing in Lean hashes anything: it is a label: what it is worth is what the hold of that sum in a sandbox is worth. -/
noncomputable def Tryz.pinned : Pinned := { name := "ytcdpilgndhledaagreatdoor", sum := "50d6f76767c7494a49ec7ac58c93d5c3564050f106ac7c9bd708f86958f559cf", checked := Tryz.checked }
namespace Rows
def none {H : Type} : Left H := { results := [], args := [] }

/- WHAT THE LISTED PACKAGE-LEVEL VARIABLES READ AS WHEN THE CALL BEGINS. Each datum BY PROGRAM (the guide's laid-datum.mjs) off the statement by which the dump's own 'gosem.cut.vars' lays the variable. In a bare row this is a premise. The card (YtcdpilgndhledaaGreatDoorCards.lean) ties it to the program's text. -/
def laid_unicode_utf8_acceptRanges {H : Type} : DataW H := .agg [.agg [.lit (.int .u8 128), .lit (.int .u8 191)], .agg [.lit (.int .u8 160), .lit (.int .u8 191)], .agg [.lit (.int .u8 128), .lit (.int .u8 159)], .agg [.lit (.int .u8 144), .lit (.int .u8 191)], .agg [.lit (.int .u8 128), .lit (.int .u8 143)], .agg [.lit (.int .u8 0), .lit (.int .u8 0)], .agg [.lit (.int .u8 0), .lit (.int .u8 0)], .agg [.lit (.int .u8 0), .lit (.int .u8 0)], .agg [.lit (.int .u8 0), .lit (.int .u8 0)], .agg [.lit (.int .u8 0), .lit (.int .u8 0)], .agg [.lit (.int .u8 0), .lit (.int .u8 0)], .agg [.lit (.int .u8 0), .lit (.int .u8 0)], .agg [.lit (.int .u8 0), .lit (.int .u8 0)], .agg [.lit (.int .u8 0), .lit (.int .u8 0)], .agg [.lit (.int .u8 0), .lit (.int .u8 0)], .agg [.lit (.int .u8 0), .lit (.int .u8 0)]]
/-- One of Go's own tables, pinned by name: the form's constant. -/
def laid_unicode_utf8_first : DataW Unit := Go.Pinned.utf8First

/-- 'packhorsetop.TopStays': WHATEVER THE INPUT: true; the input reads as it did. -/
def topStaysSpec : ChangeSpec := { name := "topStays", fn := fun _ => fun
  | [d1, d2] => { results := [.lit (.bool true)], args := [d1, d2] }
  | _ => none }
def topStaysRow : OpenClaim := { program := "ytcdpilgndhledaagreatdoor", sum := "50d6f76767c7494a49ec7ac58c93d5c3564050f106ac7c9bd708f86958f559cf", func := "packhorse/packhorsetop.TopStays", spec := "topStays", unfollowed := true, recurses := true, named := ["unicode/utf8.first", "unicode/utf8.acceptRanges"], apart := false, laid := [("unicode/utf8.acceptRanges", laid_unicode_utf8_acceptRanges), ("unicode/utf8.first", laid_unicode_utf8_first)] }
def TopStaysSaid : Prop := topStaysRow.holds Tryz.pinned (OpenSpec.ofChange topStaysSpec)

/-- ITS FALSE NEIGHBOUR: 'it returns false'. Refute it at one input. -/
def topStaysWrong : ChangeSpec := { name := "topStays", fn := fun _ => fun
  | [d1, d2] => { results := [.lit (.bool false)], args := [d1, d2] }
  | _ => none }
def TopStaysWrongFalsely : Prop := topStaysRow.holds Tryz.pinned (OpenSpec.ofChange topStaysWrong)

/-- 'packhorsetop.TopLead': WHATEVER THE INPUT: true; the input reads as it did. -/
def topLeadSpec : ChangeSpec := { name := "topLead", fn := fun _ => fun
  | [d1, d2] => { results := [.lit (.bool true)], args := [d1, d2] }
  | _ => none }
def topLeadRow : OpenClaim := { program := "ytcdpilgndhledaagreatdoor", sum := "50d6f76767c7494a49ec7ac58c93d5c3564050f106ac7c9bd708f86958f559cf", func := "packhorse/packhorsetop.TopLead", spec := "topLead", unfollowed := true, recurses := true, named := ["unicode/utf8.first", "unicode/utf8.acceptRanges"], apart := false, laid := [("unicode/utf8.acceptRanges", laid_unicode_utf8_acceptRanges), ("unicode/utf8.first", laid_unicode_utf8_first)] }
def TopLeadSaid : Prop := topLeadRow.holds Tryz.pinned (OpenSpec.ofChange topLeadSpec)

/-- ITS FALSE NEIGHBOUR: 'it returns false'. Refute it at one input. -/
def topLeadWrong : ChangeSpec := { name := "topLead", fn := fun _ => fun
  | [d1, d2] => { results := [.lit (.bool false)], args := [d1, d2] }
  | _ => none }
def TopLeadWrongFalsely : Prop := topLeadRow.holds Tryz.pinned (OpenSpec.ofChange topLeadWrong)

/-- 'packhorsetop.TopStale': WHATEVER THE INPUT: true; the input reads as it did. -/
def topStaleSpec : ChangeSpec := { name := "topStale", fn := fun _ => fun
  | [d] => { results := [.lit (.bool true)], args := [d] }
  | _ => none }
def topStaleRow : OpenClaim := { program := "ytcdpilgndhledaagreatdoor", sum := "50d6f76767c7494a49ec7ac58c93d5c3564050f106ac7c9bd708f86958f559cf", func := "packhorse/packhorsetop.TopStale", spec := "topStale", unfollowed := true, recurses := true, named := ["unicode/utf8.first", "unicode/utf8.acceptRanges"], apart := false, laid := [("unicode/utf8.acceptRanges", laid_unicode_utf8_acceptRanges), ("unicode/utf8.first", laid_unicode_utf8_first)] }
def TopStaleSaid : Prop := topStaleRow.holds Tryz.pinned (OpenSpec.ofChange topStaleSpec)

/-- ITS FALSE NEIGHBOUR: 'it returns false'. Refute it at one input. -/
def topStaleWrong : ChangeSpec := { name := "topStale", fn := fun _ => fun
  | [d] => { results := [.lit (.bool false)], args := [d] }
  | _ => none }
def TopStaleWrongFalsely : Prop := topStaleRow.holds Tryz.pinned (OpenSpec.ofChange topStaleWrong)

/-- 'packhorsetop.TopFar': WHATEVER THE INPUT: true; the input reads as it did. -/
def topFarSpec : ChangeSpec := { name := "topFar", fn := fun _ => fun
  | [d] => { results := [.lit (.bool true)], args := [d] }
  | _ => none }
def topFarRow : OpenClaim := { program := "ytcdpilgndhledaagreatdoor", sum := "50d6f76767c7494a49ec7ac58c93d5c3564050f106ac7c9bd708f86958f559cf", func := "packhorse/packhorsetop.TopFar", spec := "topFar", unfollowed := true, recurses := true, named := ["unicode/utf8.first", "unicode/utf8.acceptRanges"], apart := false, laid := [("unicode/utf8.acceptRanges", laid_unicode_utf8_acceptRanges), ("unicode/utf8.first", laid_unicode_utf8_first)] }
def TopFarSaid : Prop := topFarRow.holds Tryz.pinned (OpenSpec.ofChange topFarSpec)

/-- ITS FALSE NEIGHBOUR: 'it returns false'. Refute it at one input. -/
def topFarWrong : ChangeSpec := { name := "topFar", fn := fun _ => fun
  | [d] => { results := [.lit (.bool false)], args := [d] }
  | _ => none }
def TopFarWrongFalsely : Prop := topFarRow.holds Tryz.pinned (OpenSpec.ofChange topFarWrong)

/-- 'packhorsetop.TopOnce': WHATEVER THE INPUT: true; the input reads as it did. -/
def topOnceSpec : ChangeSpec := { name := "topOnce", fn := fun _ => fun
  | [d1, d2] => { results := [.lit (.bool true)], args := [d1, d2] }
  | _ => none }
def topOnceRow : OpenClaim := { program := "ytcdpilgndhledaagreatdoor", sum := "50d6f76767c7494a49ec7ac58c93d5c3564050f106ac7c9bd708f86958f559cf", func := "packhorse/packhorsetop.TopOnce", spec := "topOnce", unfollowed := true, recurses := true, named := ["unicode/utf8.first", "unicode/utf8.acceptRanges"], apart := false, laid := [("unicode/utf8.acceptRanges", laid_unicode_utf8_acceptRanges), ("unicode/utf8.first", laid_unicode_utf8_first)] }
def TopOnceSaid : Prop := topOnceRow.holds Tryz.pinned (OpenSpec.ofChange topOnceSpec)

/-- ITS FALSE NEIGHBOUR: 'it returns false'. Refute it at one input. -/
def topOnceWrong : ChangeSpec := { name := "topOnce", fn := fun _ => fun
  | [d1, d2] => { results := [.lit (.bool false)], args := [d1, d2] }
  | _ => none }
def TopOnceWrongFalsely : Prop := topOnceRow.holds Tryz.pinned (OpenSpec.ofChange topOnceWrong)

/-- 'packhorsetop.TopMinority': WHATEVER THE INPUT: true; the input reads as it did. -/
def topMinoritySpec : ChangeSpec := { name := "topMinority", fn := fun _ => fun
  | [d] => { results := [.lit (.bool true)], args := [d] }
  | _ => none }
def topMinorityRow : OpenClaim := { program := "ytcdpilgndhledaagreatdoor", sum := "50d6f76767c7494a49ec7ac58c93d5c3564050f106ac7c9bd708f86958f559cf", func := "packhorse/packhorsetop.TopMinority", spec := "topMinority", unfollowed := true, recurses := true, named := ["unicode/utf8.first", "unicode/utf8.acceptRanges"], apart := false, laid := [("unicode/utf8.acceptRanges", laid_unicode_utf8_acceptRanges), ("unicode/utf8.first", laid_unicode_utf8_first)] }
def TopMinoritySaid : Prop := topMinorityRow.holds Tryz.pinned (OpenSpec.ofChange topMinoritySpec)

/-- ITS FALSE NEIGHBOUR: 'it returns false'. Refute it at one input. -/
def topMinorityWrong : ChangeSpec := { name := "topMinority", fn := fun _ => fun
  | [d] => { results := [.lit (.bool false)], args := [d] }
  | _ => none }
def TopMinorityWrongFalsely : Prop := topMinorityRow.holds Tryz.pinned (OpenSpec.ofChange topMinorityWrong)

/-- 'packhorsetop.TopTwice': WHATEVER THE INPUT: true; the input reads as it did. -/
def topTwiceSpec : ChangeSpec := { name := "topTwice", fn := fun _ => fun
  | [d1, d2] => { results := [.lit (.bool true)], args := [d1, d2] }
  | _ => none }
def topTwiceRow : OpenClaim := { program := "ytcdpilgndhledaagreatdoor", sum := "50d6f76767c7494a49ec7ac58c93d5c3564050f106ac7c9bd708f86958f559cf", func := "packhorse/packhorsetop.TopTwice", spec := "topTwice", unfollowed := true, recurses := true, named := ["unicode/utf8.first", "unicode/utf8.acceptRanges"], apart := false, laid := [("unicode/utf8.acceptRanges", laid_unicode_utf8_acceptRanges), ("unicode/utf8.first", laid_unicode_utf8_first)] }
def TopTwiceSaid : Prop := topTwiceRow.holds Tryz.pinned (OpenSpec.ofChange topTwiceSpec)

/-- ITS FALSE NEIGHBOUR: 'it returns false'. Refute it at one input. -/
def topTwiceWrong : ChangeSpec := { name := "topTwice", fn := fun _ => fun
  | [d1, d2] => { results := [.lit (.bool false)], args := [d1, d2] }
  | _ => none }
def TopTwiceWrongFalsely : Prop := topTwiceRow.holds Tryz.pinned (OpenSpec.ofChange topTwiceWrong)

/-- 'packhorsetop.TopReverse': WHATEVER THE INPUT: true; the input reads as it did. -/
def topReverseSpec : ChangeSpec := { name := "topReverse", fn := fun _ => fun
  | [d] => { results := [.lit (.bool true)], args := [d] }
  | _ => none }
def topReverseRow : OpenClaim := { program := "ytcdpilgndhledaagreatdoor", sum := "50d6f76767c7494a49ec7ac58c93d5c3564050f106ac7c9bd708f86958f559cf", func := "packhorse/packhorsetop.TopReverse", spec := "topReverse", unfollowed := true, recurses := true, named := ["unicode/utf8.first", "unicode/utf8.acceptRanges"], apart := false, laid := [("unicode/utf8.acceptRanges", laid_unicode_utf8_acceptRanges), ("unicode/utf8.first", laid_unicode_utf8_first)] }
def TopReverseSaid : Prop := topReverseRow.holds Tryz.pinned (OpenSpec.ofChange topReverseSpec)

/-- ITS FALSE NEIGHBOUR: 'it returns false'. Refute it at one input. -/
def topReverseWrong : ChangeSpec := { name := "topReverse", fn := fun _ => fun
  | [d] => { results := [.lit (.bool false)], args := [d] }
  | _ => none }
def TopReverseWrongFalsely : Prop := topReverseRow.holds Tryz.pinned (OpenSpec.ofChange topReverseWrong)

/-- 'packhorsetop.TopTwoTerms': WHATEVER THE INPUT: true; the input reads as it did. -/
def topTwoTermsSpec : ChangeSpec := { name := "topTwoTerms", fn := fun _ => fun
  | [d] => { results := [.lit (.bool true)], args := [d] }
  | _ => none }
def topTwoTermsRow : OpenClaim := { program := "ytcdpilgndhledaagreatdoor", sum := "50d6f76767c7494a49ec7ac58c93d5c3564050f106ac7c9bd708f86958f559cf", func := "packhorse/packhorsetop.TopTwoTerms", spec := "topTwoTerms", unfollowed := true, recurses := true, named := ["unicode/utf8.first", "unicode/utf8.acceptRanges"], apart := false, laid := [("unicode/utf8.acceptRanges", laid_unicode_utf8_acceptRanges), ("unicode/utf8.first", laid_unicode_utf8_first)] }
def TopTwoTermsSaid : Prop := topTwoTermsRow.holds Tryz.pinned (OpenSpec.ofChange topTwoTermsSpec)

/-- ITS FALSE NEIGHBOUR: 'it returns false'. Refute it at one input. -/
def topTwoTermsWrong : ChangeSpec := { name := "topTwoTerms", fn := fun _ => fun
  | [d] => { results := [.lit (.bool false)], args := [d] }
  | _ => none }
def TopTwoTermsWrongFalsely : Prop := topTwoTermsRow.holds Tryz.pinned (OpenSpec.ofChange topTwoTermsWrong)

/- THE SECOND FORM. 'bulk': how many values and letters a reading holds, each counted each time it is reached (what is shared counts as often as it is met; a slice's spare places count too). A statement '..UptoSaid' is the law's where the arguments, and the package variables that the reading takes, are together of bulk at most 1048576: NARROWER than '..Said'. Prove '..Said' where nothing that the law and all that it calls make is longer than what came in: it says more and counts as full. Else prove '..UptoSaid'. A law counts once. -/
mutual
def uptoBulk {H : Type} : DataW H → Nat
  | .lit (.string bytes) => bytes.length + 1
  | .lit _ => 1
  | .nil => 1
  | .ptr d => uptoBulk d + 1
  | .slice elems spare => uptoBulkAll elems + uptoBulkAll spare + 1
  | .agg parts => uptoBulkAll parts + 1
  | .iface _ d => uptoBulk d + 1
  | .map entries => uptoBulkEntries entries + 1
  | .held _ => 1
def uptoBulkAll {H : Type} : List (DataW H) → Nat
  | [] => 0
  | d :: r => uptoBulk d + uptoBulkAll r
def uptoBulkEntries {H : Type} : List (Lit × DataW H) → Nat
  | [] => 0
  | x :: r => uptoBulkEntry x + uptoBulkEntries r
def uptoBulkEntry {H : Type} : Lit × DataW H → Nat
  | (.string bytes, d) => bytes.length + uptoBulk d + 1
  | (_, d) => uptoBulk d + 1
 end
def uptoSmall : (H : Type) → List (DataW H) → Bool := fun _ ds => decide (uptoBulkAll ds ≤ 1048576)
def OpenSpec.upto (s : _root_.Go.ChangeSpec) : _root_.Go.OpenSpec := { _root_.Go.OpenSpec.ofChange s with cond := some uptoSmall }

/-- 'packhorsetop.TopStays', WHERE WHAT IT READS IS OF BULK AT MOST 1048576: true; the input reads as it did. -/
def topStaysUptoRow : OpenClaim := { program := "ytcdpilgndhledaagreatdoor", sum := "50d6f76767c7494a49ec7ac58c93d5c3564050f106ac7c9bd708f86958f559cf", func := "packhorse/packhorsetop.TopStays", spec := "topStays", unfollowed := true, recurses := true, named := ["unicode/utf8.first", "unicode/utf8.acceptRanges"], apart := false, laid := [("unicode/utf8.acceptRanges", laid_unicode_utf8_acceptRanges), ("unicode/utf8.first", laid_unicode_utf8_first)], narrowed := true }
def TopStaysUptoSaid : Prop := topStaysUptoRow.holds Tryz.pinned (OpenSpec.upto topStaysSpec)

/-- 'packhorsetop.TopLead', WHERE WHAT IT READS IS OF BULK AT MOST 1048576: true; the input reads as it did. -/
def topLeadUptoRow : OpenClaim := { program := "ytcdpilgndhledaagreatdoor", sum := "50d6f76767c7494a49ec7ac58c93d5c3564050f106ac7c9bd708f86958f559cf", func := "packhorse/packhorsetop.TopLead", spec := "topLead", unfollowed := true, recurses := true, named := ["unicode/utf8.first", "unicode/utf8.acceptRanges"], apart := false, laid := [("unicode/utf8.acceptRanges", laid_unicode_utf8_acceptRanges), ("unicode/utf8.first", laid_unicode_utf8_first)], narrowed := true }
def TopLeadUptoSaid : Prop := topLeadUptoRow.holds Tryz.pinned (OpenSpec.upto topLeadSpec)

/-- 'packhorsetop.TopStale', WHERE WHAT IT READS IS OF BULK AT MOST 1048576: true; the input reads as it did. -/
def topStaleUptoRow : OpenClaim := { program := "ytcdpilgndhledaagreatdoor", sum := "50d6f76767c7494a49ec7ac58c93d5c3564050f106ac7c9bd708f86958f559cf", func := "packhorse/packhorsetop.TopStale", spec := "topStale", unfollowed := true, recurses := true, named := ["unicode/utf8.first", "unicode/utf8.acceptRanges"], apart := false, laid := [("unicode/utf8.acceptRanges", laid_unicode_utf8_acceptRanges), ("unicode/utf8.first", laid_unicode_utf8_first)], narrowed := true }
def TopStaleUptoSaid : Prop := topStaleUptoRow.holds Tryz.pinned (OpenSpec.upto topStaleSpec)

/-- 'packhorsetop.TopFar', WHERE WHAT IT READS IS OF BULK AT MOST 1048576: true; the input reads as it did. -/
def topFarUptoRow : OpenClaim := { program := "ytcdpilgndhledaagreatdoor", sum := "50d6f76767c7494a49ec7ac58c93d5c3564050f106ac7c9bd708f86958f559cf", func := "packhorse/packhorsetop.TopFar", spec := "topFar", unfollowed := true, recurses := true, named := ["unicode/utf8.first", "unicode/utf8.acceptRanges"], apart := false, laid := [("unicode/utf8.acceptRanges", laid_unicode_utf8_acceptRanges), ("unicode/utf8.first", laid_unicode_utf8_first)], narrowed := true }
def TopFarUptoSaid : Prop := topFarUptoRow.holds Tryz.pinned (OpenSpec.upto topFarSpec)

/-- 'packhorsetop.TopOnce', WHERE WHAT IT READS IS OF BULK AT MOST 1048576: true; the input reads as it did. -/
def topOnceUptoRow : OpenClaim := { program := "ytcdpilgndhledaagreatdoor", sum := "50d6f76767c7494a49ec7ac58c93d5c3564050f106ac7c9bd708f86958f559cf", func := "packhorse/packhorsetop.TopOnce", spec := "topOnce", unfollowed := true, recurses := true, named := ["unicode/utf8.first", "unicode/utf8.acceptRanges"], apart := false, laid := [("unicode/utf8.acceptRanges", laid_unicode_utf8_acceptRanges), ("unicode/utf8.first", laid_unicode_utf8_first)], narrowed := true }
def TopOnceUptoSaid : Prop := topOnceUptoRow.holds Tryz.pinned (OpenSpec.upto topOnceSpec)

/-- 'packhorsetop.TopMinority', WHERE WHAT IT READS IS OF BULK AT MOST 1048576: true; the input reads as it did. -/
def topMinorityUptoRow : OpenClaim := { program := "ytcdpilgndhledaagreatdoor", sum := "50d6f76767c7494a49ec7ac58c93d5c3564050f106ac7c9bd708f86958f559cf", func := "packhorse/packhorsetop.TopMinority", spec := "topMinority", unfollowed := true, recurses := true, named := ["unicode/utf8.first", "unicode/utf8.acceptRanges"], apart := false, laid := [("unicode/utf8.acceptRanges", laid_unicode_utf8_acceptRanges), ("unicode/utf8.first", laid_unicode_utf8_first)], narrowed := true }
def TopMinorityUptoSaid : Prop := topMinorityUptoRow.holds Tryz.pinned (OpenSpec.upto topMinoritySpec)

/-- 'packhorsetop.TopTwice', WHERE WHAT IT READS IS OF BULK AT MOST 1048576: true; the input reads as it did. -/
def topTwiceUptoRow : OpenClaim := { program := "ytcdpilgndhledaagreatdoor", sum := "50d6f76767c7494a49ec7ac58c93d5c3564050f106ac7c9bd708f86958f559cf", func := "packhorse/packhorsetop.TopTwice", spec := "topTwice", unfollowed := true, recurses := true, named := ["unicode/utf8.first", "unicode/utf8.acceptRanges"], apart := false, laid := [("unicode/utf8.acceptRanges", laid_unicode_utf8_acceptRanges), ("unicode/utf8.first", laid_unicode_utf8_first)], narrowed := true }
def TopTwiceUptoSaid : Prop := topTwiceUptoRow.holds Tryz.pinned (OpenSpec.upto topTwiceSpec)

/-- 'packhorsetop.TopReverse', WHERE WHAT IT READS IS OF BULK AT MOST 1048576: true; the input reads as it did. -/
def topReverseUptoRow : OpenClaim := { program := "ytcdpilgndhledaagreatdoor", sum := "50d6f76767c7494a49ec7ac58c93d5c3564050f106ac7c9bd708f86958f559cf", func := "packhorse/packhorsetop.TopReverse", spec := "topReverse", unfollowed := true, recurses := true, named := ["unicode/utf8.first", "unicode/utf8.acceptRanges"], apart := false, laid := [("unicode/utf8.acceptRanges", laid_unicode_utf8_acceptRanges), ("unicode/utf8.first", laid_unicode_utf8_first)], narrowed := true }
def TopReverseUptoSaid : Prop := topReverseUptoRow.holds Tryz.pinned (OpenSpec.upto topReverseSpec)

/-- 'packhorsetop.TopTwoTerms', WHERE WHAT IT READS IS OF BULK AT MOST 1048576: true; the input reads as it did. -/
def topTwoTermsUptoRow : OpenClaim := { program := "ytcdpilgndhledaagreatdoor", sum := "50d6f76767c7494a49ec7ac58c93d5c3564050f106ac7c9bd708f86958f559cf", func := "packhorse/packhorsetop.TopTwoTerms", spec := "topTwoTerms", unfollowed := true, recurses := true, named := ["unicode/utf8.first", "unicode/utf8.acceptRanges"], apart := false, laid := [("unicode/utf8.acceptRanges", laid_unicode_utf8_acceptRanges), ("unicode/utf8.first", laid_unicode_utf8_first)], narrowed := true }
def TopTwoTermsUptoSaid : Prop := topTwoTermsUptoRow.holds Tryz.pinned (OpenSpec.upto topTwoTermsSpec)

end Rows
end Go.Proofs.YtcdpilgndhledaaGreatDoor
