/-
  DERIVED. GIVEN WITH THE SEED: THE CARDS: each row of YtcdpilgndhledaaGreatDoorRows.lean that lists a variable, with what it lists TIED to the program's text (the seventh form; the later family's looks); each row that meets fmt, with fmt's text TOLD by the authors' own Lean function (tested against real Go, not proved from fmt's source: count such statements apart). THE CARD IS WHAT COUNTS. Prove the row's statement (the work); the ties are given (YtcdpilgndhledaaGreatDoorTie.lean); close each card by the builder's one call (the guide's Derived/Test/ToyasCard.lean, 'card_holds'). Laid BY PROGRAM, IN A SANDBOX (cutbox-door.mjs). By AI agents, Wed Nov 11 2026. No macro, syntax, notation, axiom, sorry.
-/
import Derived.Test.YtcdpilgndhledaaGreatDoorRows
import GoSem.ClaimSeven
namespace Go.Proofs.YtcdpilgndhledaaGreatDoor
namespace Rows

/-- THE TIED CARD OF 'packhorsetop.TopStays'. -/
def topStaysCard : Claim7 := { stood := { row := topStaysRow, standIns := [], harness := (true, "d3146e336fbef4e75662beffe144cfa311caa8ff6f77acb6ad03935d6fbb37f4"), looks := true }, kinds := [], alts := [], laidByText := true, laidKinds := [.data, .pinned], laidTests := true, laidLooks := .later }
def TopStaysCardSaid : Prop := Claim7.holds Tryz.pinned (.plain (OpenSpec.ofChange topStaysSpec)) topStaysCard

/-- THE TIED CARD OF 'packhorsetop.TopLead'. -/
def topLeadCard : Claim7 := { stood := { row := topLeadRow, standIns := [], harness := (true, "d3146e336fbef4e75662beffe144cfa311caa8ff6f77acb6ad03935d6fbb37f4"), looks := true }, kinds := [], alts := [], laidByText := true, laidKinds := [.data, .pinned], laidTests := true, laidLooks := .later }
def TopLeadCardSaid : Prop := Claim7.holds Tryz.pinned (.plain (OpenSpec.ofChange topLeadSpec)) topLeadCard

/-- THE TIED CARD OF 'packhorsetop.TopStale'. -/
def topStaleCard : Claim7 := { stood := { row := topStaleRow, standIns := [], harness := (true, "d3146e336fbef4e75662beffe144cfa311caa8ff6f77acb6ad03935d6fbb37f4"), looks := true }, kinds := [], alts := [], laidByText := true, laidKinds := [.data, .pinned], laidTests := true, laidLooks := .later }
def TopStaleCardSaid : Prop := Claim7.holds Tryz.pinned (.plain (OpenSpec.ofChange topStaleSpec)) topStaleCard

/-- THE TIED CARD OF 'packhorsetop.TopFar'. -/
def topFarCard : Claim7 := { stood := { row := topFarRow, standIns := [], harness := (true, "d3146e336fbef4e75662beffe144cfa311caa8ff6f77acb6ad03935d6fbb37f4"), looks := true }, kinds := [], alts := [], laidByText := true, laidKinds := [.data, .pinned], laidTests := true, laidLooks := .later }
def TopFarCardSaid : Prop := Claim7.holds Tryz.pinned (.plain (OpenSpec.ofChange topFarSpec)) topFarCard

/-- THE TIED CARD OF 'packhorsetop.TopOnce'. -/
def topOnceCard : Claim7 := { stood := { row := topOnceRow, standIns := [], harness := (true, "d3146e336fbef4e75662beffe144cfa311caa8ff6f77acb6ad03935d6fbb37f4"), looks := true }, kinds := [], alts := [], laidByText := true, laidKinds := [.data, .pinned], laidTests := true, laidLooks := .later }
def TopOnceCardSaid : Prop := Claim7.holds Tryz.pinned (.plain (OpenSpec.ofChange topOnceSpec)) topOnceCard

/-- THE TIED CARD OF 'packhorsetop.TopMinority'. -/
def topMinorityCard : Claim7 := { stood := { row := topMinorityRow, standIns := [], harness := (true, "d3146e336fbef4e75662beffe144cfa311caa8ff6f77acb6ad03935d6fbb37f4"), looks := true }, kinds := [], alts := [], laidByText := true, laidKinds := [.data, .pinned], laidTests := true, laidLooks := .later }
def TopMinorityCardSaid : Prop := Claim7.holds Tryz.pinned (.plain (OpenSpec.ofChange topMinoritySpec)) topMinorityCard

/-- THE TIED CARD OF 'packhorsetop.TopTwice'. -/
def topTwiceCard : Claim7 := { stood := { row := topTwiceRow, standIns := [], harness := (true, "d3146e336fbef4e75662beffe144cfa311caa8ff6f77acb6ad03935d6fbb37f4"), looks := true }, kinds := [], alts := [], laidByText := true, laidKinds := [.data, .pinned], laidTests := true, laidLooks := .later }
def TopTwiceCardSaid : Prop := Claim7.holds Tryz.pinned (.plain (OpenSpec.ofChange topTwiceSpec)) topTwiceCard

/-- THE TIED CARD OF 'packhorsetop.TopReverse'. -/
def topReverseCard : Claim7 := { stood := { row := topReverseRow, standIns := [], harness := (true, "d3146e336fbef4e75662beffe144cfa311caa8ff6f77acb6ad03935d6fbb37f4"), looks := true }, kinds := [], alts := [], laidByText := true, laidKinds := [.data, .pinned], laidTests := true, laidLooks := .later }
def TopReverseCardSaid : Prop := Claim7.holds Tryz.pinned (.plain (OpenSpec.ofChange topReverseSpec)) topReverseCard

/-- THE TIED CARD OF 'packhorsetop.TopTwoTerms'. -/
def topTwoTermsCard : Claim7 := { stood := { row := topTwoTermsRow, standIns := [], harness := (true, "d3146e336fbef4e75662beffe144cfa311caa8ff6f77acb6ad03935d6fbb37f4"), looks := true }, kinds := [], alts := [], laidByText := true, laidKinds := [.data, .pinned], laidTests := true, laidLooks := .later }
def TopTwoTermsCardSaid : Prop := Claim7.holds Tryz.pinned (.plain (OpenSpec.ofChange topTwoTermsSpec)) topTwoTermsCard

/-- THE SECOND FORM's CARD OF 'packhorsetop.TopStays'. -/
def topStaysUptoCard : Claim7 := { stood := { row := topStaysUptoRow, standIns := [], harness := (true, "d3146e336fbef4e75662beffe144cfa311caa8ff6f77acb6ad03935d6fbb37f4"), looks := true }, kinds := [], alts := [], laidByText := true, laidKinds := [.data, .pinned], laidTests := true, laidLooks := .later }
def TopStaysUptoCardSaid : Prop := Claim7.holds Tryz.pinned (.plain (OpenSpec.upto topStaysSpec)) topStaysUptoCard

/-- THE SECOND FORM's CARD OF 'packhorsetop.TopLead'. -/
def topLeadUptoCard : Claim7 := { stood := { row := topLeadUptoRow, standIns := [], harness := (true, "d3146e336fbef4e75662beffe144cfa311caa8ff6f77acb6ad03935d6fbb37f4"), looks := true }, kinds := [], alts := [], laidByText := true, laidKinds := [.data, .pinned], laidTests := true, laidLooks := .later }
def TopLeadUptoCardSaid : Prop := Claim7.holds Tryz.pinned (.plain (OpenSpec.upto topLeadSpec)) topLeadUptoCard

/-- THE SECOND FORM's CARD OF 'packhorsetop.TopStale'. -/
def topStaleUptoCard : Claim7 := { stood := { row := topStaleUptoRow, standIns := [], harness := (true, "d3146e336fbef4e75662beffe144cfa311caa8ff6f77acb6ad03935d6fbb37f4"), looks := true }, kinds := [], alts := [], laidByText := true, laidKinds := [.data, .pinned], laidTests := true, laidLooks := .later }
def TopStaleUptoCardSaid : Prop := Claim7.holds Tryz.pinned (.plain (OpenSpec.upto topStaleSpec)) topStaleUptoCard

/-- THE SECOND FORM's CARD OF 'packhorsetop.TopFar'. -/
def topFarUptoCard : Claim7 := { stood := { row := topFarUptoRow, standIns := [], harness := (true, "d3146e336fbef4e75662beffe144cfa311caa8ff6f77acb6ad03935d6fbb37f4"), looks := true }, kinds := [], alts := [], laidByText := true, laidKinds := [.data, .pinned], laidTests := true, laidLooks := .later }
def TopFarUptoCardSaid : Prop := Claim7.holds Tryz.pinned (.plain (OpenSpec.upto topFarSpec)) topFarUptoCard

/-- THE SECOND FORM's CARD OF 'packhorsetop.TopOnce'. -/
def topOnceUptoCard : Claim7 := { stood := { row := topOnceUptoRow, standIns := [], harness := (true, "d3146e336fbef4e75662beffe144cfa311caa8ff6f77acb6ad03935d6fbb37f4"), looks := true }, kinds := [], alts := [], laidByText := true, laidKinds := [.data, .pinned], laidTests := true, laidLooks := .later }
def TopOnceUptoCardSaid : Prop := Claim7.holds Tryz.pinned (.plain (OpenSpec.upto topOnceSpec)) topOnceUptoCard

/-- THE SECOND FORM's CARD OF 'packhorsetop.TopMinority'. -/
def topMinorityUptoCard : Claim7 := { stood := { row := topMinorityUptoRow, standIns := [], harness := (true, "d3146e336fbef4e75662beffe144cfa311caa8ff6f77acb6ad03935d6fbb37f4"), looks := true }, kinds := [], alts := [], laidByText := true, laidKinds := [.data, .pinned], laidTests := true, laidLooks := .later }
def TopMinorityUptoCardSaid : Prop := Claim7.holds Tryz.pinned (.plain (OpenSpec.upto topMinoritySpec)) topMinorityUptoCard

/-- THE SECOND FORM's CARD OF 'packhorsetop.TopTwice'. -/
def topTwiceUptoCard : Claim7 := { stood := { row := topTwiceUptoRow, standIns := [], harness := (true, "d3146e336fbef4e75662beffe144cfa311caa8ff6f77acb6ad03935d6fbb37f4"), looks := true }, kinds := [], alts := [], laidByText := true, laidKinds := [.data, .pinned], laidTests := true, laidLooks := .later }
def TopTwiceUptoCardSaid : Prop := Claim7.holds Tryz.pinned (.plain (OpenSpec.upto topTwiceSpec)) topTwiceUptoCard

/-- THE SECOND FORM's CARD OF 'packhorsetop.TopReverse'. -/
def topReverseUptoCard : Claim7 := { stood := { row := topReverseUptoRow, standIns := [], harness := (true, "d3146e336fbef4e75662beffe144cfa311caa8ff6f77acb6ad03935d6fbb37f4"), looks := true }, kinds := [], alts := [], laidByText := true, laidKinds := [.data, .pinned], laidTests := true, laidLooks := .later }
def TopReverseUptoCardSaid : Prop := Claim7.holds Tryz.pinned (.plain (OpenSpec.upto topReverseSpec)) topReverseUptoCard

/-- THE SECOND FORM's CARD OF 'packhorsetop.TopTwoTerms'. -/
def topTwoTermsUptoCard : Claim7 := { stood := { row := topTwoTermsUptoRow, standIns := [], harness := (true, "d3146e336fbef4e75662beffe144cfa311caa8ff6f77acb6ad03935d6fbb37f4"), looks := true }, kinds := [], alts := [], laidByText := true, laidKinds := [.data, .pinned], laidTests := true, laidLooks := .later }
def TopTwoTermsUptoCardSaid : Prop := Claim7.holds Tryz.pinned (.plain (OpenSpec.upto topTwoTermsSpec)) topTwoTermsUptoCard
end Rows
end Go.Proofs.YtcdpilgndhledaaGreatDoor
