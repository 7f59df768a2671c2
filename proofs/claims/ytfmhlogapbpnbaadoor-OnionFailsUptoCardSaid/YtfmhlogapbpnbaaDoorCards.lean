/-
  DERIVED. GIVEN WITH THE SEED: THE CARDS: each row of YtfmhlogapbpnbaaDoorRows.lean that lists a variable, with what it lists TIED to the program's text (the seventh form; the later family's looks); each row that meets fmt, with fmt's text TOLD by the authors' own Lean function (tested against real Go, not proved from fmt's source: count such statements apart). THE CARD IS WHAT COUNTS. Prove the row's statement (the work); the ties are given (YtfmhlogapbpnbaaDoorTie.lean); close each card by the builder's one call (the guide's Derived/Test/ToyasCard.lean, 'card_holds'). Laid BY PROGRAM, IN A SANDBOX (cutbox-door.mjs). By AI agents, Wed Nov 11 2026. No macro, syntax, notation, axiom, sorry.
-/
import Derived.Test.YtfmhlogapbpnbaaDoorRows
import GoSem.ClaimSeven
namespace Go.Proofs.YtfmhlogapbpnbaaDoor
namespace Rows

/-- THE TIED CARD OF 'tollhouselaw07.OnionBacks'. -/
def onionBacksCard : Claim7 := { stood := { row := onionBacksRow, standIns := [], harness := (true, "06250595897cc1c13b4c01e2e877dafd849d4383f9740f929699d2482b562572"), looks := false }, kinds := [], alts := [], laidByText := true, laidKinds := [.data, .pinned], laidTests := true, laidLooks := .later }
def OnionBacksCardSaid : Prop := Claim7.holds Tryd.pinned (.plain (OpenSpec.ofChange onionBacksSpec)) onionBacksCard

/-- THE TIED CARD OF 'tollhouselaw07.OnionFails'. -/
def onionFailsCard : Claim7 := { stood := { row := onionFailsRow, standIns := [], harness := (true, "06250595897cc1c13b4c01e2e877dafd849d4383f9740f929699d2482b562572"), looks := false }, kinds := [], alts := [], laidByText := true, laidKinds := [.data, .pinned], laidTests := true, laidLooks := .later }
def OnionFailsCardSaid : Prop := Claim7.holds Tryd.pinned (.plain (OpenSpec.ofChange onionFailsSpec)) onionFailsCard

/-- THE SECOND FORM's CARD OF 'tollhouselaw07.OnionBacks'. -/
def onionBacksUptoCard : Claim7 := { stood := { row := onionBacksUptoRow, standIns := [], harness := (true, "06250595897cc1c13b4c01e2e877dafd849d4383f9740f929699d2482b562572"), looks := false }, kinds := [], alts := [], laidByText := true, laidKinds := [.data, .pinned], laidTests := true, laidLooks := .later }
def OnionBacksUptoCardSaid : Prop := Claim7.holds Tryd.pinned (.plain (OpenSpec.upto onionBacksSpec)) onionBacksUptoCard

/-- THE SECOND FORM's CARD OF 'tollhouselaw07.OnionFails'. -/
def onionFailsUptoCard : Claim7 := { stood := { row := onionFailsUptoRow, standIns := [], harness := (true, "06250595897cc1c13b4c01e2e877dafd849d4383f9740f929699d2482b562572"), looks := false }, kinds := [], alts := [], laidByText := true, laidKinds := [.data, .pinned], laidTests := true, laidLooks := .later }
def OnionFailsUptoCardSaid : Prop := Claim7.holds Tryd.pinned (.plain (OpenSpec.upto onionFailsSpec)) onionFailsUptoCard
end Rows
end Go.Proofs.YtfmhlogapbpnbaaDoor
