/-
  DERIVED. GIVEN WITH THE SEED: THE CARDS: each row of YtijeoadfgjpefaaGreatDoorRows.lean that lists a variable, with what it lists TIED to the program's text (the seventh form; the later family's looks); each row that meets fmt, with fmt's text TOLD by the authors' own Lean function (tested against real Go, not proved from fmt's source: count such statements apart). THE CARD IS WHAT COUNTS. Prove the row's statement (the work); the ties are given (YtijeoadfgjpefaaGreatDoorTie.lean); close each card by the builder's one call (the guide's Derived/Test/ToyasCard.lean, 'card_holds'). Laid BY PROGRAM, IN A SANDBOX (cutbox-door.mjs). By AI agents, Wed Nov 11 2026. No macro, syntax, notation, axiom, sorry.
-/
import Derived.Test.YtijeoadfgjpefaaGreatDoorRows
import GoSem.ClaimSeven
namespace Go.Proofs.YtijeoadfgjpefaaGreatDoor
namespace Rows

/-- THE TIED CARD OF 'laws.FnExactPlain'. -/
def fnExactPlainCard : Claim7 := { stood := { row := fnExactPlainRow, standIns := [], harness := (true, "113d293747b961e70058e36fc32a20f33b45330c84ceb6f3cec3a716a7706b20"), looks := false }, kinds := [], alts := [], laidByText := true, laidKinds := [.data, .pinned], laidTests := true, laidLooks := .later }
def FnExactPlainCardSaid : Prop := Claim7.holds Tryz.pinned (.plain (OpenSpec.ofChange fnExactPlainSpec)) fnExactPlainCard

/-- THE TIED CARD OF 'laws.FnExactChange'. -/
def fnExactChangeCard : Claim7 := { stood := { row := fnExactChangeRow, standIns := [], harness := (true, "113d293747b961e70058e36fc32a20f33b45330c84ceb6f3cec3a716a7706b20"), looks := false }, kinds := [], alts := [], laidByText := true, laidKinds := [.data, .pinned], laidTests := true, laidLooks := .later }
def FnExactChangeCardSaid : Prop := Claim7.holds Tryz.pinned (.plain (OpenSpec.ofChange fnExactChangeSpec)) fnExactChangeCard

/-- THE TIED CARD OF 'laws.FnExactAsk'. -/
def fnExactAskCard : Claim7 := { stood := { row := fnExactAskRow, standIns := [], harness := (true, "113d293747b961e70058e36fc32a20f33b45330c84ceb6f3cec3a716a7706b20"), looks := false }, kinds := [], alts := [], laidByText := true, laidKinds := [.data, .pinned], laidTests := true, laidLooks := .later }
def FnExactAskCardSaid : Prop := Claim7.holds Tryz.pinned (.plain (OpenSpec.ofChange fnExactAskSpec)) fnExactAskCard

/-- THE TIED CARD OF 'laws.FnPuts'. -/
def fnPutsCard : Claim7 := { stood := { row := fnPutsRow, standIns := [], harness := (true, "113d293747b961e70058e36fc32a20f33b45330c84ceb6f3cec3a716a7706b20"), looks := false }, kinds := [], alts := [], laidByText := true, laidKinds := [.data, .pinned], laidTests := true, laidLooks := .later }
def FnPutsCardSaid : Prop := Claim7.holds Tryz.pinned (.plain (OpenSpec.ofChange fnPutsSpec)) fnPutsCard

/-- THE TIED CARD OF 'laws.FnUndone'. -/
def fnUndoneCard : Claim7 := { stood := { row := fnUndoneRow, standIns := [], harness := (true, "113d293747b961e70058e36fc32a20f33b45330c84ceb6f3cec3a716a7706b20"), looks := false }, kinds := [], alts := [], laidByText := true, laidKinds := [.data, .pinned], laidTests := true, laidLooks := .later }
def FnUndoneCardSaid : Prop := Claim7.holds Tryz.pinned (.plain (OpenSpec.ofChange fnUndoneSpec)) fnUndoneCard

/-- THE TIED CARD OF 'laws.FnShown'. -/
def fnShownCard : Claim7 := { stood := { row := fnShownRow, standIns := [], harness := (true, "113d293747b961e70058e36fc32a20f33b45330c84ceb6f3cec3a716a7706b20"), looks := false }, kinds := [], alts := [], laidByText := true, laidKinds := [.data, .pinned], laidTests := true, laidLooks := .later }
def FnShownCardSaid : Prop := Claim7.holds Tryz.pinned (.plain (OpenSpec.ofChange fnShownSpec)) fnShownCard

/-- THE TIED CARD OF 'laws.FnLists'. -/
def fnListsCard : Claim7 := { stood := { row := fnListsRow, standIns := [], harness := (true, "113d293747b961e70058e36fc32a20f33b45330c84ceb6f3cec3a716a7706b20"), looks := false }, kinds := [], alts := [], laidByText := true, laidKinds := [.data, .pinned], laidTests := true, laidLooks := .later }
def FnListsCardSaid : Prop := Claim7.holds Tryz.pinned (.plain (OpenSpec.ofChange fnListsSpec)) fnListsCard

/-- THE TIED CARD OF 'laws.FnAsked'. -/
def fnAskedCard : Claim7 := { stood := { row := fnAskedRow, standIns := [], harness := (true, "113d293747b961e70058e36fc32a20f33b45330c84ceb6f3cec3a716a7706b20"), looks := false }, kinds := [], alts := [], laidByText := true, laidKinds := [.data, .pinned], laidTests := true, laidLooks := .later }
def FnAskedCardSaid : Prop := Claim7.holds Tryz.pinned (.plain (OpenSpec.ofChange fnAskedSpec)) fnAskedCard

/-- THE SECOND FORM's CARD OF 'laws.FnExactPlain'. -/
def fnExactPlainUptoCard : Claim7 := { stood := { row := fnExactPlainUptoRow, standIns := [], harness := (true, "113d293747b961e70058e36fc32a20f33b45330c84ceb6f3cec3a716a7706b20"), looks := false }, kinds := [], alts := [], laidByText := true, laidKinds := [.data, .pinned], laidTests := true, laidLooks := .later }
def FnExactPlainUptoCardSaid : Prop := Claim7.holds Tryz.pinned (.plain (OpenSpec.upto fnExactPlainSpec)) fnExactPlainUptoCard

/-- THE SECOND FORM's CARD OF 'laws.FnExactChange'. -/
def fnExactChangeUptoCard : Claim7 := { stood := { row := fnExactChangeUptoRow, standIns := [], harness := (true, "113d293747b961e70058e36fc32a20f33b45330c84ceb6f3cec3a716a7706b20"), looks := false }, kinds := [], alts := [], laidByText := true, laidKinds := [.data, .pinned], laidTests := true, laidLooks := .later }
def FnExactChangeUptoCardSaid : Prop := Claim7.holds Tryz.pinned (.plain (OpenSpec.upto fnExactChangeSpec)) fnExactChangeUptoCard

/-- THE SECOND FORM's CARD OF 'laws.FnExactAsk'. -/
def fnExactAskUptoCard : Claim7 := { stood := { row := fnExactAskUptoRow, standIns := [], harness := (true, "113d293747b961e70058e36fc32a20f33b45330c84ceb6f3cec3a716a7706b20"), looks := false }, kinds := [], alts := [], laidByText := true, laidKinds := [.data, .pinned], laidTests := true, laidLooks := .later }
def FnExactAskUptoCardSaid : Prop := Claim7.holds Tryz.pinned (.plain (OpenSpec.upto fnExactAskSpec)) fnExactAskUptoCard

/-- THE SECOND FORM's CARD OF 'laws.FnPuts'. -/
def fnPutsUptoCard : Claim7 := { stood := { row := fnPutsUptoRow, standIns := [], harness := (true, "113d293747b961e70058e36fc32a20f33b45330c84ceb6f3cec3a716a7706b20"), looks := false }, kinds := [], alts := [], laidByText := true, laidKinds := [.data, .pinned], laidTests := true, laidLooks := .later }
def FnPutsUptoCardSaid : Prop := Claim7.holds Tryz.pinned (.plain (OpenSpec.upto fnPutsSpec)) fnPutsUptoCard

/-- THE SECOND FORM's CARD OF 'laws.FnUndone'. -/
def fnUndoneUptoCard : Claim7 := { stood := { row := fnUndoneUptoRow, standIns := [], harness := (true, "113d293747b961e70058e36fc32a20f33b45330c84ceb6f3cec3a716a7706b20"), looks := false }, kinds := [], alts := [], laidByText := true, laidKinds := [.data, .pinned], laidTests := true, laidLooks := .later }
def FnUndoneUptoCardSaid : Prop := Claim7.holds Tryz.pinned (.plain (OpenSpec.upto fnUndoneSpec)) fnUndoneUptoCard

/-- THE SECOND FORM's CARD OF 'laws.FnShown'. -/
def fnShownUptoCard : Claim7 := { stood := { row := fnShownUptoRow, standIns := [], harness := (true, "113d293747b961e70058e36fc32a20f33b45330c84ceb6f3cec3a716a7706b20"), looks := false }, kinds := [], alts := [], laidByText := true, laidKinds := [.data, .pinned], laidTests := true, laidLooks := .later }
def FnShownUptoCardSaid : Prop := Claim7.holds Tryz.pinned (.plain (OpenSpec.upto fnShownSpec)) fnShownUptoCard

/-- THE SECOND FORM's CARD OF 'laws.FnLists'. -/
def fnListsUptoCard : Claim7 := { stood := { row := fnListsUptoRow, standIns := [], harness := (true, "113d293747b961e70058e36fc32a20f33b45330c84ceb6f3cec3a716a7706b20"), looks := false }, kinds := [], alts := [], laidByText := true, laidKinds := [.data, .pinned], laidTests := true, laidLooks := .later }
def FnListsUptoCardSaid : Prop := Claim7.holds Tryz.pinned (.plain (OpenSpec.upto fnListsSpec)) fnListsUptoCard

/-- THE SECOND FORM's CARD OF 'laws.FnAsked'. -/
def fnAskedUptoCard : Claim7 := { stood := { row := fnAskedUptoRow, standIns := [], harness := (true, "113d293747b961e70058e36fc32a20f33b45330c84ceb6f3cec3a716a7706b20"), looks := false }, kinds := [], alts := [], laidByText := true, laidKinds := [.data, .pinned], laidTests := true, laidLooks := .later }
def FnAskedUptoCardSaid : Prop := Claim7.holds Tryz.pinned (.plain (OpenSpec.upto fnAskedSpec)) fnAskedUptoCard
end Rows
end Go.Proofs.YtijeoadfgjpefaaGreatDoor
