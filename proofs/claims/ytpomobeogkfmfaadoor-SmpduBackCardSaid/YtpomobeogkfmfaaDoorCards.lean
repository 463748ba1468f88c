/-
  DERIVED. GIVEN WITH THE SEED: THE CARDS: each row of YtpomobeogkfmfaaDoorRows.lean that lists a variable, with what it lists TIED to the program's text (the seventh form; the later family's looks); each row that meets fmt, with fmt's text TOLD by the authors' own Lean function (tested against real Go, not proved from fmt's source: count such statements apart). THE CARD IS WHAT COUNTS. Prove the row's statement (the work); the ties are given (YtpomobeogkfmfaaDoorTie.lean); close each card by the builder's one call (the guide's Derived/Test/ToyasCard.lean, 'card_holds'). Laid BY PROGRAM, IN A SANDBOX (cutbox-door.mjs). By AI agents, Wed Nov 11 2026. No macro, syntax, notation, axiom, sorry.
-/
import Derived.Test.YtpomobeogkfmfaaDoorRows
import GoSem.ClaimSeven
namespace Go.Proofs.YtpomobeogkfmfaaDoor
namespace Rows

/-- THE TIED CARD OF 'wirelesslaw08.AddressChecks'. -/
def addressChecksCard : Claim7 := { stood := { row := addressChecksRow, standIns := [], harness := (true, "331deda0f5da1b5a99eed80f89dd461fec05926668c4bd38f2faeff8b60beb29"), looks := false }, kinds := [], alts := [], laidByText := true, laidKinds := [.data, .data], laidTests := true, laidLooks := .later }
def AddressChecksCardSaid : Prop := Claim7.holds Tryd.pinned (.plain (OpenSpec.ofChange addressChecksSpec)) addressChecksCard

/-- THE TIED CARD OF 'wirelesslaw08.AddressMakes'. -/
def addressMakesCard : Claim7 := { stood := { row := addressMakesRow, standIns := [], harness := (true, "331deda0f5da1b5a99eed80f89dd461fec05926668c4bd38f2faeff8b60beb29"), looks := false }, kinds := [], alts := [], laidByText := true, laidKinds := [.data, .data], laidTests := true, laidLooks := .later }
def AddressMakesCardSaid : Prop := Claim7.holds Tryd.pinned (.plain (OpenSpec.ofChange addressMakesSpec)) addressMakesCard

/-- THE TIED CARD OF 'wirelesslaw08.AddressTexts'. -/
def addressTextsCard : Claim7 := { stood := { row := addressTextsRow, standIns := [], harness := (true, "331deda0f5da1b5a99eed80f89dd461fec05926668c4bd38f2faeff8b60beb29"), looks := false }, kinds := [], alts := [], laidByText := true, laidKinds := [.data, .data], laidTests := true, laidLooks := .later }
def AddressTextsCardSaid : Prop := Claim7.holds Tryd.pinned (.plain (OpenSpec.ofChange addressTextsSpec)) addressTextsCard

/-- THE TIED CARD OF 'wirelesslaw08.AddressParses'. -/
def addressParsesCard : Claim7 := { stood := { row := addressParsesRow, standIns := [], harness := (true, "331deda0f5da1b5a99eed80f89dd461fec05926668c4bd38f2faeff8b60beb29"), looks := false }, kinds := [], alts := [], laidByText := true, laidKinds := [.data, .data], laidTests := true, laidLooks := .later }
def AddressParsesCardSaid : Prop := Claim7.holds Tryd.pinned (.plain (OpenSpec.ofChange addressParsesSpec)) addressParsesCard

/-- THE TIED CARD OF 'wirelesslaw08.AddressOrder'. -/
def addressOrderCard : Claim7 := { stood := { row := addressOrderRow, standIns := [], harness := (true, "331deda0f5da1b5a99eed80f89dd461fec05926668c4bd38f2faeff8b60beb29"), looks := false }, kinds := [], alts := [], laidByText := true, laidKinds := [.data, .data], laidTests := true, laidLooks := .later }
def AddressOrderCardSaid : Prop := Claim7.holds Tryd.pinned (.plain (OpenSpec.ofChange addressOrderSpec)) addressOrderCard

/-- THE TIED CARD OF 'wirelesslaw08.AddressEncodes'. -/
def addressEncodesCard : Claim7 := { stood := { row := addressEncodesRow, standIns := [], harness := (true, "331deda0f5da1b5a99eed80f89dd461fec05926668c4bd38f2faeff8b60beb29"), looks := false }, kinds := [], alts := [], laidByText := true, laidKinds := [.data, .data], laidTests := true, laidLooks := .later }
def AddressEncodesCardSaid : Prop := Claim7.holds Tryd.pinned (.plain (OpenSpec.ofChange addressEncodesSpec)) addressEncodesCard

/-- THE TIED CARD OF 'wirelesslaw08.AddressDecodes'. -/
def addressDecodesCard : Claim7 := { stood := { row := addressDecodesRow, standIns := [], harness := (true, "331deda0f5da1b5a99eed80f89dd461fec05926668c4bd38f2faeff8b60beb29"), looks := false }, kinds := [], alts := [], laidByText := true, laidKinds := [.data, .data], laidTests := true, laidLooks := .later }
def AddressDecodesCardSaid : Prop := Claim7.holds Tryd.pinned (.plain (OpenSpec.ofChange addressDecodesSpec)) addressDecodesCard

/-- THE TIED CARD OF 'wirelesslaw08.AddressBack'. -/
def addressBackCard : Claim7 := { stood := { row := addressBackRow, standIns := [], harness := (true, "331deda0f5da1b5a99eed80f89dd461fec05926668c4bd38f2faeff8b60beb29"), looks := false }, kinds := [], alts := [], laidByText := true, laidKinds := [.data, .data], laidTests := true, laidLooks := .later }
def AddressBackCardSaid : Prop := Claim7.holds Tryd.pinned (.plain (OpenSpec.ofChange addressBackSpec)) addressBackCard

/-- THE TIED CARD OF 'wirelesslaw37.SmpduChecks'. -/
def smpduChecksCard : Claim7 := { stood := { row := smpduChecksRow, standIns := [], harness := (true, "331deda0f5da1b5a99eed80f89dd461fec05926668c4bd38f2faeff8b60beb29"), looks := false }, kinds := [], alts := [], laidByText := true, laidKinds := [.data], laidTests := true, laidLooks := .later }
def SmpduChecksCardSaid : Prop := Claim7.holds Tryd.pinned (.plain (OpenSpec.ofChange smpduChecksSpec)) smpduChecksCard

/-- THE TIED CARD OF 'wirelesslaw37.SmpduEncodes'. -/
def smpduEncodesCard : Claim7 := { stood := { row := smpduEncodesRow, standIns := [], harness := (true, "331deda0f5da1b5a99eed80f89dd461fec05926668c4bd38f2faeff8b60beb29"), looks := false }, kinds := [], alts := [], laidByText := true, laidKinds := [.data], laidTests := true, laidLooks := .later }
def SmpduEncodesCardSaid : Prop := Claim7.holds Tryd.pinned (.plain (OpenSpec.ofChange smpduEncodesSpec)) smpduEncodesCard

/-- THE TIED CARD OF 'wirelesslaw37.SmpduDecodes'. -/
def smpduDecodesCard : Claim7 := { stood := { row := smpduDecodesRow, standIns := [], harness := (true, "331deda0f5da1b5a99eed80f89dd461fec05926668c4bd38f2faeff8b60beb29"), looks := false }, kinds := [], alts := [], laidByText := true, laidKinds := [.data], laidTests := true, laidLooks := .later }
def SmpduDecodesCardSaid : Prop := Claim7.holds Tryd.pinned (.plain (OpenSpec.ofChange smpduDecodesSpec)) smpduDecodesCard

/-- THE TIED CARD OF 'wirelesslaw37.SmpduBack'. -/
def smpduBackCard : Claim7 := { stood := { row := smpduBackRow, standIns := [], harness := (true, "331deda0f5da1b5a99eed80f89dd461fec05926668c4bd38f2faeff8b60beb29"), looks := false }, kinds := [], alts := [], laidByText := true, laidKinds := [.data], laidTests := true, laidLooks := .later }
def SmpduBackCardSaid : Prop := Claim7.holds Tryd.pinned (.plain (OpenSpec.ofChange smpduBackSpec)) smpduBackCard

/-- THE TIED CARD OF 'wirelesslaw37.SmpduOne'. -/
def smpduOneCard : Claim7 := { stood := { row := smpduOneRow, standIns := [], harness := (true, "331deda0f5da1b5a99eed80f89dd461fec05926668c4bd38f2faeff8b60beb29"), looks := false }, kinds := [], alts := [], laidByText := true, laidKinds := [.data], laidTests := true, laidLooks := .later }
def SmpduOneCardSaid : Prop := Claim7.holds Tryd.pinned (.plain (OpenSpec.ofChange smpduOneSpec)) smpduOneCard

/-- THE SECOND FORM's CARD OF 'wirelesslaw08.AddressChecks'. -/
def addressChecksUptoCard : Claim7 := { stood := { row := addressChecksUptoRow, standIns := [], harness := (true, "331deda0f5da1b5a99eed80f89dd461fec05926668c4bd38f2faeff8b60beb29"), looks := false }, kinds := [], alts := [], laidByText := true, laidKinds := [.data, .data], laidTests := true, laidLooks := .later }
def AddressChecksUptoCardSaid : Prop := Claim7.holds Tryd.pinned (.plain (OpenSpec.upto addressChecksSpec)) addressChecksUptoCard

/-- THE SECOND FORM's CARD OF 'wirelesslaw08.AddressMakes'. -/
def addressMakesUptoCard : Claim7 := { stood := { row := addressMakesUptoRow, standIns := [], harness := (true, "331deda0f5da1b5a99eed80f89dd461fec05926668c4bd38f2faeff8b60beb29"), looks := false }, kinds := [], alts := [], laidByText := true, laidKinds := [.data, .data], laidTests := true, laidLooks := .later }
def AddressMakesUptoCardSaid : Prop := Claim7.holds Tryd.pinned (.plain (OpenSpec.upto addressMakesSpec)) addressMakesUptoCard

/-- THE SECOND FORM's CARD OF 'wirelesslaw08.AddressTexts'. -/
def addressTextsUptoCard : Claim7 := { stood := { row := addressTextsUptoRow, standIns := [], harness := (true, "331deda0f5da1b5a99eed80f89dd461fec05926668c4bd38f2faeff8b60beb29"), looks := false }, kinds := [], alts := [], laidByText := true, laidKinds := [.data, .data], laidTests := true, laidLooks := .later }
def AddressTextsUptoCardSaid : Prop := Claim7.holds Tryd.pinned (.plain (OpenSpec.upto addressTextsSpec)) addressTextsUptoCard

/-- THE SECOND FORM's CARD OF 'wirelesslaw08.AddressParses'. -/
def addressParsesUptoCard : Claim7 := { stood := { row := addressParsesUptoRow, standIns := [], harness := (true, "331deda0f5da1b5a99eed80f89dd461fec05926668c4bd38f2faeff8b60beb29"), looks := false }, kinds := [], alts := [], laidByText := true, laidKinds := [.data, .data], laidTests := true, laidLooks := .later }
def AddressParsesUptoCardSaid : Prop := Claim7.holds Tryd.pinned (.plain (OpenSpec.upto addressParsesSpec)) addressParsesUptoCard

/-- THE SECOND FORM's CARD OF 'wirelesslaw08.AddressOrder'. -/
def addressOrderUptoCard : Claim7 := { stood := { row := addressOrderUptoRow, standIns := [], harness := (true, "331deda0f5da1b5a99eed80f89dd461fec05926668c4bd38f2faeff8b60beb29"), looks := false }, kinds := [], alts := [], laidByText := true, laidKinds := [.data, .data], laidTests := true, laidLooks := .later }
def AddressOrderUptoCardSaid : Prop := Claim7.holds Tryd.pinned (.plain (OpenSpec.upto addressOrderSpec)) addressOrderUptoCard

/-- THE SECOND FORM's CARD OF 'wirelesslaw08.AddressEncodes'. -/
def addressEncodesUptoCard : Claim7 := { stood := { row := addressEncodesUptoRow, standIns := [], harness := (true, "331deda0f5da1b5a99eed80f89dd461fec05926668c4bd38f2faeff8b60beb29"), looks := false }, kinds := [], alts := [], laidByText := true, laidKinds := [.data, .data], laidTests := true, laidLooks := .later }
def AddressEncodesUptoCardSaid : Prop := Claim7.holds Tryd.pinned (.plain (OpenSpec.upto addressEncodesSpec)) addressEncodesUptoCard

/-- THE SECOND FORM's CARD OF 'wirelesslaw08.AddressDecodes'. -/
def addressDecodesUptoCard : Claim7 := { stood := { row := addressDecodesUptoRow, standIns := [], harness := (true, "331deda0f5da1b5a99eed80f89dd461fec05926668c4bd38f2faeff8b60beb29"), looks := false }, kinds := [], alts := [], laidByText := true, laidKinds := [.data, .data], laidTests := true, laidLooks := .later }
def AddressDecodesUptoCardSaid : Prop := Claim7.holds Tryd.pinned (.plain (OpenSpec.upto addressDecodesSpec)) addressDecodesUptoCard

/-- THE SECOND FORM's CARD OF 'wirelesslaw08.AddressBack'. -/
def addressBackUptoCard : Claim7 := { stood := { row := addressBackUptoRow, standIns := [], harness := (true, "331deda0f5da1b5a99eed80f89dd461fec05926668c4bd38f2faeff8b60beb29"), looks := false }, kinds := [], alts := [], laidByText := true, laidKinds := [.data, .data], laidTests := true, laidLooks := .later }
def AddressBackUptoCardSaid : Prop := Claim7.holds Tryd.pinned (.plain (OpenSpec.upto addressBackSpec)) addressBackUptoCard

/-- THE SECOND FORM's CARD OF 'wirelesslaw37.SmpduChecks'. -/
def smpduChecksUptoCard : Claim7 := { stood := { row := smpduChecksUptoRow, standIns := [], harness := (true, "331deda0f5da1b5a99eed80f89dd461fec05926668c4bd38f2faeff8b60beb29"), looks := false }, kinds := [], alts := [], laidByText := true, laidKinds := [.data], laidTests := true, laidLooks := .later }
def SmpduChecksUptoCardSaid : Prop := Claim7.holds Tryd.pinned (.plain (OpenSpec.upto smpduChecksSpec)) smpduChecksUptoCard

/-- THE SECOND FORM's CARD OF 'wirelesslaw37.SmpduEncodes'. -/
def smpduEncodesUptoCard : Claim7 := { stood := { row := smpduEncodesUptoRow, standIns := [], harness := (true, "331deda0f5da1b5a99eed80f89dd461fec05926668c4bd38f2faeff8b60beb29"), looks := false }, kinds := [], alts := [], laidByText := true, laidKinds := [.data], laidTests := true, laidLooks := .later }
def SmpduEncodesUptoCardSaid : Prop := Claim7.holds Tryd.pinned (.plain (OpenSpec.upto smpduEncodesSpec)) smpduEncodesUptoCard

/-- THE SECOND FORM's CARD OF 'wirelesslaw37.SmpduDecodes'. -/
def smpduDecodesUptoCard : Claim7 := { stood := { row := smpduDecodesUptoRow, standIns := [], harness := (true, "331deda0f5da1b5a99eed80f89dd461fec05926668c4bd38f2faeff8b60beb29"), looks := false }, kinds := [], alts := [], laidByText := true, laidKinds := [.data], laidTests := true, laidLooks := .later }
def SmpduDecodesUptoCardSaid : Prop := Claim7.holds Tryd.pinned (.plain (OpenSpec.upto smpduDecodesSpec)) smpduDecodesUptoCard

/-- THE SECOND FORM's CARD OF 'wirelesslaw37.SmpduBack'. -/
def smpduBackUptoCard : Claim7 := { stood := { row := smpduBackUptoRow, standIns := [], harness := (true, "331deda0f5da1b5a99eed80f89dd461fec05926668c4bd38f2faeff8b60beb29"), looks := false }, kinds := [], alts := [], laidByText := true, laidKinds := [.data], laidTests := true, laidLooks := .later }
def SmpduBackUptoCardSaid : Prop := Claim7.holds Tryd.pinned (.plain (OpenSpec.upto smpduBackSpec)) smpduBackUptoCard

/-- THE SECOND FORM's CARD OF 'wirelesslaw37.SmpduOne'. -/
def smpduOneUptoCard : Claim7 := { stood := { row := smpduOneUptoRow, standIns := [], harness := (true, "331deda0f5da1b5a99eed80f89dd461fec05926668c4bd38f2faeff8b60beb29"), looks := false }, kinds := [], alts := [], laidByText := true, laidKinds := [.data], laidTests := true, laidLooks := .later }
def SmpduOneUptoCardSaid : Prop := Claim7.holds Tryd.pinned (.plain (OpenSpec.upto smpduOneSpec)) smpduOneUptoCard
end Rows
end Go.Proofs.YtpomobeogkfmfaaDoor
