/-
  DERIVED. GIVEN WITH THE SEED: THE CARDS: each row of YtaecljahbmcneaaDoorRows.lean that lists a variable, with what it lists TIED to the program's text (the seventh form; the later family's looks); each row that meets fmt, with fmt's text TOLD by the authors' own Lean function (tested against real Go, not proved from fmt's source: count such statements apart). THE CARD IS WHAT COUNTS. Prove the row's statement (the work); the ties are given (YtaecljahbmcneaaDoorTie.lean); close each card by the builder's one call (the guide's Derived/Test/ToyasCard.lean, 'card_holds'). Laid BY PROGRAM, IN A SANDBOX (cutbox-door.mjs). By AI agents, Wed Nov 11 2026. No macro, syntax, notation, axiom, sorry.
-/
import Derived.Test.YtaecljahbmcneaaDoorRows
import GoSem.ClaimSeven
namespace Go.Proofs.YtaecljahbmcneaaDoor
namespace Rows

/-- THE TIED CARD OF 'bootchainlaw31.SealEncoding'. -/
def sealEncodingCard : Claim7 := { stood := { row := sealEncodingRow, standIns := [], harness := (true, "d708228b32212196d968f9b97857d9d3cd44b2e3403eec71b7ddba421097b785"), looks := false }, kinds := [], alts := [], laidByText := true, laidKinds := [.data, .data], laidTests := true, laidLooks := .later }
def SealEncodingCardSaid : Prop := Claim7.holds Tryd.pinned (.plain (OpenSpec.ofChange sealEncodingSpec)) sealEncodingCard

/-- THE TIED CARD OF 'bootchainlaw06.BoxMatches'. -/
def boxMatchesCard : Claim7 := { stood := { row := boxMatchesRow, standIns := [], harness := (true, "d708228b32212196d968f9b97857d9d3cd44b2e3403eec71b7ddba421097b785"), looks := false }, kinds := [], alts := [], laidByText := true, laidKinds := [.data, .data], laidTests := true, laidLooks := .later }
def BoxMatchesCardSaid : Prop := Claim7.holds Tryd.pinned (.plain (OpenSpec.ofChange boxMatchesSpec)) boxMatchesCard

/-- THE TIED CARD OF 'bootchainlaw06.BoxRoundTrip'. -/
def boxRoundTripCard : Claim7 := { stood := { row := boxRoundTripRow, standIns := [], harness := (true, "d708228b32212196d968f9b97857d9d3cd44b2e3403eec71b7ddba421097b785"), looks := false }, kinds := [], alts := [], laidByText := true, laidKinds := [.data, .data], laidTests := true, laidLooks := .later }
def BoxRoundTripCardSaid : Prop := Claim7.holds Tryd.pinned (.plain (OpenSpec.ofChange boxRoundTripSpec)) boxRoundTripCard

/-- THE TIED CARD OF 'bootchainlaw31.SealOpens'. -/
def sealOpensCard : Claim7 := { stood := { row := sealOpensRow, standIns := [], harness := (true, "d708228b32212196d968f9b97857d9d3cd44b2e3403eec71b7ddba421097b785"), looks := false }, kinds := [], alts := [], laidByText := true, laidKinds := [.data, .data], laidTests := true, laidLooks := .later }
def SealOpensCardSaid : Prop := Claim7.holds Tryd.pinned (.plain (OpenSpec.ofChange sealOpensSpec)) sealOpensCard

/-- THE TIED CARD OF 'bootchainlaw06.BoxAuthentic'. -/
def boxAuthenticCard : Claim7 := { stood := { row := boxAuthenticRow, standIns := [], harness := (true, "d708228b32212196d968f9b97857d9d3cd44b2e3403eec71b7ddba421097b785"), looks := false }, kinds := [], alts := [], laidByText := true, laidKinds := [.data, .data], laidTests := true, laidLooks := .later }
def BoxAuthenticCardSaid : Prop := Claim7.holds Tryd.pinned (.plain (OpenSpec.ofChange boxAuthenticSpec)) boxAuthenticCard

/-- THE TIED CARD OF 'bootchainlaw06.BoxTampered'. -/
def boxTamperedCard : Claim7 := { stood := { row := boxTamperedRow, standIns := [], harness := (true, "d708228b32212196d968f9b97857d9d3cd44b2e3403eec71b7ddba421097b785"), looks := false }, kinds := [], alts := [], laidByText := true, laidKinds := [.data, .data], laidTests := true, laidLooks := .later }
def BoxTamperedCardSaid : Prop := Claim7.holds Tryd.pinned (.plain (OpenSpec.ofChange boxTamperedSpec)) boxTamperedCard

/-- THE TIED CARD OF 'bootchainlaw06.BoxStream'. -/
def boxStreamCard : Claim7 := { stood := { row := boxStreamRow, standIns := [], harness := (true, "d708228b32212196d968f9b97857d9d3cd44b2e3403eec71b7ddba421097b785"), looks := false }, kinds := [], alts := [], laidByText := true, laidKinds := [.data, .data], laidTests := true, laidLooks := .later }
def BoxStreamCardSaid : Prop := Claim7.holds Tryd.pinned (.plain (OpenSpec.ofChange boxStreamSpec)) boxStreamCard

/-- THE TIED CARD OF 'bootchainlaw31.SealMakeMatchesSpec'. -/
def sealMakeMatchesSpecCard : Claim7 := { stood := { row := sealMakeMatchesSpecRow, standIns := [], harness := (true, "d708228b32212196d968f9b97857d9d3cd44b2e3403eec71b7ddba421097b785"), looks := false }, kinds := [], alts := [], laidByText := true, laidKinds := [.data, .data], laidTests := true, laidLooks := .later }
def SealMakeMatchesSpecCardSaid : Prop := Claim7.holds Tryd.pinned (.plain (OpenSpec.ofChange sealMakeMatchesSpecSpec)) sealMakeMatchesSpecCard

/-- THE TIED CARD OF 'bootchainlaw31.SealOpenMatchesSpec'. -/
def sealOpenMatchesSpecCard : Claim7 := { stood := { row := sealOpenMatchesSpecRow, standIns := [], harness := (true, "d708228b32212196d968f9b97857d9d3cd44b2e3403eec71b7ddba421097b785"), looks := false }, kinds := [], alts := [], laidByText := true, laidKinds := [.data, .data], laidTests := true, laidLooks := .later }
def SealOpenMatchesSpecCardSaid : Prop := Claim7.holds Tryd.pinned (.plain (OpenSpec.ofChange sealOpenMatchesSpecSpec)) sealOpenMatchesSpecCard

/-- THE SECOND FORM's CARD OF 'bootchainlaw31.SealEncoding'. -/
def sealEncodingUptoCard : Claim7 := { stood := { row := sealEncodingUptoRow, standIns := [], harness := (true, "d708228b32212196d968f9b97857d9d3cd44b2e3403eec71b7ddba421097b785"), looks := false }, kinds := [], alts := [], laidByText := true, laidKinds := [.data, .data], laidTests := true, laidLooks := .later }
def SealEncodingUptoCardSaid : Prop := Claim7.holds Tryd.pinned (.plain (OpenSpec.upto sealEncodingSpec)) sealEncodingUptoCard

/-- THE SECOND FORM's CARD OF 'bootchainlaw06.BoxMatches'. -/
def boxMatchesUptoCard : Claim7 := { stood := { row := boxMatchesUptoRow, standIns := [], harness := (true, "d708228b32212196d968f9b97857d9d3cd44b2e3403eec71b7ddba421097b785"), looks := false }, kinds := [], alts := [], laidByText := true, laidKinds := [.data, .data], laidTests := true, laidLooks := .later }
def BoxMatchesUptoCardSaid : Prop := Claim7.holds Tryd.pinned (.plain (OpenSpec.upto boxMatchesSpec)) boxMatchesUptoCard

/-- THE SECOND FORM's CARD OF 'bootchainlaw06.BoxRoundTrip'. -/
def boxRoundTripUptoCard : Claim7 := { stood := { row := boxRoundTripUptoRow, standIns := [], harness := (true, "d708228b32212196d968f9b97857d9d3cd44b2e3403eec71b7ddba421097b785"), looks := false }, kinds := [], alts := [], laidByText := true, laidKinds := [.data, .data], laidTests := true, laidLooks := .later }
def BoxRoundTripUptoCardSaid : Prop := Claim7.holds Tryd.pinned (.plain (OpenSpec.upto boxRoundTripSpec)) boxRoundTripUptoCard

/-- THE SECOND FORM's CARD OF 'bootchainlaw31.SealOpens'. -/
def sealOpensUptoCard : Claim7 := { stood := { row := sealOpensUptoRow, standIns := [], harness := (true, "d708228b32212196d968f9b97857d9d3cd44b2e3403eec71b7ddba421097b785"), looks := false }, kinds := [], alts := [], laidByText := true, laidKinds := [.data, .data], laidTests := true, laidLooks := .later }
def SealOpensUptoCardSaid : Prop := Claim7.holds Tryd.pinned (.plain (OpenSpec.upto sealOpensSpec)) sealOpensUptoCard

/-- THE SECOND FORM's CARD OF 'bootchainlaw06.BoxAuthentic'. -/
def boxAuthenticUptoCard : Claim7 := { stood := { row := boxAuthenticUptoRow, standIns := [], harness := (true, "d708228b32212196d968f9b97857d9d3cd44b2e3403eec71b7ddba421097b785"), looks := false }, kinds := [], alts := [], laidByText := true, laidKinds := [.data, .data], laidTests := true, laidLooks := .later }
def BoxAuthenticUptoCardSaid : Prop := Claim7.holds Tryd.pinned (.plain (OpenSpec.upto boxAuthenticSpec)) boxAuthenticUptoCard

/-- THE SECOND FORM's CARD OF 'bootchainlaw06.BoxTampered'. -/
def boxTamperedUptoCard : Claim7 := { stood := { row := boxTamperedUptoRow, standIns := [], harness := (true, "d708228b32212196d968f9b97857d9d3cd44b2e3403eec71b7ddba421097b785"), looks := false }, kinds := [], alts := [], laidByText := true, laidKinds := [.data, .data], laidTests := true, laidLooks := .later }
def BoxTamperedUptoCardSaid : Prop := Claim7.holds Tryd.pinned (.plain (OpenSpec.upto boxTamperedSpec)) boxTamperedUptoCard

/-- THE SECOND FORM's CARD OF 'bootchainlaw06.BoxStream'. -/
def boxStreamUptoCard : Claim7 := { stood := { row := boxStreamUptoRow, standIns := [], harness := (true, "d708228b32212196d968f9b97857d9d3cd44b2e3403eec71b7ddba421097b785"), looks := false }, kinds := [], alts := [], laidByText := true, laidKinds := [.data, .data], laidTests := true, laidLooks := .later }
def BoxStreamUptoCardSaid : Prop := Claim7.holds Tryd.pinned (.plain (OpenSpec.upto boxStreamSpec)) boxStreamUptoCard

/-- THE SECOND FORM's CARD OF 'bootchainlaw31.SealMakeMatchesSpec'. -/
def sealMakeMatchesSpecUptoCard : Claim7 := { stood := { row := sealMakeMatchesSpecUptoRow, standIns := [], harness := (true, "d708228b32212196d968f9b97857d9d3cd44b2e3403eec71b7ddba421097b785"), looks := false }, kinds := [], alts := [], laidByText := true, laidKinds := [.data, .data], laidTests := true, laidLooks := .later }
def SealMakeMatchesSpecUptoCardSaid : Prop := Claim7.holds Tryd.pinned (.plain (OpenSpec.upto sealMakeMatchesSpecSpec)) sealMakeMatchesSpecUptoCard

/-- THE SECOND FORM's CARD OF 'bootchainlaw31.SealOpenMatchesSpec'. -/
def sealOpenMatchesSpecUptoCard : Claim7 := { stood := { row := sealOpenMatchesSpecUptoRow, standIns := [], harness := (true, "d708228b32212196d968f9b97857d9d3cd44b2e3403eec71b7ddba421097b785"), looks := false }, kinds := [], alts := [], laidByText := true, laidKinds := [.data, .data], laidTests := true, laidLooks := .later }
def SealOpenMatchesSpecUptoCardSaid : Prop := Claim7.holds Tryd.pinned (.plain (OpenSpec.upto sealOpenMatchesSpecSpec)) sealOpenMatchesSpecUptoCard
end Rows
end Go.Proofs.YtaecljahbmcneaaDoor
