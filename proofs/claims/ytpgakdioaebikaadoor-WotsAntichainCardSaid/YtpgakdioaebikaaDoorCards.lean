/-
  DERIVED. GIVEN WITH THE SEED: THE CARDS: each row of YtpgakdioaebikaaDoorRows.lean that lists a variable, with what it lists TIED to the program's text (the seventh form; the later family's looks); each row that meets fmt, with fmt's text TOLD by the authors' own Lean function (tested against real Go, not proved from fmt's source: count such statements apart). THE CARD IS WHAT COUNTS. Prove the row's statement (the work); the ties are given (YtpgakdioaebikaaDoorTie.lean); close each card by the builder's one call (the guide's Derived/Test/ToyasCard.lean, 'card_holds'). Laid BY PROGRAM, IN A SANDBOX (cutbox-door.mjs). By AI agents, Wed Nov 11 2026. No macro, syntax, notation, axiom, sorry.
-/
import Derived.Test.YtpgakdioaebikaaDoorRows
import GoSem.ClaimSeven
namespace Go.Proofs.YtpgakdioaebikaaDoor
namespace Rows

/-- THE TIED CARD OF 'bootchainlaw04.WotsMatchesSpec'. -/
def wotsMatchesSpecCard : Claim7 := { stood := { row := wotsMatchesSpecRow, standIns := [], harness := (true, "4eaf0ab3542356cc44e309c6ef6b7a54ccaff2924b98636ec307e11247783b71"), looks := false }, kinds := [], alts := [], laidByText := true, laidKinds := [.data, .data], laidTests := true, laidLooks := .later }
def WotsMatchesSpecCardSaid : Prop := Claim7.holds Tryd.pinned (.plain (OpenSpec.ofChange wotsMatchesSpecSpec)) wotsMatchesSpecCard

/-- THE TIED CARD OF 'bootchainlaw04.WotsVerifies'. -/
def wotsVerifiesCard : Claim7 := { stood := { row := wotsVerifiesRow, standIns := [], harness := (true, "4eaf0ab3542356cc44e309c6ef6b7a54ccaff2924b98636ec307e11247783b71"), looks := false }, kinds := [], alts := [], laidByText := true, laidKinds := [.data, .data], laidTests := true, laidLooks := .later }
def WotsVerifiesCardSaid : Prop := Claim7.holds Tryd.pinned (.plain (OpenSpec.ofChange wotsVerifiesSpec)) wotsVerifiesCard

/-- THE TIED CARD OF 'bootchainlaw04.WotsDigits'. -/
def wotsDigitsCard : Claim7 := { stood := { row := wotsDigitsRow, standIns := [], harness := (true, "4eaf0ab3542356cc44e309c6ef6b7a54ccaff2924b98636ec307e11247783b71"), looks := false }, kinds := [], alts := [], laidByText := true, laidKinds := [.data, .data], laidTests := true, laidLooks := .later }
def WotsDigitsCardSaid : Prop := Claim7.holds Tryd.pinned (.plain (OpenSpec.ofChange wotsDigitsSpec)) wotsDigitsCard

/-- THE TIED CARD OF 'bootchainlaw04.WotsAntichain'. -/
def wotsAntichainCard : Claim7 := { stood := { row := wotsAntichainRow, standIns := [], harness := (true, "4eaf0ab3542356cc44e309c6ef6b7a54ccaff2924b98636ec307e11247783b71"), looks := false }, kinds := [], alts := [], laidByText := true, laidKinds := [.data, .data], laidTests := true, laidLooks := .later }
def WotsAntichainCardSaid : Prop := Claim7.holds Tryd.pinned (.plain (OpenSpec.ofChange wotsAntichainSpec)) wotsAntichainCard

/-- THE TIED CARD OF 'bootchainlaw04.WotsAdvance'. -/
def wotsAdvanceCard : Claim7 := { stood := { row := wotsAdvanceRow, standIns := [], harness := (true, "4eaf0ab3542356cc44e309c6ef6b7a54ccaff2924b98636ec307e11247783b71"), looks := false }, kinds := [], alts := [], laidByText := true, laidKinds := [.data, .data], laidTests := true, laidLooks := .later }
def WotsAdvanceCardSaid : Prop := Claim7.holds Tryd.pinned (.plain (OpenSpec.ofChange wotsAdvanceSpec)) wotsAdvanceCard

/-- THE TIED CARD OF 'bootchainlaw04.WotsReduction'. -/
def wotsReductionCard : Claim7 := { stood := { row := wotsReductionRow, standIns := [], harness := (true, "4eaf0ab3542356cc44e309c6ef6b7a54ccaff2924b98636ec307e11247783b71"), looks := false }, kinds := [], alts := [], laidByText := true, laidKinds := [.data, .data], laidTests := true, laidLooks := .later }
def WotsReductionCardSaid : Prop := Claim7.holds Tryd.pinned (.plain (OpenSpec.ofChange wotsReductionSpec)) wotsReductionCard

/-- THE SECOND FORM's CARD OF 'bootchainlaw04.WotsMatchesSpec'. -/
def wotsMatchesSpecUptoCard : Claim7 := { stood := { row := wotsMatchesSpecUptoRow, standIns := [], harness := (true, "4eaf0ab3542356cc44e309c6ef6b7a54ccaff2924b98636ec307e11247783b71"), looks := false }, kinds := [], alts := [], laidByText := true, laidKinds := [.data, .data], laidTests := true, laidLooks := .later }
def WotsMatchesSpecUptoCardSaid : Prop := Claim7.holds Tryd.pinned (.plain (OpenSpec.upto wotsMatchesSpecSpec)) wotsMatchesSpecUptoCard

/-- THE SECOND FORM's CARD OF 'bootchainlaw04.WotsVerifies'. -/
def wotsVerifiesUptoCard : Claim7 := { stood := { row := wotsVerifiesUptoRow, standIns := [], harness := (true, "4eaf0ab3542356cc44e309c6ef6b7a54ccaff2924b98636ec307e11247783b71"), looks := false }, kinds := [], alts := [], laidByText := true, laidKinds := [.data, .data], laidTests := true, laidLooks := .later }
def WotsVerifiesUptoCardSaid : Prop := Claim7.holds Tryd.pinned (.plain (OpenSpec.upto wotsVerifiesSpec)) wotsVerifiesUptoCard

/-- THE SECOND FORM's CARD OF 'bootchainlaw04.WotsDigits'. -/
def wotsDigitsUptoCard : Claim7 := { stood := { row := wotsDigitsUptoRow, standIns := [], harness := (true, "4eaf0ab3542356cc44e309c6ef6b7a54ccaff2924b98636ec307e11247783b71"), looks := false }, kinds := [], alts := [], laidByText := true, laidKinds := [.data, .data], laidTests := true, laidLooks := .later }
def WotsDigitsUptoCardSaid : Prop := Claim7.holds Tryd.pinned (.plain (OpenSpec.upto wotsDigitsSpec)) wotsDigitsUptoCard

/-- THE SECOND FORM's CARD OF 'bootchainlaw04.WotsAntichain'. -/
def wotsAntichainUptoCard : Claim7 := { stood := { row := wotsAntichainUptoRow, standIns := [], harness := (true, "4eaf0ab3542356cc44e309c6ef6b7a54ccaff2924b98636ec307e11247783b71"), looks := false }, kinds := [], alts := [], laidByText := true, laidKinds := [.data, .data], laidTests := true, laidLooks := .later }
def WotsAntichainUptoCardSaid : Prop := Claim7.holds Tryd.pinned (.plain (OpenSpec.upto wotsAntichainSpec)) wotsAntichainUptoCard

/-- THE SECOND FORM's CARD OF 'bootchainlaw04.WotsAdvance'. -/
def wotsAdvanceUptoCard : Claim7 := { stood := { row := wotsAdvanceUptoRow, standIns := [], harness := (true, "4eaf0ab3542356cc44e309c6ef6b7a54ccaff2924b98636ec307e11247783b71"), looks := false }, kinds := [], alts := [], laidByText := true, laidKinds := [.data, .data], laidTests := true, laidLooks := .later }
def WotsAdvanceUptoCardSaid : Prop := Claim7.holds Tryd.pinned (.plain (OpenSpec.upto wotsAdvanceSpec)) wotsAdvanceUptoCard

/-- THE SECOND FORM's CARD OF 'bootchainlaw04.WotsReduction'. -/
def wotsReductionUptoCard : Claim7 := { stood := { row := wotsReductionUptoRow, standIns := [], harness := (true, "4eaf0ab3542356cc44e309c6ef6b7a54ccaff2924b98636ec307e11247783b71"), looks := false }, kinds := [], alts := [], laidByText := true, laidKinds := [.data, .data], laidTests := true, laidLooks := .later }
def WotsReductionUptoCardSaid : Prop := Claim7.holds Tryd.pinned (.plain (OpenSpec.upto wotsReductionSpec)) wotsReductionUptoCard
end Rows
end Go.Proofs.YtpgakdioaebikaaDoor
