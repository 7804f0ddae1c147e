/-
  DERIVED. GIVEN WITH THE SEED: THE CARDS: each row of YtikmfaeiecpncaaDoorRows.lean that lists a variable, with what it lists TIED to the program's text (the seventh form; the later family's looks); each row that meets fmt, with fmt's text TOLD by the authors' own Lean function (tested against real Go, not proved from fmt's source: count such statements apart). THE CARD IS WHAT COUNTS. Prove the row's statement (the work); the ties are given (YtikmfaeiecpncaaDoorTie.lean); close each card by the builder's one call (the guide's Derived/Test/ToyasCard.lean, 'card_holds'). Laid BY PROGRAM, IN A SANDBOX (cutbox-door.mjs). By AI agents, Wed Nov 11 2026. No macro, syntax, notation, axiom, sorry.
-/
import Derived.Test.YtikmfaeiecpncaaDoorRows
import GoSem.ClaimSeven
namespace Go.Proofs.YtikmfaeiecpncaaDoor
namespace Rows

/-- THE TIED CARD OF 'mantillalaw2.ShaTells'. -/
def shaTellsCard : Claim7 := { stood := { row := shaTellsRow, standIns := [], harness := (true, "092da164515a19b3f115c1032d95d74903a617a0aede86bf95eae63961eb575c"), looks := false }, kinds := [], alts := [], laidByText := true, laidKinds := [.data, .data], laidTests := true, laidLooks := .later }
def ShaTellsCardSaid : Prop := Claim7.holds Tryd.pinned (.plain (OpenSpec.ofChange shaTellsSpec)) shaTellsCard

/-- THE TIED CARD OF 'mantillalaw2.ShaSteps'. -/
def shaStepsCard : Claim7 := { stood := { row := shaStepsRow, standIns := [], harness := (true, "092da164515a19b3f115c1032d95d74903a617a0aede86bf95eae63961eb575c"), looks := false }, kinds := [], alts := [], laidByText := true, laidKinds := [.data, .data], laidTests := true, laidLooks := .later }
def ShaStepsCardSaid : Prop := Claim7.holds Tryd.pinned (.plain (OpenSpec.ofChange shaStepsSpec)) shaStepsCard

/-- THE TIED CARD OF 'mantillalaw2.ShaPads'. -/
def shaPadsCard : Claim7 := { stood := { row := shaPadsRow, standIns := [], harness := (true, "092da164515a19b3f115c1032d95d74903a617a0aede86bf95eae63961eb575c"), looks := false }, kinds := [], alts := [], laidByText := true, laidKinds := [.data, .data], laidTests := true, laidLooks := .later }
def ShaPadsCardSaid : Prop := Claim7.holds Tryd.pinned (.plain (OpenSpec.ofChange shaPadsSpec)) shaPadsCard

/-- THE TIED CARD OF 'mantillalaw2.ShaSplits'. -/
def shaSplitsCard : Claim7 := { stood := { row := shaSplitsRow, standIns := [], harness := (true, "092da164515a19b3f115c1032d95d74903a617a0aede86bf95eae63961eb575c"), looks := false }, kinds := [], alts := [], laidByText := true, laidKinds := [.data, .data], laidTests := true, laidLooks := .later }
def ShaSplitsCardSaid : Prop := Claim7.holds Tryd.pinned (.plain (OpenSpec.ofChange shaSplitsSpec)) shaSplitsCard

/-- THE TIED CARD OF 'mantillalaw3.HkdfGrows'. -/
def hkdfGrowsCard : Claim7 := { stood := { row := hkdfGrowsRow, standIns := [], harness := (true, "092da164515a19b3f115c1032d95d74903a617a0aede86bf95eae63961eb575c"), looks := false }, kinds := [], alts := [], laidByText := true, laidKinds := [.data, .data], laidTests := true, laidLooks := .later }
def HkdfGrowsCardSaid : Prop := Claim7.holds Tryd.pinned (.plain (OpenSpec.ofChange hkdfGrowsSpec)) hkdfGrowsCard

/-- THE TIED CARD OF 'mantillalaw3.HkdfInfos'. -/
def hkdfInfosCard : Claim7 := { stood := { row := hkdfInfosRow, standIns := [], harness := (true, "092da164515a19b3f115c1032d95d74903a617a0aede86bf95eae63961eb575c"), looks := false }, kinds := [], alts := [], laidByText := true, laidKinds := [.data, .data], laidTests := true, laidLooks := .later }
def HkdfInfosCardSaid : Prop := Claim7.holds Tryd.pinned (.plain (OpenSpec.ofChange hkdfInfosSpec)) hkdfInfosCard

/-- THE TIED CARD OF 'mantillalaw3.HkdfTells'. -/
def hkdfTellsCard : Claim7 := { stood := { row := hkdfTellsRow, standIns := [], harness := (true, "092da164515a19b3f115c1032d95d74903a617a0aede86bf95eae63961eb575c"), looks := false }, kinds := [], alts := [], laidByText := true, laidKinds := [.data, .data], laidTests := true, laidLooks := .later }
def HkdfTellsCardSaid : Prop := Claim7.holds Tryd.pinned (.plain (OpenSpec.ofChange hkdfTellsSpec)) hkdfTellsCard

/-- THE TIED CARD OF 'mantillalaw3.HkdfParts'. -/
def hkdfPartsCard : Claim7 := { stood := { row := hkdfPartsRow, standIns := [], harness := (true, "092da164515a19b3f115c1032d95d74903a617a0aede86bf95eae63961eb575c"), looks := false }, kinds := [], alts := [], laidByText := true, laidKinds := [.data, .data], laidTests := true, laidLooks := .later }
def HkdfPartsCardSaid : Prop := Claim7.holds Tryd.pinned (.plain (OpenSpec.ofChange hkdfPartsSpec)) hkdfPartsCard

/-- THE TIED CARD OF 'mantillalaw3.HkdfKeys'. -/
def hkdfKeysCard : Claim7 := { stood := { row := hkdfKeysRow, standIns := [], harness := (true, "092da164515a19b3f115c1032d95d74903a617a0aede86bf95eae63961eb575c"), looks := false }, kinds := [], alts := [], laidByText := true, laidKinds := [.data, .data], laidTests := true, laidLooks := .later }
def HkdfKeysCardSaid : Prop := Claim7.holds Tryd.pinned (.plain (OpenSpec.ofChange hkdfKeysSpec)) hkdfKeysCard

/-- THE TIED CARD OF 'mantillalaw18.KeysTells'. -/
def keysTellsCard : Claim7 := { stood := { row := keysTellsRow, standIns := [], harness := (true, "092da164515a19b3f115c1032d95d74903a617a0aede86bf95eae63961eb575c"), looks := false }, kinds := [], alts := [], laidByText := true, laidKinds := [.data, .data], laidTests := true, laidLooks := .later }
def KeysTellsCardSaid : Prop := Claim7.holds Tryd.pinned (.plain (OpenSpec.ofChange keysTellsSpec)) keysTellsCard

/-- THE TIED CARD OF 'mantillalaw18.KeysSteps'. -/
def keysStepsCard : Claim7 := { stood := { row := keysStepsRow, standIns := [], harness := (true, "092da164515a19b3f115c1032d95d74903a617a0aede86bf95eae63961eb575c"), looks := false }, kinds := [], alts := [], laidByText := true, laidKinds := [.data, .data], laidTests := true, laidLooks := .later }
def KeysStepsCardSaid : Prop := Claim7.holds Tryd.pinned (.plain (OpenSpec.ofChange keysStepsSpec)) keysStepsCard

/-- THE SECOND FORM's CARD OF 'mantillalaw2.ShaTells'. -/
def shaTellsUptoCard : Claim7 := { stood := { row := shaTellsUptoRow, standIns := [], harness := (true, "092da164515a19b3f115c1032d95d74903a617a0aede86bf95eae63961eb575c"), looks := false }, kinds := [], alts := [], laidByText := true, laidKinds := [.data, .data], laidTests := true, laidLooks := .later }
def ShaTellsUptoCardSaid : Prop := Claim7.holds Tryd.pinned (.plain (OpenSpec.upto shaTellsSpec)) shaTellsUptoCard

/-- THE SECOND FORM's CARD OF 'mantillalaw2.ShaSteps'. -/
def shaStepsUptoCard : Claim7 := { stood := { row := shaStepsUptoRow, standIns := [], harness := (true, "092da164515a19b3f115c1032d95d74903a617a0aede86bf95eae63961eb575c"), looks := false }, kinds := [], alts := [], laidByText := true, laidKinds := [.data, .data], laidTests := true, laidLooks := .later }
def ShaStepsUptoCardSaid : Prop := Claim7.holds Tryd.pinned (.plain (OpenSpec.upto shaStepsSpec)) shaStepsUptoCard

/-- THE SECOND FORM's CARD OF 'mantillalaw2.ShaPads'. -/
def shaPadsUptoCard : Claim7 := { stood := { row := shaPadsUptoRow, standIns := [], harness := (true, "092da164515a19b3f115c1032d95d74903a617a0aede86bf95eae63961eb575c"), looks := false }, kinds := [], alts := [], laidByText := true, laidKinds := [.data, .data], laidTests := true, laidLooks := .later }
def ShaPadsUptoCardSaid : Prop := Claim7.holds Tryd.pinned (.plain (OpenSpec.upto shaPadsSpec)) shaPadsUptoCard

/-- THE SECOND FORM's CARD OF 'mantillalaw2.ShaSplits'. -/
def shaSplitsUptoCard : Claim7 := { stood := { row := shaSplitsUptoRow, standIns := [], harness := (true, "092da164515a19b3f115c1032d95d74903a617a0aede86bf95eae63961eb575c"), looks := false }, kinds := [], alts := [], laidByText := true, laidKinds := [.data, .data], laidTests := true, laidLooks := .later }
def ShaSplitsUptoCardSaid : Prop := Claim7.holds Tryd.pinned (.plain (OpenSpec.upto shaSplitsSpec)) shaSplitsUptoCard

/-- THE SECOND FORM's CARD OF 'mantillalaw3.HkdfGrows'. -/
def hkdfGrowsUptoCard : Claim7 := { stood := { row := hkdfGrowsUptoRow, standIns := [], harness := (true, "092da164515a19b3f115c1032d95d74903a617a0aede86bf95eae63961eb575c"), looks := false }, kinds := [], alts := [], laidByText := true, laidKinds := [.data, .data], laidTests := true, laidLooks := .later }
def HkdfGrowsUptoCardSaid : Prop := Claim7.holds Tryd.pinned (.plain (OpenSpec.upto hkdfGrowsSpec)) hkdfGrowsUptoCard

/-- THE SECOND FORM's CARD OF 'mantillalaw3.HkdfInfos'. -/
def hkdfInfosUptoCard : Claim7 := { stood := { row := hkdfInfosUptoRow, standIns := [], harness := (true, "092da164515a19b3f115c1032d95d74903a617a0aede86bf95eae63961eb575c"), looks := false }, kinds := [], alts := [], laidByText := true, laidKinds := [.data, .data], laidTests := true, laidLooks := .later }
def HkdfInfosUptoCardSaid : Prop := Claim7.holds Tryd.pinned (.plain (OpenSpec.upto hkdfInfosSpec)) hkdfInfosUptoCard

/-- THE SECOND FORM's CARD OF 'mantillalaw3.HkdfTells'. -/
def hkdfTellsUptoCard : Claim7 := { stood := { row := hkdfTellsUptoRow, standIns := [], harness := (true, "092da164515a19b3f115c1032d95d74903a617a0aede86bf95eae63961eb575c"), looks := false }, kinds := [], alts := [], laidByText := true, laidKinds := [.data, .data], laidTests := true, laidLooks := .later }
def HkdfTellsUptoCardSaid : Prop := Claim7.holds Tryd.pinned (.plain (OpenSpec.upto hkdfTellsSpec)) hkdfTellsUptoCard

/-- THE SECOND FORM's CARD OF 'mantillalaw3.HkdfParts'. -/
def hkdfPartsUptoCard : Claim7 := { stood := { row := hkdfPartsUptoRow, standIns := [], harness := (true, "092da164515a19b3f115c1032d95d74903a617a0aede86bf95eae63961eb575c"), looks := false }, kinds := [], alts := [], laidByText := true, laidKinds := [.data, .data], laidTests := true, laidLooks := .later }
def HkdfPartsUptoCardSaid : Prop := Claim7.holds Tryd.pinned (.plain (OpenSpec.upto hkdfPartsSpec)) hkdfPartsUptoCard

/-- THE SECOND FORM's CARD OF 'mantillalaw3.HkdfKeys'. -/
def hkdfKeysUptoCard : Claim7 := { stood := { row := hkdfKeysUptoRow, standIns := [], harness := (true, "092da164515a19b3f115c1032d95d74903a617a0aede86bf95eae63961eb575c"), looks := false }, kinds := [], alts := [], laidByText := true, laidKinds := [.data, .data], laidTests := true, laidLooks := .later }
def HkdfKeysUptoCardSaid : Prop := Claim7.holds Tryd.pinned (.plain (OpenSpec.upto hkdfKeysSpec)) hkdfKeysUptoCard

/-- THE SECOND FORM's CARD OF 'mantillalaw18.KeysTells'. -/
def keysTellsUptoCard : Claim7 := { stood := { row := keysTellsUptoRow, standIns := [], harness := (true, "092da164515a19b3f115c1032d95d74903a617a0aede86bf95eae63961eb575c"), looks := false }, kinds := [], alts := [], laidByText := true, laidKinds := [.data, .data], laidTests := true, laidLooks := .later }
def KeysTellsUptoCardSaid : Prop := Claim7.holds Tryd.pinned (.plain (OpenSpec.upto keysTellsSpec)) keysTellsUptoCard

/-- THE SECOND FORM's CARD OF 'mantillalaw18.KeysSteps'. -/
def keysStepsUptoCard : Claim7 := { stood := { row := keysStepsUptoRow, standIns := [], harness := (true, "092da164515a19b3f115c1032d95d74903a617a0aede86bf95eae63961eb575c"), looks := false }, kinds := [], alts := [], laidByText := true, laidKinds := [.data, .data], laidTests := true, laidLooks := .later }
def KeysStepsUptoCardSaid : Prop := Claim7.holds Tryd.pinned (.plain (OpenSpec.upto keysStepsSpec)) keysStepsUptoCard
end Rows
end Go.Proofs.YtikmfaeiecpncaaDoor
