/-
  DERIVED. GIVEN WITH THE SEED: THE CARDS: each row of YtpppgceccikodaaDoorRows.lean that lists a variable, with what it lists TIED to the program's text (the seventh form; the later family's looks); each row that meets fmt, with fmt's text TOLD by the authors' own Lean function (tested against real Go, not proved from fmt's source: count such statements apart). THE CARD IS WHAT COUNTS. Prove the row's statement (the work); the ties are given (YtpppgceccikodaaDoorTie.lean); close each card by the builder's one call (the guide's Derived/Test/ToyasCard.lean, 'card_holds'). Laid BY PROGRAM, IN A SANDBOX (cutbox-door.mjs). By AI agents, Wed Nov 11 2026. No macro, syntax, notation, axiom, sorry.
-/
import Derived.Test.YtpppgceccikodaaDoorRows
import GoSem.ClaimSeven
namespace Go.Proofs.YtpppgceccikodaaDoor
namespace Rows

/-- THE TIED CARD OF 'mapsheetslaw54.PlatesChecks'. -/
def platesChecksCard : Claim7 := { stood := { row := platesChecksRow, standIns := [], harness := (true, "93bd78aeed2730501c9934abdaaa4837392097b94634c889466c165f66d9d483"), looks := false }, kinds := [], alts := [], laidByText := true, laidKinds := [.data], laidTests := true, laidLooks := .later }
def PlatesChecksCardSaid : Prop := Claim7.holds Tryd.pinned (.plain (OpenSpec.ofChange platesChecksSpec)) platesChecksCard

/-- THE TIED CARD OF 'mapsheetslaw54.PlatesPacks'. -/
def platesPacksCard : Claim7 := { stood := { row := platesPacksRow, standIns := [], harness := (true, "93bd78aeed2730501c9934abdaaa4837392097b94634c889466c165f66d9d483"), looks := false }, kinds := [], alts := [], laidByText := true, laidKinds := [.data], laidTests := true, laidLooks := .later }
def PlatesPacksCardSaid : Prop := Claim7.holds Tryd.pinned (.plain (OpenSpec.ofChange platesPacksSpec)) platesPacksCard

/-- THE TIED CARD OF 'mapsheetslaw54.PlatesUnpacks'. -/
def platesUnpacksCard : Claim7 := { stood := { row := platesUnpacksRow, standIns := [], harness := (true, "93bd78aeed2730501c9934abdaaa4837392097b94634c889466c165f66d9d483"), looks := false }, kinds := [], alts := [], laidByText := true, laidKinds := [.data], laidTests := true, laidLooks := .later }
def PlatesUnpacksCardSaid : Prop := Claim7.holds Tryd.pinned (.plain (OpenSpec.ofChange platesUnpacksSpec)) platesUnpacksCard

/-- THE TIED CARD OF 'mapsheetslaw54.PlatesDamage'. -/
def platesDamageCard : Claim7 := { stood := { row := platesDamageRow, standIns := [], harness := (true, "93bd78aeed2730501c9934abdaaa4837392097b94634c889466c165f66d9d483"), looks := false }, kinds := [], alts := [], laidByText := true, laidKinds := [.data], laidTests := true, laidLooks := .later }
def PlatesDamageCardSaid : Prop := Claim7.holds Tryd.pinned (.plain (OpenSpec.ofChange platesDamageSpec)) platesDamageCard

/-- THE TIED CARD OF 'mapsheetslaw54.PlatesLimits'. -/
def platesLimitsCard : Claim7 := { stood := { row := platesLimitsRow, standIns := [], harness := (true, "93bd78aeed2730501c9934abdaaa4837392097b94634c889466c165f66d9d483"), looks := false }, kinds := [], alts := [], laidByText := true, laidKinds := [.data], laidTests := true, laidLooks := .later }
def PlatesLimitsCardSaid : Prop := Claim7.holds Tryd.pinned (.plain (OpenSpec.ofChange platesLimitsSpec)) platesLimitsCard

/-- THE TIED CARD OF 'mapsheetslaw54.PlatesBound'. -/
def platesBoundCard : Claim7 := { stood := { row := platesBoundRow, standIns := [], harness := (true, "93bd78aeed2730501c9934abdaaa4837392097b94634c889466c165f66d9d483"), looks := false }, kinds := [], alts := [], laidByText := true, laidKinds := [.data], laidTests := true, laidLooks := .later }
def PlatesBoundCardSaid : Prop := Claim7.holds Tryd.pinned (.plain (OpenSpec.ofChange platesBoundSpec)) platesBoundCard

/-- THE SECOND FORM's CARD OF 'mapsheetslaw54.PlatesChecks'. -/
def platesChecksUptoCard : Claim7 := { stood := { row := platesChecksUptoRow, standIns := [], harness := (true, "93bd78aeed2730501c9934abdaaa4837392097b94634c889466c165f66d9d483"), looks := false }, kinds := [], alts := [], laidByText := true, laidKinds := [.data], laidTests := true, laidLooks := .later }
def PlatesChecksUptoCardSaid : Prop := Claim7.holds Tryd.pinned (.plain (OpenSpec.upto platesChecksSpec)) platesChecksUptoCard

/-- THE SECOND FORM's CARD OF 'mapsheetslaw54.PlatesPacks'. -/
def platesPacksUptoCard : Claim7 := { stood := { row := platesPacksUptoRow, standIns := [], harness := (true, "93bd78aeed2730501c9934abdaaa4837392097b94634c889466c165f66d9d483"), looks := false }, kinds := [], alts := [], laidByText := true, laidKinds := [.data], laidTests := true, laidLooks := .later }
def PlatesPacksUptoCardSaid : Prop := Claim7.holds Tryd.pinned (.plain (OpenSpec.upto platesPacksSpec)) platesPacksUptoCard

/-- THE SECOND FORM's CARD OF 'mapsheetslaw54.PlatesUnpacks'. -/
def platesUnpacksUptoCard : Claim7 := { stood := { row := platesUnpacksUptoRow, standIns := [], harness := (true, "93bd78aeed2730501c9934abdaaa4837392097b94634c889466c165f66d9d483"), looks := false }, kinds := [], alts := [], laidByText := true, laidKinds := [.data], laidTests := true, laidLooks := .later }
def PlatesUnpacksUptoCardSaid : Prop := Claim7.holds Tryd.pinned (.plain (OpenSpec.upto platesUnpacksSpec)) platesUnpacksUptoCard

/-- THE SECOND FORM's CARD OF 'mapsheetslaw54.PlatesDamage'. -/
def platesDamageUptoCard : Claim7 := { stood := { row := platesDamageUptoRow, standIns := [], harness := (true, "93bd78aeed2730501c9934abdaaa4837392097b94634c889466c165f66d9d483"), looks := false }, kinds := [], alts := [], laidByText := true, laidKinds := [.data], laidTests := true, laidLooks := .later }
def PlatesDamageUptoCardSaid : Prop := Claim7.holds Tryd.pinned (.plain (OpenSpec.upto platesDamageSpec)) platesDamageUptoCard

/-- THE SECOND FORM's CARD OF 'mapsheetslaw54.PlatesLimits'. -/
def platesLimitsUptoCard : Claim7 := { stood := { row := platesLimitsUptoRow, standIns := [], harness := (true, "93bd78aeed2730501c9934abdaaa4837392097b94634c889466c165f66d9d483"), looks := false }, kinds := [], alts := [], laidByText := true, laidKinds := [.data], laidTests := true, laidLooks := .later }
def PlatesLimitsUptoCardSaid : Prop := Claim7.holds Tryd.pinned (.plain (OpenSpec.upto platesLimitsSpec)) platesLimitsUptoCard

/-- THE SECOND FORM's CARD OF 'mapsheetslaw54.PlatesBound'. -/
def platesBoundUptoCard : Claim7 := { stood := { row := platesBoundUptoRow, standIns := [], harness := (true, "93bd78aeed2730501c9934abdaaa4837392097b94634c889466c165f66d9d483"), looks := false }, kinds := [], alts := [], laidByText := true, laidKinds := [.data], laidTests := true, laidLooks := .later }
def PlatesBoundUptoCardSaid : Prop := Claim7.holds Tryd.pinned (.plain (OpenSpec.upto platesBoundSpec)) platesBoundUptoCard
end Rows
end Go.Proofs.YtpppgceccikodaaDoor
