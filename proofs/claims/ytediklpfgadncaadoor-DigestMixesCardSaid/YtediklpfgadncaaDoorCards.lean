/-
  DERIVED. GIVEN WITH THE SEED: THE CARDS: each row of YtediklpfgadncaaDoorRows.lean that lists a variable, with what it lists TIED to the program's text (the seventh form; the later family's looks); each row that meets fmt, with fmt's text TOLD by the authors' own Lean function (tested against real Go, not proved from fmt's source: count such statements apart). THE CARD IS WHAT COUNTS. Prove the row's statement (the work); the ties are given (YtediklpfgadncaaDoorTie.lean); close each card by the builder's one call (the guide's Derived/Test/ToyasCard.lean, 'card_holds'). Laid BY PROGRAM, IN A SANDBOX (cutbox-door.mjs). By AI agents, Wed Nov 11 2026. No macro, syntax, notation, axiom, sorry.
-/
import Derived.Test.YtediklpfgadncaaDoorRows
import GoSem.ClaimSeven
namespace Go.Proofs.YtediklpfgadncaaDoor
namespace Rows

/-- THE TIED CARD OF 'mapsheetslaw03.DigestValues'. -/
def digestValuesCard : Claim7 := { stood := { row := digestValuesRow, standIns := [], harness := (true, "19763db2c40e69bac37cb8bab54b6e4deb83efd88a0a852779d87abd7495ff64"), looks := false }, kinds := [], alts := [], laidByText := true, laidKinds := [.data], laidTests := true, laidLooks := .later }
def DigestValuesCardSaid : Prop := Claim7.holds Tryd.pinned (.plain (OpenSpec.ofChange digestValuesSpec)) digestValuesCard

/-- THE TIED CARD OF 'mapsheetslaw03.DigestHex'. -/
def digestHexCard : Claim7 := { stood := { row := digestHexRow, standIns := [], harness := (true, "19763db2c40e69bac37cb8bab54b6e4deb83efd88a0a852779d87abd7495ff64"), looks := false }, kinds := [], alts := [], laidByText := true, laidKinds := [.data], laidTests := true, laidLooks := .later }
def DigestHexCardSaid : Prop := Claim7.holds Tryd.pinned (.plain (OpenSpec.ofChange digestHexSpec)) digestHexCard

/-- THE TIED CARD OF 'mapsheetslaw03.DigestSeals'. -/
def digestSealsCard : Claim7 := { stood := { row := digestSealsRow, standIns := [], harness := (true, "19763db2c40e69bac37cb8bab54b6e4deb83efd88a0a852779d87abd7495ff64"), looks := false }, kinds := [], alts := [], laidByText := true, laidKinds := [.data], laidTests := true, laidLooks := .later }
def DigestSealsCardSaid : Prop := Claim7.holds Tryd.pinned (.plain (OpenSpec.ofChange digestSealsSpec)) digestSealsCard

/-- THE TIED CARD OF 'mapsheetslaw03.DigestOpens'. -/
def digestOpensCard : Claim7 := { stood := { row := digestOpensRow, standIns := [], harness := (true, "19763db2c40e69bac37cb8bab54b6e4deb83efd88a0a852779d87abd7495ff64"), looks := false }, kinds := [], alts := [], laidByText := true, laidKinds := [.data], laidTests := true, laidLooks := .later }
def DigestOpensCardSaid : Prop := Claim7.holds Tryd.pinned (.plain (OpenSpec.ofChange digestOpensSpec)) digestOpensCard

/-- THE TIED CARD OF 'mapsheetslaw03.DigestLinear'. -/
def digestLinearCard : Claim7 := { stood := { row := digestLinearRow, standIns := [], harness := (true, "19763db2c40e69bac37cb8bab54b6e4deb83efd88a0a852779d87abd7495ff64"), looks := false }, kinds := [], alts := [], laidByText := true, laidKinds := [.data], laidTests := true, laidLooks := .later }
def DigestLinearCardSaid : Prop := Claim7.holds Tryd.pinned (.plain (OpenSpec.ofChange digestLinearSpec)) digestLinearCard

/-- THE TIED CARD OF 'mapsheetslaw03.DigestDetects'. -/
def digestDetectsCard : Claim7 := { stood := { row := digestDetectsRow, standIns := [], harness := (true, "19763db2c40e69bac37cb8bab54b6e4deb83efd88a0a852779d87abd7495ff64"), looks := false }, kinds := [], alts := [], laidByText := true, laidKinds := [.data], laidTests := true, laidLooks := .later }
def DigestDetectsCardSaid : Prop := Claim7.holds Tryd.pinned (.plain (OpenSpec.ofChange digestDetectsSpec)) digestDetectsCard

/-- THE TIED CARD OF 'mapsheetslaw03.DigestMixes'. -/
def digestMixesCard : Claim7 := { stood := { row := digestMixesRow, standIns := [], harness := (true, "19763db2c40e69bac37cb8bab54b6e4deb83efd88a0a852779d87abd7495ff64"), looks := false }, kinds := [], alts := [], laidByText := true, laidKinds := [.data], laidTests := true, laidLooks := .later }
def DigestMixesCardSaid : Prop := Claim7.holds Tryd.pinned (.plain (OpenSpec.ofChange digestMixesSpec)) digestMixesCard

/-- THE SECOND FORM's CARD OF 'mapsheetslaw03.DigestValues'. -/
def digestValuesUptoCard : Claim7 := { stood := { row := digestValuesUptoRow, standIns := [], harness := (true, "19763db2c40e69bac37cb8bab54b6e4deb83efd88a0a852779d87abd7495ff64"), looks := false }, kinds := [], alts := [], laidByText := true, laidKinds := [.data], laidTests := true, laidLooks := .later }
def DigestValuesUptoCardSaid : Prop := Claim7.holds Tryd.pinned (.plain (OpenSpec.upto digestValuesSpec)) digestValuesUptoCard

/-- THE SECOND FORM's CARD OF 'mapsheetslaw03.DigestHex'. -/
def digestHexUptoCard : Claim7 := { stood := { row := digestHexUptoRow, standIns := [], harness := (true, "19763db2c40e69bac37cb8bab54b6e4deb83efd88a0a852779d87abd7495ff64"), looks := false }, kinds := [], alts := [], laidByText := true, laidKinds := [.data], laidTests := true, laidLooks := .later }
def DigestHexUptoCardSaid : Prop := Claim7.holds Tryd.pinned (.plain (OpenSpec.upto digestHexSpec)) digestHexUptoCard

/-- THE SECOND FORM's CARD OF 'mapsheetslaw03.DigestSeals'. -/
def digestSealsUptoCard : Claim7 := { stood := { row := digestSealsUptoRow, standIns := [], harness := (true, "19763db2c40e69bac37cb8bab54b6e4deb83efd88a0a852779d87abd7495ff64"), looks := false }, kinds := [], alts := [], laidByText := true, laidKinds := [.data], laidTests := true, laidLooks := .later }
def DigestSealsUptoCardSaid : Prop := Claim7.holds Tryd.pinned (.plain (OpenSpec.upto digestSealsSpec)) digestSealsUptoCard

/-- THE SECOND FORM's CARD OF 'mapsheetslaw03.DigestOpens'. -/
def digestOpensUptoCard : Claim7 := { stood := { row := digestOpensUptoRow, standIns := [], harness := (true, "19763db2c40e69bac37cb8bab54b6e4deb83efd88a0a852779d87abd7495ff64"), looks := false }, kinds := [], alts := [], laidByText := true, laidKinds := [.data], laidTests := true, laidLooks := .later }
def DigestOpensUptoCardSaid : Prop := Claim7.holds Tryd.pinned (.plain (OpenSpec.upto digestOpensSpec)) digestOpensUptoCard

/-- THE SECOND FORM's CARD OF 'mapsheetslaw03.DigestLinear'. -/
def digestLinearUptoCard : Claim7 := { stood := { row := digestLinearUptoRow, standIns := [], harness := (true, "19763db2c40e69bac37cb8bab54b6e4deb83efd88a0a852779d87abd7495ff64"), looks := false }, kinds := [], alts := [], laidByText := true, laidKinds := [.data], laidTests := true, laidLooks := .later }
def DigestLinearUptoCardSaid : Prop := Claim7.holds Tryd.pinned (.plain (OpenSpec.upto digestLinearSpec)) digestLinearUptoCard

/-- THE SECOND FORM's CARD OF 'mapsheetslaw03.DigestDetects'. -/
def digestDetectsUptoCard : Claim7 := { stood := { row := digestDetectsUptoRow, standIns := [], harness := (true, "19763db2c40e69bac37cb8bab54b6e4deb83efd88a0a852779d87abd7495ff64"), looks := false }, kinds := [], alts := [], laidByText := true, laidKinds := [.data], laidTests := true, laidLooks := .later }
def DigestDetectsUptoCardSaid : Prop := Claim7.holds Tryd.pinned (.plain (OpenSpec.upto digestDetectsSpec)) digestDetectsUptoCard

/-- THE SECOND FORM's CARD OF 'mapsheetslaw03.DigestMixes'. -/
def digestMixesUptoCard : Claim7 := { stood := { row := digestMixesUptoRow, standIns := [], harness := (true, "19763db2c40e69bac37cb8bab54b6e4deb83efd88a0a852779d87abd7495ff64"), looks := false }, kinds := [], alts := [], laidByText := true, laidKinds := [.data], laidTests := true, laidLooks := .later }
def DigestMixesUptoCardSaid : Prop := Claim7.holds Tryd.pinned (.plain (OpenSpec.upto digestMixesSpec)) digestMixesUptoCard
end Rows
end Go.Proofs.YtediklpfgadncaaDoor
