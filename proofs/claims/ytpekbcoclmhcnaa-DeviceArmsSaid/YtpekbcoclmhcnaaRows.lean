/-
  No cell of these rows narrows 'for every input' (looked for: loops, veiled, ifaces, maps, wideKeys, modest, calm, conditions, laid).
  DERIVED. THE GIVEN ROWS OF THIS SEAT. 8 by the template 'for every input the law returns true; each argument reads behind the call as it read before'; 0 by the template 'total and deterministic' (their statements: YtpekbcoclmhcnaaTotals.lean).
  GIVEN WITH THE SEED: the statements are not yours to turn. If you find one false, say at which input.
  Laid BY PROGRAM, IN A SANDBOX (cutbox-rows.mjs): the forced cells as the released guide's own fill.sh prints them over the translation 43f8af6365863dee… (all of the seat's roots in one cut). By AI agents, Wed Nov 11 2026. No macro, syntax, notation, axiom, sorry.
-/
import Derived.Test.YtpekbcoclmhcnaaChecked
import GoSem.Claim
import GoSem.ClaimJoined
import GoSem.ClaimMapViews
import Derived.JoinedTies
import Derived.KernelRfl
namespace Go.Proofs.Ytpekbcoclmhcnaa
/- THE CELL 'sum', in the pinned program and in every row, IS THE sha256 OF THE DUMP (.gsa) THAT YtpekbcoclmhcnaaProg.lean LOADS. Nothing in Lean hashes anything: it is a label: what it is worth is what the hold of that sum in a sandbox is worth. -/
noncomputable def Try.pinned : Pinned := { name := "ytpekbcoclmhcnaa", sum := "43f8af6365863dee8b82c9ef924907ecaa4c598cb5c62ec87f4cbb9b1163c60f", checked := Try.checked }
namespace Rows
def none {H : Type} : Left H := { results := [], args := [] }

/-- 'mapsheetslaw24.DeviceCalls': WHATEVER THE INPUT: true; the input reads as it did. -/
def deviceCallsSpec : ChangeSpec := { name := "deviceCalls", fn := fun _ => fun
  | [d1, d2, d3, d4] => { results := [.lit (.bool true)], args := [d1, d2, d3, d4] }
  | _ => none }
def deviceCallsRow : OpenClaim := { program := "ytpekbcoclmhcnaa", sum := "43f8af6365863dee8b82c9ef924907ecaa4c598cb5c62ec87f4cbb9b1163c60f", func := "mapsheets/mapsheetslaw24.DeviceCalls", spec := "deviceCalls", unfollowed := true, recurses := true, apart := false }
def DeviceCallsSaid : Prop := deviceCallsRow.holds Try.pinned (OpenSpec.ofChange deviceCallsSpec)

/-- ITS FALSE NEIGHBOUR: 'it returns false'. Refute it at one input. -/
def deviceCallsWrong : ChangeSpec := { name := "deviceCalls", fn := fun _ => fun
  | [d1, d2, d3, d4] => { results := [.lit (.bool false)], args := [d1, d2, d3, d4] }
  | _ => none }
def DeviceCallsWrongFalsely : Prop := deviceCallsRow.holds Try.pinned (OpenSpec.ofChange deviceCallsWrong)

/-- 'mapsheetslaw24.DeviceFaults': WHATEVER THE INPUT: true; the input reads as it did. -/
def deviceFaultsSpec : ChangeSpec := { name := "deviceFaults", fn := fun _ => fun
  | [d1, d2, d3] => { results := [.lit (.bool true)], args := [d1, d2, d3] }
  | _ => none }
def deviceFaultsRow : OpenClaim := { program := "ytpekbcoclmhcnaa", sum := "43f8af6365863dee8b82c9ef924907ecaa4c598cb5c62ec87f4cbb9b1163c60f", func := "mapsheets/mapsheetslaw24.DeviceFaults", spec := "deviceFaults", unfollowed := true, recurses := true, apart := false }
def DeviceFaultsSaid : Prop := deviceFaultsRow.holds Try.pinned (OpenSpec.ofChange deviceFaultsSpec)

/-- ITS FALSE NEIGHBOUR: 'it returns false'. Refute it at one input. -/
def deviceFaultsWrong : ChangeSpec := { name := "deviceFaults", fn := fun _ => fun
  | [d1, d2, d3] => { results := [.lit (.bool false)], args := [d1, d2, d3] }
  | _ => none }
def DeviceFaultsWrongFalsely : Prop := deviceFaultsRow.holds Try.pinned (OpenSpec.ofChange deviceFaultsWrong)

/-- 'mapsheetslaw24.DeviceReadsBack': WHATEVER THE INPUT: true; the input reads as it did. -/
def deviceReadsBackSpec : ChangeSpec := { name := "deviceReadsBack", fn := fun _ => fun
  | [d1, d2, d3] => { results := [.lit (.bool true)], args := [d1, d2, d3] }
  | _ => none }
def deviceReadsBackRow : OpenClaim := { program := "ytpekbcoclmhcnaa", sum := "43f8af6365863dee8b82c9ef924907ecaa4c598cb5c62ec87f4cbb9b1163c60f", func := "mapsheets/mapsheetslaw24.DeviceReadsBack", spec := "deviceReadsBack", unfollowed := true, recurses := true, apart := false }
def DeviceReadsBackSaid : Prop := deviceReadsBackRow.holds Try.pinned (OpenSpec.ofChange deviceReadsBackSpec)

/-- ITS FALSE NEIGHBOUR: 'it returns false'. Refute it at one input. -/
def deviceReadsBackWrong : ChangeSpec := { name := "deviceReadsBack", fn := fun _ => fun
  | [d1, d2, d3] => { results := [.lit (.bool false)], args := [d1, d2, d3] }
  | _ => none }
def DeviceReadsBackWrongFalsely : Prop := deviceReadsBackRow.holds Try.pinned (OpenSpec.ofChange deviceReadsBackWrong)

/-- 'mapsheetslaw24.DeviceFlushes': WHATEVER THE INPUT: true; the input reads as it did. -/
def deviceFlushesSpec : ChangeSpec := { name := "deviceFlushes", fn := fun _ => fun
  | [d1, d2] => { results := [.lit (.bool true)], args := [d1, d2] }
  | _ => none }
def deviceFlushesRow : OpenClaim := { program := "ytpekbcoclmhcnaa", sum := "43f8af6365863dee8b82c9ef924907ecaa4c598cb5c62ec87f4cbb9b1163c60f", func := "mapsheets/mapsheetslaw24.DeviceFlushes", spec := "deviceFlushes", unfollowed := true, recurses := true, apart := false }
def DeviceFlushesSaid : Prop := deviceFlushesRow.holds Try.pinned (OpenSpec.ofChange deviceFlushesSpec)

/-- ITS FALSE NEIGHBOUR: 'it returns false'. Refute it at one input. -/
def deviceFlushesWrong : ChangeSpec := { name := "deviceFlushes", fn := fun _ => fun
  | [d1, d2] => { results := [.lit (.bool false)], args := [d1, d2] }
  | _ => none }
def DeviceFlushesWrongFalsely : Prop := deviceFlushesRow.holds Try.pinned (OpenSpec.ofChange deviceFlushesWrong)

/-- 'mapsheetslaw24.DeviceLoses': WHATEVER THE INPUT: true; the input reads as it did. -/
def deviceLosesSpec : ChangeSpec := { name := "deviceLoses", fn := fun _ => fun
  | [d1, d2, d3, d4] => { results := [.lit (.bool true)], args := [d1, d2, d3, d4] }
  | _ => none }
def deviceLosesRow : OpenClaim := { program := "ytpekbcoclmhcnaa", sum := "43f8af6365863dee8b82c9ef924907ecaa4c598cb5c62ec87f4cbb9b1163c60f", func := "mapsheets/mapsheetslaw24.DeviceLoses", spec := "deviceLoses", unfollowed := true, recurses := true, apart := false }
def DeviceLosesSaid : Prop := deviceLosesRow.holds Try.pinned (OpenSpec.ofChange deviceLosesSpec)

/-- ITS FALSE NEIGHBOUR: 'it returns false'. Refute it at one input. -/
def deviceLosesWrong : ChangeSpec := { name := "deviceLoses", fn := fun _ => fun
  | [d1, d2, d3, d4] => { results := [.lit (.bool false)], args := [d1, d2, d3, d4] }
  | _ => none }
def DeviceLosesWrongFalsely : Prop := deviceLosesRow.holds Try.pinned (OpenSpec.ofChange deviceLosesWrong)

/-- 'mapsheetslaw24.DeviceSurvives': WHATEVER THE INPUT: true; the input reads as it did. -/
def deviceSurvivesSpec : ChangeSpec := { name := "deviceSurvives", fn := fun _ => fun
  | [d1, d2] => { results := [.lit (.bool true)], args := [d1, d2] }
  | _ => none }
def deviceSurvivesRow : OpenClaim := { program := "ytpekbcoclmhcnaa", sum := "43f8af6365863dee8b82c9ef924907ecaa4c598cb5c62ec87f4cbb9b1163c60f", func := "mapsheets/mapsheetslaw24.DeviceSurvives", spec := "deviceSurvives", unfollowed := true, recurses := true, apart := false }
def DeviceSurvivesSaid : Prop := deviceSurvivesRow.holds Try.pinned (OpenSpec.ofChange deviceSurvivesSpec)

/-- ITS FALSE NEIGHBOUR: 'it returns false'. Refute it at one input. -/
def deviceSurvivesWrong : ChangeSpec := { name := "deviceSurvives", fn := fun _ => fun
  | [d1, d2] => { results := [.lit (.bool false)], args := [d1, d2] }
  | _ => none }
def DeviceSurvivesWrongFalsely : Prop := deviceSurvivesRow.holds Try.pinned (OpenSpec.ofChange deviceSurvivesWrong)

/-- 'mapsheetslaw24.DeviceArms': WHATEVER THE INPUT: true; the input reads as it did. -/
def deviceArmsSpec : ChangeSpec := { name := "deviceArms", fn := fun _ => fun
  | [d1, d2, d3] => { results := [.lit (.bool true)], args := [d1, d2, d3] }
  | _ => none }
def deviceArmsRow : OpenClaim := { program := "ytpekbcoclmhcnaa", sum := "43f8af6365863dee8b82c9ef924907ecaa4c598cb5c62ec87f4cbb9b1163c60f", func := "mapsheets/mapsheetslaw24.DeviceArms", spec := "deviceArms", unfollowed := true, recurses := true, apart := false }
def DeviceArmsSaid : Prop := deviceArmsRow.holds Try.pinned (OpenSpec.ofChange deviceArmsSpec)

/-- ITS FALSE NEIGHBOUR: 'it returns false'. Refute it at one input. -/
def deviceArmsWrong : ChangeSpec := { name := "deviceArms", fn := fun _ => fun
  | [d1, d2, d3] => { results := [.lit (.bool false)], args := [d1, d2, d3] }
  | _ => none }
def DeviceArmsWrongFalsely : Prop := deviceArmsRow.holds Try.pinned (OpenSpec.ofChange deviceArmsWrong)

/-- 'mapsheetslaw24.DeviceAll': WHATEVER THE INPUT: true; the input reads as it did. -/
def deviceAllSpec : ChangeSpec := { name := "deviceAll", fn := fun _ => fun
  | [d] => { results := [.lit (.bool true)], args := [d] }
  | _ => none }
def deviceAllRow : OpenClaim := { program := "ytpekbcoclmhcnaa", sum := "43f8af6365863dee8b82c9ef924907ecaa4c598cb5c62ec87f4cbb9b1163c60f", func := "mapsheets/mapsheetslaw24.DeviceAll", spec := "deviceAll", unfollowed := true, recurses := true, apart := false }
def DeviceAllSaid : Prop := deviceAllRow.holds Try.pinned (OpenSpec.ofChange deviceAllSpec)

/-- ITS FALSE NEIGHBOUR: 'it returns false'. Refute it at one input. -/
def deviceAllWrong : ChangeSpec := { name := "deviceAll", fn := fun _ => fun
  | [d] => { results := [.lit (.bool false)], args := [d] }
  | _ => none }
def DeviceAllWrongFalsely : Prop := deviceAllRow.holds Try.pinned (OpenSpec.ofChange deviceAllWrong)

/- THE SECOND FORM. 'bulk': how many values and letters a reading holds, each counted each time it is reached (what is shared counts as often as it is met; a slice's spare places count too). A statement '..UptoSaid' is the law's where the arguments, and the package variables that the reading takes, are together of bulk at most 1048576: NARROWER than '..Said'. Prove '..Said' where nothing that the law and all that it calls make is longer than what came in: it says more and counts as full. Else prove '..UptoSaid'. A law counts once. -/
mutual
def uptoBulk {H : Type} : DataW H → Nat
  | .lit (.string bytes) => bytes.length + 1
  | .lit _ => 1
  | .nil => 1
  | .ptr d => uptoBulk d + 1
  | .slice elems spare => uptoBulkAll elems + uptoBulkAll spare + 1
  | .agg parts => uptoBulkAll parts + 1
  | .iface _ d => uptoBulk d + 1
  | .map entries => uptoBulkEntries entries + 1
  | .held _ => 1
def uptoBulkAll {H : Type} : List (DataW H) → Nat
  | [] => 0
  | d :: r => uptoBulk d + uptoBulkAll r
def uptoBulkEntries {H : Type} : List (Lit × DataW H) → Nat
  | [] => 0
  | x :: r => uptoBulkEntry x + uptoBulkEntries r
def uptoBulkEntry {H : Type} : Lit × DataW H → Nat
  | (.string bytes, d) => bytes.length + uptoBulk d + 1
  | (_, d) => uptoBulk d + 1
 end
def uptoSmall : (H : Type) → List (DataW H) → Bool := fun _ ds => decide (uptoBulkAll ds ≤ 1048576)
def OpenSpec.upto (s : _root_.Go.ChangeSpec) : _root_.Go.OpenSpec := { _root_.Go.OpenSpec.ofChange s with cond := some uptoSmall }

/-- 'mapsheetslaw24.DeviceCalls', WHERE WHAT IT READS IS OF BULK AT MOST 1048576: true; the input reads as it did. -/
def deviceCallsUptoRow : OpenClaim := { program := "ytpekbcoclmhcnaa", sum := "43f8af6365863dee8b82c9ef924907ecaa4c598cb5c62ec87f4cbb9b1163c60f", func := "mapsheets/mapsheetslaw24.DeviceCalls", spec := "deviceCalls", unfollowed := true, recurses := true, apart := false, narrowed := true }
def DeviceCallsUptoSaid : Prop := deviceCallsUptoRow.holds Try.pinned (OpenSpec.upto deviceCallsSpec)

/-- 'mapsheetslaw24.DeviceFaults', WHERE WHAT IT READS IS OF BULK AT MOST 1048576: true; the input reads as it did. -/
def deviceFaultsUptoRow : OpenClaim := { program := "ytpekbcoclmhcnaa", sum := "43f8af6365863dee8b82c9ef924907ecaa4c598cb5c62ec87f4cbb9b1163c60f", func := "mapsheets/mapsheetslaw24.DeviceFaults", spec := "deviceFaults", unfollowed := true, recurses := true, apart := false, narrowed := true }
def DeviceFaultsUptoSaid : Prop := deviceFaultsUptoRow.holds Try.pinned (OpenSpec.upto deviceFaultsSpec)

/-- 'mapsheetslaw24.DeviceReadsBack', WHERE WHAT IT READS IS OF BULK AT MOST 1048576: true; the input reads as it did. -/
def deviceReadsBackUptoRow : OpenClaim := { program := "ytpekbcoclmhcnaa", sum := "43f8af6365863dee8b82c9ef924907ecaa4c598cb5c62ec87f4cbb9b1163c60f", func := "mapsheets/mapsheetslaw24.DeviceReadsBack", spec := "deviceReadsBack", unfollowed := true, recurses := true, apart := false, narrowed := true }
def DeviceReadsBackUptoSaid : Prop := deviceReadsBackUptoRow.holds Try.pinned (OpenSpec.upto deviceReadsBackSpec)

/-- 'mapsheetslaw24.DeviceFlushes', WHERE WHAT IT READS IS OF BULK AT MOST 1048576: true; the input reads as it did. -/
def deviceFlushesUptoRow : OpenClaim := { program := "ytpekbcoclmhcnaa", sum := "43f8af6365863dee8b82c9ef924907ecaa4c598cb5c62ec87f4cbb9b1163c60f", func := "mapsheets/mapsheetslaw24.DeviceFlushes", spec := "deviceFlushes", unfollowed := true, recurses := true, apart := false, narrowed := true }
def DeviceFlushesUptoSaid : Prop := deviceFlushesUptoRow.holds Try.pinned (OpenSpec.upto deviceFlushesSpec)

/-- 'mapsheetslaw24.DeviceLoses', WHERE WHAT IT READS IS OF BULK AT MOST 1048576: true; the input reads as it did. -/
def deviceLosesUptoRow : OpenClaim := { program := "ytpekbcoclmhcnaa", sum := "43f8af6365863dee8b82c9ef924907ecaa4c598cb5c62ec87f4cbb9b1163c60f", func := "mapsheets/mapsheetslaw24.DeviceLoses", spec := "deviceLoses", unfollowed := true, recurses := true, apart := false, narrowed := true }
def DeviceLosesUptoSaid : Prop := deviceLosesUptoRow.holds Try.pinned (OpenSpec.upto deviceLosesSpec)

/-- 'mapsheetslaw24.DeviceSurvives', WHERE WHAT IT READS IS OF BULK AT MOST 1048576: true; the input reads as it did. -/
def deviceSurvivesUptoRow : OpenClaim := { program := "ytpekbcoclmhcnaa", sum := "43f8af6365863dee8b82c9ef924907ecaa4c598cb5c62ec87f4cbb9b1163c60f", func := "mapsheets/mapsheetslaw24.DeviceSurvives", spec := "deviceSurvives", unfollowed := true, recurses := true, apart := false, narrowed := true }
def DeviceSurvivesUptoSaid : Prop := deviceSurvivesUptoRow.holds Try.pinned (OpenSpec.upto deviceSurvivesSpec)

/-- 'mapsheetslaw24.DeviceArms', WHERE WHAT IT READS IS OF BULK AT MOST 1048576: true; the input reads as it did. -/
def deviceArmsUptoRow : OpenClaim := { program := "ytpekbcoclmhcnaa", sum := "43f8af6365863dee8b82c9ef924907ecaa4c598cb5c62ec87f4cbb9b1163c60f", func := "mapsheets/mapsheetslaw24.DeviceArms", spec := "deviceArms", unfollowed := true, recurses := true, apart := false, narrowed := true }
def DeviceArmsUptoSaid : Prop := deviceArmsUptoRow.holds Try.pinned (OpenSpec.upto deviceArmsSpec)

/-- 'mapsheetslaw24.DeviceAll', WHERE WHAT IT READS IS OF BULK AT MOST 1048576: true; the input reads as it did. -/
def deviceAllUptoRow : OpenClaim := { program := "ytpekbcoclmhcnaa", sum := "43f8af6365863dee8b82c9ef924907ecaa4c598cb5c62ec87f4cbb9b1163c60f", func := "mapsheets/mapsheetslaw24.DeviceAll", spec := "deviceAll", unfollowed := true, recurses := true, apart := false, narrowed := true }
def DeviceAllUptoSaid : Prop := deviceAllUptoRow.holds Try.pinned (OpenSpec.upto deviceAllSpec)

end Rows
end Go.Proofs.Ytpekbcoclmhcnaa
