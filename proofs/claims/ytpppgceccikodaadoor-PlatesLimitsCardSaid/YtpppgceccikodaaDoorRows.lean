/-
  NARROWER THAN 'FOR EVERY INPUT', by the rows' own cells (each row's printed sentence says how): PlatesChecks: laid · PlatesPacks: laid · PlatesUnpacks: laid · PlatesDamage: laid · PlatesLimits: laid · PlatesBound: laid.
  DERIVED. THE GIVEN ROWS OF THIS SEAT. 6 by the template 'for every input the law returns true; each argument reads behind the call as it read before'; 0 by the template 'total and deterministic' (their statements: YtpppgceccikodaaDoorTotals.lean).
  GIVEN WITH THE SEED: the statements are not yours to turn. If you find one false, say at which input.
  Laid BY PROGRAM, IN A SANDBOX (cutbox-rows.mjs): the forced cells as the released guide's own fill.sh prints them over the translation d1721a4c8c119517… (all of the seat's roots in one cut). By AI agents, Wed Nov 11 2026. No macro, syntax, notation, axiom, sorry.
-/
import Derived.Test.YtpppgceccikodaaDoorChecked
import GoSem.Claim
import GoSem.ClaimJoined
import GoSem.ClaimMapViews
import Derived.JoinedTies
import Derived.KernelRfl
namespace Go.Proofs.YtpppgceccikodaaDoor
/- THE CELL 'sum', in the pinned program and in every row, IS THE sha256 OF THE DUMP (.gsa) THAT YtpppgceccikodaaDoorProg.lean LOADS. Nothing in Lean hashes anything: it is a label: what it is worth is what the hold of that sum in a sandbox is worth. -/
noncomputable def Tryd.pinned : Pinned := { name := "ytpppgceccikodaadoor", sum := "d1721a4c8c119517c60dda6e3334a0422aeebff407992c7c4f46fe5250320f05", checked := Tryd.checked }
namespace Rows
def none {H : Type} : Left H := { results := [], args := [] }

/- WHAT THE LISTED PACKAGE-LEVEL VARIABLES READ AS WHEN THE CALL BEGINS. Each datum BY PROGRAM (the guide's laid-datum.mjs) off the statement by which the dump's own 'gosem.cut.vars' lays the variable. In a bare row this is a premise. The card (YtpppgceccikodaaDoorCards.lean) ties it to the program's text. -/
def laid_mapsheets_digest_steps {H : Type} : DataW H := .agg [.lit (.int .u32 0), .lit (.int .u32 498536548), .lit (.int .u32 997073096), .lit (.int .u32 651767980), .lit (.int .u32 1994146192), .lit (.int .u32 1802195444), .lit (.int .u32 1303535960), .lit (.int .u32 1342533948), .lit (.int .u32 3988292384), .lit (.int .u32 4027552580), .lit (.int .u32 3604390888), .lit (.int .u32 3412177804), .lit (.int .u32 2607071920), .lit (.int .u32 2262029012), .lit (.int .u32 2685067896), .lit (.int .u32 3183342108)]

/-- 'mapsheetslaw54.PlatesChecks': WHATEVER THE INPUT: true; the input reads as it did. -/
def platesChecksSpec : ChangeSpec := { name := "platesChecks", fn := fun _ => fun
  | [d] => { results := [.lit (.bool true)], args := [d] }
  | _ => none }
def platesChecksRow : OpenClaim := { program := "ytpppgceccikodaadoor", sum := "d1721a4c8c119517c60dda6e3334a0422aeebff407992c7c4f46fe5250320f05", func := "mapsheets/mapsheetslaw54.PlatesChecks", spec := "platesChecks", named := ["mapsheets/digest.steps"], apart := false, laid := [("mapsheets/digest.steps", laid_mapsheets_digest_steps)] }
def PlatesChecksSaid : Prop := platesChecksRow.holds Tryd.pinned (OpenSpec.ofChange platesChecksSpec)

/-- ITS FALSE NEIGHBOUR: 'it returns false'. Refute it at one input. -/
def platesChecksWrong : ChangeSpec := { name := "platesChecks", fn := fun _ => fun
  | [d] => { results := [.lit (.bool false)], args := [d] }
  | _ => none }
def PlatesChecksWrongFalsely : Prop := platesChecksRow.holds Tryd.pinned (OpenSpec.ofChange platesChecksWrong)

/-- 'mapsheetslaw54.PlatesPacks': WHATEVER THE INPUT: true; the input reads as it did. -/
def platesPacksSpec : ChangeSpec := { name := "platesPacks", fn := fun _ => fun
  | [d] => { results := [.lit (.bool true)], args := [d] }
  | _ => none }
def platesPacksRow : OpenClaim := { program := "ytpppgceccikodaadoor", sum := "d1721a4c8c119517c60dda6e3334a0422aeebff407992c7c4f46fe5250320f05", func := "mapsheets/mapsheetslaw54.PlatesPacks", spec := "platesPacks", named := ["mapsheets/digest.steps"], apart := false, laid := [("mapsheets/digest.steps", laid_mapsheets_digest_steps)] }
def PlatesPacksSaid : Prop := platesPacksRow.holds Tryd.pinned (OpenSpec.ofChange platesPacksSpec)

/-- ITS FALSE NEIGHBOUR: 'it returns false'. Refute it at one input. -/
def platesPacksWrong : ChangeSpec := { name := "platesPacks", fn := fun _ => fun
  | [d] => { results := [.lit (.bool false)], args := [d] }
  | _ => none }
def PlatesPacksWrongFalsely : Prop := platesPacksRow.holds Tryd.pinned (OpenSpec.ofChange platesPacksWrong)

/-- 'mapsheetslaw54.PlatesUnpacks': WHATEVER THE INPUT: true; the input reads as it did. -/
def platesUnpacksSpec : ChangeSpec := { name := "platesUnpacks", fn := fun _ => fun
  | [d] => { results := [.lit (.bool true)], args := [d] }
  | _ => none }
def platesUnpacksRow : OpenClaim := { program := "ytpppgceccikodaadoor", sum := "d1721a4c8c119517c60dda6e3334a0422aeebff407992c7c4f46fe5250320f05", func := "mapsheets/mapsheetslaw54.PlatesUnpacks", spec := "platesUnpacks", named := ["mapsheets/digest.steps"], apart := false, laid := [("mapsheets/digest.steps", laid_mapsheets_digest_steps)] }
def PlatesUnpacksSaid : Prop := platesUnpacksRow.holds Tryd.pinned (OpenSpec.ofChange platesUnpacksSpec)

/-- ITS FALSE NEIGHBOUR: 'it returns false'. Refute it at one input. -/
def platesUnpacksWrong : ChangeSpec := { name := "platesUnpacks", fn := fun _ => fun
  | [d] => { results := [.lit (.bool false)], args := [d] }
  | _ => none }
def PlatesUnpacksWrongFalsely : Prop := platesUnpacksRow.holds Tryd.pinned (OpenSpec.ofChange platesUnpacksWrong)

/-- 'mapsheetslaw54.PlatesDamage': WHATEVER THE INPUT: true; the input reads as it did. -/
def platesDamageSpec : ChangeSpec := { name := "platesDamage", fn := fun _ => fun
  | [d1, d2, d3] => { results := [.lit (.bool true)], args := [d1, d2, d3] }
  | _ => none }
def platesDamageRow : OpenClaim := { program := "ytpppgceccikodaadoor", sum := "d1721a4c8c119517c60dda6e3334a0422aeebff407992c7c4f46fe5250320f05", func := "mapsheets/mapsheetslaw54.PlatesDamage", spec := "platesDamage", named := ["mapsheets/digest.steps"], apart := false, laid := [("mapsheets/digest.steps", laid_mapsheets_digest_steps)] }
def PlatesDamageSaid : Prop := platesDamageRow.holds Tryd.pinned (OpenSpec.ofChange platesDamageSpec)

/-- ITS FALSE NEIGHBOUR: 'it returns false'. Refute it at one input. -/
def platesDamageWrong : ChangeSpec := { name := "platesDamage", fn := fun _ => fun
  | [d1, d2, d3] => { results := [.lit (.bool false)], args := [d1, d2, d3] }
  | _ => none }
def PlatesDamageWrongFalsely : Prop := platesDamageRow.holds Tryd.pinned (OpenSpec.ofChange platesDamageWrong)

/-- 'mapsheetslaw54.PlatesLimits': WHATEVER THE INPUT: true; the input reads as it did. -/
def platesLimitsSpec : ChangeSpec := { name := "platesLimits", fn := fun _ => fun
  | [d1, d2] => { results := [.lit (.bool true)], args := [d1, d2] }
  | _ => none }
def platesLimitsRow : OpenClaim := { program := "ytpppgceccikodaadoor", sum := "d1721a4c8c119517c60dda6e3334a0422aeebff407992c7c4f46fe5250320f05", func := "mapsheets/mapsheetslaw54.PlatesLimits", spec := "platesLimits", named := ["mapsheets/digest.steps"], apart := false, laid := [("mapsheets/digest.steps", laid_mapsheets_digest_steps)] }
def PlatesLimitsSaid : Prop := platesLimitsRow.holds Tryd.pinned (OpenSpec.ofChange platesLimitsSpec)

/-- ITS FALSE NEIGHBOUR: 'it returns false'. Refute it at one input. -/
def platesLimitsWrong : ChangeSpec := { name := "platesLimits", fn := fun _ => fun
  | [d1, d2] => { results := [.lit (.bool false)], args := [d1, d2] }
  | _ => none }
def PlatesLimitsWrongFalsely : Prop := platesLimitsRow.holds Tryd.pinned (OpenSpec.ofChange platesLimitsWrong)

/-- 'mapsheetslaw54.PlatesBound': WHATEVER THE INPUT: true; the input reads as it did. -/
def platesBoundSpec : ChangeSpec := { name := "platesBound", fn := fun _ => fun
  | [d1, d2] => { results := [.lit (.bool true)], args := [d1, d2] }
  | _ => none }
def platesBoundRow : OpenClaim := { program := "ytpppgceccikodaadoor", sum := "d1721a4c8c119517c60dda6e3334a0422aeebff407992c7c4f46fe5250320f05", func := "mapsheets/mapsheetslaw54.PlatesBound", spec := "platesBound", named := ["mapsheets/digest.steps"], apart := false, laid := [("mapsheets/digest.steps", laid_mapsheets_digest_steps)] }
def PlatesBoundSaid : Prop := platesBoundRow.holds Tryd.pinned (OpenSpec.ofChange platesBoundSpec)

/-- ITS FALSE NEIGHBOUR: 'it returns false'. Refute it at one input. -/
def platesBoundWrong : ChangeSpec := { name := "platesBound", fn := fun _ => fun
  | [d1, d2] => { results := [.lit (.bool false)], args := [d1, d2] }
  | _ => none }
def PlatesBoundWrongFalsely : Prop := platesBoundRow.holds Tryd.pinned (OpenSpec.ofChange platesBoundWrong)

/- THE SECOND FORM. 'bulk': how many values and letters a reading holds, each counted each time it is reached (what is shared counts as often as it is met; a slice's spare places count too). A statement '..UptoSaid' is the law's where the arguments, and the package variables that the reading takes, are together of bulk at most 1048576: NARROWER than '..Said'. Prove '..Said' where nothing that the law and all that it calls make is longer than what came in: it says more and counts as full. Else prove '..UptoSaid'. A law counts once. -/
mutual
def uptoBulk {H : Type} : DataW H → Nat
  | .lit (.string bytes) => bytes.length + 1
  | .lit _ => 1
  | .nil => 1
  | .ptr d => uptoBulk d + 1
  | .slice elems spare => uptoBulkAll elems + uptoBulkAll spare + 1
  | .agg parts => uptoBulkAll parts + 1
  | .iface _ d => uptoBulk d + 1
  | .map entries => uptoBulkEntries entries + 1
  | .held _ => 1
def uptoBulkAll {H : Type} : List (DataW H) → Nat
  | [] => 0
  | d :: r => uptoBulk d + uptoBulkAll r
def uptoBulkEntries {H : Type} : List (Lit × DataW H) → Nat
  | [] => 0
  | x :: r => uptoBulkEntry x + uptoBulkEntries r
def uptoBulkEntry {H : Type} : Lit × DataW H → Nat
  | (.string bytes, d) => bytes.length + uptoBulk d + 1
  | (_, d) => uptoBulk d + 1
 end
def uptoSmall : (H : Type) → List (DataW H) → Bool := fun _ ds => decide (uptoBulkAll ds ≤ 1048576)
def OpenSpec.upto (s : _root_.Go.ChangeSpec) : _root_.Go.OpenSpec := { _root_.Go.OpenSpec.ofChange s with cond := some uptoSmall }

/-- 'mapsheetslaw54.PlatesChecks', WHERE WHAT IT READS IS OF BULK AT MOST 1048576: true; the input reads as it did. -/
def platesChecksUptoRow : OpenClaim := { program := "ytpppgceccikodaadoor", sum := "d1721a4c8c119517c60dda6e3334a0422aeebff407992c7c4f46fe5250320f05", func := "mapsheets/mapsheetslaw54.PlatesChecks", spec := "platesChecks", named := ["mapsheets/digest.steps"], apart := false, laid := [("mapsheets/digest.steps", laid_mapsheets_digest_steps)], narrowed := true }
def PlatesChecksUptoSaid : Prop := platesChecksUptoRow.holds Tryd.pinned (OpenSpec.upto platesChecksSpec)

/-- 'mapsheetslaw54.PlatesPacks', WHERE WHAT IT READS IS OF BULK AT MOST 1048576: true; the input reads as it did. -/
def platesPacksUptoRow : OpenClaim := { program := "ytpppgceccikodaadoor", sum := "d1721a4c8c119517c60dda6e3334a0422aeebff407992c7c4f46fe5250320f05", func := "mapsheets/mapsheetslaw54.PlatesPacks", spec := "platesPacks", named := ["mapsheets/digest.steps"], apart := false, laid := [("mapsheets/digest.steps", laid_mapsheets_digest_steps)], narrowed := true }
def PlatesPacksUptoSaid : Prop := platesPacksUptoRow.holds Tryd.pinned (OpenSpec.upto platesPacksSpec)

/-- 'mapsheetslaw54.PlatesUnpacks', WHERE WHAT IT READS IS OF BULK AT MOST 1048576: true; the input reads as it did. -/
def platesUnpacksUptoRow : OpenClaim := { program := "ytpppgceccikodaadoor", sum := "d1721a4c8c119517c60dda6e3334a0422aeebff407992c7c4f46fe5250320f05", func := "mapsheets/mapsheetslaw54.PlatesUnpacks", spec := "platesUnpacks", named := ["mapsheets/digest.steps"], apart := false, laid := [("mapsheets/digest.steps", laid_mapsheets_digest_steps)], narrowed := true }
def PlatesUnpacksUptoSaid : Prop := platesUnpacksUptoRow.holds Tryd.pinned (OpenSpec.upto platesUnpacksSpec)

/-- 'mapsheetslaw54.PlatesDamage', WHERE WHAT IT READS IS OF BULK AT MOST 1048576: true; the input reads as it did. -/
def platesDamageUptoRow : OpenClaim := { program := "ytpppgceccikodaadoor", sum := "d1721a4c8c119517c60dda6e3334a0422aeebff407992c7c4f46fe5250320f05", func := "mapsheets/mapsheetslaw54.PlatesDamage", spec := "platesDamage", named := ["mapsheets/digest.steps"], apart := false, laid := [("mapsheets/digest.steps", laid_mapsheets_digest_steps)], narrowed := true }
def PlatesDamageUptoSaid : Prop := platesDamageUptoRow.holds Tryd.pinned (OpenSpec.upto platesDamageSpec)

/-- 'mapsheetslaw54.PlatesLimits', WHERE WHAT IT READS IS OF BULK AT MOST 1048576: true; the input reads as it did. -/
def platesLimitsUptoRow : OpenClaim := { program := "ytpppgceccikodaadoor", sum := "d1721a4c8c119517c60dda6e3334a0422aeebff407992c7c4f46fe5250320f05", func := "mapsheets/mapsheetslaw54.PlatesLimits", spec := "platesLimits", named := ["mapsheets/digest.steps"], apart := false, laid := [("mapsheets/digest.steps", laid_mapsheets_digest_steps)], narrowed := true }
def PlatesLimitsUptoSaid : Prop := platesLimitsUptoRow.holds Tryd.pinned (OpenSpec.upto platesLimitsSpec)

/-- 'mapsheetslaw54.PlatesBound', WHERE WHAT IT READS IS OF BULK AT MOST 1048576: true; the input reads as it did. -/
def platesBoundUptoRow : OpenClaim := { program := "ytpppgceccikodaadoor", sum := "d1721a4c8c119517c60dda6e3334a0422aeebff407992c7c4f46fe5250320f05", func := "mapsheets/mapsheetslaw54.PlatesBound", spec := "platesBound", named := ["mapsheets/digest.steps"], apart := false, laid := [("mapsheets/digest.steps", laid_mapsheets_digest_steps)], narrowed := true }
def PlatesBoundUptoSaid : Prop := platesBoundUptoRow.holds Tryd.pinned (OpenSpec.upto platesBoundSpec)

end Rows
end Go.Proofs.YtpppgceccikodaaDoor
