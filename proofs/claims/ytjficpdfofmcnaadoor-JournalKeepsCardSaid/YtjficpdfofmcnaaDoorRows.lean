/-
  NARROWER THAN 'FOR EVERY INPUT', by the rows' own cells (each row's printed sentence says how): JournalCrashes: laid · JournalKeeps: laid · JournalOpens: laid · JournalFormats: laid · JournalAppends: laid · JournalReads: laid.
  DERIVED. THE GIVEN ROWS OF THIS SEAT. 6 by the template 'for every input the law returns true; each argument reads behind the call as it read before'; 0 by the template 'total and deterministic' (their statements: YtjficpdfofmcnaaDoorTotals.lean).
  GIVEN WITH THE SEED: the statements are not yours to turn. If you find one false, say at which input.
  Laid BY PROGRAM, IN A SANDBOX (cutbox-rows.mjs): the forced cells as the released guide's own fill.sh prints them over the translation b20b33f8b4d590a9… (all of the seat's roots in one cut). By AI agents, Wed Nov 11 2026. No macro, syntax, notation, axiom, sorry.
-/
import Derived.Test.YtjficpdfofmcnaaDoorChecked
import GoSem.Claim
import GoSem.ClaimJoined
import GoSem.ClaimMapViews
import Derived.JoinedTies
import Derived.KernelRfl
namespace Go.Proofs.YtjficpdfofmcnaaDoor
/- THE CELL 'sum', in the pinned program and in every row, IS THE sha256 OF THE DUMP (.gsa) THAT YtjficpdfofmcnaaDoorProg.lean LOADS. Nothing in Lean hashes anything: it is a label: what it is worth is what the hold of that sum in a sandbox is worth. -/
noncomputable def Tryd.pinned : Pinned := { name := "ytjficpdfofmcnaadoor", sum := "b20b33f8b4d590a94274f12dee613298178c16ad3153ce6996e54fcd78d29386", checked := Tryd.checked }
namespace Rows
def none {H : Type} : Left H := { results := [], args := [] }

/- WHAT THE LISTED PACKAGE-LEVEL VARIABLES READ AS WHEN THE CALL BEGINS. Each datum BY PROGRAM (the guide's laid-datum.mjs) off the statement by which the dump's own 'gosem.cut.vars' lays the variable. In a bare row this is a premise. The card (YtjficpdfofmcnaaDoorCards.lean) ties it to the program's text. -/
def laid_mapsheets_digest_steps {H : Type} : DataW H := .agg [.lit (.int .u32 0), .lit (.int .u32 498536548), .lit (.int .u32 997073096), .lit (.int .u32 651767980), .lit (.int .u32 1994146192), .lit (.int .u32 1802195444), .lit (.int .u32 1303535960), .lit (.int .u32 1342533948), .lit (.int .u32 3988292384), .lit (.int .u32 4027552580), .lit (.int .u32 3604390888), .lit (.int .u32 3412177804), .lit (.int .u32 2607071920), .lit (.int .u32 2262029012), .lit (.int .u32 2685067896), .lit (.int .u32 3183342108)]

/-- 'mapsheetslaw25.JournalCrashes': WHATEVER THE INPUT: true; the input reads as it did. -/
def journalCrashesSpec : ChangeSpec := { name := "journalCrashes", fn := fun _ => fun
  | [d1, d2, d3, d4] => { results := [.lit (.bool true)], args := [d1, d2, d3, d4] }
  | _ => none }
def journalCrashesRow : OpenClaim := { program := "ytjficpdfofmcnaadoor", sum := "b20b33f8b4d590a94274f12dee613298178c16ad3153ce6996e54fcd78d29386", func := "mapsheets/mapsheetslaw25.JournalCrashes", spec := "journalCrashes", unfollowed := true, recurses := true, named := ["mapsheets/digest.steps"], apart := false, laid := [("mapsheets/digest.steps", laid_mapsheets_digest_steps)] }
def JournalCrashesSaid : Prop := journalCrashesRow.holds Tryd.pinned (OpenSpec.ofChange journalCrashesSpec)

/-- ITS FALSE NEIGHBOUR: 'it returns false'. Refute it at one input. -/
def journalCrashesWrong : ChangeSpec := { name := "journalCrashes", fn := fun _ => fun
  | [d1, d2, d3, d4] => { results := [.lit (.bool false)], args := [d1, d2, d3, d4] }
  | _ => none }
def JournalCrashesWrongFalsely : Prop := journalCrashesRow.holds Tryd.pinned (OpenSpec.ofChange journalCrashesWrong)

/-- 'mapsheetslaw25.JournalKeeps': WHATEVER THE INPUT: true; the input reads as it did. -/
def journalKeepsSpec : ChangeSpec := { name := "journalKeeps", fn := fun _ => fun
  | [d1, d2] => { results := [.lit (.bool true)], args := [d1, d2] }
  | _ => none }
def journalKeepsRow : OpenClaim := { program := "ytjficpdfofmcnaadoor", sum := "b20b33f8b4d590a94274f12dee613298178c16ad3153ce6996e54fcd78d29386", func := "mapsheets/mapsheetslaw25.JournalKeeps", spec := "journalKeeps", unfollowed := true, recurses := true, named := ["mapsheets/digest.steps"], apart := false, laid := [("mapsheets/digest.steps", laid_mapsheets_digest_steps)] }
def JournalKeepsSaid : Prop := journalKeepsRow.holds Tryd.pinned (OpenSpec.ofChange journalKeepsSpec)

/-- ITS FALSE NEIGHBOUR: 'it returns false'. Refute it at one input. -/
def journalKeepsWrong : ChangeSpec := { name := "journalKeeps", fn := fun _ => fun
  | [d1, d2] => { results := [.lit (.bool false)], args := [d1, d2] }
  | _ => none }
def JournalKeepsWrongFalsely : Prop := journalKeepsRow.holds Tryd.pinned (OpenSpec.ofChange journalKeepsWrong)

/-- 'mapsheetslaw25.JournalOpens': WHATEVER THE INPUT: true; the input reads as it did. -/
def journalOpensSpec : ChangeSpec := { name := "journalOpens", fn := fun _ => fun
  | [d] => { results := [.lit (.bool true)], args := [d] }
  | _ => none }
def journalOpensRow : OpenClaim := { program := "ytjficpdfofmcnaadoor", sum := "b20b33f8b4d590a94274f12dee613298178c16ad3153ce6996e54fcd78d29386", func := "mapsheets/mapsheetslaw25.JournalOpens", spec := "journalOpens", unfollowed := true, recurses := true, named := ["mapsheets/digest.steps"], apart := false, laid := [("mapsheets/digest.steps", laid_mapsheets_digest_steps)] }
def JournalOpensSaid : Prop := journalOpensRow.holds Tryd.pinned (OpenSpec.ofChange journalOpensSpec)

/-- ITS FALSE NEIGHBOUR: 'it returns false'. Refute it at one input. -/
def journalOpensWrong : ChangeSpec := { name := "journalOpens", fn := fun _ => fun
  | [d] => { results := [.lit (.bool false)], args := [d] }
  | _ => none }
def JournalOpensWrongFalsely : Prop := journalOpensRow.holds Tryd.pinned (OpenSpec.ofChange journalOpensWrong)

/-- 'mapsheetslaw25.JournalFormats': WHATEVER THE INPUT: true; the input reads as it did. -/
def journalFormatsSpec : ChangeSpec := { name := "journalFormats", fn := fun _ => fun
  | [d] => { results := [.lit (.bool true)], args := [d] }
  | _ => none }
def journalFormatsRow : OpenClaim := { program := "ytjficpdfofmcnaadoor", sum := "b20b33f8b4d590a94274f12dee613298178c16ad3153ce6996e54fcd78d29386", func := "mapsheets/mapsheetslaw25.JournalFormats", spec := "journalFormats", unfollowed := true, recurses := true, named := ["mapsheets/digest.steps"], apart := false, laid := [("mapsheets/digest.steps", laid_mapsheets_digest_steps)] }
def JournalFormatsSaid : Prop := journalFormatsRow.holds Tryd.pinned (OpenSpec.ofChange journalFormatsSpec)

/-- ITS FALSE NEIGHBOUR: 'it returns false'. Refute it at one input. -/
def journalFormatsWrong : ChangeSpec := { name := "journalFormats", fn := fun _ => fun
  | [d] => { results := [.lit (.bool false)], args := [d] }
  | _ => none }
def JournalFormatsWrongFalsely : Prop := journalFormatsRow.holds Tryd.pinned (OpenSpec.ofChange journalFormatsWrong)

/-- 'mapsheetslaw25.JournalAppends': WHATEVER THE INPUT: true; the input reads as it did. -/
def journalAppendsSpec : ChangeSpec := { name := "journalAppends", fn := fun _ => fun
  | [d1, d2] => { results := [.lit (.bool true)], args := [d1, d2] }
  | _ => none }
def journalAppendsRow : OpenClaim := { program := "ytjficpdfofmcnaadoor", sum := "b20b33f8b4d590a94274f12dee613298178c16ad3153ce6996e54fcd78d29386", func := "mapsheets/mapsheetslaw25.JournalAppends", spec := "journalAppends", unfollowed := true, recurses := true, named := ["mapsheets/digest.steps"], apart := false, laid := [("mapsheets/digest.steps", laid_mapsheets_digest_steps)] }
def JournalAppendsSaid : Prop := journalAppendsRow.holds Tryd.pinned (OpenSpec.ofChange journalAppendsSpec)

/-- ITS FALSE NEIGHBOUR: 'it returns false'. Refute it at one input. -/
def journalAppendsWrong : ChangeSpec := { name := "journalAppends", fn := fun _ => fun
  | [d1, d2] => { results := [.lit (.bool false)], args := [d1, d2] }
  | _ => none }
def JournalAppendsWrongFalsely : Prop := journalAppendsRow.holds Tryd.pinned (OpenSpec.ofChange journalAppendsWrong)

/-- 'mapsheetslaw25.JournalReads': WHATEVER THE INPUT: true; the input reads as it did. -/
def journalReadsSpec : ChangeSpec := { name := "journalReads", fn := fun _ => fun
  | [d1, d2] => { results := [.lit (.bool true)], args := [d1, d2] }
  | _ => none }
def journalReadsRow : OpenClaim := { program := "ytjficpdfofmcnaadoor", sum := "b20b33f8b4d590a94274f12dee613298178c16ad3153ce6996e54fcd78d29386", func := "mapsheets/mapsheetslaw25.JournalReads", spec := "journalReads", unfollowed := true, recurses := true, named := ["mapsheets/digest.steps"], apart := false, laid := [("mapsheets/digest.steps", laid_mapsheets_digest_steps)] }
def JournalReadsSaid : Prop := journalReadsRow.holds Tryd.pinned (OpenSpec.ofChange journalReadsSpec)

/-- ITS FALSE NEIGHBOUR: 'it returns false'. Refute it at one input. -/
def journalReadsWrong : ChangeSpec := { name := "journalReads", fn := fun _ => fun
  | [d1, d2] => { results := [.lit (.bool false)], args := [d1, d2] }
  | _ => none }
def JournalReadsWrongFalsely : Prop := journalReadsRow.holds Tryd.pinned (OpenSpec.ofChange journalReadsWrong)

/- THE SECOND FORM. 'bulk': how many values and letters a reading holds, each counted each time it is reached (what is shared counts as often as it is met; a slice's spare places count too). A statement '..UptoSaid' is the law's where the arguments, and the package variables that the reading takes, are together of bulk at most 1048576: NARROWER than '..Said'. Prove '..Said' where nothing that the law and all that it calls make is longer than what came in: it says more and counts as full. Else prove '..UptoSaid'. A law counts once. -/
mutual
def uptoBulk {H : Type} : DataW H → Nat
  | .lit (.string bytes) => bytes.length + 1
  | .lit _ => 1
  | .nil => 1
  | .ptr d => uptoBulk d + 1
  | .slice elems spare => uptoBulkAll elems + uptoBulkAll spare + 1
  | .agg parts => uptoBulkAll parts + 1
  | .iface _ d => uptoBulk d + 1
  | .map entries => uptoBulkEntries entries + 1
  | .held _ => 1
def uptoBulkAll {H : Type} : List (DataW H) → Nat
  | [] => 0
  | d :: r => uptoBulk d + uptoBulkAll r
def uptoBulkEntries {H : Type} : List (Lit × DataW H) → Nat
  | [] => 0
  | x :: r => uptoBulkEntry x + uptoBulkEntries r
def uptoBulkEntry {H : Type} : Lit × DataW H → Nat
  | (.string bytes, d) => bytes.length + uptoBulk d + 1
  | (_, d) => uptoBulk d + 1
 end
def uptoSmall : (H : Type) → List (DataW H) → Bool := fun _ ds => decide (uptoBulkAll ds ≤ 1048576)
def OpenSpec.upto (s : _root_.Go.ChangeSpec) : _root_.Go.OpenSpec := { _root_.Go.OpenSpec.ofChange s with cond := some uptoSmall }

/-- 'mapsheetslaw25.JournalCrashes', WHERE WHAT IT READS IS OF BULK AT MOST 1048576: true; the input reads as it did. -/
def journalCrashesUptoRow : OpenClaim := { program := "ytjficpdfofmcnaadoor", sum := "b20b33f8b4d590a94274f12dee613298178c16ad3153ce6996e54fcd78d29386", func := "mapsheets/mapsheetslaw25.JournalCrashes", spec := "journalCrashes", unfollowed := true, recurses := true, named := ["mapsheets/digest.steps"], apart := false, laid := [("mapsheets/digest.steps", laid_mapsheets_digest_steps)], narrowed := true }
def JournalCrashesUptoSaid : Prop := journalCrashesUptoRow.holds Tryd.pinned (OpenSpec.upto journalCrashesSpec)

/-- 'mapsheetslaw25.JournalKeeps', WHERE WHAT IT READS IS OF BULK AT MOST 1048576: true; the input reads as it did. -/
def journalKeepsUptoRow : OpenClaim := { program := "ytjficpdfofmcnaadoor", sum := "b20b33f8b4d590a94274f12dee613298178c16ad3153ce6996e54fcd78d29386", func := "mapsheets/mapsheetslaw25.JournalKeeps", spec := "journalKeeps", unfollowed := true, recurses := true, named := ["mapsheets/digest.steps"], apart := false, laid := [("mapsheets/digest.steps", laid_mapsheets_digest_steps)], narrowed := true }
def JournalKeepsUptoSaid : Prop := journalKeepsUptoRow.holds Tryd.pinned (OpenSpec.upto journalKeepsSpec)

/-- 'mapsheetslaw25.JournalOpens', WHERE WHAT IT READS IS OF BULK AT MOST 1048576: true; the input reads as it did. -/
def journalOpensUptoRow : OpenClaim := { program := "ytjficpdfofmcnaadoor", sum := "b20b33f8b4d590a94274f12dee613298178c16ad3153ce6996e54fcd78d29386", func := "mapsheets/mapsheetslaw25.JournalOpens", spec := "journalOpens", unfollowed := true, recurses := true, named := ["mapsheets/digest.steps"], apart := false, laid := [("mapsheets/digest.steps", laid_mapsheets_digest_steps)], narrowed := true }
def JournalOpensUptoSaid : Prop := journalOpensUptoRow.holds Tryd.pinned (OpenSpec.upto journalOpensSpec)

/-- 'mapsheetslaw25.JournalFormats', WHERE WHAT IT READS IS OF BULK AT MOST 1048576: true; the input reads as it did. -/
def journalFormatsUptoRow : OpenClaim := { program := "ytjficpdfofmcnaadoor", sum := "b20b33f8b4d590a94274f12dee613298178c16ad3153ce6996e54fcd78d29386", func := "mapsheets/mapsheetslaw25.JournalFormats", spec := "journalFormats", unfollowed := true, recurses := true, named := ["mapsheets/digest.steps"], apart := false, laid := [("mapsheets/digest.steps", laid_mapsheets_digest_steps)], narrowed := true }
def JournalFormatsUptoSaid : Prop := journalFormatsUptoRow.holds Tryd.pinned (OpenSpec.upto journalFormatsSpec)

/-- 'mapsheetslaw25.JournalAppends', WHERE WHAT IT READS IS OF BULK AT MOST 1048576: true; the input reads as it did. -/
def journalAppendsUptoRow : OpenClaim := { program := "ytjficpdfofmcnaadoor", sum := "b20b33f8b4d590a94274f12dee613298178c16ad3153ce6996e54fcd78d29386", func := "mapsheets/mapsheetslaw25.JournalAppends", spec := "journalAppends", unfollowed := true, recurses := true, named := ["mapsheets/digest.steps"], apart := false, laid := [("mapsheets/digest.steps", laid_mapsheets_digest_steps)], narrowed := true }
def JournalAppendsUptoSaid : Prop := journalAppendsUptoRow.holds Tryd.pinned (OpenSpec.upto journalAppendsSpec)

/-- 'mapsheetslaw25.JournalReads', WHERE WHAT IT READS IS OF BULK AT MOST 1048576: true; the input reads as it did. -/
def journalReadsUptoRow : OpenClaim := { program := "ytjficpdfofmcnaadoor", sum := "b20b33f8b4d590a94274f12dee613298178c16ad3153ce6996e54fcd78d29386", func := "mapsheets/mapsheetslaw25.JournalReads", spec := "journalReads", unfollowed := true, recurses := true, named := ["mapsheets/digest.steps"], apart := false, laid := [("mapsheets/digest.steps", laid_mapsheets_digest_steps)], narrowed := true }
def JournalReadsUptoSaid : Prop := journalReadsUptoRow.holds Tryd.pinned (OpenSpec.upto journalReadsSpec)

end Rows
end Go.Proofs.YtjficpdfofmcnaaDoor
