/- The table of package digest, as the row lists it. -/
import Derived.Test.YtpppgceccikodaaDoorCards
import Derived.Test.YtpppgceccikodaaDoorTie
import Derived.Test.YtpppgceccikodaaDoorLift
import Derived.Test.YtpppgceccikodaaDoorDig
import Derived.Deep.DeepHandedRow
import Derived.Lib.LaidTab
namespace Go.Proofs.YtpppgceccikodaaDoor
open Go.ChangeShapes Go.WideShapes Go.ChangeAt Go.RowKit Go.Joins

theorem gTab : Tryd.prog.globalNamed "mapsheets/digest.steps" = some 0 := by kernel_rfl
theorem gTabType : (Tryd.prog.globals[0]?).map (·.type) = some 68 := by kernel_rfl
theorem cellsTab : Tryd.prog.cellsOf 68 = 16 := by kernel_rfl
theorem cellsU32 : Tryd.prog.cellsOf 65 = 1 := by kernel_rfl
theorem cellsU8 : Tryd.prog.cellsOf 5 = 1 := by kernel_rfl
theorem bytesU8 : Tryd.prog.bytesOf 5 = 1 := by kernel_rfl

/-- The table's numbers. -/
def steps : List Int := [0, 498536548, 997073096, 651767980, 1994146192, 1802195444, 1303535960, 1342533948, 3988292384, 4027552580, 3604390888, 3412177804, 2607071920, 2262029012, 2685067896, 3183342108]
theorem steps_nib : ∀ i : Fin 16, steps[i.1]? = some (w32 (M.nib (BitVec.ofNat 32 i.1))) := by decide +kernel

/-- WHAT THE ROW's LIST GIVES: the table lies in memory. -/
theorem tab_of {W : World} (h : laidMetH Tryd.prog [("mapsheets/digest.steps", Rows.laid_mapsheets_digest_steps)] W) : Tab W := by
  have ht : Lib.TabIs Tryd.prog W "mapsheets/digest.steps" .u32 steps := Lib.tabIs_of_head (rest := []) gTab gTabType Tryd.underlying68 Tryd.underlying65 cellsU32 cellsTab h
  intro y
  have hlt : (y &&& 15#32).toNat < 16 := by
    have : (y &&& 15#32).toNat ≤ 15 := by rw [BitVec.toNat_and]; exact Nat.and_le_right
    omega
  have hs := steps_nib ⟨(y &&& 15#32).toNat, hlt⟩
  have hcell := ht.cell gTab (y &&& 15#32).toNat (by simpa [steps] using hlt)
  have e : (w32 (y &&& 15#32)).toNat = (y &&& 15#32).toNat := by unfold w32; omega
  rw [e, hcell]
  have hs' : steps[(y &&& 15#32).toNat]? = some (w32 (M.nib (y &&& 15#32))) := by
    rw [hs]
    simp
  simp only [List.getD, hs', Option.getD_some]

/-- A WORLD FOR THE WITNESS: the settled one, the table holding what its initialiser lays. -/
noncomputable def laidWorld (os : Os) : World :=
  { World.holding Tryd.prog os ⟨#[], #[], []⟩ with heap := (World.holding Tryd.prog os ⟨#[], #[], []⟩).heap.modify 0 fun
      | .cells _ t frozen => .cells (steps.map (Value.int .u32)).toArray t frozen
      | o => o }
end Go.Proofs.YtpppgceccikodaaDoor
