/- What the bound of the second form gives. -/
import Derived.Test.YtogigdikpllieaaLift
namespace Go.Proofs.Ytogigdikpllieaa
theorem bulk_pos {H : Type} (d : DataW H) : 1 ≤ Rows.uptoBulk d := by
  cases d with
  | lit l => cases l <;> simp [Rows.uptoBulk]
  | _ => simp [Rows.uptoBulk]
theorem bulk_length {H : Type} : ∀ (l : List (DataW H)), l.length ≤ Rows.uptoBulkAll l
  | [] => by simp [Rows.uptoBulkAll]
  | d :: l => by
    have h1 := bulk_pos d
    have h2 := bulk_length l
    simp only [Rows.uptoBulkAll, List.length_cons]
    omega
theorem LenIs.bulk {H : Type} {d : DataW H} {n : Nat} (h : LenIs d n) : n + 1 ≤ Rows.uptoBulk d := by
  rcases h with ⟨rfl, rfl⟩ | ⟨es, sp, rfl, rfl⟩
  · exact bulk_pos _
  · have := bulk_length es
    simp only [Rows.uptoBulk]
    omega
end Go.Proofs.Ytogigdikpllieaa
