/- Several rows of a call's own that grow by turns. -/
import Derived.Test.YtpppgceccikodaaDoorFour
import Derived.Deep.AppendLies
namespace Go.Proofs.YtpppgceccikodaaDoor
open Go.RowKit Go.Joins

/-- Two slices that share no row. -/
def Ap (v v' : Value) : Prop := v.ownBlock = none ∨ v.ownBlock ≠ v'.ownBlock
/-- The first k of n numbers are one more. -/
def upd {α : Type} (f : Nat → α) (k : Nat) (x : α) : Nat → α := fun t => if t = k then x else f t
theorem upd_same {α : Type} (f : Nat → α) (k : Nat) (x : α) : upd f k x k = x := by simp [upd]
theorem upd_other {α : Type} (f : Nat → α) {k t : Nat} (h : t ≠ k) (x : α) : upd f k x t = f t := by simp [upd, h]
/-- Four rows: the values v, of so many elements, read as L. -/
structure Rows4 (w : World) (base : Nat) (v : Nat → Value) (n : Nat → Nat) (L : Nat → List Int) : Prop where
  own : ∀ t, t < 4 → w.ownsRow base 3 1 (v t) (n t) ((L t).map iv)
  ap : ∀ t s, t < 4 → s < 4 → t ≠ s → Ap (v t) (v s)
section
variable {w w' : World} {base : Nat} {v : Nat → Value} {n : Nat → Nat} {L : Nat → List Int}
theorem Rows4.below (h : Rows4 w base v n L) (hb : Below w.heap.size w w') : Rows4 w' base v n L :=
  ⟨fun t ht => ownsRow_below (h.own t ht) hb fun g hg => ((h.own t ht).lt g hg).2, h.ap⟩
theorem Rows4.set (h : Rows4 w base v n L) {p : Addr} (hp : p.block < base) (u : Value) : Rows4 (w.setCell p u) base v n L :=
  ⟨fun t ht => ownsRow_set (h.own t ht) hp u, h.ap⟩
theorem Rows4.congr (h : Rows4 w base v n L) {n' : Nat → Nat} {L' : Nat → List Int} (hn : ∀ t, t < 4 → n t = n' t) (hL : ∀ t, t < 4 → L t = L' t) : Rows4 w base v n' L' :=
  ⟨fun t ht => by rw [← hn t ht, ← hL t ht]; exact h.own t ht, h.ap⟩
theorem Rows4.nil (w : World) (base : Nat) : Rows4 w base (fun _ => .slice none 0 0) (fun _ => 0) (fun _ => []) :=
  ⟨fun _ _ => World.ownsRow_nil w base _ 1, fun _ _ _ _ _ => .inl rfl⟩
/-- One of them has grown by y. -/
theorem Rows4.grow (h : Rows4 w base v n L) {k : Nat} {y : Int} {g cap : Nat} (hown : w'.ownsRow base 3 1 (.slice (some ⟨g, 0, none⟩) (n k + 1) cap) (n k + 1) ((L k).map iv ++ [.int .i64 y])) (hgrow : w.grownBy w' (v k).ownBlock) (hat : (v k).ownBlock = some g ∨ g = w.heap.size) (hk : k < 4) :
    Rows4 w' base (upd v k (.slice (some ⟨g, 0, none⟩) (n k + 1) cap)) (upd n k (n k + 1)) (upd L k (L k ++ [y])) := by
  have hnew : (Value.slice (some ⟨g, 0, none⟩) (n k + 1) cap).ownBlock = some g := rfl
  have hfar : ∀ t, t < 4 → t ≠ k → (v t).ownBlock = none ∨ (v t).ownBlock ≠ some g := fun t ht htk => by
    rcases hat with hg | hg
    · rw [← hg]; exact h.ap t k ht hk htk
    · cases hv : (v t).ownBlock with
      | none => exact .inl rfl
      | some b =>
        right
        intro e
        injection e with e
        have := ((h.own t ht).lt b hv).2
        omega
  refine ⟨fun t ht => ?_, fun t s ht hs hts => ?_⟩
  · by_cases htk : t = k
    · subst htk
      rw [upd_same, upd_same, upd_same, List.map_append]
      exact hown
    · rw [upd_other _ htk, upd_other _ htk, upd_other _ htk]
      exact (h.own t ht).kept hgrow (h.ap t k ht hk htk)
  · by_cases htk : t = k
    · subst htk
      rw [upd_same, upd_other _ (fun e => hts e.symm)]
      right
      rw [hnew]
      rcases hfar s hs (fun e => hts e.symm) with h0 | h0
      · rw [h0]; simp
      · exact fun e => h0 e.symm
    · by_cases hsk : s = k
      · subst hsk
        rw [upd_same, upd_other _ htk]
        exact hfar t ht htk
      · rw [upd_other _ htk, upd_other _ hsk]
        exact h.ap t s ht hs hts
theorem Bx.grown {b : Nat} {cs : List Value} {row : Option Nat} (h : Bx w b cs) (hg : w.grownBy w' row) (hne : some b ≠ row) : Bx w' b cs :=
  ⟨fun j u hu => (hg.cell_far ⟨b, j, none⟩ h.lt hne).trans (h.cell j u hu), fun j => (hg.frozen_far ⟨b, j, none⟩ h.lt hne).trans (h.fz j), Nat.lt_of_lt_of_le h.lt hg.size⟩
theorem Rows4.far (h : Rows4 w base v n L) {k b : Nat} (hk : k < 4) (hb : b < base) : some b ≠ (v k).ownBlock := fun e => by
  have := ((h.own k hk).lt b e.symm).1
  omega
end
end Go.Proofs.YtpppgceccikodaaDoor
