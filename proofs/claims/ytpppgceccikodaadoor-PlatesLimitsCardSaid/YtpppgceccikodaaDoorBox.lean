/- A block of memory that is known cell by cell and may be written. -/
import Derived.Test.YtpppgceccikodaaDoorBase
namespace Go.Proofs.YtpppgceccikodaaDoor
open Go.RowKit Go.Joins

/-- The first cells of block b are cs; none of its cells is frozen. -/
structure Bx (w : World) (b : Nat) (cs : List Value) : Prop where
  cell : ∀ j u, cs[j]? = some u → w.cell? ⟨b, j, none⟩ = some u
  fz : ∀ j, w.frozen? ⟨b, j, none⟩ = false
  lt : b < w.heap.size
section
variable {w w' : World} {b : Nat} {cs : List Value}
theorem Bx.below' {B : Nat} (h : Bx w b cs) (hb : Below B w w') (hB : b < B) : Bx w' b cs :=
  ⟨fun j u hu => (hb.cell (p := ⟨b, j, none⟩) hB).trans (h.cell j u hu), fun j => (hb.frozen (p := ⟨b, j, none⟩) hB).trans (h.fz j), Nat.lt_of_lt_of_le h.lt hb.size⟩
theorem Bx.below (h : Bx w b cs) (hb : Below w.heap.size w w') : Bx w' b cs := h.below' hb h.lt
theorem Bx.drewN (h : Bx w b cs) (k : Nat) : Bx (w.drewN k) b cs := h.below (below_draws _ _ _)
theorem Bx.alloc (h : Bx w b cs) (o : Obj) : Bx (w.alloc o) b cs := h.below (below_alloc1 _ _)
theorem Bx.new (w : World) (cs : List Value) (t : TypeId) : Bx (w.alloc (.cells cs.toArray t)) w.heap.size cs := by
  refine ⟨fun j u hu => ?_, fun j => by simp, by simp⟩
  rw [World.cell?_alloc_mark]
  simpa using hu
theorem Bx.set (h : Bx w b cs) {j : Nat} (hj : j < cs.length) (v : Value) : Bx (w.setCell ⟨b, j, none⟩ v) b (cs.set j v) := by
  refine ⟨fun i u hu => ?_, fun i => by simp [h.fz i], by simpa [World.setCell] using h.lt⟩
  by_cases hij : i = j
  · subst hij
    rw [List.getElem?_set_self hj] at hu
    injection hu with hu
    subst hu
    exact World.cell?_setCell_same _ _ _ (h.cell i cs[i] (List.getElem?_eq_getElem hj))
  · rw [List.getElem?_set_ne (by omega)] at hu
    rw [World.cell?_setCell_other _ _ _ _ (by intro e; simp only [Addr.mk.injEq] at e; omega)]
    exact h.cell i u hu
theorem Bx.other (h : Bx w b cs) {p : Addr} (hp : p.block ≠ b) (v : Value) : Bx (w.setCell p v) b cs := by
  refine ⟨fun i u hu => ?_, fun i => by simp [h.fz i], by simpa [World.setCell] using h.lt⟩
  rw [World.cell?_setCell_other _ _ _ _ (by intro e; exact hp (by rw [e]))]
  exact h.cell i u hu
theorem ownsRow_set {base : Nat} {e : TypeId} {s n : Nat} {v : Value} {xs : List Value} (h : w.ownsRow base e s v n xs) {p : Addr} (hp : p.block < base) (u : Value) : (w.setCell p u).ownsRow base e s v n xs := by
  refine ⟨h.1, ?_⟩
  rcases h.2 with h' | ⟨g, cap, cur, rfl, hbg, hg, rest⟩
  · exact .inl h'
  · exact .inr ⟨g, cap, cur, rfl, hbg, by rw [Below.heap_setCell w p u g (by omega)]; exact hg, rest⟩
theorem Rd.set_other {s n c : Nat} {A : Option Addr} {xs : List Value} (h : Rd w s A n c xs) {p : Addr} (hp : ∀ a, A = some a → a.block ≠ p.block) (v : Value) : Rd (w.setCell p v) s A n c xs := by
  refine ⟨h.len, h.cap, h.big, h.nil, fun hn => ?_⟩
  obtain ⟨b, o, e, hlt, hc⟩ := h.mem hn
  refine ⟨b, o, e, by simpa [World.setCell] using hlt, fun j u hu => ?_⟩
  rw [World.cell?_setCell_other _ _ _ _ (by intro e'; exact hp _ e (by rw [e']))]
  exact hc j u hu
end
end Go.Proofs.YtpppgceccikodaaDoor
