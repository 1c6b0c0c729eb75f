/- Four plates: as they lie in memory, and what limiting them gives. -/
import Derived.Test.YtpppgceccikodaaDoorReduce
import Derived.Test.YtpppgceccikodaaDoorUnpack
import Derived.Deep.RegionHeld3
import Derived.Deep.OwnRows
namespace Go.Proofs.YtpppgceccikodaaDoor
open Go.RowKit Go.Joins

/-- A plate, as it lies in memory and as it reads. -/
structure Pd where
  w : Int
  h : Int
  a : Option Addr
  n : Nat
  c : Nat
  l : List Int
def Pd.zero : Pd := ⟨0, 0, none, 0, 0, []⟩
def Pd.cells (p : Pd) : List Value := [.int .i64 p.w, .int .i64 p.h, .slice p.a p.n p.c]
def Pd.v (p : Pd) : Value := plv p.w p.h p.a p.n p.c
def Pd.Ok (w : World) (p : Pd) : Prop := RI w p.a p.n p.c p.l
theorem Pd.Ok.below {w w' : World} {p : Pd} (h : p.Ok w) (hb : Below w.heap.size w w') : p.Ok w' := RI.below h hb
theorem Pd.zero_ok (w : World) : Pd.zero.Ok w := RI.none_ w
def Pd.chk (p : Pd) : Int := Pl.check p.w p.h p.l
/-- An array of four of them. -/
def cells4 (p0 p1 p2 p3 : Pd) : List Value := [.int .i64 p0.w, .int .i64 p0.h, .slice p0.a p0.n p0.c, .int .i64 p1.w, .int .i64 p1.h, .slice p1.a p1.n p1.c, .int .i64 p2.w, .int .i64 p2.h, .slice p2.a p2.n p2.c, .int .i64 p3.w, .int .i64 p3.h, .slice p3.a p3.n p3.c]
def arr4 (p0 p1 p2 p3 : Pd) : Value := .agg #[.int .i64 p0.w, .int .i64 p0.h, .slice p0.a p0.n p0.c, .int .i64 p1.w, .int .i64 p1.h, .slice p1.a p1.n p1.c, .int .i64 p2.w, .int .i64 p2.h, .slice p2.a p2.n p2.c, .int .i64 p3.w, .int .i64 p3.h, .slice p3.a p3.n p3.c]

/-- The error of a limit. -/
def limErr (p0 p1 p2 p3 : Pd) (m : Int) : Int :=
  if p0.chk ≠ 0 then p0.chk else if p1.chk ≠ 0 then p1.chk else if p2.chk ≠ 0 then p2.chk else if p3.chk ≠ 0 then p3.chk else
  if p1.w ≠ p0.w ∨ p1.h ≠ p0.h then 1 else if p2.w ≠ p0.w ∨ p2.h ≠ p0.h then 1 else if p3.w ≠ p0.w ∨ p3.h ≠ p0.h then 1 else
  if m < 0 then 2 else if 400 < m then 2 else 0
/-- The inks of all cells, limited. -/
def redAll (p0 p1 p2 p3 : Pd) (m : Int) : List (Int × Int × Int × Int) := (List.range p0.n).map fun j => Pl.reduce (p0.l.getD j 0) (p1.l.getD j 0) (p2.l.getD j 0) (p3.l.getD j 0) m
theorem redAll_len (p0 p1 p2 p3 : Pd) (m : Int) : (redAll p0 p1 p2 p3 m).length = p0.n := by simp [redAll]
theorem redAll_get (p0 p1 p2 p3 : Pd) (m : Int) (j : Nat) (h : j < p0.n) : (redAll p0 p1 p2 p3 m)[j]'(by rw [redAll_len]; exact h) = Pl.reduce (p0.l.getD j 0) (p1.l.getD j 0) (p2.l.getD j 0) (p3.l.getD j 0) m := by simp [redAll]
/-- What a limit of four plates leaves: on an error nothing; else the plates with these values. -/
def RetFour (w : World) (p0 p1 p2 p3 : Pd) (m : Int) (e : Ending) (w' : World) : Prop :=
  ∃ q0 q1 q2 q3 : Pd, e = .returned (.tuple #[arr4 q0 q1 q2 q3, .int .i64 (limErr p0 p1 p2 p3 m)]) ∧ q0.Ok w' ∧ q1.Ok w' ∧ q2.Ok w' ∧ q3.Ok w' ∧ Below w.heap.size w w' ∧
    ((limErr p0 p1 p2 p3 m ≠ 0 ∧ q0 = Pd.zero ∧ q1 = Pd.zero ∧ q2 = Pd.zero ∧ q3 = Pd.zero) ∨
     (limErr p0 p1 p2 p3 m = 0 ∧ q0.w = p0.w ∧ q0.h = p0.h ∧ q1.w = p1.w ∧ q1.h = p1.h ∧ q2.w = p2.w ∧ q2.h = p2.h ∧ q3.w = p3.w ∧ q3.h = p3.h ∧
      q0.l = (redAll p0 p1 p2 p3 m).map (·.1) ∧ q1.l = (redAll p0 p1 p2 p3 m).map (·.2.1) ∧ q2.l = (redAll p0 p1 p2 p3 m).map (·.2.2.1) ∧ q3.l = (redAll p0 p1 p2 p3 m).map (·.2.2.2)))

/-- A block that is known whole. -/
def Bk (w : World) (g : Nat) (t : TypeId) (cs : List Value) : Prop := w.heap[g]? = some (.cells cs.toArray t (0, 0))
section
variable {w w' : World} {g : Nat} {t : TypeId} {cs : List Value}
theorem Bk.below' {B : Nat} (h : Bk w g t cs) (hb : Below B w w') (hB : g < B) : Bk w' g t cs := by unfold Bk; rw [hb.block g hB]; exact h
theorem Bk.lt (h : Bk w g t cs) : g < w.heap.size := (Array.getElem?_eq_some_iff.1 h).1
theorem Bk.below (h : Bk w g t cs) (hb : Below w.heap.size w w') : Bk w' g t cs := h.below' hb h.lt
theorem Bk.bx (h : Bk w g t cs) : Bx w g cs := by
  refine ⟨fun j u hu => ?_, fun j => ?_, h.lt⟩
  · unfold World.cell?
    simp only [show w.heap[g]? = some (.cells cs.toArray t (0, 0)) from h]
    simpa using hu
  · unfold World.frozen?
    simp [show w.heap[g]? = some (.cells cs.toArray t (0, 0)) from h]
theorem Bk.new (w : World) (t : TypeId) (cs : List Value) : Bk (w.alloc (.cells cs.toArray t)) w.heap.size t cs := by
  unfold Bk
  exact heap_alloc_new w _
theorem Bk.set (h : Bk w g t cs) (j : Nat) (v : Value) : Bk (w.setCell ⟨g, j, none⟩ v) g t (cs.set j v) := by
  unfold Bk at *
  simp only [World.setCell, Array.getElem?_modify, h]
  simp
theorem Bk.other (h : Bk w g t cs) {p : Addr} (hp : p.block ≠ g) (v : Value) : Bk (w.setCell p v) g t cs := by
  unfold Bk at *
  rw [Below.heap_setCell w p v g (fun e => hp e.symm)]
  exact h
theorem Bk.drewN (h : Bk w g t cs) (k : Nat) : Bk (w.drewN k) g t cs := h
theorem Bk.ri {l : List Int} (h : Bk w g t (l.map iv)) (hl : l.length ≤ maxLen) : RI w (some ⟨g, 0, none⟩) l.length l.length l :=
  ⟨by simp, Nat.le_refl _, hl, (fun h => by cases h), fun _ => ⟨g, 0, rfl, h.lt, fun j u hu => by simpa using h.bx.cell j u hu⟩⟩
end
end Go.Proofs.YtpppgceccikodaaDoor
