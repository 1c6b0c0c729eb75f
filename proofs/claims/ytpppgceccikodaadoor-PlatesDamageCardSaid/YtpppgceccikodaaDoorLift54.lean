/- A plate that came in. -/
import Derived.Test.YtpppgceccikodaaDoorRows2
import Derived.Test.YtpppgceccikodaaDoorFour
namespace Go.Proofs.YtpppgceccikodaaDoor
open Go.ChangeShapes Go.WideShapes Go.ChangeAt Go.RowKit Go.Joins Go.Deep

section
variable {H : Type} {enc : TypeId × Value → H} {W : World} {v : Value} {d : DataW H} {p : List MemPlace} {r : Reach} {b0 : Nat}
theorem plate_cells {m : Nat} {cs : List Value} {y : DataW H × List MemPlace} (h : DataW.trod enc Tryd.prog W 0 (fun _ => true) true m 24 cs = some y) :
    ∃ q : Pd, cs = q.cells ∧ q.Ok W := by
  obtain ⟨hcl, ys, n, hy, hyl, hf⟩ := trod_fields Tryd.underlying24 (by kernel_rfl) (by kernel_rfl) h
  obtain ⟨v0, y0, c0, e0, t0⟩ := hf 0 _ rfl
  obtain ⟨v1, y1, c1, e1, t1⟩ := hf 1 _ rfl
  obtain ⟨v2, y2, c2, e2, t2⟩ := hf 2 _ rfl
  obtain ⟨a0, k0, _, _⟩ := DataW.trod_int Tryd.underlying3 t0
  obtain ⟨a1, k1, _, _⟩ := DataW.trod_int Tryd.underlying3 t1
  obtain ⟨A2, n2, q2, l2, k2, r2, f2, z2⟩ := ri_of_trod Tryd.underlying22 Tryd.underlying3 (by kernel_rfl) t2
  simp only [List.cons.injEq, and_true] at k0 k1
  subst k0 k1 k2
  match cs, hcl, c0, c1, c2 with
  | [w0, w1, w2], _, c0, c1, c2 =>
    simp only [List.getElem?_cons_zero, List.getElem?_cons_succ, Option.some.injEq] at c0 c1 c2
    subst c0 c1 c2
    exact ⟨⟨a0, a1, A2, n2, q2, l2⟩, rfl, r2⟩
theorem open_plate (hv : Value.okWide Tryd.prog W r b0 24 v) (h : DataW.Trod enc Tryd.prog W 0 (fun _ => true) true 24 v d p) :
    ∃ q : Pd, v = .agg #[.int .i64 q.w, .int .i64 q.h, .slice q.a q.n q.c] ∧ q.Ok W := by
  obtain ⟨cs, rfl, hsz⟩ := okWide_struct Tryd.underlying24 hv
  obtain ⟨fuel, hf⟩ := h
  simp only [Value.cells] at hf
  obtain ⟨q, hq, ho⟩ := plate_cells hf
  refine ⟨q, ?_, ho⟩
  obtain ⟨l⟩ := cs
  simp only at hq
  subst hq
  rfl
end
end Go.Proofs.YtpppgceccikodaaDoor
