/- A plate that came in. -/
import Derived.Test.YtpppgceccikodaaDoorRows2
import Derived.Test.YtpppgceccikodaaDoorFour
namespace Go.Proofs.YtpppgceccikodaaDoor
open Go.ChangeShapes Go.WideShapes Go.ChangeAt Go.RowKit Go.Joins Go.Deep

section
variable {H : Type} {enc : TypeId × Value → H} {W : World} {v : Value} {d : DataW H} {p : List MemPlace} {r : Reach} {b0 : Nat}
theorem plate_cells {m : Nat} {cs : List Value} {y : DataW H × List MemPlace} (h : DataW.trod enc Tryd.prog W 0 (fun _ => true) true m 24 cs = some y) :
    ∃ q : Pd, cs = q.cells ∧ q.Ok W := by
  obtain ⟨hcl, ys, n, hy, hyl, hf⟩ := trod_fields Tryd.underlying24 (by kernel_rfl) (by kernel_rfl) h
  obtain ⟨v0, y0, c0, e0, t0⟩ := hf 0 _ rfl
  obtain ⟨v1, y1, c1, e1, t1⟩ := hf 1 _ rfl
  obtain ⟨v2, y2, c2, e2, t2⟩ := hf 2 _ rfl
  obtain ⟨a0, k0, _, _⟩ := DataW.trod_int Tryd.underlying3 t0
  obtain ⟨a1, k1, _, _⟩ := DataW.trod_int Tryd.underlying3 t1
  obtain ⟨A2, n2, q2, l2, k2, r2, f2, z2⟩ := ri_of_trod Tryd.underlying22 Tryd.underlying3 (by kernel_rfl) t2
  simp only [List.cons.injEq, and_true] at k0 k1
  subst k0 k1 k2
  match cs, hcl, c0, c1, c2 with
  | [w0, w1, w2], _, c0, c1, c2 =>
    simp only [List.getElem?_cons_zero, List.getElem?_cons_succ, Option.some.injEq] at c0 c1 c2
    subst c0 c1 c2
    exact ⟨⟨a0, a1, A2, n2, q2, l2⟩, rfl, r2⟩
theorem open_plate (hv : Value.okWide Tryd.prog W r b0 24 v) (h : DataW.Trod enc Tryd.prog W 0 (fun _ => true) true 24 v d p) :
    ∃ q : Pd, v = .agg #[.int .i64 q.w, .int .i64 q.h, .slice q.a q.n q.c] ∧ q.Ok W := by
  obtain ⟨cs, rfl, hsz⟩ := okWide_struct Tryd.underlying24 hv
  obtain ⟨fuel, hf⟩ := h
  simp only [Value.cells] at hf
  obtain ⟨q, hq, ho⟩ := plate_cells hf
  refine ⟨q, ?_, ho⟩
  obtain ⟨l⟩ := cs
  simp only at hq
  subst hq
  rfl
theorem open_four (hv : Value.okWide Tryd.prog W r b0 39 v) (h : DataW.Trod enc Tryd.prog W 0 (fun _ => true) true 39 v d p) :
    ∃ q0 q1 q2 q3 : Pd, v = arr4 q0 q1 q2 q3 ∧ q0.Ok W ∧ q1.Ok W ∧ q2.Ok W ∧ q3.Ok W := by
  simp only [Value.okWide, Tryd.underlying39] at hv
  obtain ⟨cs, rfl, hsz, _⟩ := hv
  obtain ⟨fuel, hf⟩ := h
  simp only [Value.cells] at hf
  obtain ⟨xs, m, _, _, hlen, hxl, hi⟩ := DataW.trod_array Tryd.underlying39 hf
  have h12 : cs.toList.length = 12 := hlen.trans (by kernel_rfl)
  have hce : Tryd.prog.cellsOf 24 = 3 := by kernel_rfl
  rw [hce] at hi
  have each : ∀ i, i < 4 → ∃ q : Pd, (cs.toList.drop (i * 3)).take 3 = q.cells ∧ q.Ok W := fun i hi4 => by
    have h1 := hi i hi4
    rw [List.getElem?_eq_getElem (by omega)] at h1
    exact plate_cells h1
  obtain ⟨q0, e0, o0⟩ := each 0 (by omega)
  obtain ⟨q1, e1, o1⟩ := each 1 (by omega)
  obtain ⟨q2, e2, o2⟩ := each 2 (by omega)
  obtain ⟨q3, e3, o3⟩ := each 3 (by omega)
  refine ⟨q0, q1, q2, q3, ?_, o0, o1, o2, o3⟩
  obtain ⟨l⟩ := cs
  simp only at h12 e0 e1 e2 e3
  match l, h12 with
  | [a0, a1, a2, a3, a4, a5, a6, a7, a8, a9, a10, a11], _ =>
    simp only [Pd.cells, Nat.zero_mul, Nat.one_mul, Nat.reduceMul, List.drop_zero, List.drop_succ_cons, List.take_succ_cons, List.take_zero, List.cons.injEq, and_true] at e0 e1 e2 e3
    obtain ⟨rfl, rfl, rfl⟩ := e0
    obtain ⟨rfl, rfl, rfl⟩ := e1
    obtain ⟨rfl, rfl, rfl⟩ := e2
    obtain ⟨rfl, rfl, rfl⟩ := e3
    rfl
end
end Go.Proofs.YtpppgceccikodaaDoor
