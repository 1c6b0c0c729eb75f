/- A list of items that came in. -/
import Derived.Test.YtogigdikpllieaaLaw02f
import Derived.Test.YtogigdikpllieaaBulk
namespace Go.Proofs.Ytogigdikpllieaa
open Go.ChangeShapes Go.WideShapes Go.ChangeAt Go.RowKit Go.Joins Go.Deep

section
variable {H : Type} {enc : TypeId × Value → H} {W : World} {v : Value} {d : DataW H} {p : List MemPlace} {r : Reach} {b0 : Nat}
theorem items_each (m : Nat) (cs : List Value) (y : DataW H × List MemPlace) (h : DataW.trod enc Try.prog W 0 (fun _ => true) true m 42 cs = some y) :
    ∃ z : Itm, cs = z.cells ∧ (RI W z.a z.m z.d z.x ∧ V.Ins z.x ∧ V.In z.n ∧ z.s.size + 1 ≤ Rows.uptoBulk y.1 ∧ z.m + 1 ≤ Rows.uptoBulk y.1) := by
  obtain ⟨hcl, ys, n, hy, hyl, hf⟩ := trod_fields Try.underlying42 (by kernel_rfl) (by kernel_rfl) h
  obtain ⟨v0, y0, c0, e0, t0⟩ := hf 0 _ rfl
  obtain ⟨v1, y1, c1, e1, t1⟩ := hf 1 _ rfl
  obtain ⟨v2, y2, c2, e2, t2⟩ := hf 2 _ rfl
  obtain ⟨v3, y3, c3, e3, t3⟩ := hf 3 _ rfl
  obtain ⟨a0, k0, _, _⟩ := DataW.trod_int Try.underlying3 t0
  obtain ⟨a1, k1, _, f1⟩ := DataW.trod_int Try.underlying3 t1
  obtain ⟨a2, k2, x2, _⟩ := DataW.trod_string Try.underlying9 t2
  obtain ⟨A3, n3, q3, l3, k3, r3, f3, z3⟩ := ri_of_trod Try.underlying34 Try.underlying3 (by kernel_rfl) t3
  simp only [List.cons.injEq, and_true] at k0 k1 k2
  subst k0 k1 k2 k3
  match cs, hcl, c0, c1, c2, c3 with
  | [w0, w1, w2, w3], _, c0, c1, c2, c3 =>
    simp only [List.getElem?_cons_zero, List.getElem?_cons_succ, Option.some.injEq] at c0 c1 c2 c3
    subst c0 c1 c2 c3
    refine ⟨⟨a0, a1, a2, A3, n3, q3, l3⟩, rfl, r3, fun z hz => bounds_i64 (f3 z hz), bounds_i64 f1, ?_, ?_⟩
    all_goals
      match ys, hyl, e0, e1, e2, e3 with
      | [u0, u1, u2, u3], _, e0, e1, e2, e3 =>
        simp only [List.getElem?_cons_zero, List.getElem?_cons_succ, Option.some.injEq] at e0 e1 e2 e3
        subst e0 e1 e2 e3
        rw [hy]
        simp only [List.map_cons, List.map_nil, Rows.uptoBulk, Rows.uptoBulkAll]
        have j2 : a2.size + 1 ≤ Rows.uptoBulk u2.1 := by rw [x2]; simp only [Rows.uptoBulk]; exact Nat.le_refl _
        have j3 := z3.bulk
        omega
theorem bulk_mem {D : Nat → DataW H} : ∀ (n i : Nat), i < n → Rows.uptoBulk (D i) ≤ Rows.uptoBulkAll ((List.range n).map D)
  | n, i, h => by
    have : ∀ (l : List (DataW H)) (x : DataW H), x ∈ l → Rows.uptoBulk x ≤ Rows.uptoBulkAll l := by
      intro l
      induction l with
      | nil => intro x hx; cases hx
      | cons a l ih =>
        intro x hx
        simp only [Rows.uptoBulkAll]
        rcases List.mem_cons.1 hx with rfl | hx
        · omega
        · have := ih x hx; omega
    exact this _ _ (List.mem_map.2 ⟨i, List.mem_range.2 h, rfl⟩)
theorem open_items (hv : Value.okWide Try.prog W r b0 40 v) (h : DataW.Trod enc Try.prog W 0 (fun _ => true) true 40 v d p) (hB : Rows.uptoBulk d ≤ 1048576) :
    ∃ A n c l, v = .slice A n c ∧ RIt W A n c l := by
  obtain ⟨A', n', c', rfl⟩ := okWide_slice Try.underlying40 hv
  obtain ⟨fuel, hf⟩ := h
  simp only [Value.cells] at hf
  obtain ⟨A, n, c, es, he, hr, hl, hd⟩ := rows_of_trod (cells := Itm.cells) (s := 4) Try.underlying40 (by kernel_rfl) (by omega) (fun _ => rfl) (fun z y => RI W z.a z.m z.d z.x ∧ V.Ins z.x ∧ V.In z.n ∧ z.s.size + 1 ≤ Rows.uptoBulk y ∧ z.m + 1 ≤ Rows.uptoBulk y) items_each hf
  refine ⟨A, n, c, es, he, hr, fun t ht => ?_⟩
  rcases hd with ⟨_, rfl⟩ | ⟨D, sp, hx, hQ⟩
  · cases ht
  · obtain ⟨i, hi⟩ := List.getElem?_of_mem ht
    obtain ⟨q1, q2, q3, q4, q5⟩ := hQ i t hi
    have hlt : i < n := by have := (List.getElem?_eq_some_iff.1 hi).1; omega
    have hb := bulk_mem (D := D) n i hlt
    simp only at hx
    rw [hx] at hB
    simp only [Rows.uptoBulk] at hB
    exact ⟨q1, q2, q3, by omega, by omega⟩
end
end Go.Proofs.Ytogigdikpllieaa
