/- A device, a list of writes that came in. -/
import Derived.Test.YtpekbcoclmhcnaaDisk
namespace Go.Proofs.Ytpekbcoclmhcnaa
open Go.ChangeShapes Go.WideShapes Go.ChangeAt Go.RowKit Go.Joins Go.Deep

section
variable {H : Type} {enc : TypeId × Value → H} {W : World} {v : Value} {d : DataW H} {p : List MemPlace} {r : Reach} {b0 : Nat}
theorem sl_each (m : Nat) (cs : List Value) (y : DataW H × List MemPlace) (h : DataW.trod enc Try.prog W 0 (fun _ => true) true m 26 cs = some y) : ∃ z : Sl, cs = z.cells ∧ z.Ok W := by
  obtain ⟨vs, hcs⟩ : ∃ v, cs = [v] := by
    rcases open_slice Try.underlying26 h with ⟨hcs, _⟩ | ⟨a, len, cap, m, n, D, Pl, hcs, _⟩
    · exact ⟨_, hcs⟩
    · exact ⟨_, hcs⟩
  subst hcs
  obtain ⟨A, n, c, l, rfl, hr, _⟩ := rb_of_trod Try.underlying26 Try.underlying5 (by kernel_rfl) h
  exact ⟨⟨A, n, c, l⟩, rfl, hr⟩
theorem pe_each (m : Nat) (cs : List Value) (y : DataW H × List MemPlace) (h : DataW.trod enc Try.prog W 0 (fun _ => true) true m 53 cs = some y) : ∃ z : Pe, cs = z.cells ∧ z.s.Ok W := by
  obtain ⟨hcl, ys, n, hy, hyl, hf⟩ := trod_fields Try.underlying53 (by kernel_rfl) (by kernel_rfl) h
  obtain ⟨v0, y0, c0, e0, t0⟩ := hf 0 _ rfl
  obtain ⟨v1, y1, c1, e1, t1⟩ := hf 1 _ rfl
  obtain ⟨a0, k0, _, _⟩ := DataW.trod_int Try.underlying3 t0
  obtain ⟨A1, n1, q1, l1, k1, r1, _⟩ := rb_of_trod Try.underlying26 Try.underlying5 (by kernel_rfl) t1
  simp only [List.cons.injEq, and_true] at k0
  subst k0 k1
  match cs, hcl, c0, c1 with
  | [w0, w1], _, c0, c1 =>
    simp only [List.getElem?_cons_zero, List.getElem?_cons_succ, Option.some.injEq] at c0 c1
    subst c0 c1
    exact ⟨⟨a0, ⟨A1, n1, q1, l1⟩⟩, rfl, r1⟩
theorem mem_get {α : Type} {l : List α} {x : α} (h : x ∈ l) : ∃ i : Nat, l[i]? = some x := List.mem_iff_getElem?.1 h
theorem flat_one (S : List Sl) : S.flatMap Sl.cells = S.map Sl.v := by
  induction S with
  | nil => rfl
  | cons s S ih => simp only [List.flatMap_cons, List.map_cons, ih, Sl.cells]; rfl
theorem disk_cells {m : Nat} {cs : List Value} {y : DataW H × List MemPlace} (h : DataW.trod enc Try.prog W 0 (fun _ => true) true m 25 cs = some y) : ∃ q : Dk, cs = q.cells ∧ q.Ok W ∧ (Lit.int .i64 q.left).wf = true := by
  obtain ⟨hcl, ys, n, hy, hyl, hf⟩ := trod_fields Try.underlying25 (by kernel_rfl) (by kernel_rfl) h
  obtain ⟨v0, y0, c0, e0, t0⟩ := hf 0 _ rfl
  obtain ⟨v1, y1, c1, e1, t1⟩ := hf 1 _ rfl
  obtain ⟨v2, y2, c2, e2, t2⟩ := hf 2 _ rfl
  obtain ⟨v3, y3, c3, e3, t3⟩ := hf 3 _ rfl
  obtain ⟨A0, n0, q0, S, k0, r0, l0, x0⟩ := rows_of_trod (cells := Sl.cells) (s := 1) Try.underlying22 (by kernel_rfl) (by decide) (fun _ => rfl) (fun z _ => z.Ok W) sl_each t0
  obtain ⟨A1, n1, q1, P, k1, r1, l1, x1⟩ := rows_of_trod (cells := Pe.cells) (s := 2) Try.underlying23 (by kernel_rfl) (by decide) pe_two (fun z _ => z.s.Ok W) pe_each t1
  obtain ⟨a2, k2, _, f2⟩ := DataW.trod_int Try.underlying3 t2
  obtain ⟨b3, k3, _⟩ := DataW.trod_bool Try.underlying4 t3
  have o0 : ∀ z ∈ S, z.Ok W := fun z hz => by
    rcases x0 with ⟨_, rfl⟩ | ⟨D, sp, _, hq⟩
    · cases hz
    · obtain ⟨i, hi⟩ := mem_get hz
      exact hq i z hi
  have o1 : ∀ z ∈ P, z.s.Ok W := fun z hz => by
    rcases x1 with ⟨_, rfl⟩ | ⟨D, sp, _, hq⟩
    · cases hz
    · obtain ⟨i, hi⟩ := mem_get hz
      exact hq i z hi
  rw [flat_one] at r0
  simp only [List.cons.injEq, and_true] at k2 k3
  subst k0 k1 k2 k3
  match cs, hcl, c0, c1, c2, c3 with
  | [w0, w1, w2, w3], _, c0, c1, c2, c3 =>
    simp only [List.getElem?_cons_zero, List.getElem?_cons_succ, Option.some.injEq] at c0 c1 c2 c3
    subst c0 c1 c2 c3
    exact ⟨⟨A0, n0, q0, S, A1, n1, q1, P, a2, b3⟩, rfl, ⟨⟨r0, o0⟩, ⟨r1, o1⟩⟩, f2⟩
theorem open_disk (hv : Value.okWide Try.prog W r b0 25 v) (h : DataW.Trod enc Try.prog W 0 (fun _ => true) true 25 v d p) :
    ∃ q : Dk, v = .agg #[.slice q.a q.n q.c, .slice q.pa q.pn q.pc, .int .i64 q.left, .bool q.down] ∧ q.Ok W ∧ (Lit.int .i64 q.left).wf = true := by
  obtain ⟨cs, rfl, hsz⟩ := okWide_struct Try.underlying25 hv
  obtain ⟨fuel, hf⟩ := h
  simp only [Value.cells] at hf
  obtain ⟨q, hq, ho, hl⟩ := disk_cells hf
  refine ⟨q, ?_, ho, hl⟩
  obtain ⟨l⟩ := cs
  simp only at hq
  subst hq
  rfl
end
end Go.Proofs.Ytpekbcoclmhcnaa
