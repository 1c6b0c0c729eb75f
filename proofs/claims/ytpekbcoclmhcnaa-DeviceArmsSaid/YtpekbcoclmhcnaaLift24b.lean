/- A list of writes that came in. -/
import Derived.Test.YtpekbcoclmhcnaaLift24
import Derived.Test.YtpekbcoclmhcnaaLift
import Derived.Test.YtpekbcoclmhcnaaWritten
namespace Go.Proofs.Ytpekbcoclmhcnaa
open Go.ChangeShapes Go.WideShapes Go.ChangeAt Go.RowKit Go.Joins Go.Deep

section
variable {H : Type} {enc : TypeId × Value → H} {W : World} {v : Value} {d : DataW H} {p : List MemPlace} {r : Reach} {b0 : Nat}
theorem ow_each (m : Nat) (cs : List Value) (y : DataW H × List MemPlace) (h : DataW.trod enc Try.prog W 0 (fun _ => true) true m 55 cs = some y) : ∃ z : Ow, cs = z.cells ∧ True := by
  obtain ⟨hcl, ys, n, hy, hyl, hf⟩ := trod_fields Try.underlying55 (by kernel_rfl) (by kernel_rfl) h
  obtain ⟨v0, y0, c0, e0, t0⟩ := hf 0 _ rfl
  obtain ⟨v1, y1, c1, e1, t1⟩ := hf 1 _ rfl
  obtain ⟨a0, k0, _, _⟩ := DataW.trod_int Try.underlying3 t0
  obtain ⟨a1, k1, _, f1⟩ := DataW.trod_int Try.underlying5 t1
  obtain ⟨b1, rfl⟩ := byte_of_wf f1
  simp only [List.cons.injEq, and_true] at k0 k1
  subst k0 k1
  match cs, hcl, c0, c1 with
  | [w0, w1], _, c0, c1 =>
    simp only [List.getElem?_cons_zero, List.getElem?_cons_succ, Option.some.injEq] at c0 c1
    subst c0 c1
    exact ⟨⟨a0, b1⟩, rfl, trivial⟩
theorem open_ops (hv : Value.okWide Try.prog W r b0 47 v) (h : DataW.Trod enc Try.prog W 0 (fun _ => true) true 47 v d p) :
    ∃ (A : Option Addr) (n c : Nat) (l : List Ow), v = .slice A n c ∧ Rd W 2 A n c (l.flatMap Ow.cells) := by
  obtain ⟨A', n', c', rfl⟩ := okWide_slice Try.underlying47 hv
  obtain ⟨fuel, hf⟩ := h
  simp only [Value.cells] at hf
  obtain ⟨A, n, c, es, he, hr, hl, hd⟩ := rows_of_trod (cells := Ow.cells) (s := 2) Try.underlying47 (by kernel_rfl) (by decide) ow_two (fun _ _ => True) ow_each hf
  exact ⟨A, n, c, es, he, hr⟩
end
end Go.Proofs.Ytpekbcoclmhcnaa
