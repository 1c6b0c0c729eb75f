/- Appending ints, in the words of YtpppgceccikodaaDoorBase, at this program's types. -/
import Derived.Test.YtpppgceccikodaaDoorBytes
namespace Go.Proofs.YtpppgceccikodaaDoor
open Go.RowKit Go.Joins

theorem int_info : (Tryd.prog.info? 3).map (fun i => (i.zero, i.size, i.bytes)) = some (some (.int .i64 0), 1, 8) := by kernel_rfl
/-- A slice of ints in a row of the call's own. -/
def OI (w : World) (base : Nat) (A : Option Addr) (n c : Nat) (l : List Int) : Prop := w.ownsRow base 3 1 (.slice A n c) n (l.map iv)
section
variable {w w' : World} {base n c : Nat} {A : Option Addr} {l : List Int}
theorem OI.ri (h : OI w base A n c l) : RI w A n c l := Rd.own h
theorem OI.nil (w : World) (base : Nat) : OI w base none 0 0 [] := World.ownsRow_nil w base _ 1
theorem OI.below (h : OI w base A n c l) (hb : Below w.heap.size w w') : OI w' base A n c l := ownsRow_below h hb fun g hg => (World.ownsRow.lt h g hg).2
end
/-- APPEND OF INTS ONTO A ROW OF THE CALL's OWN. -/
theorem append_oi {ops : Array Oper} {rest : List Oper} {o : Oper} {a : Act} {Q : Exit → Act → World → Prop} (w : World) (hgd : o.guard = none) (sx x : Operand)
    (ho : o.op = .call { callee := .builtin .append, args := #[sx, x], argTypes := #[22, 22] })
    (base : Nat) (A : Option Addr) (n c : Nat) (l : List Int) (hs : a.eval sx = .slice A n c) (hv : OI w base A n c l)
    (A1 : Option Addr) (m c1 : Nat) (s : List Int) (hx : a.eval x = .slice A1 m c1) (hr : RI w A1 m c1 s)
    (hroom : (n + m) * 8 ≤ 140737488355328) (hbase : base ≤ w.heap.size)
    (h : ∀ A' n' c' w', OI w' base A' n' c' (l ++ s) → Below base w w' → wpList Tryd.prog ops Q rest (a.put o.dst (.slice A' n' c')) w') : wpList Tryd.prog ops Q (o :: rest) a w := by
  obtain ⟨i0, hi0, hz0, hz1, hz2⟩ := info_parts int_info
  refine wpList_plain hgd fun K hK => wp_append_own_rd w sx x 22 ho base 3 i0 _ 1 8 Tryd.underlying22 hi0 hz0 hz1 hz2 rfl (by decide) _ n _ hs hv A1 m c1 _ hx hr (iv_one s) hroom (by decide) hbase ?_
  intro v' w' ht hb
  obtain ⟨A', c', rfl, hrd⟩ := Tgt.rd (.inr ht)
  exact hK _ _ (h A' (n + m) c' w' (by unfold OI; rw [List.map_append]; exact ht) hb)
/-- One int, as the walk lays it in a block of its own. -/
theorem ri_one (w : World) (x : Int) : RI (w.alloc (.cells #[.int .i64 x] 3)) (some ⟨w.heap.size, 0, none⟩) 1 1 [x] := by
  refine ⟨rfl, Nat.le_refl _, by simp [maxLen], (fun h => by cases h), fun _ => ⟨_, 0, rfl, by simp, fun j u hu => ?_⟩⟩
  match j, hu with
  | 0, hu => simp [iv] at hu; subst hu; simp
/-- A literal of ints in a block of its own. -/
theorem ri_lit (w : World) (l : List Int) (m : Nat × Nat) (t : TypeId) (hl : l.length ≤ maxLen) : RI (w.alloc (.cells (l.map iv).toArray t m)) (some ⟨w.heap.size, 0, none⟩) l.length l.length l := by
  refine ⟨by simp, Nat.le_refl _, hl, (fun h => by cases h), fun _ => ⟨_, 0, rfl, by simp, fun j u hu => ?_⟩⟩
  rw [Nat.zero_add, World.cell?_alloc_mark]
  simpa using hu
end Go.Proofs.YtpppgceccikodaaDoor
