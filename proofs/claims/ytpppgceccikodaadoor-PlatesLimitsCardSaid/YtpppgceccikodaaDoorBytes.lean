/- Appending bytes, in the words of YtpppgceccikodaaDoorBase, at this program's types. -/
import Derived.Test.YtpppgceccikodaaDoorRows
import Derived.Test.YtpppgceccikodaaDoorBase
import Derived.Deep.AppendLies
import Derived.Lib.AppendStr
namespace Go.Proofs.YtpppgceccikodaaDoor
open Go.RowKit Go.Joins

theorem u8_info : (Tryd.prog.info? 5).map (fun i => (i.zero, i.size, i.bytes)) = some (some (.int .u8 0), 1, 1) := by kernel_rfl

/-- A slice of bytes that reads as l and may be appended to. -/
def TB (w : World) (base : Nat) (A : Option Addr) (n c : Nat) (l : List UInt8) : Prop := Tgt w base 5 1 (.slice A n c) n (l.map bv)
section
variable {w w' : World} {base n c : Nat} {A : Option Addr} {l : List UInt8}
theorem TB.rb (h : TB w base A n c l) : RB w A n c l := by
  obtain ⟨A', c', e, hr⟩ := Tgt.rd h
  injection e with e1 _ e3
  subst e1
  subst e3
  exact hr
theorem TB.len (h : TB w base A n c l) : l.length = n := h.rb.len
theorem TB.below (h : TB w base A n c l) (hb : Below w.heap.size w w') : TB w' base A n c l := Tgt.below h hb
theorem TB.le {base' : Nat} (h : TB w base A n c l) (hb : base' ≤ base) : TB w base' A n c l := Tgt.le h hb
theorem TB.nil (w : World) (base : Nat) : TB w base none 0 0 [] := Tgt.nil w base _ 1
theorem TB.full (h : RB w A n c l) : TB w base A n n l := Tgt.full h
end
/-- APPEND OF BYTES. -/
theorem append_b {ops : Array Oper} {rest : List Oper} {o : Oper} {a : Act} {Q : Exit → Act → World → Prop} (w : World) (hgd : o.guard = none) (sx x : Operand)
    (ho : o.op = .call { callee := .builtin .append, args := #[sx, x], argTypes := #[30, 30] })
    (base : Nat) (A : Option Addr) (n c : Nat) (l : List UInt8) (hs : a.eval sx = .slice A n c) (hv : TB w base A n c l)
    (A1 : Option Addr) (m c1 : Nat) (s : List UInt8) (hx : a.eval x = .slice A1 m c1) (hr : RB w A1 m c1 s)
    (hroom : n + m ≤ 140737488355328) (hbase : base ≤ w.heap.size)
    (h : ∀ A' n' c' w', TB w' base A' n' c' (l ++ s) → Below base w w' → wpList Tryd.prog ops Q rest (a.put o.dst (.slice A' n' c')) w') : wpList Tryd.prog ops Q (o :: rest) a w := by
  obtain ⟨i0, hi0, hz0, hz1, hz2⟩ := info_parts u8_info
  refine wpList_append_tgt w hgd sx x 30 ho base 5 i0 _ 1 1 Tryd.underlying30 hi0 hz0 hz1 hz2 rfl (by decide) _ n _ hs hv A1 m c1 _ hx hr (bv_one s) (by omega) (by decide) hbase ?_
  intro v' w' ht hb
  obtain ⟨A', c', rfl, hrd⟩ := ht.rd
  exact h A' (n + m) c' w' (by unfold TB; rw [List.map_append]; exact ht) hb
/-- APPEND OF BYTES, in a region that draws its order. -/
theorem step_append_b {ops : Array Oper} {o : Oper} {a : Act} {K : Act → World → Prop} {Q : Exit → Act → World → Prop} {E : Prop} (w : World) (hgd : o.guard = none) (sx x : Operand)
    (ho : o.op = .call { callee := .builtin .append, args := #[sx, x], argTypes := #[30, 30] })
    (base : Nat) (A : Option Addr) (n c : Nat) (l : List UInt8) (hs : a.eval sx = .slice A n c) (hv : TB w base A n c l)
    (A1 : Option Addr) (m c1 : Nat) (s : List UInt8) (hx : a.eval x = .slice A1 m c1) (hr : RB w A1 m c1 s)
    (hroom : n + m ≤ 140737488355328) (hbase : base ≤ w.heap.size)
    (h : ∀ A' n' c' w', TB w' base A' n' c' (l ++ s) → Below base w w' → K (a.put o.dst (.slice A' n' c')) w') :
    if Region.wanted o (yielded ops a.tmps) = true then Oper.wp Tryd.prog o a w K Q else E := by
  have hw : Region.wanted o (yielded ops a.tmps) = true := by simp [Region.wanted, hgd]
  rw [if_pos hw]
  obtain ⟨i0, hi0, hz0, hz1, hz2⟩ := info_parts u8_info
  refine wp_append_tgt w sx x 30 ho base 5 i0 _ 1 1 Tryd.underlying30 hi0 hz0 hz1 hz2 rfl (by decide) _ n _ hs hv A1 m c1 _ hx hr (bv_one s) (by omega) (by decide) hbase ?_
  intro v' w' ht hb
  obtain ⟨A', c', rfl, hrd⟩ := ht.rd
  exact h A' (n + m) c' w' (by unfold TB; rw [List.map_append]; exact ht) hb
/-- A slice of bytes in a row of the call's own. -/
def OB (w : World) (base : Nat) (A : Option Addr) (n c : Nat) (l : List UInt8) : Prop := w.ownsRow base 5 1 (.slice A n c) n (l.map bv)
section
variable {w w' : World} {base n c : Nat} {A : Option Addr} {l : List UInt8}
theorem OB.tb (h : OB w base A n c l) : TB w base A n c l := .inr h
theorem OB.rb (h : OB w base A n c l) : RB w A n c l := h.tb.rb
theorem OB.nil (w : World) (base : Nat) : OB w base none 0 0 [] := World.ownsRow_nil w base _ 1
theorem OB.below (h : OB w base A n c l) (hb : Below w.heap.size w w') : OB w' base A n c l := ownsRow_below h hb fun g hg => (World.ownsRow.lt h g hg).2
/-- Where it has an element: its row; what lies there; a store. -/
theorem OB.at_ (h : OB w base A n c l) (hn : 0 < n) : ∃ g, A = some ⟨g, 0, none⟩ ∧ base ≤ g ∧ g < w.heap.size ∧ (∀ j (hj : j < l.length), w.cell? ⟨g, j, none⟩ = some (.int .u8 (l[j].toNat : Int))) ∧
    (∀ j, w.frozen? ⟨g, j, none⟩ = false) ∧ ∀ j y, OB (w.setCell ⟨g, j, none⟩ (.int .u8 (y : UInt8).toNat)) base A n c (l.set j y) := by
  obtain ⟨g, cap, he, hbg, hg⟩ := World.ownsRow.form h hn
  injection he with e1 _ e3
  subst e1
  subst e3
  refine ⟨g, rfl, hbg, hg, fun j hj => ?_, fun j => World.ownsRow.frozenAt h j, fun j y => ?_⟩
  · have hlen := h.rb.len
    rw [World.ownsRow.cellAt h j (by omega), List.getElem?_map, List.getElem?_eq_getElem hj]
    rfl
  · have := (World.ownsRow.stored h j (bv y)).1
    unfold OB
    rwa [List.map_set]
end
/-- APPEND OF BYTES ONTO A ROW OF THE CALL's OWN. -/
theorem append_ob {ops : Array Oper} {rest : List Oper} {o : Oper} {a : Act} {Q : Exit → Act → World → Prop} (w : World) (hgd : o.guard = none) (sx x : Operand)
    (ho : o.op = .call { callee := .builtin .append, args := #[sx, x], argTypes := #[30, 30] })
    (base : Nat) (A : Option Addr) (n c : Nat) (l : List UInt8) (hs : a.eval sx = .slice A n c) (hv : OB w base A n c l)
    (A1 : Option Addr) (m c1 : Nat) (s : List UInt8) (hx : a.eval x = .slice A1 m c1) (hr : RB w A1 m c1 s)
    (hroom : n + m ≤ 140737488355328) (hbase : base ≤ w.heap.size)
    (h : ∀ A' n' c' w', OB w' base A' n' c' (l ++ s) → Below base w w' → wpList Tryd.prog ops Q rest (a.put o.dst (.slice A' n' c')) w') : wpList Tryd.prog ops Q (o :: rest) a w := by
  obtain ⟨i0, hi0, hz0, hz1, hz2⟩ := info_parts u8_info
  refine wpList_plain hgd fun K hK => wp_append_own_rd w sx x 30 ho base 5 i0 _ 1 1 Tryd.underlying30 hi0 hz0 hz1 hz2 rfl (by decide) _ n _ hs hv A1 m c1 _ hx hr (bv_one s) (by omega) (by decide) hbase ?_
  intro v' w' ht hb
  obtain ⟨A', c', rfl, hrd⟩ := Tgt.rd (.inr ht)
  exact hK _ _ (h A' (n + m) c' w' (by unfold OB; rw [List.map_append]; exact ht) hb)
/-- APPEND OF AT LEAST ONE BYTE: the result is the call's own. -/
theorem append_b1 {ops : Array Oper} {rest : List Oper} {o : Oper} {a : Act} {Q : Exit → Act → World → Prop} (w : World) (hgd : o.guard = none) (sx x : Operand)
    (ho : o.op = .call { callee := .builtin .append, args := #[sx, x], argTypes := #[30, 30] })
    (base : Nat) (A : Option Addr) (n c : Nat) (l : List UInt8) (hs : a.eval sx = .slice A n c) (hv : TB w base A n c l)
    (A1 : Option Addr) (m c1 : Nat) (s : List UInt8) (hx : a.eval x = .slice A1 m c1) (hr : RB w A1 m c1 s) (hm : 0 < m)
    (hroom : n + m ≤ 140737488355328) (hbase : base ≤ w.heap.size)
    (h : ∀ A' n' c' w', OB w' base A' n' c' (l ++ s) → Below base w w' → wpList Tryd.prog ops Q rest (a.put o.dst (.slice A' n' c')) w') : wpList Tryd.prog ops Q (o :: rest) a w := by
  obtain ⟨i0, hi0, hz0, hz1, hz2⟩ := info_parts u8_info
  refine wpList_plain hgd fun K hK => wp_append_tgt_pos w sx x 30 ho base 5 i0 _ 1 1 Tryd.underlying30 hi0 hz0 hz1 hz2 rfl (by decide) _ n _ hs hv A1 m c1 _ hx hr (bv_one s) hm (by omega) (by decide) hbase ?_
  intro v' w' ht hb
  obtain ⟨A', c', rfl, hrd⟩ := Tgt.rd (.inr ht)
  exact hK _ _ (h A' (n + m) c' w' (by unfold OB; rw [List.map_append]; exact ht) hb)
theorem strCells_bv (s : ByteArray) : Lib.strCells s = s.data.toList.map bv := rfl
/-- APPEND OF A STRING's BYTES ONTO A ROW OF THE CALL's OWN. -/
theorem append_os {ops : Array Oper} {rest : List Oper} {o : Oper} {a : Act} {Q : Exit → Act → World → Prop} (w : World) (hgd : o.guard = none) (sx x : Operand)
    (ho : o.op = .call { callee := .builtin .append, args := #[sx, x], argTypes := #[30, 9] })
    (base : Nat) (A : Option Addr) (n c : Nat) (l : List UInt8) (hs : a.eval sx = .slice A n c) (hv : OB w base A n c l) (s : ByteArray) (hx : a.eval x = .string s)
    (hroom : n + s.size ≤ 140737488355328) (hbase : base ≤ w.heap.size)
    (h : ∀ A' n' c' w', OB w' base A' n' c' (l ++ s.data.toList) → Below base w w' → wpList Tryd.prog ops Q rest (a.put o.dst (.slice A' n' c')) w') : wpList Tryd.prog ops Q (o :: rest) a w := by
  obtain ⟨i0, hi0, hz0, hz1, hz2⟩ := info_parts u8_info
  refine Lib.wpList_append_own_string w hgd sx x 30 9 ho base 5 i0 Tryd.underlying30 Tryd.underlying9 hi0 hz0 hz1 hz2 _ n _ hs hv s hx (by simp only [maxLen]; omega) hroom hbase ?_
  intro v' w' ht hg _
  obtain ⟨A', c', rfl, hrd⟩ := Tgt.rd (.inr ht)
  exact h A' (n + s.size) c' w' (by unfold OB; rw [List.map_append]; exact ht) ((Below.refl _ _).grown hg hbase fun k hk => (World.ownsRow.lt hv k hk).1)
/-- '[]byte{}' -/
theorem tb_empty (w : World) (base : Nat) : TB (w.alloc (.cells #[] 5)) base (some ⟨w.heap.size, 0, none⟩) 0 0 [] := by
  refine .inl ⟨_, rfl, ⟨rfl, Nat.le_refl _, by simp [maxLen], (fun h => by cases h), fun h => absurd h (by omega)⟩⟩
/-- WHAT A FUNCTION THAT RETURNS BYTES LEAVES: a slice that reads as l; nothing that was there has turned. -/
def RetB (w : World) (l : List UInt8) (e : Ending) (w' : World) : Prop := ∃ A n c, e = .returned (.slice A n c) ∧ RB w' A n c l ∧ Below w.heap.size w w'
/-- The same with an error number behind it. -/
def RetBE (w : World) (l : List UInt8) (k : Int) (e : Ending) (w' : World) : Prop := ∃ A n c, e = .returned (.tuple #[.slice A n c, .int .i64 k]) ∧ RB w' A n c l ∧ Below w.heap.size w w'
/-- One byte, as the walk lays it in a block of its own. -/
theorem rb_one (w : World) (x : UInt8) : RB (w.alloc (.cells #[.int .u8 (x.toNat : Int)] 5)) (some ⟨w.heap.size, 0, none⟩) 1 1 [x] := by
  refine ⟨rfl, Nat.le_refl _, by simp [maxLen], (fun h => by cases h), fun _ => ⟨_, 0, rfl, by simp, fun j u hu => ?_⟩⟩
  match j, hu with
  | 0, hu => simp [bv] at hu; subst hu; simp
theorem size_u8 (w : World) : (sizeOf 5).run Tryd.prog w = .ok 1 w := by
  obtain ⟨i0, hi0, hz0, hz1, hz2⟩ := info_parts u8_info
  simp [sizeOf, typeInfo, hi0, hz1]
theorem elem_bytes : Tryd.prog.elem 30 = 5 := by kernel_rfl
/-- 's[i:j]' of bytes: the address stays folded. -/
theorem run_cut_b (A : Option Addr) (n c i j : Nat) (I J : Int) (hI : I = (i : Int)) (hJ : J = (j : Int)) (hij : i ≤ j) (hjc : j ≤ c) (w : World) :
    (Instr.slice 30 (.slice A n c) (some (.int .i64 I)) (some (.int .i64 J)) none).run Tryd.prog w = .ok (.slice (cutA A i c 1) (j - i) (c - i)) w := by
  subst hI hJ
  rw [run_slice_lh w 30 A n c (by rw [elem_bytes]; exact Tryd.underlying30) .i64 .i64 _ _ (by omega) (by omega) (by omega), elem_bytes, size_u8]
  simp [sliced, cutA]
/-- 's[i:]' of bytes. -/
theorem run_from_b (A : Option Addr) (n c i : Nat) (I : Int) (hI : I = (i : Int)) (hin : i ≤ n) (w : World) :
    (Instr.slice 30 (.slice A n c) (some (.int .i64 I)) none none).run Tryd.prog w = .ok (.slice (cutA A i c 1) (n - i) (c - i)) w := by
  subst hI
  rw [run_slice_l w 30 A n c (by rw [elem_bytes]; exact Tryd.underlying30) .i64 _ (by omega) (by omega), elem_bytes, size_u8]
  simp [sliced, cutA]
/-- 's[i:j:k]' of bytes. -/
theorem run_cut3_b (A : Option Addr) (n c i j k : Nat) (I J K : Int) (hI : I = (i : Int)) (hJ : J = (j : Int)) (hK : K = (k : Int)) (hij : i ≤ j) (hjk : j ≤ k) (hkc : k ≤ c) (w : World) :
    (Instr.slice 30 (.slice A n c) (some (.int .i64 I)) (some (.int .i64 J)) (some (.int .i64 K))).run Tryd.prog w = .ok (.slice (cutA A i k 1) (j - i) (k - i)) w := by
  subst hI hJ hK
  rw [run_slice_lhm w 30 A n c (by rw [elem_bytes]; exact Tryd.underlying30) .i64 .i64 .i64 _ _ _ (by omega) (by omega) (by omega) (by omega), elem_bytes, size_u8]
  simp [sliced, cutA]
/-- A literal of bytes in a block of its own. -/
theorem rb_lit (w : World) (l : List UInt8) (m : Nat × Nat) (t : TypeId) (hl : l.length ≤ maxLen) : RB (w.alloc (.cells (l.map bv).toArray t m)) (some ⟨w.heap.size, 0, none⟩) l.length l.length l := by
  refine ⟨by simp, Nat.le_refl _, hl, (fun h => by cases h), fun _ => ⟨_, 0, rfl, by simp, fun j u hu => ?_⟩⟩
  rw [Nat.zero_add, World.cell?_alloc_mark]
  simpa using hu
end Go.Proofs.YtpppgceccikodaaDoor
