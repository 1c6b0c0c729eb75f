/- Words for memory, over any program: a slice that reads as cells; a slice that may be appended to; the laws on append in those words; rules on machine integers as bit vectors. -/
import Derived.WalkKit
import Derived.WalkLawsBesides
import Derived.WalkSpells
import Derived.Outline
import Derived.ArgAppend
import Derived.Deep.Draws
import Derived.Laws.CopyOwn
import Derived.Laws.BytesArg
import Derived.Laws.BitsAllLaws
import Derived.Laws.BitsLemmas
import Derived.StillTailTactics
import Derived.Lib.Hide
import Derived.Lib.SmallJoins
namespace Go.Proofs.YtpppgceccikodaaDoor
open Go.RowKit Go.Joins

/-- A fact kept from the walk AND from every look at its head ('contradiction' opens 'Hid' and runs away at great numerals). -/
structure Keep (p : Prop) : Prop where
  out : p

/-! ### A slice that reads as cells -/
/-- The slice value '.slice A n c' of elements of s cells reads as the cells xs in w. -/
structure Rd (w : World) (s : Nat) (A : Option Addr) (n c : Nat) (xs : List Value) : Prop where
  len : xs.length = n * s
  cap : n ≤ c
  big : c ≤ maxLen
  nil : A = none → c = 0
  mem : 0 < n → ∃ b o, A = some ⟨b, o, none⟩ ∧ b < w.heap.size ∧ ∀ j u, xs[j]? = some u → w.cell? ⟨b, o + j, none⟩ = some u

section
variable {w w' : World} {s n c : Nat} {A : Option Addr} {xs : List Value}
theorem Rd.none_ (w : World) (s : Nat) : Rd w s none 0 0 [] := ⟨by simp, Nat.le_refl _, by simp [maxLen], fun _ => rfl, fun h => absurd h (by omega)⟩
theorem Rd.below (h : Rd w s A n c xs) (hb : Below w.heap.size w w') : Rd w' s A n c xs :=
  ⟨h.len, h.cap, h.big, h.nil, fun hn => by
    obtain ⟨b, o, e, hlt, hc⟩ := h.mem hn
    exact ⟨b, o, e, Nat.lt_of_lt_of_le hlt hb.size, fun j u hu => (hb.cell (p := ⟨b, o + j, none⟩) hlt).trans (hc j u hu)⟩⟩
/-- Below a number of blocks under which all of it lies. -/
theorem Rd.below' {B : Nat} (h : Rd w s A n c xs) (hb : Below B w w') (hB : ∀ a, A = some a → a.block < B) : Rd w' s A n c xs :=
  ⟨h.len, h.cap, h.big, h.nil, fun hn => by
    obtain ⟨b, o, e, hlt, hc⟩ := h.mem hn
    exact ⟨b, o, e, Nat.lt_of_lt_of_le hlt hb.size, fun j u hu => (hb.cell (p := ⟨b, o + j, none⟩) (show b < B from hB ⟨b, o, none⟩ e)).trans (hc j u hu)⟩⟩
theorem Rd.drewN (h : Rd w s A n c xs) (k : Nat) : Rd (w.drewN k) s A n c xs := h.below (below_draws _ _ _)
theorem Rd.alloc (h : Rd w s A n c xs) (o : Obj) : Rd (w.alloc o) s A n c xs := h.below (below_alloc1 _ _)
theorem Rd.own {base : Nat} {e : TypeId} (h : w.ownsRow base e s (.slice A n c) n xs) : Rd w s A n c xs := by
  rcases h.2 with ⟨hv, hn⟩ | ⟨g, cap, cur, hv, _, hg, hnc, hm, _, _⟩
  · simp only [Value.slice.injEq] at hv
    obtain ⟨rfl, rfl, rfl⟩ := hv
    have : xs = [] := List.eq_nil_of_length_eq_zero (by have := h.1; simpa using this)
    subst this
    exact Rd.none_ w s
  · simp only [Value.slice.injEq] at hv
    obtain ⟨rfl, _, rfl⟩ := hv
    refine ⟨h.1, hnc, hm, (fun h => by cases h), fun _ => ⟨g, 0, rfl, (Array.getElem?_eq_some_iff.1 hg).1, fun j u hu => ?_⟩⟩
    have := h.cells (g := g) rfl j u hu
    rwa [Addr.add_lit] at this
end

/-- The address of 's[l:]' in a slice whose bound is m. Kept folded: the walk does not part on it. -/
def cutA (A : Option Addr) (l m s : Nat) : Option Addr := if m = l then A else A.map (·.add (l * s))
theorem cutA_zero (A : Option Addr) (m s : Nat) : cutA A 0 m s = A := by
  unfold cutA
  split
  · rfl
  · cases A <;> simp [Addr.add]
theorem Rd.cut {w : World} {s n c : Nat} {A : Option Addr} {xs : List Value} (h : Rd w s A n c xs) {i j m : Nat} (hij : i ≤ j) (hjn : j ≤ n) (hjm : j ≤ m) (hmc : m ≤ c) :
    Rd w s (cutA A i m s) (j - i) (m - i) ((xs.take (j * s)).drop (i * s)) := by
  refine ⟨?_, by omega, by have := h.big; omega, fun hA => ?_, fun hn => ?_⟩
  · rw [List.length_drop, List.length_take, h.len, Nat.min_eq_left (Nat.mul_le_mul_right _ hjn), Nat.sub_mul]
  · have : A = none := by
      unfold cutA at hA
      split at hA
      · exact hA
      · cases A <;> simp at hA ⊢
    have := h.nil this
    omega
  · obtain ⟨b, o, rfl, hlt, hc⟩ := h.mem (by omega)
    refine ⟨b, o + i * s, ?_, hlt, fun k u hu => ?_⟩
    · unfold cutA
      rw [if_neg (by omega)]
      simp only [Option.map_some, Addr.add]
      split <;> simp_all
    · rw [List.getElem?_drop, List.getElem?_take] at hu
      split at hu
      · rw [Nat.add_assoc]
        exact hc _ u hu
      · cases hu
theorem Rd.cut1 {w : World} {n c : Nat} {A : Option Addr} {xs : List Value} (h : Rd w 1 A n c xs) {i j m : Nat} (hij : i ≤ j) (hjn : j ≤ n) (hjm : j ≤ m) (hmc : m ≤ c) :
    Rd w 1 (cutA A i m 1) (j - i) (m - i) ((xs.take j).drop i) := by
  simpa using h.cut hij hjn hjm hmc
/-- A cell of it. -/
theorem Rd.at_ {w : World} {n c : Nat} {A : Option Addr} {xs : List Value} (h : Rd w 1 A n c xs) {k : Nat} (hk : k < n) :
    ∃ b o u, A = some ⟨b, o, none⟩ ∧ b < w.heap.size ∧ xs[k]? = some u ∧ w.cell? ⟨b, o + k, none⟩ = some u := by
  obtain ⟨b, o, e, hlt, hc⟩ := h.mem (by omega)
  have hl : k < xs.length := by have := h.len; omega
  exact ⟨b, o, xs[k], e, hlt, List.getElem?_eq_getElem hl, hc k _ (List.getElem?_eq_getElem hl)⟩

/-! ### Bytes and ints -/
/-- A byte's cell. -/
def bv (c : UInt8) : Value := .int .u8 (c.toNat : Int)
/-- An int's cell. -/
def iv (n : Int) : Value := .int .i64 n
theorem bv_one (l : List UInt8) : ∀ u ∈ l.map bv, u.oneCell' = true := by
  intro u hu
  obtain ⟨_, _, rfl⟩ := List.mem_map.1 hu
  rfl
theorem iv_one (l : List Int) : ∀ u ∈ l.map iv, u.oneCell' = true := by
  intro u hu
  obtain ⟨_, _, rfl⟩ := List.mem_map.1 hu
  rfl
theorem bv_inj {a b : UInt8} (h : bv a = bv b) : a = b := by
  simp only [bv, Value.int.injEq, true_and] at h
  exact UInt8.toNat_inj.1 (by omega)
/-- A slice of bytes reads as l. -/
def RB (w : World) (A : Option Addr) (n c : Nat) (l : List UInt8) : Prop := Rd w 1 A n c (l.map bv)
/-- A slice of ints reads as l. -/
def RI (w : World) (A : Option Addr) (n c : Nat) (l : List Int) : Prop := Rd w 1 A n c (l.map iv)
section
variable {w w' : World} {n c : Nat} {A : Option Addr} {l : List UInt8} {m : List Int}
theorem RB.len (h : RB w A n c l) : l.length = n := by have := Rd.len h; simpa using this
theorem RB.cap (h : RB w A n c l) : n ≤ c := Rd.cap h
theorem RB.big (h : RB w A n c l) : c ≤ maxLen := Rd.big h
theorem RB.below (h : RB w A n c l) (hb : Below w.heap.size w w') : RB w' A n c l := Rd.below h hb
theorem RB.at_ (h : RB w A n c l) {k : Nat} (hk : k < l.length) : ∃ b o, A = some ⟨b, o, none⟩ ∧ b < w.heap.size ∧ w.cell? ⟨b, o + k, none⟩ = some (.int .u8 (l[k].toNat : Int)) := by
  obtain ⟨b, o, u, e, hlt, hu, hc⟩ := Rd.at_ h (k := k) (by have := h.len; omega)
  rw [List.getElem?_map, List.getElem?_eq_getElem hk] at hu
  simp only [Option.map_some, Option.some.injEq] at hu
  subst hu
  exact ⟨b, o, e, hlt, hc⟩
theorem RB.cut (h : RB w A n c l) {i j m : Nat} (hij : i ≤ j) (hjn : j ≤ n) (hjm : j ≤ m) (hmc : m ≤ c) : RB w (cutA A i m 1) (j - i) (m - i) ((l.take j).drop i) := by
  have := Rd.cut1 h hij hjn hjm hmc
  unfold RB
  rwa [List.map_drop, List.map_take]
theorem RB.none_ (w : World) : RB w none 0 0 [] := Rd.none_ w 1
theorem RI.len (h : RI w A n c m) : m.length = n := by have := Rd.len h; simpa using this
theorem RI.cap (h : RI w A n c m) : n ≤ c := Rd.cap h
theorem RI.big (h : RI w A n c m) : c ≤ maxLen := Rd.big h
theorem RI.below (h : RI w A n c m) (hb : Below w.heap.size w w') : RI w' A n c m := Rd.below h hb
theorem RI.at_ (h : RI w A n c m) {k : Nat} (hk : k < m.length) : ∃ b o, A = some ⟨b, o, none⟩ ∧ b < w.heap.size ∧ w.cell? ⟨b, o + k, none⟩ = some (.int .i64 m[k]) := by
  obtain ⟨b, o, u, e, hlt, hu, hc⟩ := Rd.at_ h (k := k) (by have := h.len; omega)
  rw [List.getElem?_map, List.getElem?_eq_getElem hk] at hu
  simp only [Option.map_some, Option.some.injEq] at hu
  subst hu
  exact ⟨b, o, e, hlt, hc⟩
theorem RI.none_ (w : World) : RI w none 0 0 [] := Rd.none_ w 1
end

/-! ### A slice that may be appended to -/
/-- The slice value v of n elements reads as xs, and either has no room (an append makes a new row), or its row is one of the blocks from base on. -/
def Tgt (w : World) (base : Nat) (e : TypeId) (s : Nat) (v : Value) (n : Nat) (xs : List Value) : Prop :=
  (∃ A, v = .slice A n n ∧ Rd w s A n n xs) ∨ w.ownsRow base e s v n xs
section
variable {w w' : World} {base : Nat} {e : TypeId} {s n : Nat} {v : Value} {xs : List Value}
theorem Tgt.rd (h : Tgt w base e s v n xs) : ∃ A c, v = .slice A n c ∧ Rd w s A n c xs := by
  rcases h with ⟨A, rfl, h⟩ | h
  · exact ⟨A, n, rfl, h⟩
  · rcases ownsRow_forms h with ⟨rfl, rfl⟩ | ⟨g, cap, rfl, _⟩
    · exact ⟨none, 0, rfl, Rd.own h⟩
    · exact ⟨_, _, rfl, Rd.own h⟩
theorem ownsRow_below {B : Nat} (h : w.ownsRow base e s v n xs) (hb : Below B w w') (hB : ∀ g, v.ownBlock = some g → g < B) : w'.ownsRow base e s v n xs := by
  refine ⟨h.1, ?_⟩
  rcases h.2 with h' | ⟨g, cap, cur, rfl, hbg, hg, rest⟩
  · exact .inl h'
  · exact .inr ⟨g, cap, cur, rfl, hbg, by rw [hb.block g (hB g rfl)]; exact hg, rest⟩
theorem Tgt.below (h : Tgt w base e s v n xs) (hb : Below w.heap.size w w') : Tgt w' base e s v n xs := by
  rcases h with ⟨A, rfl, h⟩ | h
  · exact .inl ⟨A, rfl, h.below hb⟩
  · exact .inr (ownsRow_below h hb fun g hg => (h.lt g hg).2)
theorem Tgt.le {base' : Nat} (h : Tgt w base e s v n xs) (hb : base' ≤ base) : Tgt w base' e s v n xs := by
  rcases h with h | h
  · exact .inl h
  · exact .inr (ownsRow_le h hb)
theorem Tgt.nil (w : World) (base : Nat) (e : TypeId) (s : Nat) : Tgt w base e s (.slice none 0 0) 0 [] := .inr (World.ownsRow_nil w base e s)
theorem Tgt.full {A : Option Addr} {c : Nat} (h : Rd w s A n c xs) : Tgt w base e s (.slice A n n) n xs := by
  refine .inl ⟨A, rfl, ⟨h.len, Nat.le_refl _, Nat.le_trans h.cap h.big, fun hA => ?_, h.mem⟩⟩
  have := h.nil hA
  have := h.cap
  omega
end

section
variable {P : Program} (w : World)
theorem firstCells_zero (P : Program) (w : World) (s : Nat) (A : Option Addr) (l c : Nat) : (Builtin.firstCells s 0 (.slice A l c)).run P w = .ok #[] w := by
  cases A with
  | none => exact run_firstCells_none w s 0 l c
  | some a => exact run_firstCells_some (P := P) w s 0 a l c [] (by simp) (fun j v h => by simp at h)
theorem run_append_zero (t ty e : TypeId) (i : TypeInfo) (ht : P.underlying t = some (.slice e)) (hi : P.info? e = some i) (A A' : Option Addr) (n c c' : Nat) (hnc : n ≤ c) :
    (Builtin.append_ #[t, t] ty #[.slice A n c, .slice A' 0 c']).run P w = .ok (.slice A n c) w := by
  have hf := firstCells_zero P w i.size A' 0 c'
  cases A <;> simp [Builtin.append_, run_underlying ht, sizeOf, typeInfo, hi, Builtin.lenOf, hf, hnc, storeCells]
/-- APPEND, WHATEVER THE SOURCE (nil, empty or not) AND WHATEVER THE TARGET (nil, without room, or the call's own). -/
theorem run_append_tgt (base : Nat) (t ty e : TypeId) (i : TypeInfo) (z : Value) (s bytes : Nat) (ht : P.underlying t = some (.slice e)) (hi : P.info? e = some i) (hz : i.zero = some z)
    (hsize : i.size = s) (hby : i.bytes = bytes) (hzs : z.cells.size = s) (hsz : 0 < s)
    (v : Value) (n : Nat) (xs : List Value) (hv : Tgt w base e s v n xs)
    (A : Option Addr) (m c : Nat) (news : List Value) (hr : Rd w s A m c news) (h1 : ∀ u ∈ news, u.oneCell' = true)
    (hbytes : (n + m) * bytes ≤ 140737488355328) (hpos : 0 < bytes) (hbase : base ≤ w.heap.size) :
    ∃ v' w', (Builtin.append_ #[t, t] ty #[v, .slice A m c]).run P w = .ok v' w' ∧ Tgt w' base e s v' (n + m) (xs ++ news) ∧ Below base w w' := by
  have hsum : n + m ≤ 140737488355328 := Nat.le_trans (Nat.le_mul_of_pos_right _ hpos) hbytes
  have h63 : n + m ≤ maxLen := by simp only [maxLen]; omega
  rcases Nat.eq_zero_or_pos m with hm | hm
  · subst hm
    have hnil : news = [] := List.eq_nil_of_length_eq_zero (by have := hr.len; simpa using this)
    subst hnil
    obtain ⟨A', c', rfl, hrd⟩ := hv.rd
    exact ⟨_, w, run_append_zero w t ty e i ht hi A' A n c' c hrd.cap, by simpa using hv, Below.refl _ _⟩
  · obtain ⟨b, o, rfl, hlt, hc⟩ := hr.mem hm
    have hcells : ∀ j u, news[j]? = some u → w.cell? ((⟨b, o, none⟩ : Addr).add j) = some u := fun j u hu => by rw [Addr.add_lit]; exact hc j u hu
    rcases hv with ⟨A', rfl, hrd⟩ | hown
    · rcases Nat.eq_zero_or_pos n with hn | hn
      · subst hn
        have hx : xs = [] := List.eq_nil_of_length_eq_zero (by have := hrd.len; simpa using this)
        subst hx
        cases A' with
        | none =>
          obtain ⟨v', w', hrun, h2, h3, _⟩ := run_append_own (P := P) w base t ty e i z s bytes ht hi hz hsize hby hzs hsz _ 0 [] (World.ownsRow_nil w base e s) _ m c news hr.len hcells h1 h63 hbytes hbase
          exact ⟨v', w', hrun, .inr h2, (Below.refl _ _).grown h3 hbase (by simp [Value.ownBlock])⟩
        | some a =>
          obtain ⟨v', w', hrun, h2, h3⟩ := run_append_arg_grows (P := P) w t ty e i z s bytes ht hi hz hsize hby hzs hsz a 0 0 [] (by simp) (fun j u h => by simp at h) _ m c news hr.len hcells (by omega) h63 hbytes
          exact ⟨v', w', hrun, .inr (ownsRow_le h2 hbase), (Below.refl _ _).grown h3 hbase (by simp)⟩
      · obtain ⟨b', o', rfl, _, hc'⟩ := hrd.mem hn
        obtain ⟨v', w', hrun, h2, h3⟩ := run_append_arg_grows (P := P) w t ty e i z s bytes ht hi hz hsize hby hzs hsz ⟨b', o', none⟩ n n xs hrd.len (fun j u h => by rw [Addr.add_lit]; exact hc' j u h) _ m c news hr.len hcells (by omega) h63 hbytes
        exact ⟨v', w', hrun, .inr (ownsRow_le h2 hbase), (Below.refl _ _).grown h3 hbase (by simp)⟩
    · obtain ⟨v', w', hrun, h2, h3, _⟩ := run_append_own (P := P) w base t ty e i z s bytes ht hi hz hsize hby hzs hsz v n xs hown _ m c news hr.len hcells h1 h63 hbytes hbase
      exact ⟨v', w', hrun, .inr h2, (Below.refl _ _).grown h3 hbase fun k hk => (hown.lt k hk).1⟩

theorem wp_append_tgt {o : Oper} {a : Act} {K : Act → World → Prop} {Q : Exit → Act → World → Prop} (sx x : Operand) (t : TypeId)
    (ho : o.op = .call { callee := .builtin .append, args := #[sx, x], argTypes := #[t, t] })
    (base : Nat) (e : TypeId) (i : TypeInfo) (z : Value) (s bytes : Nat) (ht : P.underlying t = some (.slice e)) (hi : P.info? e = some i) (hz : i.zero = some z)
    (hsize : i.size = s) (hby : i.bytes = bytes) (hzs : z.cells.size = s) (hsz : 0 < s)
    (v : Value) (n : Nat) (xs : List Value) (hs : a.eval sx = v) (hv : Tgt w base e s v n xs)
    (A : Option Addr) (m c : Nat) (news : List Value) (hx : a.eval x = .slice A m c) (hr : Rd w s A m c news) (h1 : ∀ u ∈ news, u.oneCell' = true)
    (hbytes : (n + m) * bytes ≤ 140737488355328) (hpos : 0 < bytes) (hbase : base ≤ w.heap.size)
    (h : ∀ v' w', Tgt w' base e s v' (n + m) (xs ++ news) → Below base w w' → K (a.put o.dst v') w') : o.wp P a w K Q := by
  obtain ⟨v', w', hrun, h2, h3⟩ := run_append_tgt (P := P) w base t o.type e i z s bytes ht hi hz hsize hby hzs hsz v n xs hv A m c news hr h1 hbytes hpos hbase
  unfold Oper.wp execOp
  simp only [ho, resolve, invoke, builtin, Sem.run_bind, Sem.run_pure, Result.andThen_ok, List.map_toArray, List.map_cons, List.map_nil, hs, hx, hrun]
  exact h v' w' h2 h3

theorem wpList_append_tgt {ops : Array Oper} {rest : List Oper} {o : Oper} {a : Act} {Q : Exit → Act → World → Prop} (hgd : o.guard = none) (sx x : Operand) (t : TypeId)
    (ho : o.op = .call { callee := .builtin .append, args := #[sx, x], argTypes := #[t, t] })
    (base : Nat) (e : TypeId) (i : TypeInfo) (z : Value) (s bytes : Nat) (ht : P.underlying t = some (.slice e)) (hi : P.info? e = some i) (hz : i.zero = some z)
    (hsize : i.size = s) (hby : i.bytes = bytes) (hzs : z.cells.size = s) (hsz : 0 < s)
    (v : Value) (n : Nat) (xs : List Value) (hs : a.eval sx = v) (hv : Tgt w base e s v n xs)
    (A : Option Addr) (m c : Nat) (news : List Value) (hx : a.eval x = .slice A m c) (hr : Rd w s A m c news) (h1 : ∀ u ∈ news, u.oneCell' = true)
    (hbytes : (n + m) * bytes ≤ 140737488355328) (hpos : 0 < bytes) (hbase : base ≤ w.heap.size)
    (h : ∀ v' w', Tgt w' base e s v' (n + m) (xs ++ news) → Below base w w' → wpList P ops Q rest (a.put o.dst v') w') : wpList P ops Q (o :: rest) a w :=
  wpList_plain hgd fun _ hK => wp_append_tgt w sx x t ho base e i z s bytes ht hi hz hsize hby hzs hsz v n xs hs hv A m c news hx hr h1 hbytes hpos hbase fun v' w' h2 h3 => hK _ _ (h v' w' h2 h3)
end
section
variable {P : Program} (w : World)
/-- APPEND OF AT LEAST ONE ELEMENT, WHATEVER THE TARGET: the result is the call's own. -/
theorem run_append_tgt_pos (base : Nat) (t ty e : TypeId) (i : TypeInfo) (z : Value) (s bytes : Nat) (ht : P.underlying t = some (.slice e)) (hi : P.info? e = some i) (hz : i.zero = some z)
    (hsize : i.size = s) (hby : i.bytes = bytes) (hzs : z.cells.size = s) (hsz : 0 < s)
    (v : Value) (n : Nat) (xs : List Value) (hv : Tgt w base e s v n xs)
    (A : Option Addr) (m c : Nat) (news : List Value) (hr : Rd w s A m c news) (h1 : ∀ u ∈ news, u.oneCell' = true) (hm : 0 < m)
    (hbytes : (n + m) * bytes ≤ 140737488355328) (hpos : 0 < bytes) (hbase : base ≤ w.heap.size) :
    ∃ v' w', (Builtin.append_ #[t, t] ty #[v, .slice A m c]).run P w = .ok v' w' ∧ w'.ownsRow base e s v' (n + m) (xs ++ news) ∧ Below base w w' := by
  have hsum : n + m ≤ 140737488355328 := Nat.le_trans (Nat.le_mul_of_pos_right _ hpos) hbytes
  have h63 : n + m ≤ maxLen := by simp only [maxLen]; omega
  obtain ⟨b, o, rfl, hlt, hc⟩ := hr.mem hm
  have hcells : ∀ j u, news[j]? = some u → w.cell? ((⟨b, o, none⟩ : Addr).add j) = some u := fun j u hu => by rw [Addr.add_lit]; exact hc j u hu
  rcases hv with ⟨A', rfl, hrd⟩ | hown
  · rcases Nat.eq_zero_or_pos n with hn | hn
    · subst hn
      have hx : xs = [] := List.eq_nil_of_length_eq_zero (by have := hrd.len; simpa using this)
      subst hx
      cases A' with
      | none =>
        obtain ⟨v', w', hrun, h2, h3, _⟩ := run_append_own (P := P) w base t ty e i z s bytes ht hi hz hsize hby hzs hsz _ 0 [] (World.ownsRow_nil w base e s) _ m c news hr.len hcells h1 h63 hbytes hbase
        exact ⟨v', w', hrun, h2, (Below.refl _ _).grown h3 hbase (by simp [Value.ownBlock])⟩
      | some a =>
        obtain ⟨v', w', hrun, h2, h3⟩ := run_append_arg_grows (P := P) w t ty e i z s bytes ht hi hz hsize hby hzs hsz a 0 0 [] (by simp) (fun j u h => by simp at h) _ m c news hr.len hcells (by omega) h63 hbytes
        exact ⟨v', w', hrun, ownsRow_le h2 hbase, (Below.refl _ _).grown h3 hbase (by simp)⟩
    · obtain ⟨b', o', rfl, _, hc'⟩ := hrd.mem hn
      obtain ⟨v', w', hrun, h2, h3⟩ := run_append_arg_grows (P := P) w t ty e i z s bytes ht hi hz hsize hby hzs hsz ⟨b', o', none⟩ n n xs hrd.len (fun j u h => by rw [Addr.add_lit]; exact hc' j u h) _ m c news hr.len hcells (by omega) h63 hbytes
      exact ⟨v', w', hrun, ownsRow_le h2 hbase, (Below.refl _ _).grown h3 hbase (by simp)⟩
  · obtain ⟨v', w', hrun, h2, h3, _⟩ := run_append_own (P := P) w base t ty e i z s bytes ht hi hz hsize hby hzs hsz v n xs hown _ m c news hr.len hcells h1 h63 hbytes hbase
    exact ⟨v', w', hrun, h2, (Below.refl _ _).grown h3 hbase fun k hk => (hown.lt k hk).1⟩
theorem wp_append_tgt_pos {o : Oper} {a : Act} {K : Act → World → Prop} {Q : Exit → Act → World → Prop} (sx x : Operand) (t : TypeId)
    (ho : o.op = .call { callee := .builtin .append, args := #[sx, x], argTypes := #[t, t] })
    (base : Nat) (e : TypeId) (i : TypeInfo) (z : Value) (s bytes : Nat) (ht : P.underlying t = some (.slice e)) (hi : P.info? e = some i) (hz : i.zero = some z)
    (hsize : i.size = s) (hby : i.bytes = bytes) (hzs : z.cells.size = s) (hsz : 0 < s)
    (v : Value) (n : Nat) (xs : List Value) (hs : a.eval sx = v) (hv : Tgt w base e s v n xs)
    (A : Option Addr) (m c : Nat) (news : List Value) (hx : a.eval x = .slice A m c) (hr : Rd w s A m c news) (h1 : ∀ u ∈ news, u.oneCell' = true) (hm : 0 < m)
    (hbytes : (n + m) * bytes ≤ 140737488355328) (hpos : 0 < bytes) (hbase : base ≤ w.heap.size)
    (h : ∀ v' w', w'.ownsRow base e s v' (n + m) (xs ++ news) → Below base w w' → K (a.put o.dst v') w') : o.wp P a w K Q := by
  obtain ⟨v', w', hrun, h2, h3⟩ := run_append_tgt_pos (P := P) w base t o.type e i z s bytes ht hi hz hsize hby hzs hsz v n xs hv A m c news hr h1 hm hbytes hpos hbase
  unfold Oper.wp execOp
  simp only [ho, resolve, invoke, builtin, Sem.run_bind, Sem.run_pure, Result.andThen_ok, List.map_toArray, List.map_cons, List.map_nil, hs, hx, hrun]
  exact h v' w' h2 h3
/-- APPEND ONTO A ROW OF THE CALL's OWN, WHATEVER THE SOURCE: the result is the call's own. -/
theorem run_append_own_rd (base : Nat) (t ty e : TypeId) (i : TypeInfo) (z : Value) (s bytes : Nat) (ht : P.underlying t = some (.slice e)) (hi : P.info? e = some i) (hz : i.zero = some z)
    (hsize : i.size = s) (hby : i.bytes = bytes) (hzs : z.cells.size = s) (hsz : 0 < s)
    (v : Value) (n : Nat) (xs : List Value) (hv : w.ownsRow base e s v n xs)
    (A : Option Addr) (m c : Nat) (news : List Value) (hr : Rd w s A m c news) (h1 : ∀ u ∈ news, u.oneCell' = true)
    (hbytes : (n + m) * bytes ≤ 140737488355328) (hpos : 0 < bytes) (hbase : base ≤ w.heap.size) :
    ∃ v' w', (Builtin.append_ #[t, t] ty #[v, .slice A m c]).run P w = .ok v' w' ∧ w'.ownsRow base e s v' (n + m) (xs ++ news) ∧ Below base w w' := by
  have hsum : n + m ≤ 140737488355328 := Nat.le_trans (Nat.le_mul_of_pos_right _ hpos) hbytes
  have h63 : n + m ≤ maxLen := by simp only [maxLen]; omega
  rcases Nat.eq_zero_or_pos m with hm | hm
  · subst hm
    have hnil : news = [] := List.eq_nil_of_length_eq_zero (by have := hr.len; simpa using this)
    subst hnil
    obtain ⟨A', c', rfl, hrd⟩ := Tgt.rd (.inr hv)
    exact ⟨_, w, run_append_zero w t ty e i ht hi A' A n c' c hrd.cap, by simpa using hv, Below.refl _ _⟩
  · obtain ⟨b, o, rfl, hlt, hc⟩ := hr.mem hm
    obtain ⟨v', w', hrun, h2, h3, _⟩ := run_append_own (P := P) w base t ty e i z s bytes ht hi hz hsize hby hzs hsz v n xs hv _ m c news hr.len (fun j u hu => by rw [Addr.add_lit]; exact hc j u hu) h1 h63 hbytes hbase
    exact ⟨v', w', hrun, h2, (Below.refl _ _).grown h3 hbase fun k hk => (hv.lt k hk).1⟩
theorem wp_append_own_rd {o : Oper} {a : Act} {K : Act → World → Prop} {Q : Exit → Act → World → Prop} (sx x : Operand) (t : TypeId)
    (ho : o.op = .call { callee := .builtin .append, args := #[sx, x], argTypes := #[t, t] })
    (base : Nat) (e : TypeId) (i : TypeInfo) (z : Value) (s bytes : Nat) (ht : P.underlying t = some (.slice e)) (hi : P.info? e = some i) (hz : i.zero = some z)
    (hsize : i.size = s) (hby : i.bytes = bytes) (hzs : z.cells.size = s) (hsz : 0 < s)
    (v : Value) (n : Nat) (xs : List Value) (hs : a.eval sx = v) (hv : w.ownsRow base e s v n xs)
    (A : Option Addr) (m c : Nat) (news : List Value) (hx : a.eval x = .slice A m c) (hr : Rd w s A m c news) (h1 : ∀ u ∈ news, u.oneCell' = true)
    (hbytes : (n + m) * bytes ≤ 140737488355328) (hpos : 0 < bytes) (hbase : base ≤ w.heap.size)
    (h : ∀ v' w', w'.ownsRow base e s v' (n + m) (xs ++ news) → Below base w w' → K (a.put o.dst v') w') : o.wp P a w K Q := by
  obtain ⟨v', w', hrun, h2, h3⟩ := run_append_own_rd (P := P) w base t o.type e i z s bytes ht hi hz hsize hby hzs hsz v n xs hv A m c news hr h1 hbytes hpos hbase
  unfold Oper.wp execOp
  simp only [ho, resolve, invoke, builtin, Sem.run_bind, Sem.run_pure, Result.andThen_ok, List.map_toArray, List.map_cons, List.map_nil, hs, hx, hrun]
  exact h v' w' h2 h3
end

/-- 'string(b)' -/
theorem run_string_rb {P : Program} (w : World) (src e dst : TypeId) (hs : P.underlying src = some (.slice e)) (he : P.underlying e = some (.int .u8)) (hd : P.underlying dst = some .string)
    (A : Option Addr) (n c : Nat) (l : List UInt8) (h : RB w A n c l) : (convert src dst (.slice A n c)).run P w = .ok (.string ⟨l.toArray⟩) w := by
  rcases Nat.eq_zero_or_pos n with hn | hn
  · subst hn
    have : l = [] := List.eq_nil_of_length_eq_zero h.len
    subst this
    cases A with
    | none => exact run_convert_bytes_nil w src e hs he 0 c dst hd
    | some a =>
      rw [run_convert_bytes_string w src dst e _ 0 c hs he hd]
      exact run_bytesToString w a 0 c [] (by simpa using run_loadCells_list (P := P) w a [] (fun j v hj => by simp at hj))
  · obtain ⟨b, o, rfl, _, hc⟩ := Rd.mem h hn
    have hlen := h.len
    rw [run_convert_bytes_arg w src e hs he b o n c (l.map fun x => (x.toNat : Int)) (by simpa using hlen) (fun i hi => ?_) dst hd]
    · congr 2
      unfold strOfNums
      congr 1
      rw [List.map_map]
      have : ((fun n : Int => UInt8.ofNat n.toNat) ∘ fun x : UInt8 => (x.toNat : Int)) = id := by
        funext x
        simp
      rw [this, List.map_id]
    · have hl : i < l.length := by omega
      have := hc i (bv l[i]) (by rw [List.getElem?_map, List.getElem?_eq_getElem hl]; rfl)
      rw [this]
      simp [bv, List.getD, List.getElem?_eq_getElem hl]
end Go.Proofs.YtpppgceccikodaaDoor
