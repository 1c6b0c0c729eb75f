/- The common words of these proofs: slices, blocks, bytes, plain mathematics. -/
import Derived.WalkKit
import Derived.WalkLawsBesides
import Derived.WalkSpells
import Derived.Outline
import Derived.ArgAppend
import Derived.Deep.Draws
import Derived.Laws.CopyOwn
import Derived.Laws.BytesArg
import Derived.Laws.BitsAllLaws
import Derived.Laws.BitsLemmas
import Derived.StillTailTactics
import Derived.Lib.Hide
import Derived.Lib.SmallJoins
import Derived.Test.YtjficpdfofmcnaaDoorRows
import Derived.Deep.AppendLies
import Derived.Lib.AppendStr
import Derived.ProofKit
import Derived.OpenShut
import Derived.ShutString
import Derived.SizedLaws
import Derived.Carry
import Derived.ChangeOld
import Derived.Deep.Slices
import Derived.Deep.Fields
import Derived.ChangeSame
/- Words for memory, over any program: a slice that reads as cells; a slice that may be appended to; the laws on append in those words; rules on machine integers as bit vectors. -/
namespace Go.Proofs.YtjficpdfofmcnaaDoor
open Go.RowKit Go.Joins

/-- A fact kept from the walk AND from every look at its head ('contradiction' opens 'Hid' and runs away at great numerals). -/
structure Keep (p : Prop) : Prop where
  out : p

/-! ### A slice that reads as cells -/
/-- The slice value '.slice A n c' of elements of s cells reads as the cells xs in w. -/
structure Rd (w : World) (s : Nat) (A : Option Addr) (n c : Nat) (xs : List Value) : Prop where
  len : xs.length = n * s
  cap : n ≤ c
  big : c ≤ maxLen
  nil : A = none → c = 0
  mem : 0 < n → ∃ b o, A = some ⟨b, o, none⟩ ∧ b < w.heap.size ∧ ∀ j u, xs[j]? = some u → w.cell? ⟨b, o + j, none⟩ = some u

section
variable {w w' : World} {s n c : Nat} {A : Option Addr} {xs : List Value}
theorem Rd.none_ (w : World) (s : Nat) : Rd w s none 0 0 [] := ⟨by simp, Nat.le_refl _, by simp [maxLen], fun _ => rfl, fun h => absurd h (by omega)⟩
theorem Rd.below (h : Rd w s A n c xs) (hb : Below w.heap.size w w') : Rd w' s A n c xs :=
  ⟨h.len, h.cap, h.big, h.nil, fun hn => by
    obtain ⟨b, o, e, hlt, hc⟩ := h.mem hn
    exact ⟨b, o, e, Nat.lt_of_lt_of_le hlt hb.size, fun j u hu => (hb.cell (p := ⟨b, o + j, none⟩) hlt).trans (hc j u hu)⟩⟩
/-- Below a number of blocks under which all of it lies. -/
theorem Rd.below' {B : Nat} (h : Rd w s A n c xs) (hb : Below B w w') (hB : ∀ a, A = some a → a.block < B) : Rd w' s A n c xs :=
  ⟨h.len, h.cap, h.big, h.nil, fun hn => by
    obtain ⟨b, o, e, hlt, hc⟩ := h.mem hn
    exact ⟨b, o, e, Nat.lt_of_lt_of_le hlt hb.size, fun j u hu => (hb.cell (p := ⟨b, o + j, none⟩) (show b < B from hB ⟨b, o, none⟩ e)).trans (hc j u hu)⟩⟩
theorem Rd.drewN (h : Rd w s A n c xs) (k : Nat) : Rd (w.drewN k) s A n c xs := h.below (below_draws _ _ _)
theorem Rd.alloc (h : Rd w s A n c xs) (o : Obj) : Rd (w.alloc o) s A n c xs := h.below (below_alloc1 _ _)
theorem Rd.own {base : Nat} {e : TypeId} (h : w.ownsRow base e s (.slice A n c) n xs) : Rd w s A n c xs := by
  rcases h.2 with ⟨hv, hn⟩ | ⟨g, cap, cur, hv, _, hg, hnc, hm, _, _⟩
  · simp only [Value.slice.injEq] at hv
    obtain ⟨rfl, rfl, rfl⟩ := hv
    have : xs = [] := List.eq_nil_of_length_eq_zero (by have := h.1; simpa using this)
    subst this
    exact Rd.none_ w s
  · simp only [Value.slice.injEq] at hv
    obtain ⟨rfl, _, rfl⟩ := hv
    refine ⟨h.1, hnc, hm, (fun h => by cases h), fun _ => ⟨g, 0, rfl, (Array.getElem?_eq_some_iff.1 hg).1, fun j u hu => ?_⟩⟩
    have := h.cells (g := g) rfl j u hu
    rwa [Addr.add_lit] at this
end

/-- The address of 's[l:]' in a slice whose bound is m. Kept folded: the walk does not part on it. -/
def cutA (A : Option Addr) (l m s : Nat) : Option Addr := if m = l then A else A.map (·.add (l * s))
theorem cutA_zero (A : Option Addr) (m s : Nat) : cutA A 0 m s = A := by
  unfold cutA
  split
  · rfl
  · cases A <;> simp [Addr.add]
theorem Rd.cut {w : World} {s n c : Nat} {A : Option Addr} {xs : List Value} (h : Rd w s A n c xs) {i j m : Nat} (hij : i ≤ j) (hjn : j ≤ n) (hjm : j ≤ m) (hmc : m ≤ c) :
    Rd w s (cutA A i m s) (j - i) (m - i) ((xs.take (j * s)).drop (i * s)) := by
  refine ⟨?_, by omega, by have := h.big; omega, fun hA => ?_, fun hn => ?_⟩
  · rw [List.length_drop, List.length_take, h.len, Nat.min_eq_left (Nat.mul_le_mul_right _ hjn), Nat.sub_mul]
  · have : A = none := by
      unfold cutA at hA
      split at hA
      · exact hA
      · cases A <;> simp at hA ⊢
    have := h.nil this
    omega
  · obtain ⟨b, o, rfl, hlt, hc⟩ := h.mem (by omega)
    refine ⟨b, o + i * s, ?_, hlt, fun k u hu => ?_⟩
    · unfold cutA
      rw [if_neg (by omega)]
      simp only [Option.map_some, Addr.add]
      split <;> simp_all
    · rw [List.getElem?_drop, List.getElem?_take] at hu
      split at hu
      · rw [Nat.add_assoc]
        exact hc _ u hu
      · cases hu
theorem Rd.cut1 {w : World} {n c : Nat} {A : Option Addr} {xs : List Value} (h : Rd w 1 A n c xs) {i j m : Nat} (hij : i ≤ j) (hjn : j ≤ n) (hjm : j ≤ m) (hmc : m ≤ c) :
    Rd w 1 (cutA A i m 1) (j - i) (m - i) ((xs.take j).drop i) := by
  simpa using h.cut hij hjn hjm hmc
/-- A cell of it. -/
theorem Rd.at_ {w : World} {n c : Nat} {A : Option Addr} {xs : List Value} (h : Rd w 1 A n c xs) {k : Nat} (hk : k < n) :
    ∃ b o u, A = some ⟨b, o, none⟩ ∧ b < w.heap.size ∧ xs[k]? = some u ∧ w.cell? ⟨b, o + k, none⟩ = some u := by
  obtain ⟨b, o, e, hlt, hc⟩ := h.mem (by omega)
  have hl : k < xs.length := by have := h.len; omega
  exact ⟨b, o, xs[k], e, hlt, List.getElem?_eq_getElem hl, hc k _ (List.getElem?_eq_getElem hl)⟩

/-! ### Bytes and ints -/
/-- A byte's cell. -/
def bv (c : UInt8) : Value := .int .u8 (c.toNat : Int)
/-- An int's cell. -/
def iv (n : Int) : Value := .int .i64 n
theorem bv_one (l : List UInt8) : ∀ u ∈ l.map bv, u.oneCell' = true := by
  intro u hu
  obtain ⟨_, _, rfl⟩ := List.mem_map.1 hu
  rfl
theorem iv_one (l : List Int) : ∀ u ∈ l.map iv, u.oneCell' = true := by
  intro u hu
  obtain ⟨_, _, rfl⟩ := List.mem_map.1 hu
  rfl
theorem bv_inj {a b : UInt8} (h : bv a = bv b) : a = b := by
  simp only [bv, Value.int.injEq, true_and] at h
  exact UInt8.toNat_inj.1 (by omega)
/-- A slice of bytes reads as l. -/
def RB (w : World) (A : Option Addr) (n c : Nat) (l : List UInt8) : Prop := Rd w 1 A n c (l.map bv)
/-- A slice of ints reads as l. -/
def RI (w : World) (A : Option Addr) (n c : Nat) (l : List Int) : Prop := Rd w 1 A n c (l.map iv)
section
variable {w w' : World} {n c : Nat} {A : Option Addr} {l : List UInt8} {m : List Int}
theorem RB.len (h : RB w A n c l) : l.length = n := by have := Rd.len h; simpa using this
theorem RB.cap (h : RB w A n c l) : n ≤ c := Rd.cap h
theorem RB.big (h : RB w A n c l) : c ≤ maxLen := Rd.big h
theorem RB.below (h : RB w A n c l) (hb : Below w.heap.size w w') : RB w' A n c l := Rd.below h hb
theorem RB.at_ (h : RB w A n c l) {k : Nat} (hk : k < l.length) : ∃ b o, A = some ⟨b, o, none⟩ ∧ b < w.heap.size ∧ w.cell? ⟨b, o + k, none⟩ = some (.int .u8 (l[k].toNat : Int)) := by
  obtain ⟨b, o, u, e, hlt, hu, hc⟩ := Rd.at_ h (k := k) (by have := h.len; omega)
  rw [List.getElem?_map, List.getElem?_eq_getElem hk] at hu
  simp only [Option.map_some, Option.some.injEq] at hu
  subst hu
  exact ⟨b, o, e, hlt, hc⟩
theorem RB.cut (h : RB w A n c l) {i j m : Nat} (hij : i ≤ j) (hjn : j ≤ n) (hjm : j ≤ m) (hmc : m ≤ c) : RB w (cutA A i m 1) (j - i) (m - i) ((l.take j).drop i) := by
  have := Rd.cut1 h hij hjn hjm hmc
  unfold RB
  rwa [List.map_drop, List.map_take]
theorem RB.none_ (w : World) : RB w none 0 0 [] := Rd.none_ w 1
theorem RI.len (h : RI w A n c m) : m.length = n := by have := Rd.len h; simpa using this
theorem RI.cap (h : RI w A n c m) : n ≤ c := Rd.cap h
theorem RI.big (h : RI w A n c m) : c ≤ maxLen := Rd.big h
theorem RI.below (h : RI w A n c m) (hb : Below w.heap.size w w') : RI w' A n c m := Rd.below h hb
theorem RI.at_ (h : RI w A n c m) {k : Nat} (hk : k < m.length) : ∃ b o, A = some ⟨b, o, none⟩ ∧ b < w.heap.size ∧ w.cell? ⟨b, o + k, none⟩ = some (.int .i64 m[k]) := by
  obtain ⟨b, o, u, e, hlt, hu, hc⟩ := Rd.at_ h (k := k) (by have := h.len; omega)
  rw [List.getElem?_map, List.getElem?_eq_getElem hk] at hu
  simp only [Option.map_some, Option.some.injEq] at hu
  subst hu
  exact ⟨b, o, e, hlt, hc⟩
theorem RI.none_ (w : World) : RI w none 0 0 [] := Rd.none_ w 1
end

/-! ### A slice that may be appended to -/
/-- The slice value v of n elements reads as xs, and either has no room (an append makes a new row), or its row is one of the blocks from base on. -/
def Tgt (w : World) (base : Nat) (e : TypeId) (s : Nat) (v : Value) (n : Nat) (xs : List Value) : Prop :=
  (∃ A, v = .slice A n n ∧ Rd w s A n n xs) ∨ w.ownsRow base e s v n xs
section
variable {w w' : World} {base : Nat} {e : TypeId} {s n : Nat} {v : Value} {xs : List Value}
theorem Tgt.rd (h : Tgt w base e s v n xs) : ∃ A c, v = .slice A n c ∧ Rd w s A n c xs := by
  rcases h with ⟨A, rfl, h⟩ | h
  · exact ⟨A, n, rfl, h⟩
  · rcases ownsRow_forms h with ⟨rfl, rfl⟩ | ⟨g, cap, rfl, _⟩
    · exact ⟨none, 0, rfl, Rd.own h⟩
    · exact ⟨_, _, rfl, Rd.own h⟩
theorem ownsRow_below {B : Nat} (h : w.ownsRow base e s v n xs) (hb : Below B w w') (hB : ∀ g, v.ownBlock = some g → g < B) : w'.ownsRow base e s v n xs := by
  refine ⟨h.1, ?_⟩
  rcases h.2 with h' | ⟨g, cap, cur, rfl, hbg, hg, rest⟩
  · exact .inl h'
  · exact .inr ⟨g, cap, cur, rfl, hbg, by rw [hb.block g (hB g rfl)]; exact hg, rest⟩
theorem Tgt.below (h : Tgt w base e s v n xs) (hb : Below w.heap.size w w') : Tgt w' base e s v n xs := by
  rcases h with ⟨A, rfl, h⟩ | h
  · exact .inl ⟨A, rfl, h.below hb⟩
  · exact .inr (ownsRow_below h hb fun g hg => (h.lt g hg).2)
theorem Tgt.le {base' : Nat} (h : Tgt w base e s v n xs) (hb : base' ≤ base) : Tgt w base' e s v n xs := by
  rcases h with h | h
  · exact .inl h
  · exact .inr (ownsRow_le h hb)
theorem Tgt.nil (w : World) (base : Nat) (e : TypeId) (s : Nat) : Tgt w base e s (.slice none 0 0) 0 [] := .inr (World.ownsRow_nil w base e s)
theorem Tgt.full {A : Option Addr} {c : Nat} (h : Rd w s A n c xs) : Tgt w base e s (.slice A n n) n xs := by
  refine .inl ⟨A, rfl, ⟨h.len, Nat.le_refl _, Nat.le_trans h.cap h.big, fun hA => ?_, h.mem⟩⟩
  have := h.nil hA
  have := h.cap
  omega
end

section
variable {P : Program} (w : World)
theorem firstCells_zero (P : Program) (w : World) (s : Nat) (A : Option Addr) (l c : Nat) : (Builtin.firstCells s 0 (.slice A l c)).run P w = .ok #[] w := by
  cases A with
  | none => exact run_firstCells_none w s 0 l c
  | some a => exact run_firstCells_some (P := P) w s 0 a l c [] (by simp) (fun j v h => by simp at h)
theorem run_append_zero (t ty e : TypeId) (i : TypeInfo) (ht : P.underlying t = some (.slice e)) (hi : P.info? e = some i) (A A' : Option Addr) (n c c' : Nat) (hnc : n ≤ c) :
    (Builtin.append_ #[t, t] ty #[.slice A n c, .slice A' 0 c']).run P w = .ok (.slice A n c) w := by
  have hf := firstCells_zero P w i.size A' 0 c'
  cases A <;> simp [Builtin.append_, run_underlying ht, sizeOf, typeInfo, hi, Builtin.lenOf, hf, hnc, storeCells]
/-- APPEND, WHATEVER THE SOURCE (nil, empty or not) AND WHATEVER THE TARGET (nil, without room, or the call's own). -/
theorem run_append_tgt (base : Nat) (t ty e : TypeId) (i : TypeInfo) (z : Value) (s bytes : Nat) (ht : P.underlying t = some (.slice e)) (hi : P.info? e = some i) (hz : i.zero = some z)
    (hsize : i.size = s) (hby : i.bytes = bytes) (hzs : z.cells.size = s) (hsz : 0 < s)
    (v : Value) (n : Nat) (xs : List Value) (hv : Tgt w base e s v n xs)
    (A : Option Addr) (m c : Nat) (news : List Value) (hr : Rd w s A m c news) (h1 : ∀ u ∈ news, u.oneCell' = true)
    (hbytes : (n + m) * bytes ≤ 140737488355328) (hpos : 0 < bytes) (hbase : base ≤ w.heap.size) :
    ∃ v' w', (Builtin.append_ #[t, t] ty #[v, .slice A m c]).run P w = .ok v' w' ∧ Tgt w' base e s v' (n + m) (xs ++ news) ∧ Below base w w' := by
  have hsum : n + m ≤ 140737488355328 := Nat.le_trans (Nat.le_mul_of_pos_right _ hpos) hbytes
  have h63 : n + m ≤ maxLen := by simp only [maxLen]; omega
  rcases Nat.eq_zero_or_pos m with hm | hm
  · subst hm
    have hnil : news = [] := List.eq_nil_of_length_eq_zero (by have := hr.len; simpa using this)
    subst hnil
    obtain ⟨A', c', rfl, hrd⟩ := hv.rd
    exact ⟨_, w, run_append_zero w t ty e i ht hi A' A n c' c hrd.cap, by simpa using hv, Below.refl _ _⟩
  · obtain ⟨b, o, rfl, hlt, hc⟩ := hr.mem hm
    have hcells : ∀ j u, news[j]? = some u → w.cell? ((⟨b, o, none⟩ : Addr).add j) = some u := fun j u hu => by rw [Addr.add_lit]; exact hc j u hu
    rcases hv with ⟨A', rfl, hrd⟩ | hown
    · rcases Nat.eq_zero_or_pos n with hn | hn
      · subst hn
        have hx : xs = [] := List.eq_nil_of_length_eq_zero (by have := hrd.len; simpa using this)
        subst hx
        cases A' with
        | none =>
          obtain ⟨v', w', hrun, h2, h3, _⟩ := run_append_own (P := P) w base t ty e i z s bytes ht hi hz hsize hby hzs hsz _ 0 [] (World.ownsRow_nil w base e s) _ m c news hr.len hcells h1 h63 hbytes hbase
          exact ⟨v', w', hrun, .inr h2, (Below.refl _ _).grown h3 hbase (by simp [Value.ownBlock])⟩
        | some a =>
          obtain ⟨v', w', hrun, h2, h3⟩ := run_append_arg_grows (P := P) w t ty e i z s bytes ht hi hz hsize hby hzs hsz a 0 0 [] (by simp) (fun j u h => by simp at h) _ m c news hr.len hcells (by omega) h63 hbytes
          exact ⟨v', w', hrun, .inr (ownsRow_le h2 hbase), (Below.refl _ _).grown h3 hbase (by simp)⟩
      · obtain ⟨b', o', rfl, _, hc'⟩ := hrd.mem hn
        obtain ⟨v', w', hrun, h2, h3⟩ := run_append_arg_grows (P := P) w t ty e i z s bytes ht hi hz hsize hby hzs hsz ⟨b', o', none⟩ n n xs hrd.len (fun j u h => by rw [Addr.add_lit]; exact hc' j u h) _ m c news hr.len hcells (by omega) h63 hbytes
        exact ⟨v', w', hrun, .inr (ownsRow_le h2 hbase), (Below.refl _ _).grown h3 hbase (by simp)⟩
    · obtain ⟨v', w', hrun, h2, h3, _⟩ := run_append_own (P := P) w base t ty e i z s bytes ht hi hz hsize hby hzs hsz v n xs hown _ m c news hr.len hcells h1 h63 hbytes hbase
      exact ⟨v', w', hrun, .inr h2, (Below.refl _ _).grown h3 hbase fun k hk => (hown.lt k hk).1⟩

theorem wp_append_tgt {o : Oper} {a : Act} {K : Act → World → Prop} {Q : Exit → Act → World → Prop} (sx x : Operand) (t : TypeId)
    (ho : o.op = .call { callee := .builtin .append, args := #[sx, x], argTypes := #[t, t] })
    (base : Nat) (e : TypeId) (i : TypeInfo) (z : Value) (s bytes : Nat) (ht : P.underlying t = some (.slice e)) (hi : P.info? e = some i) (hz : i.zero = some z)
    (hsize : i.size = s) (hby : i.bytes = bytes) (hzs : z.cells.size = s) (hsz : 0 < s)
    (v : Value) (n : Nat) (xs : List Value) (hs : a.eval sx = v) (hv : Tgt w base e s v n xs)
    (A : Option Addr) (m c : Nat) (news : List Value) (hx : a.eval x = .slice A m c) (hr : Rd w s A m c news) (h1 : ∀ u ∈ news, u.oneCell' = true)
    (hbytes : (n + m) * bytes ≤ 140737488355328) (hpos : 0 < bytes) (hbase : base ≤ w.heap.size)
    (h : ∀ v' w', Tgt w' base e s v' (n + m) (xs ++ news) → Below base w w' → K (a.put o.dst v') w') : o.wp P a w K Q := by
  obtain ⟨v', w', hrun, h2, h3⟩ := run_append_tgt (P := P) w base t o.type e i z s bytes ht hi hz hsize hby hzs hsz v n xs hv A m c news hr h1 hbytes hpos hbase
  unfold Oper.wp execOp
  simp only [ho, resolve, invoke, builtin, Sem.run_bind, Sem.run_pure, Result.andThen_ok, List.map_toArray, List.map_cons, List.map_nil, hs, hx, hrun]
  exact h v' w' h2 h3

theorem wpList_append_tgt {ops : Array Oper} {rest : List Oper} {o : Oper} {a : Act} {Q : Exit → Act → World → Prop} (hgd : o.guard = none) (sx x : Operand) (t : TypeId)
    (ho : o.op = .call { callee := .builtin .append, args := #[sx, x], argTypes := #[t, t] })
    (base : Nat) (e : TypeId) (i : TypeInfo) (z : Value) (s bytes : Nat) (ht : P.underlying t = some (.slice e)) (hi : P.info? e = some i) (hz : i.zero = some z)
    (hsize : i.size = s) (hby : i.bytes = bytes) (hzs : z.cells.size = s) (hsz : 0 < s)
    (v : Value) (n : Nat) (xs : List Value) (hs : a.eval sx = v) (hv : Tgt w base e s v n xs)
    (A : Option Addr) (m c : Nat) (news : List Value) (hx : a.eval x = .slice A m c) (hr : Rd w s A m c news) (h1 : ∀ u ∈ news, u.oneCell' = true)
    (hbytes : (n + m) * bytes ≤ 140737488355328) (hpos : 0 < bytes) (hbase : base ≤ w.heap.size)
    (h : ∀ v' w', Tgt w' base e s v' (n + m) (xs ++ news) → Below base w w' → wpList P ops Q rest (a.put o.dst v') w') : wpList P ops Q (o :: rest) a w :=
  wpList_plain hgd fun _ hK => wp_append_tgt w sx x t ho base e i z s bytes ht hi hz hsize hby hzs hsz v n xs hs hv A m c news hx hr h1 hbytes hpos hbase fun v' w' h2 h3 => hK _ _ (h v' w' h2 h3)
end
section
variable {P : Program} (w : World)
/-- APPEND OF AT LEAST ONE ELEMENT, WHATEVER THE TARGET: the result is the call's own. -/
theorem run_append_tgt_pos (base : Nat) (t ty e : TypeId) (i : TypeInfo) (z : Value) (s bytes : Nat) (ht : P.underlying t = some (.slice e)) (hi : P.info? e = some i) (hz : i.zero = some z)
    (hsize : i.size = s) (hby : i.bytes = bytes) (hzs : z.cells.size = s) (hsz : 0 < s)
    (v : Value) (n : Nat) (xs : List Value) (hv : Tgt w base e s v n xs)
    (A : Option Addr) (m c : Nat) (news : List Value) (hr : Rd w s A m c news) (h1 : ∀ u ∈ news, u.oneCell' = true) (hm : 0 < m)
    (hbytes : (n + m) * bytes ≤ 140737488355328) (hpos : 0 < bytes) (hbase : base ≤ w.heap.size) :
    ∃ v' w', (Builtin.append_ #[t, t] ty #[v, .slice A m c]).run P w = .ok v' w' ∧ w'.ownsRow base e s v' (n + m) (xs ++ news) ∧ Below base w w' := by
  have hsum : n + m ≤ 140737488355328 := Nat.le_trans (Nat.le_mul_of_pos_right _ hpos) hbytes
  have h63 : n + m ≤ maxLen := by simp only [maxLen]; omega
  obtain ⟨b, o, rfl, hlt, hc⟩ := hr.mem hm
  have hcells : ∀ j u, news[j]? = some u → w.cell? ((⟨b, o, none⟩ : Addr).add j) = some u := fun j u hu => by rw [Addr.add_lit]; exact hc j u hu
  rcases hv with ⟨A', rfl, hrd⟩ | hown
  · rcases Nat.eq_zero_or_pos n with hn | hn
    · subst hn
      have hx : xs = [] := List.eq_nil_of_length_eq_zero (by have := hrd.len; simpa using this)
      subst hx
      cases A' with
      | none =>
        obtain ⟨v', w', hrun, h2, h3, _⟩ := run_append_own (P := P) w base t ty e i z s bytes ht hi hz hsize hby hzs hsz _ 0 [] (World.ownsRow_nil w base e s) _ m c news hr.len hcells h1 h63 hbytes hbase
        exact ⟨v', w', hrun, h2, (Below.refl _ _).grown h3 hbase (by simp [Value.ownBlock])⟩
      | some a =>
        obtain ⟨v', w', hrun, h2, h3⟩ := run_append_arg_grows (P := P) w t ty e i z s bytes ht hi hz hsize hby hzs hsz a 0 0 [] (by simp) (fun j u h => by simp at h) _ m c news hr.len hcells (by omega) h63 hbytes
        exact ⟨v', w', hrun, ownsRow_le h2 hbase, (Below.refl _ _).grown h3 hbase (by simp)⟩
    · obtain ⟨b', o', rfl, _, hc'⟩ := hrd.mem hn
      obtain ⟨v', w', hrun, h2, h3⟩ := run_append_arg_grows (P := P) w t ty e i z s bytes ht hi hz hsize hby hzs hsz ⟨b', o', none⟩ n n xs hrd.len (fun j u h => by rw [Addr.add_lit]; exact hc' j u h) _ m c news hr.len hcells (by omega) h63 hbytes
      exact ⟨v', w', hrun, ownsRow_le h2 hbase, (Below.refl _ _).grown h3 hbase (by simp)⟩
  · obtain ⟨v', w', hrun, h2, h3, _⟩ := run_append_own (P := P) w base t ty e i z s bytes ht hi hz hsize hby hzs hsz v n xs hown _ m c news hr.len hcells h1 h63 hbytes hbase
    exact ⟨v', w', hrun, h2, (Below.refl _ _).grown h3 hbase fun k hk => (hown.lt k hk).1⟩
theorem wp_append_tgt_pos {o : Oper} {a : Act} {K : Act → World → Prop} {Q : Exit → Act → World → Prop} (sx x : Operand) (t : TypeId)
    (ho : o.op = .call { callee := .builtin .append, args := #[sx, x], argTypes := #[t, t] })
    (base : Nat) (e : TypeId) (i : TypeInfo) (z : Value) (s bytes : Nat) (ht : P.underlying t = some (.slice e)) (hi : P.info? e = some i) (hz : i.zero = some z)
    (hsize : i.size = s) (hby : i.bytes = bytes) (hzs : z.cells.size = s) (hsz : 0 < s)
    (v : Value) (n : Nat) (xs : List Value) (hs : a.eval sx = v) (hv : Tgt w base e s v n xs)
    (A : Option Addr) (m c : Nat) (news : List Value) (hx : a.eval x = .slice A m c) (hr : Rd w s A m c news) (h1 : ∀ u ∈ news, u.oneCell' = true) (hm : 0 < m)
    (hbytes : (n + m) * bytes ≤ 140737488355328) (hpos : 0 < bytes) (hbase : base ≤ w.heap.size)
    (h : ∀ v' w', w'.ownsRow base e s v' (n + m) (xs ++ news) → Below base w w' → K (a.put o.dst v') w') : o.wp P a w K Q := by
  obtain ⟨v', w', hrun, h2, h3⟩ := run_append_tgt_pos (P := P) w base t o.type e i z s bytes ht hi hz hsize hby hzs hsz v n xs hv A m c news hr h1 hm hbytes hpos hbase
  unfold Oper.wp execOp
  simp only [ho, resolve, invoke, builtin, Sem.run_bind, Sem.run_pure, Result.andThen_ok, List.map_toArray, List.map_cons, List.map_nil, hs, hx, hrun]
  exact h v' w' h2 h3
/-- APPEND ONTO A ROW OF THE CALL's OWN, WHATEVER THE SOURCE: the result is the call's own. -/
theorem run_append_own_rd (base : Nat) (t ty e : TypeId) (i : TypeInfo) (z : Value) (s bytes : Nat) (ht : P.underlying t = some (.slice e)) (hi : P.info? e = some i) (hz : i.zero = some z)
    (hsize : i.size = s) (hby : i.bytes = bytes) (hzs : z.cells.size = s) (hsz : 0 < s)
    (v : Value) (n : Nat) (xs : List Value) (hv : w.ownsRow base e s v n xs)
    (A : Option Addr) (m c : Nat) (news : List Value) (hr : Rd w s A m c news) (h1 : ∀ u ∈ news, u.oneCell' = true)
    (hbytes : (n + m) * bytes ≤ 140737488355328) (hpos : 0 < bytes) (hbase : base ≤ w.heap.size) :
    ∃ v' w', (Builtin.append_ #[t, t] ty #[v, .slice A m c]).run P w = .ok v' w' ∧ w'.ownsRow base e s v' (n + m) (xs ++ news) ∧ Below base w w' := by
  have hsum : n + m ≤ 140737488355328 := Nat.le_trans (Nat.le_mul_of_pos_right _ hpos) hbytes
  have h63 : n + m ≤ maxLen := by simp only [maxLen]; omega
  rcases Nat.eq_zero_or_pos m with hm | hm
  · subst hm
    have hnil : news = [] := List.eq_nil_of_length_eq_zero (by have := hr.len; simpa using this)
    subst hnil
    obtain ⟨A', c', rfl, hrd⟩ := Tgt.rd (.inr hv)
    exact ⟨_, w, run_append_zero w t ty e i ht hi A' A n c' c hrd.cap, by simpa using hv, Below.refl _ _⟩
  · obtain ⟨b, o, rfl, hlt, hc⟩ := hr.mem hm
    obtain ⟨v', w', hrun, h2, h3, _⟩ := run_append_own (P := P) w base t ty e i z s bytes ht hi hz hsize hby hzs hsz v n xs hv _ m c news hr.len (fun j u hu => by rw [Addr.add_lit]; exact hc j u hu) h1 h63 hbytes hbase
    exact ⟨v', w', hrun, h2, (Below.refl _ _).grown h3 hbase fun k hk => (hv.lt k hk).1⟩
theorem wp_append_own_rd {o : Oper} {a : Act} {K : Act → World → Prop} {Q : Exit → Act → World → Prop} (sx x : Operand) (t : TypeId)
    (ho : o.op = .call { callee := .builtin .append, args := #[sx, x], argTypes := #[t, t] })
    (base : Nat) (e : TypeId) (i : TypeInfo) (z : Value) (s bytes : Nat) (ht : P.underlying t = some (.slice e)) (hi : P.info? e = some i) (hz : i.zero = some z)
    (hsize : i.size = s) (hby : i.bytes = bytes) (hzs : z.cells.size = s) (hsz : 0 < s)
    (v : Value) (n : Nat) (xs : List Value) (hs : a.eval sx = v) (hv : w.ownsRow base e s v n xs)
    (A : Option Addr) (m c : Nat) (news : List Value) (hx : a.eval x = .slice A m c) (hr : Rd w s A m c news) (h1 : ∀ u ∈ news, u.oneCell' = true)
    (hbytes : (n + m) * bytes ≤ 140737488355328) (hpos : 0 < bytes) (hbase : base ≤ w.heap.size)
    (h : ∀ v' w', w'.ownsRow base e s v' (n + m) (xs ++ news) → Below base w w' → K (a.put o.dst v') w') : o.wp P a w K Q := by
  obtain ⟨v', w', hrun, h2, h3⟩ := run_append_own_rd (P := P) w base t o.type e i z s bytes ht hi hz hsize hby hzs hsz v n xs hv A m c news hr h1 hbytes hpos hbase
  unfold Oper.wp execOp
  simp only [ho, resolve, invoke, builtin, Sem.run_bind, Sem.run_pure, Result.andThen_ok, List.map_toArray, List.map_cons, List.map_nil, hs, hx, hrun]
  exact h v' w' h2 h3
end

/-- 'string(b)' -/
theorem run_string_rb {P : Program} (w : World) (src e dst : TypeId) (hs : P.underlying src = some (.slice e)) (he : P.underlying e = some (.int .u8)) (hd : P.underlying dst = some .string)
    (A : Option Addr) (n c : Nat) (l : List UInt8) (h : RB w A n c l) : (convert src dst (.slice A n c)).run P w = .ok (.string ⟨l.toArray⟩) w := by
  rcases Nat.eq_zero_or_pos n with hn | hn
  · subst hn
    have : l = [] := List.eq_nil_of_length_eq_zero h.len
    subst this
    cases A with
    | none => exact run_convert_bytes_nil w src e hs he 0 c dst hd
    | some a =>
      rw [run_convert_bytes_string w src dst e _ 0 c hs he hd]
      exact run_bytesToString w a 0 c [] (by simpa using run_loadCells_list (P := P) w a [] (fun j v hj => by simp at hj))
  · obtain ⟨b, o, rfl, _, hc⟩ := Rd.mem h hn
    have hlen := h.len
    rw [run_convert_bytes_arg w src e hs he b o n c (l.map fun x => (x.toNat : Int)) (by simpa using hlen) (fun i hi => ?_) dst hd]
    · congr 2
      unfold strOfNums
      congr 1
      rw [List.map_map]
      have : ((fun n : Int => UInt8.ofNat n.toNat) ∘ fun x : UInt8 => (x.toNat : Int)) = id := by
        funext x
        simp
      rw [this, List.map_id]
    · have hl : i < l.length := by omega
      have := hc i (bv l[i]) (by rw [List.getElem?_map, List.getElem?_eq_getElem hl]; rfl)
      rw [this]
      simp [bv, List.getD, List.getElem?_eq_getElem hl]
end Go.Proofs.YtjficpdfofmcnaaDoor

/- A block of memory that is known cell by cell and may be written. -/
namespace Go.Proofs.YtjficpdfofmcnaaDoor
open Go.RowKit Go.Joins

/-- The first cells of block b are cs; none of its cells is frozen. -/
structure Bx (w : World) (b : Nat) (cs : List Value) : Prop where
  cell : ∀ j u, cs[j]? = some u → w.cell? ⟨b, j, none⟩ = some u
  fz : ∀ j, w.frozen? ⟨b, j, none⟩ = false
  lt : b < w.heap.size
section
variable {w w' : World} {b : Nat} {cs : List Value}
theorem Bx.below' {B : Nat} (h : Bx w b cs) (hb : Below B w w') (hB : b < B) : Bx w' b cs :=
  ⟨fun j u hu => (hb.cell (p := ⟨b, j, none⟩) hB).trans (h.cell j u hu), fun j => (hb.frozen (p := ⟨b, j, none⟩) hB).trans (h.fz j), Nat.lt_of_lt_of_le h.lt hb.size⟩
theorem Bx.below (h : Bx w b cs) (hb : Below w.heap.size w w') : Bx w' b cs := h.below' hb h.lt
theorem Bx.drewN (h : Bx w b cs) (k : Nat) : Bx (w.drewN k) b cs := h.below (below_draws _ _ _)
theorem Bx.alloc (h : Bx w b cs) (o : Obj) : Bx (w.alloc o) b cs := h.below (below_alloc1 _ _)
theorem Bx.new (w : World) (cs : List Value) (t : TypeId) : Bx (w.alloc (.cells cs.toArray t)) w.heap.size cs := by
  refine ⟨fun j u hu => ?_, fun j => by simp, by simp⟩
  rw [World.cell?_alloc_mark]
  simpa using hu
theorem Bx.set (h : Bx w b cs) {j : Nat} (hj : j < cs.length) (v : Value) : Bx (w.setCell ⟨b, j, none⟩ v) b (cs.set j v) := by
  refine ⟨fun i u hu => ?_, fun i => by simp [h.fz i], by simpa [World.setCell] using h.lt⟩
  by_cases hij : i = j
  · subst hij
    rw [List.getElem?_set_self hj] at hu
    injection hu with hu
    subst hu
    exact World.cell?_setCell_same _ _ _ (h.cell i cs[i] (List.getElem?_eq_getElem hj))
  · rw [List.getElem?_set_ne (by omega)] at hu
    rw [World.cell?_setCell_other _ _ _ _ (by intro e; simp only [Addr.mk.injEq] at e; omega)]
    exact h.cell i u hu
theorem Bx.other (h : Bx w b cs) {p : Addr} (hp : p.block ≠ b) (v : Value) : Bx (w.setCell p v) b cs := by
  refine ⟨fun i u hu => ?_, fun i => by simp [h.fz i], by simpa [World.setCell] using h.lt⟩
  rw [World.cell?_setCell_other _ _ _ _ (by intro e; exact hp (by rw [e]))]
  exact h.cell i u hu
theorem ownsRow_set {base : Nat} {e : TypeId} {s n : Nat} {v : Value} {xs : List Value} (h : w.ownsRow base e s v n xs) {p : Addr} (hp : p.block < base) (u : Value) : (w.setCell p u).ownsRow base e s v n xs := by
  refine ⟨h.1, ?_⟩
  rcases h.2 with h' | ⟨g, cap, cur, rfl, hbg, hg, rest⟩
  · exact .inl h'
  · exact .inr ⟨g, cap, cur, rfl, hbg, by rw [Below.heap_setCell w p u g (by omega)]; exact hg, rest⟩
theorem Rd.set_other {s n c : Nat} {A : Option Addr} {xs : List Value} (h : Rd w s A n c xs) {p : Addr} (hp : ∀ a, A = some a → a.block ≠ p.block) (v : Value) : Rd (w.setCell p v) s A n c xs := by
  refine ⟨h.len, h.cap, h.big, h.nil, fun hn => ?_⟩
  obtain ⟨b, o, e, hlt, hc⟩ := h.mem hn
  refine ⟨b, o, e, by simpa [World.setCell] using hlt, fun j u hu => ?_⟩
  rw [World.cell?_setCell_other _ _ _ _ (by intro e'; exact hp _ e (by rw [e']))]
  exact hc j u hu
end
end Go.Proofs.YtjficpdfofmcnaaDoor

/- A frame: nothing has turned but a few named blocks; a block known whole. -/
namespace Go.Proofs.YtjficpdfofmcnaaDoor
open Go.RowKit Go.Joins

/-- Of the blocks of w none has turned but those of the list. -/
structure Off (T : List Nat) (w w' : World) : Prop where
  os : w'.os = w.os
  tape : w'.tape = w.tape
  output : w'.output = w.output
  size : w.heap.size ≤ w'.heap.size
  block : ∀ k, k < w.heap.size → k ∉ T → w'.heap[k]? = w.heap[k]?
section
variable {T T' : List Nat} {a b c w w' : World}
theorem Off.refl (T : List Nat) (w : World) : Off T w w := ⟨rfl, rfl, rfl, Nat.le_refl _, fun _ _ _ => rfl⟩
theorem Off.trans (h : Off T a b) (k : Off T b c) : Off T a c :=
  ⟨k.os.trans h.os, k.tape.trans h.tape, k.output.trans h.output, Nat.le_trans h.size k.size, fun i hi ht => (k.block i (Nat.lt_of_lt_of_le hi h.size) ht).trans (h.block i hi ht)⟩
theorem Off.sub (h : Off T a b) (hs : ∀ t ∈ T, t ∈ T') : Off T' a b := ⟨h.os, h.tape, h.output, h.size, fun i hi ht => h.block i hi fun hh => ht (hs i hh)⟩
theorem Off.of_below (h : Below a.heap.size a b) (T : List Nat) : Off T a b := ⟨h.os, h.tape, h.output, h.size, fun i hi _ => h.block i hi⟩
theorem Off.below {B : Nat} (h : Off T a b) (hB : B ≤ a.heap.size) (ht : ∀ t ∈ T, B ≤ t) : Below B a b :=
  ⟨h.os, h.tape, h.output, h.size, fun k hk => h.block k (by omega) fun hh => by have := ht k hh; omega⟩
theorem Off.below0 (h : Off T a b) (ht : ∀ t ∈ T, a.heap.size ≤ t) : Below a.heap.size a b := h.below (Nat.le_refl _) ht
theorem Off.alloc (h : Off T a b) (o : Obj) : Off T a (b.alloc o) := h.trans (Off.of_below (below_alloc1 _ _) T)
theorem Off.drewN (h : Off T a b) (k : Nat) : Off T a (b.drewN k) := h.trans (Off.of_below (below_draws _ _ _) T)
theorem Off.setCell (h : Off T a b) {p : Addr} (hp : p.block ∈ T) (v : Value) : Off T a (b.setCell p v) :=
  h.trans ⟨rfl, rfl, rfl, by simp [World.setCell], fun k _ hk => Below.heap_setCell b p v k fun e => hk (by rw [e]; exact hp)⟩
/-- A store into a block that is new. -/
theorem Off.setNew (h : Off T a b) {p : Addr} (hp : a.heap.size ≤ p.block) (v : Value) : Off T a (b.setCell p v) :=
  ⟨h.os, h.tape, h.output, by simpa [World.setCell] using h.size, fun k hk ht => (Below.heap_setCell b p v k (by omega)).trans (h.block k hk ht)⟩
theorem Off.of_grown {row : Option Nat} (h : a.grownBy b row) (ht : ∀ k, row = some k → k ∈ T) : Off T a b :=
  ⟨h.os, h.tape, h.output, h.size, fun k hk hh => h.block k hk fun e => hh (ht k e.symm)⟩
theorem Bx.at_block {b : Nat} {cs : List Value} (h : Bx w b cs) (he : w'.heap[b]? = w.heap[b]?) (hlt : b < w'.heap.size) : Bx w' b cs :=
  ⟨fun j u hu => (World.cell?_of_block (a := ⟨b, j, none⟩) he).trans (h.cell j u hu), fun j => (World.frozen?_of_block (a := ⟨b, j, none⟩) he).trans (h.fz j), hlt⟩
theorem Bx.off {b : Nat} {cs : List Value} (h : Bx w b cs) (ho : Off T w w') (hb : b ∉ T) : Bx w' b cs := h.at_block (ho.block b h.lt hb) (Nat.lt_of_lt_of_le h.lt ho.size)
theorem Rd.off {s n c : Nat} {A : Option Addr} {xs : List Value} (h : Rd w s A n c xs) (ho : Off T w w') (hA : 0 < n → ∀ a, A = some a → a.block ∉ T) : Rd w' s A n c xs :=
  ⟨h.len, h.cap, h.big, h.nil, fun hn => by
    obtain ⟨b, o, e, hlt, hc⟩ := h.mem hn
    exact ⟨b, o, e, Nat.lt_of_lt_of_le hlt ho.size, fun j u hu => (World.cell?_of_block (a := ⟨b, o + j, none⟩) (ho.block b hlt (hA hn _ e))).trans (hc j u hu)⟩⟩
end
/-- Block b is a row of cells, known whole, none of it frozen. -/
def Wh (w : World) (b : Nat) (e : TypeId) (cs : List Value) : Prop := w.heap[b]? = some (.cells cs.toArray e (0, 0))
section
variable {w w' : World} {b : Nat} {e : TypeId} {cs : List Value} {T : List Nat}
theorem Wh.lt (h : Wh w b e cs) : b < w.heap.size := (Array.getElem?_eq_some_iff.1 h).1
theorem Wh.off (h : Wh w b e cs) (ho : Off T w w') (hb : b ∉ T) : Wh w' b e cs := (ho.block b h.lt hb).trans h
theorem Wh.below (h : Wh w b e cs) (ho : Below w.heap.size w w') : Wh w' b e cs := (ho.block b h.lt).trans h
theorem Wh.new (w : World) (e : TypeId) (cs : List Value) : Wh (w.alloc (.cells cs.toArray e)) w.heap.size e cs := by
  show (w.heap.push _)[_]? = _
  simp
theorem Wh.cell (h : Wh w b e cs) (j : Nat) : w.cell? ⟨b, j, none⟩ = cs[j]? := by
  unfold Wh at h
  simp [World.cell?, h]
theorem Wh.bx (h : Wh w b e cs) : Bx w b cs := by
  have hh : w.heap[b]? = some (.cells cs.toArray e (0, 0)) := h
  exact ⟨fun j u hu => (h.cell j).trans hu, fun j => by simp [World.frozen?, hh], h.lt⟩
theorem Wh.set (h : Wh w b e cs) {j : Nat} (v : Value) : Wh (w.setCell ⟨b, j, none⟩ v) b e (cs.set j v) := by
  unfold Wh at *
  simp only [World.setCell, Array.getElem?_modify, h]
  simp
theorem Wh.other (h : Wh w b e cs) {p : Addr} (hp : b ≠ p.block) (v : Value) : Wh (w.setCell p v) b e cs := (Below.heap_setCell w p v b hp).trans h
/-- A part of it, read as a slice. -/
theorem Wh.rd (h : Wh w b e cs) {s o n c : Nat} {xs : List Value} (hl : xs.length = n * s) (hn : n ≤ c) (hc : c ≤ maxLen) (hx : ∀ j u, xs[j]? = some u → cs[o + j]? = some u) : Rd w s (some ⟨b, o, none⟩) n c xs :=
  ⟨hl, hn, hc, (fun h => by cases h), fun _ => ⟨b, o, rfl, h.lt, fun j u hu => (h.cell _).trans (hx j u hu)⟩⟩
end
/-- COPY INTO A BLOCK THAT IS KNOWN WHOLE: nothing else turns. -/
theorem wpList_copy_off {P : Program} {w : World} {ops : Array Oper} {rest : List Oper} {o : Oper} {a : Act} {Q : Exit → Act → World → Prop} (hgd : o.guard = none) (d s : Operand) (dT sT : TypeId)
    (ho : o.op = .call { callee := .builtin .copy, args := #[d, s], argTypes := #[dT, sT] }) (elem : TypeId) (hu : P.underlying dT = some (.slice elem)) (hsz : (P.info? elem).map (·.size) = some 1)
    (dp sp : Option Addr) (dLen dCap sLen sCap : Nat) (hd : a.eval d = .slice dp dLen dCap) (hs : a.eval s = .slice sp sLen sCap)
    (g off : Nat) (cur : List Value) (t : TypeId) (hg : Wh w g t cur) (cs : List Value) (hr : Rd w 1 sp sLen sCap cs) (hle : sLen ≤ dLen)
    (hpos : 0 < sLen → dp = some ⟨g, off, none⟩)
    (hfit : off + sLen ≤ cur.length) (h1 : ∀ v ∈ cs, v.oneCell' = true)
    (h : ∀ w', Wh w' g t (splice cur off cs) → Off [g] w w' → wpList P ops Q rest (a.put o.dst (goInt sLen)) w') :
    wpList P ops Q (o :: rest) a w := by
  have hcl : cs.length = sLen := by have := hr.len; omega
  have hmin : Nat.min sLen dLen = sLen := Nat.min_eq_left hle
  by_cases h0 : sLen = 0
  · have hcs : cs = [] := List.eq_nil_of_length_eq_zero (by omega)
    subst hcs
    refine wpList_copy_nothing hgd d s dT sT ho elem hu hsz dp sp dLen dCap sLen sCap hd hs (hmin.trans h0) ?_
    have hh := h w (by simpa [splice, Wh] using hg) (Off.refl _ _)
    rwa [h0] at hh
  · obtain rfl := hpos (by omega)
    obtain ⟨b, o', rfl, _, hcell⟩ := hr.mem (by omega)
    refine wpList_copy_own hgd d s dT sT ho elem hu hsz g off dLen dCap ⟨b, o', none⟩ sLen sCap hd hs cur.toArray t hg cs (hcl.trans hmin.symm) (fun j v hv => by rw [Addr.add_lit]; exact hcell j v hv) (by simpa [hcl] using hfit) h1 ?_
    rw [hcl]
    refine h _ ?_ ⟨rfl, rfl, rfl, by simp [World.setRow], fun k _ hk => setRow_other w g k _ (by simpa using hk)⟩
    have := setRow_heap w g cur.toArray (splice cur off cs).toArray t (0, 0) hg
    simpa [splice, Wh, hcl] using this
/-- Cells before and in the part that was laid. -/
theorem splice_before {α : Type} (L : List α) (off : Nat) (cs : List α) (h : off + cs.length ≤ L.length) {j : Nat} (hj : j < off) : (splice L off cs)[j]? = L[j]? := by
  unfold splice
  rw [List.getElem?_append_left (by simp; omega), List.getElem?_take]
  simp [hj]
theorem splice_in {α : Type} (L : List α) (off : Nat) (cs : List α) (h : off + cs.length ≤ L.length) {j : Nat} (hj : j < cs.length) : (splice L off cs)[off + j]? = cs[j]? := by
  unfold splice
  have hl : (L.take off).length = off := by simp; omega
  rw [List.getElem?_append_right (by omega), hl, List.getElem?_append_left (by omega)]
  congr 1
  omega
end Go.Proofs.YtjficpdfofmcnaaDoor

/- Appending bytes, in the words of YtjficpdfofmcnaaDoorBase, at this program's types. -/
namespace Go.Proofs.YtjficpdfofmcnaaDoor
open Go.RowKit Go.Joins

theorem u8_info : (Tryd.prog.info? 5).map (fun i => (i.zero, i.size, i.bytes)) = some (some (.int .u8 0), 1, 1) := by kernel_rfl

/-- A slice of bytes that reads as l and may be appended to. -/
def TB (w : World) (base : Nat) (A : Option Addr) (n c : Nat) (l : List UInt8) : Prop := Tgt w base 5 1 (.slice A n c) n (l.map bv)
section
variable {w w' : World} {base n c : Nat} {A : Option Addr} {l : List UInt8}
theorem TB.rb (h : TB w base A n c l) : RB w A n c l := by
  obtain ⟨A', c', e, hr⟩ := Tgt.rd h
  injection e with e1 _ e3
  subst e1
  subst e3
  exact hr
theorem TB.len (h : TB w base A n c l) : l.length = n := h.rb.len
theorem TB.below (h : TB w base A n c l) (hb : Below w.heap.size w w') : TB w' base A n c l := Tgt.below h hb
theorem TB.le {base' : Nat} (h : TB w base A n c l) (hb : base' ≤ base) : TB w base' A n c l := Tgt.le h hb
theorem TB.nil (w : World) (base : Nat) : TB w base none 0 0 [] := Tgt.nil w base _ 1
theorem TB.full (h : RB w A n c l) : TB w base A n n l := Tgt.full h
end
/-- APPEND OF BYTES. -/
theorem append_b {ops : Array Oper} {rest : List Oper} {o : Oper} {a : Act} {Q : Exit → Act → World → Prop} (w : World) (hgd : o.guard = none) (sx x : Operand)
    (ho : o.op = .call { callee := .builtin .append, args := #[sx, x], argTypes := #[26, 26] })
    (base : Nat) (A : Option Addr) (n c : Nat) (l : List UInt8) (hs : a.eval sx = .slice A n c) (hv : TB w base A n c l)
    (A1 : Option Addr) (m c1 : Nat) (s : List UInt8) (hx : a.eval x = .slice A1 m c1) (hr : RB w A1 m c1 s)
    (hroom : n + m ≤ 140737488355328) (hbase : base ≤ w.heap.size)
    (h : ∀ A' n' c' w', TB w' base A' n' c' (l ++ s) → Below base w w' → wpList Tryd.prog ops Q rest (a.put o.dst (.slice A' n' c')) w') : wpList Tryd.prog ops Q (o :: rest) a w := by
  obtain ⟨i0, hi0, hz0, hz1, hz2⟩ := info_parts u8_info
  refine wpList_append_tgt w hgd sx x 26 ho base 5 i0 _ 1 1 Tryd.underlying26 hi0 hz0 hz1 hz2 rfl (by decide) _ n _ hs hv A1 m c1 _ hx hr (bv_one s) (by omega) (by decide) hbase ?_
  intro v' w' ht hb
  obtain ⟨A', c', rfl, hrd⟩ := ht.rd
  exact h A' (n + m) c' w' (by unfold TB; rw [List.map_append]; exact ht) hb
/-- APPEND OF BYTES, in a region that draws its order. -/
theorem step_append_b {ops : Array Oper} {o : Oper} {a : Act} {K : Act → World → Prop} {Q : Exit → Act → World → Prop} {E : Prop} (w : World) (hgd : o.guard = none) (sx x : Operand)
    (ho : o.op = .call { callee := .builtin .append, args := #[sx, x], argTypes := #[26, 26] })
    (base : Nat) (A : Option Addr) (n c : Nat) (l : List UInt8) (hs : a.eval sx = .slice A n c) (hv : TB w base A n c l)
    (A1 : Option Addr) (m c1 : Nat) (s : List UInt8) (hx : a.eval x = .slice A1 m c1) (hr : RB w A1 m c1 s)
    (hroom : n + m ≤ 140737488355328) (hbase : base ≤ w.heap.size)
    (h : ∀ A' n' c' w', TB w' base A' n' c' (l ++ s) → Below base w w' → K (a.put o.dst (.slice A' n' c')) w') :
    if Region.wanted o (yielded ops a.tmps) = true then Oper.wp Tryd.prog o a w K Q else E := by
  have hw : Region.wanted o (yielded ops a.tmps) = true := by simp [Region.wanted, hgd]
  rw [if_pos hw]
  obtain ⟨i0, hi0, hz0, hz1, hz2⟩ := info_parts u8_info
  refine wp_append_tgt w sx x 26 ho base 5 i0 _ 1 1 Tryd.underlying26 hi0 hz0 hz1 hz2 rfl (by decide) _ n _ hs hv A1 m c1 _ hx hr (bv_one s) (by omega) (by decide) hbase ?_
  intro v' w' ht hb
  obtain ⟨A', c', rfl, hrd⟩ := ht.rd
  exact h A' (n + m) c' w' (by unfold TB; rw [List.map_append]; exact ht) hb
/-- A slice of bytes in a row of the call's own. -/
def OB (w : World) (base : Nat) (A : Option Addr) (n c : Nat) (l : List UInt8) : Prop := w.ownsRow base 5 1 (.slice A n c) n (l.map bv)
section
variable {w w' : World} {base n c : Nat} {A : Option Addr} {l : List UInt8}
theorem OB.tb (h : OB w base A n c l) : TB w base A n c l := .inr h
theorem OB.rb (h : OB w base A n c l) : RB w A n c l := h.tb.rb
theorem OB.nil (w : World) (base : Nat) : OB w base none 0 0 [] := World.ownsRow_nil w base _ 1
theorem OB.below (h : OB w base A n c l) (hb : Below w.heap.size w w') : OB w' base A n c l := ownsRow_below h hb fun g hg => (World.ownsRow.lt h g hg).2
/-- Where it has an element: its row; what lies there; a store. -/
theorem OB.at_ (h : OB w base A n c l) (hn : 0 < n) : ∃ g, A = some ⟨g, 0, none⟩ ∧ base ≤ g ∧ g < w.heap.size ∧ (∀ j (hj : j < l.length), w.cell? ⟨g, j, none⟩ = some (.int .u8 (l[j].toNat : Int))) ∧
    (∀ j, w.frozen? ⟨g, j, none⟩ = false) ∧ ∀ j y, OB (w.setCell ⟨g, j, none⟩ (.int .u8 (y : UInt8).toNat)) base A n c (l.set j y) := by
  obtain ⟨g, cap, he, hbg, hg⟩ := World.ownsRow.form h hn
  injection he with e1 _ e3
  subst e1
  subst e3
  refine ⟨g, rfl, hbg, hg, fun j hj => ?_, fun j => World.ownsRow.frozenAt h j, fun j y => ?_⟩
  · have hlen := h.rb.len
    rw [World.ownsRow.cellAt h j (by omega), List.getElem?_map, List.getElem?_eq_getElem hj]
    rfl
  · have := (World.ownsRow.stored h j (bv y)).1
    unfold OB
    rwa [List.map_set]
end
/-- APPEND OF BYTES ONTO A ROW OF THE CALL's OWN. -/
theorem append_ob {ops : Array Oper} {rest : List Oper} {o : Oper} {a : Act} {Q : Exit → Act → World → Prop} (w : World) (hgd : o.guard = none) (sx x : Operand)
    (ho : o.op = .call { callee := .builtin .append, args := #[sx, x], argTypes := #[26, 26] })
    (base : Nat) (A : Option Addr) (n c : Nat) (l : List UInt8) (hs : a.eval sx = .slice A n c) (hv : OB w base A n c l)
    (A1 : Option Addr) (m c1 : Nat) (s : List UInt8) (hx : a.eval x = .slice A1 m c1) (hr : RB w A1 m c1 s)
    (hroom : n + m ≤ 140737488355328) (hbase : base ≤ w.heap.size)
    (h : ∀ A' n' c' w', OB w' base A' n' c' (l ++ s) → Below base w w' → wpList Tryd.prog ops Q rest (a.put o.dst (.slice A' n' c')) w') : wpList Tryd.prog ops Q (o :: rest) a w := by
  obtain ⟨i0, hi0, hz0, hz1, hz2⟩ := info_parts u8_info
  refine wpList_plain hgd fun K hK => wp_append_own_rd w sx x 26 ho base 5 i0 _ 1 1 Tryd.underlying26 hi0 hz0 hz1 hz2 rfl (by decide) _ n _ hs hv A1 m c1 _ hx hr (bv_one s) (by omega) (by decide) hbase ?_
  intro v' w' ht hb
  obtain ⟨A', c', rfl, hrd⟩ := Tgt.rd (.inr ht)
  exact hK _ _ (h A' (n + m) c' w' (by unfold OB; rw [List.map_append]; exact ht) hb)
/-- APPEND OF AT LEAST ONE BYTE: the result is the call's own. -/
theorem append_b1 {ops : Array Oper} {rest : List Oper} {o : Oper} {a : Act} {Q : Exit → Act → World → Prop} (w : World) (hgd : o.guard = none) (sx x : Operand)
    (ho : o.op = .call { callee := .builtin .append, args := #[sx, x], argTypes := #[26, 26] })
    (base : Nat) (A : Option Addr) (n c : Nat) (l : List UInt8) (hs : a.eval sx = .slice A n c) (hv : TB w base A n c l)
    (A1 : Option Addr) (m c1 : Nat) (s : List UInt8) (hx : a.eval x = .slice A1 m c1) (hr : RB w A1 m c1 s) (hm : 0 < m)
    (hroom : n + m ≤ 140737488355328) (hbase : base ≤ w.heap.size)
    (h : ∀ A' n' c' w', OB w' base A' n' c' (l ++ s) → Below base w w' → wpList Tryd.prog ops Q rest (a.put o.dst (.slice A' n' c')) w') : wpList Tryd.prog ops Q (o :: rest) a w := by
  obtain ⟨i0, hi0, hz0, hz1, hz2⟩ := info_parts u8_info
  refine wpList_plain hgd fun K hK => wp_append_tgt_pos w sx x 26 ho base 5 i0 _ 1 1 Tryd.underlying26 hi0 hz0 hz1 hz2 rfl (by decide) _ n _ hs hv A1 m c1 _ hx hr (bv_one s) hm (by omega) (by decide) hbase ?_
  intro v' w' ht hb
  obtain ⟨A', c', rfl, hrd⟩ := Tgt.rd (.inr ht)
  exact hK _ _ (h A' (n + m) c' w' (by unfold OB; rw [List.map_append]; exact ht) hb)
theorem strCells_bv (s : ByteArray) : Lib.strCells s = s.data.toList.map bv := rfl
/-- APPEND OF A STRING's BYTES ONTO A ROW OF THE CALL's OWN. -/
theorem append_os {ops : Array Oper} {rest : List Oper} {o : Oper} {a : Act} {Q : Exit → Act → World → Prop} (w : World) (hgd : o.guard = none) (sx x : Operand)
    (ho : o.op = .call { callee := .builtin .append, args := #[sx, x], argTypes := #[26, 9] })
    (base : Nat) (A : Option Addr) (n c : Nat) (l : List UInt8) (hs : a.eval sx = .slice A n c) (hv : OB w base A n c l) (s : ByteArray) (hx : a.eval x = .string s)
    (hroom : n + s.size ≤ 140737488355328) (hbase : base ≤ w.heap.size)
    (h : ∀ A' n' c' w', OB w' base A' n' c' (l ++ s.data.toList) → Below base w w' → wpList Tryd.prog ops Q rest (a.put o.dst (.slice A' n' c')) w') : wpList Tryd.prog ops Q (o :: rest) a w := by
  obtain ⟨i0, hi0, hz0, hz1, hz2⟩ := info_parts u8_info
  refine Lib.wpList_append_own_string w hgd sx x 26 9 ho base 5 i0 Tryd.underlying26 Tryd.underlying9 hi0 hz0 hz1 hz2 _ n _ hs hv s hx (by simp only [maxLen]; omega) hroom hbase ?_
  intro v' w' ht hg _
  obtain ⟨A', c', rfl, hrd⟩ := Tgt.rd (.inr ht)
  exact h A' (n + s.size) c' w' (by unfold OB; rw [List.map_append]; exact ht) ((Below.refl _ _).grown hg hbase fun k hk => (World.ownsRow.lt hv k hk).1)
/-- '[]byte{}' -/
theorem tb_empty (w : World) (base : Nat) : TB (w.alloc (.cells #[] 5)) base (some ⟨w.heap.size, 0, none⟩) 0 0 [] := by
  refine .inl ⟨_, rfl, ⟨rfl, Nat.le_refl _, by simp [maxLen], (fun h => by cases h), fun h => absurd h (by omega)⟩⟩
/-- WHAT A FUNCTION THAT RETURNS BYTES LEAVES: a slice that reads as l; nothing that was there has turned. -/
def RetB (w : World) (l : List UInt8) (e : Ending) (w' : World) : Prop := ∃ A n c, e = .returned (.slice A n c) ∧ RB w' A n c l ∧ Below w.heap.size w w'
/-- The same with an error number behind it. -/
def RetBE (w : World) (l : List UInt8) (k : Int) (e : Ending) (w' : World) : Prop := ∃ A n c, e = .returned (.tuple #[.slice A n c, .int .i64 k]) ∧ RB w' A n c l ∧ Below w.heap.size w w'
/-- One byte, as the walk lays it in a block of its own. -/
theorem rb_one (w : World) (x : UInt8) : RB (w.alloc (.cells #[.int .u8 (x.toNat : Int)] 5)) (some ⟨w.heap.size, 0, none⟩) 1 1 [x] := by
  refine ⟨rfl, Nat.le_refl _, by simp [maxLen], (fun h => by cases h), fun _ => ⟨_, 0, rfl, by simp, fun j u hu => ?_⟩⟩
  match j, hu with
  | 0, hu => simp [bv] at hu; subst hu; simp
theorem size_u8 (w : World) : (sizeOf 5).run Tryd.prog w = .ok 1 w := by
  obtain ⟨i0, hi0, hz0, hz1, hz2⟩ := info_parts u8_info
  simp [sizeOf, typeInfo, hi0, hz1]
theorem elem_bytes : Tryd.prog.elem 26 = 5 := by kernel_rfl
/-- 's[i:j]' of bytes: the address stays folded. -/
theorem run_cut_b (A : Option Addr) (n c i j : Nat) (I J : Int) (hI : I = (i : Int)) (hJ : J = (j : Int)) (hij : i ≤ j) (hjc : j ≤ c) (w : World) :
    (Instr.slice 26 (.slice A n c) (some (.int .i64 I)) (some (.int .i64 J)) none).run Tryd.prog w = .ok (.slice (cutA A i c 1) (j - i) (c - i)) w := by
  subst hI hJ
  rw [run_slice_lh w 26 A n c (by rw [elem_bytes]; exact Tryd.underlying26) .i64 .i64 _ _ (by omega) (by omega) (by omega), elem_bytes, size_u8]
  simp [sliced, cutA]
/-- 's[i:]' of bytes. -/
theorem run_from_b (A : Option Addr) (n c i : Nat) (I : Int) (hI : I = (i : Int)) (hin : i ≤ n) (w : World) :
    (Instr.slice 26 (.slice A n c) (some (.int .i64 I)) none none).run Tryd.prog w = .ok (.slice (cutA A i c 1) (n - i) (c - i)) w := by
  subst hI
  rw [run_slice_l w 26 A n c (by rw [elem_bytes]; exact Tryd.underlying26) .i64 _ (by omega) (by omega), elem_bytes, size_u8]
  simp [sliced, cutA]
/-- 's[i:j:k]' of bytes. -/
theorem run_cut3_b (A : Option Addr) (n c i j k : Nat) (I J K : Int) (hI : I = (i : Int)) (hJ : J = (j : Int)) (hK : K = (k : Int)) (hij : i ≤ j) (hjk : j ≤ k) (hkc : k ≤ c) (w : World) :
    (Instr.slice 26 (.slice A n c) (some (.int .i64 I)) (some (.int .i64 J)) (some (.int .i64 K))).run Tryd.prog w = .ok (.slice (cutA A i k 1) (j - i) (k - i)) w := by
  subst hI hJ hK
  rw [run_slice_lhm w 26 A n c (by rw [elem_bytes]; exact Tryd.underlying26) .i64 .i64 .i64 _ _ _ (by omega) (by omega) (by omega) (by omega), elem_bytes, size_u8]
  simp [sliced, cutA]
/-- A literal of bytes in a block of its own. -/
theorem rb_lit (w : World) (l : List UInt8) (m : Nat × Nat) (t : TypeId) (hl : l.length ≤ maxLen) : RB (w.alloc (.cells (l.map bv).toArray t m)) (some ⟨w.heap.size, 0, none⟩) l.length l.length l := by
  refine ⟨by simp, Nat.le_refl _, hl, (fun h => by cases h), fun _ => ⟨_, 0, rfl, by simp, fun j u hu => ?_⟩⟩
  rw [Nat.zero_add, World.cell?_alloc_mark]
  simpa using hu
end Go.Proofs.YtjficpdfofmcnaaDoor

/- Appending ints, in the words of YtjficpdfofmcnaaDoorBase, at this program's types. -/
namespace Go.Proofs.YtjficpdfofmcnaaDoor
open Go.RowKit Go.Joins

theorem int_info : (Tryd.prog.info? 3).map (fun i => (i.zero, i.size, i.bytes)) = some (some (.int .i64 0), 1, 8) := by kernel_rfl
/-- A slice of ints in a row of the call's own. -/
def OI (w : World) (base : Nat) (A : Option Addr) (n c : Nat) (l : List Int) : Prop := w.ownsRow base 3 1 (.slice A n c) n (l.map iv)
section
variable {w w' : World} {base n c : Nat} {A : Option Addr} {l : List Int}
theorem OI.ri (h : OI w base A n c l) : RI w A n c l := Rd.own h
theorem OI.nil (w : World) (base : Nat) : OI w base none 0 0 [] := World.ownsRow_nil w base _ 1
theorem OI.below (h : OI w base A n c l) (hb : Below w.heap.size w w') : OI w' base A n c l := ownsRow_below h hb fun g hg => (World.ownsRow.lt h g hg).2
end
/-- APPEND OF INTS ONTO A ROW OF THE CALL's OWN. -/
theorem append_oi {ops : Array Oper} {rest : List Oper} {o : Oper} {a : Act} {Q : Exit → Act → World → Prop} (w : World) (hgd : o.guard = none) (sx x : Operand)
    (ho : o.op = .call { callee := .builtin .append, args := #[sx, x], argTypes := #[27, 27] })
    (base : Nat) (A : Option Addr) (n c : Nat) (l : List Int) (hs : a.eval sx = .slice A n c) (hv : OI w base A n c l)
    (A1 : Option Addr) (m c1 : Nat) (s : List Int) (hx : a.eval x = .slice A1 m c1) (hr : RI w A1 m c1 s)
    (hroom : (n + m) * 8 ≤ 140737488355328) (hbase : base ≤ w.heap.size)
    (h : ∀ A' n' c' w', OI w' base A' n' c' (l ++ s) → Below base w w' → wpList Tryd.prog ops Q rest (a.put o.dst (.slice A' n' c')) w') : wpList Tryd.prog ops Q (o :: rest) a w := by
  obtain ⟨i0, hi0, hz0, hz1, hz2⟩ := info_parts int_info
  refine wpList_plain hgd fun K hK => wp_append_own_rd w sx x 27 ho base 3 i0 _ 1 8 Tryd.underlying27 hi0 hz0 hz1 hz2 rfl (by decide) _ n _ hs hv A1 m c1 _ hx hr (iv_one s) hroom (by decide) hbase ?_
  intro v' w' ht hb
  obtain ⟨A', c', rfl, hrd⟩ := Tgt.rd (.inr ht)
  exact hK _ _ (h A' (n + m) c' w' (by unfold OI; rw [List.map_append]; exact ht) hb)
/-- One int, as the walk lays it in a block of its own. -/
theorem ri_one (w : World) (x : Int) : RI (w.alloc (.cells #[.int .i64 x] 3)) (some ⟨w.heap.size, 0, none⟩) 1 1 [x] := by
  refine ⟨rfl, Nat.le_refl _, by simp [maxLen], (fun h => by cases h), fun _ => ⟨_, 0, rfl, by simp, fun j u hu => ?_⟩⟩
  match j, hu with
  | 0, hu => simp [iv] at hu; subst hu; simp
/-- A literal of ints in a block of its own. -/
theorem ri_lit (w : World) (l : List Int) (m : Nat × Nat) (t : TypeId) (hl : l.length ≤ maxLen) : RI (w.alloc (.cells (l.map iv).toArray t m)) (some ⟨w.heap.size, 0, none⟩) l.length l.length l := by
  refine ⟨by simp, Nat.le_refl _, hl, (fun h => by cases h), fun _ => ⟨_, 0, rfl, by simp, fun j u hu => ?_⟩⟩
  rw [Nat.zero_add, World.cell?_alloc_mark]
  simpa using hu
end Go.Proofs.YtjficpdfofmcnaaDoor

/- From a reading of an argument to the words of YtjficpdfofmcnaaDoorBase. -/
namespace Go.Proofs.YtjficpdfofmcnaaDoor
open Go.ChangeShapes Go.WideShapes Go.ChangeAt Go.RowKit Go.Joins

theorem own : ownKnob Tryd.prog.godebug = none := by kernel_rfl
theorem laidOut : laidOutB Tryd.prog = true := by kernel_rfl

section
variable {H : Type} {enc : TypeId × Value → H} {P : Program} {W : World} {t e : TypeId} {v : Value} {d : DataW H} {p : List MemPlace} {r : Reach} {b0 : Nat}

/-- What a datum of a slice says of its length. -/
def LenIs (d : DataW H) (n : Nat) : Prop := (d = .nil ∧ n = 0) ∨ ∃ es sp, d = .slice es sp ∧ es.length = n

theorem open_rd {k : IntKind} (ht : P.underlying t = some (.slice e)) (he : P.underlying e = some (.int k)) (hc : P.cellsOf e = 1) (hv : Value.okWide P W r b0 t v) (h : DataW.Trod enc P W 0 (fun _ => true) true t v d p) :
    ∃ (A : Option Addr) (n c : Nat) (zs : List Int), v = .slice A n c ∧ Rd W 1 A n c (zs.map (Value.int k)) ∧ (∀ z ∈ zs, (Lit.int k z).wf = true) ∧ LenIs d n ∧ zs.length = n := by
  obtain ⟨A, n, c, rfl⟩ := okWide_slice ht hv
  obtain ⟨fuel, hf⟩ := h
  rcases open_ints ht he hc hf with ⟨hcs, hx⟩ | ⟨a, len, cap, zs, hcs, _, hl, hm, hz, hx, hcell, hwz⟩
  · simp [Value.cells] at hcs
    obtain ⟨rfl, rfl, rfl⟩ := hcs
    simp only [Prod.mk.injEq] at hx
    exact ⟨none, 0, 0, [], rfl, Rd.none_ _ _, (fun z h => by cases h), .inl ⟨hx.1, rfl⟩, rfl⟩
  · simp [Value.cells] at hcs
    obtain ⟨rfl, rfl, rfl⟩ := hcs
    simp only [if_true] at hz
    simp only [Prod.mk.injEq] at hx
    refine ⟨some a, n, c, zs.take n, rfl, ⟨by simp; omega, hl, hm, (fun h => by cases h), fun hn => ?_⟩, fun z h => hwz z (List.mem_of_mem_take h), .inr ⟨_, _, hx.1, by simp [lits]; omega⟩, by simp; omega⟩
    obtain ⟨b, o, spot⟩ := a
    have h0 := hcell 0 (by omega)
    have hspot : spot = none := by simpa [Addr.add] using World.cell?_spot h0
    subst hspot
    refine ⟨b, o, rfl, World.block_lt_of_cell? W _ (by simpa [Addr.add] using h0), fun j u hu => ?_⟩
    rw [List.getElem?_map, List.getElem?_take] at hu
    split at hu
    · rename_i hj
      have hj' : j < zs.length := by omega
      rw [List.getElem?_eq_getElem hj'] at hu
      simp only [Option.map_some, Option.some.injEq] at hu
      subst hu
      have := hcell j hj'
      rw [Addr.add_lit] at this
      rw [this]
      simp [List.getD, List.getElem?_eq_getElem hj']
    · cases hu

theorem byte_of_wf {z : Int} (h : (Lit.int .u8 z).wf = true) : ∃ c : UInt8, z = (c.toNat : Int) := by
  have hb := bounds_u8 h
  refine ⟨UInt8.ofNat z.toNat, ?_⟩
  rw [UInt8.toNat_ofNat']
  omega
theorem bytes_of_wf : ∀ (zs : List Int), (∀ z ∈ zs, (Lit.int .u8 z).wf = true) → ∃ l : List UInt8, zs.map (Value.int .u8) = l.map bv
  | [], _ => ⟨[], rfl⟩
  | z :: zs, h => by
    obtain ⟨c, hc⟩ := byte_of_wf (h z (by simp))
    obtain ⟨l, hl⟩ := bytes_of_wf zs (fun y hy => h y (by simp [hy]))
    exact ⟨c :: l, by simp [hl, bv, hc]⟩
theorem word_of_wf {z : Int} (h : (Lit.int .u64 z).wf = true) : ∃ x : BitVec 64, z = (x.toNat : Int) := by
  have hb := bounds_u64 h
  refine ⟨BitVec.ofNat 64 z.toNat, ?_⟩
  rw [BitVec.toNat_ofNat]
  omega
/-- A slice of bytes that came in. -/
theorem open_rb (ht : P.underlying t = some (.slice e)) (he : P.underlying e = some (.int .u8)) (hc : P.cellsOf e = 1) (hv : Value.okWide P W r b0 t v) (h : DataW.Trod enc P W 0 (fun _ => true) true t v d p) :
    ∃ A n c l, v = .slice A n c ∧ RB W A n c l ∧ LenIs d n := by
  obtain ⟨A, n, c, zs, hv', hr, hw, hd, hz⟩ := open_rd ht he hc hv h
  obtain ⟨l, hl⟩ := bytes_of_wf zs hw
  exact ⟨A, n, c, l, hv', by unfold RB; rw [← hl]; exact hr, hd⟩
/-- A slice of ints that came in. -/
theorem open_ri (ht : P.underlying t = some (.slice e)) (he : P.underlying e = some (.int .i64)) (hc : P.cellsOf e = 1) (hv : Value.okWide P W r b0 t v) (h : DataW.Trod enc P W 0 (fun _ => true) true t v d p) :
    ∃ A n c l, v = .slice A n c ∧ RI W A n c l ∧ (∀ z ∈ l, (Lit.int .i64 z).wf = true) ∧ LenIs d n := by
  obtain ⟨A, n, c, zs, hv', hr, hw, hd, hz⟩ := open_rd ht he hc hv h
  exact ⟨A, n, c, zs, hv', hr, hw, hd⟩
theorem LenIs.reach {ts : List TypeId} {ds : List (DataW H)} (h : (DataW.weightsEach P ts ds).all (· ≤ reachBytes) = true) {j n : Nat} (hl : LenIs d n) (ht : ts[j]? = some t) (hd : ds[j]? = some d) (hu : P.underlying t = some (.slice e)) :
    n * P.bytesOf e ≤ 140737488351232 := by
  rcases hl with ⟨rfl, rfl⟩ | ⟨es, sp, rfl, rfl⟩
  · simp
  · have := sized_slice h ht hd hu
    unfold reachBytes at this
    rw [Nat.add_mul] at this
    omega
end
end Go.Proofs.YtjficpdfofmcnaaDoor

/- Slices whose elements take several cells, or are slices themselves. -/
namespace Go.Proofs.YtjficpdfofmcnaaDoor
open Go.ChangeShapes Go.WideShapes Go.ChangeAt Go.RowKit Go.Joins Go.Deep

section
variable {α : Type} {cells : α → List Value} {s : Nat}
theorem flat_len (hc : ∀ e, (cells e).length = s) : ∀ es : List α, (es.flatMap cells).length = es.length * s
  | [] => by simp
  | e :: es => by rw [List.flatMap_cons, List.length_append, hc e, flat_len hc es, List.length_cons, Nat.succ_mul]; omega
theorem flat_get (hc : ∀ e, (cells e).length = s) : ∀ (es : List α) (i j : Nat), j < s → (es.flatMap cells)[i * s + j]? = (es[i]?).bind fun e => (cells e)[j]?
  | [], i, j, _ => by simp
  | e :: es, 0, j, hj => by
    rw [List.flatMap_cons, List.getElem?_append_left (by rw [hc e]; omega)]
    simp
  | e :: es, i + 1, j, hj => by
    rw [List.flatMap_cons, List.getElem?_append_right (by rw [hc e, Nat.succ_mul]; omega), hc e, show (i + 1) * s + j - s = i * s + j by rw [Nat.succ_mul]; omega, flat_get hc es i j hj]
    simp
/-- An element's cells. -/
theorem Rd.row {w : World} {A : Option Addr} {n c : Nat} {es : List α} (h : Rd w s A n c (es.flatMap cells)) (hc : ∀ e, (cells e).length = s) {k : Nat} (hk : k < es.length) (hn : es.length = n) :
    ∃ b o, A = some ⟨b, o, none⟩ ∧ b < w.heap.size ∧ ∀ j u, (cells es[k])[j]? = some u → w.cell? ⟨b, o + k * s + j, none⟩ = some u := by
  obtain ⟨b, o, e, hlt, hcell⟩ := h.mem (by omega)
  refine ⟨b, o, e, hlt, fun j u hu => ?_⟩
  have hj : j < s := by
    have := (List.getElem?_eq_some_iff.1 hu).1
    rwa [hc] at this
  have := hcell (k * s + j) u (by rw [flat_get hc es k j hj, List.getElem?_eq_getElem hk]; exact hu)
  rwa [← Nat.add_assoc] at this
theorem Rd.rows {w : World} {A : Option Addr} {n c : Nat} {es : List α} (h : Rd w s A n c (es.flatMap cells)) (hc : ∀ e, (cells e).length = s) (hs : 0 < s) : es.length = n := by
  have := h.len
  rw [flat_len hc] at this
  exact Nat.eq_of_mul_eq_mul_right hs this
/-- Elements, one by one, to a list. -/
theorem rows_of {w : World} {a : Addr} (hc : ∀ e, (cells e).length = s) (Q : Nat → α → Prop) : ∀ n, (∀ i, i < n → ∃ e, Q i e ∧ ∀ j u, (cells e)[j]? = some u → w.cell? (a.add (i * s + j)) = some u) →
    ∃ es : List α, es.length = n ∧ (∀ i e, es[i]? = some e → Q i e) ∧ ∀ j u, (es.flatMap cells)[j]? = some u → w.cell? (a.add j) = some u
  | 0, _ => ⟨[], rfl, fun i e h => by simp at h, fun j u h => by simp at h⟩
  | n + 1, h => by
    obtain ⟨es, hl, hQ, hcell⟩ := rows_of hc Q n (fun i hi => h i (by omega))
    obtain ⟨e, hq, he⟩ := h n (by omega)
    refine ⟨es ++ [e], by simp [hl], fun i x hx => ?_, fun j u hu => ?_⟩
    · rw [List.getElem?_append] at hx
      split at hx
      · exact hQ i x hx
      · rename_i hi
        have h0 : i - es.length = 0 := by
          have := (List.getElem?_eq_some_iff.1 hx).1
          simp at this
          omega
        rw [h0] at hx
        simp at hx
        subst hx
        rw [show i = n by omega]
        exact hq
    · rw [List.flatMap_append, List.getElem?_append] at hu
      have hfl := flat_len hc es
      split at hu
      · exact hcell j u hu
      · rename_i hj
        simp only [List.flatMap_cons, List.flatMap_nil, List.append_nil] at hu
        have := he _ u hu
        rwa [hfl, hl, show n * s + (j - n * s) = j by rw [hfl, hl] at hj; omega] at this
end

section
variable {H : Type} {enc : TypeId × Value → H} {P : Program} {W : World} {t e : TypeId} {v : Value} {x : DataW H × List MemPlace} {fuel : Nat}
/-- A slice of integers, by its cell. -/
theorem rd_of_trod {k : IntKind} (ht : P.underlying t = some (.slice e)) (he : P.underlying e = some (.int k)) (hc : P.cellsOf e = 1) (h : DataW.trod enc P W 0 (fun _ => true) true fuel t [v] = some x) :
    ∃ (A : Option Addr) (n c : Nat) (zs : List Int), v = .slice A n c ∧ Rd W 1 A n c (zs.map (Value.int k)) ∧ (∀ z ∈ zs, (Lit.int k z).wf = true) ∧ LenIs x.1 n ∧ zs.length = n := by
  rcases open_ints ht he hc h with ⟨hcs, hx⟩ | ⟨a, n, c, zs, hcs, _, hl, hm, hz, hx, hcell, hwz⟩
  · simp at hcs
    subst hcs
    exact ⟨none, 0, 0, [], rfl, Rd.none_ _ _, (fun z h => by cases h), .inl ⟨by rw [hx], rfl⟩, rfl⟩
  · simp at hcs
    subst hcs
    simp only [if_true] at hz
    refine ⟨some a, n, c, zs.take n, rfl, ⟨by simp; omega, hl, hm, (fun h => by cases h), fun hn => ?_⟩, fun z h => hwz z (List.mem_of_mem_take h), .inr ⟨_, _, by rw [hx], by simp [lits]; omega⟩, by simp; omega⟩
    obtain ⟨b, o, spot⟩ := a
    have h0 := hcell 0 (by omega)
    have hspot : spot = none := by simpa [Addr.add] using World.cell?_spot h0
    subst hspot
    refine ⟨b, o, rfl, World.block_lt_of_cell? W _ (by simpa [Addr.add] using h0), fun j u hu => ?_⟩
    rw [List.getElem?_map, List.getElem?_take] at hu
    split at hu
    · rename_i hj
      have hj' : j < zs.length := by omega
      rw [List.getElem?_eq_getElem hj'] at hu
      simp only [Option.map_some, Option.some.injEq] at hu
      subst hu
      have := hcell j hj'
      rw [Addr.add_lit] at this
      rw [this]
      simp [List.getD, List.getElem?_eq_getElem hj']
    · cases hu
theorem rb_of_trod (ht : P.underlying t = some (.slice e)) (he : P.underlying e = some (.int .u8)) (hc : P.cellsOf e = 1) (h : DataW.trod enc P W 0 (fun _ => true) true fuel t [v] = some x) :
    ∃ A n c l, v = .slice A n c ∧ RB W A n c l ∧ LenIs x.1 n := by
  obtain ⟨A, n, c, zs, hv', hr, hw, hd, hz⟩ := rd_of_trod ht he hc h
  obtain ⟨l, hl⟩ := bytes_of_wf zs hw
  exact ⟨A, n, c, l, hv', by unfold RB; rw [← hl]; exact hr, hd⟩
theorem ri_of_trod (ht : P.underlying t = some (.slice e)) (he : P.underlying e = some (.int .i64)) (hc : P.cellsOf e = 1) (h : DataW.trod enc P W 0 (fun _ => true) true fuel t [v] = some x) :
    ∃ A n c l, v = .slice A n c ∧ RI W A n c l ∧ (∀ z ∈ l, (Lit.int .i64 z).wf = true) ∧ LenIs x.1 n := by
  obtain ⟨A, n, c, zs, hv', hr, hw, hd, hz⟩ := rd_of_trod ht he hc h
  exact ⟨A, n, c, zs, hv', hr, hw, hd⟩
/-- A slice of whatever elements, by its cell: each element's cells are handed to 'each'. -/
theorem rows_of_trod {α : Type} {cells : α → List Value} {s : Nat} (ht : P.underlying t = some (.slice e)) (hC : P.cellsOf e = s) (hs : 0 < s) (hc : ∀ y : α, (cells y).length = s) (Q : α → DataW H → Prop)
    (each : ∀ (m : Nat) (cs : List Value) (y : DataW H × List MemPlace), DataW.trod enc P W 0 (fun _ => true) true m e cs = some y → ∃ z : α, cs = cells z ∧ Q z y.1)
    (h : DataW.trod enc P W 0 (fun _ => true) true fuel t [v] = some x) :
    ∃ (A : Option Addr) (n c : Nat) (es : List α), v = .slice A n c ∧ Rd W s A n c (es.flatMap cells) ∧ es.length = n ∧
      ((x.1 = .nil ∧ es = []) ∨ ∃ (D : Nat → DataW H) (sp : List (DataW H)), x.1 = .slice ((List.range n).map D) sp ∧ ∀ i z, es[i]? = some z → Q z (D i)) := by
  rcases open_slice ht h with ⟨hcs, hx⟩ | ⟨a, len, cap, m, n, D, Pl, hcs, hb, hl, hm, hmm, hx, hi⟩
  · simp at hcs
    subst hcs
    exact ⟨none, 0, 0, [], rfl, Rd.none_ _ _, rfl, .inl ⟨by rw [hx], rfl⟩⟩
  · simp at hcs
    subst hcs
    simp only [if_true] at hmm
    subst hmm
    rcases Nat.eq_zero_or_pos len with h0 | h0
    · subst h0
      exact ⟨some a, 0, m, [], rfl, ⟨by simp, Nat.zero_le _, hm, (fun h => by cases h), fun h => absurd h (by omega)⟩, rfl, .inr ⟨D, _, by rw [hx], fun i z hz => by simp at hz⟩⟩
    · have hspot : a.spot = none := by
        obtain ⟨cs, hc1, _⟩ := hi 0 (by omega)
        obtain ⟨_, hcl, hat⟩ := World.cells?_some hc1
        have := hat 0 (by omega)
        rw [List.getElem?_eq_getElem (by omega)] at this
        simpa [Addr.add] using World.cell?_spot this
      obtain ⟨b, o, spot⟩ := a
      simp only at hspot
      subst hspot
      obtain ⟨es, hel, hQ, hcell⟩ := rows_of (w := W) (a := ⟨b, o, none⟩) hc (fun i z => Q z (D i)) len (fun i hi' => by
        obtain ⟨cs, hc1, ht'⟩ := hi i (by omega)
        obtain ⟨z, rfl, hz⟩ := each _ _ _ ht'
        obtain ⟨_, hcl, hat⟩ := World.cells?_some hc1
        refine ⟨z, hz, fun j u hu => ?_⟩
        have hj : j < (cells z).length := (List.getElem?_eq_some_iff.1 hu).1
        have := hat j (by rw [← hcl]; exact hj)
        rw [hC, Go.Deep.add_add] at this
        rw [this]
        exact hu)
      refine ⟨_, len, m, es, rfl, ⟨by rw [flat_len hc, hel], hl, hm, (fun h => by cases h), fun _ => ⟨b, o, rfl, ?_, fun j u hu => ?_⟩⟩, hel, .inr ⟨D, _, by rw [hx], hQ⟩⟩
      · have := hcell 0
        have hpos : 0 < (es.flatMap cells).length := by rw [flat_len hc, hel]; exact Nat.mul_pos h0 hs
        have := this _ (List.getElem?_eq_getElem hpos)
        exact World.block_lt_of_cell? W _ (by simpa [Addr.add] using this)
      · have := hcell j u hu
        rwa [Addr.add_lit] at this
/-- A struct of one-cell fields, by its cells. -/
theorem trod_fields {fs : Array Field} {cs : List Value} (hs : P.underlying t = some (.struct fs)) (hone : oneCellFields P fs = true) (hC : P.cellsOf t = fs.size) (h : DataW.trod enc P W 0 (fun _ => true) true fuel t cs = some x) :
    cs.length = fs.size ∧ ∃ (ys : List (DataW H × List MemPlace)) (n : Nat), x.1 = .agg (ys.map (·.1)) ∧ ys.length = fs.size ∧
      ∀ (j : Nat) (f : Field), fs[j]? = some f → ∃ (u : Value) (y : DataW H × List MemPlace), cs[j]? = some u ∧ ys[j]? = some y ∧ DataW.trod enc P W 0 (fun _ => true) true n f.type [u] = some y := by
  obtain ⟨ys, n', hn', hy, hlen, hyl, hf⟩ := DataW.trod_struct hs h
  have hcl : cs.length = fs.size := hlen.trans hC
  refine ⟨hcl, ys, n', by rw [hy], hyl, fun j f hj => ?_⟩
  obtain ⟨ho, hk⟩ := hone_of hone j f hj
  have hjl : j < fs.size := (Array.getElem?_eq_some_iff.1 hj).1
  have h1 := hf j f hj
  rw [ho, hk] at h1
  have hone' : (cs.drop j).take 1 = [cs[j]'(by omega)] := by
    rw [List.drop_eq_getElem_cons (by omega)]
    rfl
  rw [hone'] at h1
  have hys : ys[j]? = some (ys[j]'(by omega)) := List.getElem?_eq_getElem (by omega)
  exact ⟨_, _, List.getElem?_eq_getElem (by omega), hys, h1.trans hys⟩
end
end Go.Proofs.YtjficpdfofmcnaaDoor

/- The plain mathematics of the encoding of integers (zigzag, base 128), strings and lists: no program in sight. -/
namespace Go.Proofs.YtjficpdfofmcnaaDoor.V

/-- An integer as a natural number: 0, -1, 1, -2 .. -/
def zig (n : Int) : Nat := if n < 0 then (2 * (-n - 1) + 1).toNat else (2 * n).toNat
def unzig (u : Nat) : Int := if u % 2 = 0 then ((u / 2 : Nat) : Int) else -((u / 2 : Nat) : Int) - 1
theorem unzig_zig (n : Int) : unzig (zig n) = n := by unfold unzig zig; split <;> split <;> omega
theorem zig_unzig (u : Nat) : zig (unzig u) = u := by unfold unzig zig; split <;> split <;> omega
/-- The integers of the machine. -/
def In (n : Int) : Prop := -9223372036854775808 ≤ n ∧ n ≤ 9223372036854775807
theorem zig_lt {n : Int} (h : In n) : zig n < 18446744073709551616 := by unfold In at h; unfold zig; split <;> omega
theorem unzig_in {u : Nat} (h : u < 18446744073709551616) : In (unzig u) := by unfold In unzig; split <;> omega

/-- The digits of u in base 128, the least significant one first; all but the last one are raised by 128. At most f + 1 of them. -/
def uvar : Nat → Nat → List UInt8
  | 0, u => [UInt8.ofNat u]
  | f + 1, u => if u < 128 then [UInt8.ofNat u] else UInt8.ofNat (u % 128 + 128) :: uvar f (u / 128)
/-- THE ENCODING OF AN INTEGER. -/
def enc (n : Int) : List UInt8 := uvar 9 (zig n)
theorem uvar_small (f u : Nat) (h : u < 128) : uvar f u = [UInt8.ofNat u] := by cases f <;> simp [uvar, h]
theorem uvar_big (f u : Nat) (h : ¬ u < 128) : uvar (f + 1) u = UInt8.ofNat (u % 128 + 128) :: uvar f (u / 128) := by simp [uvar, h]

/-- The number that digits are. -/
def val : List UInt8 → Nat
  | [] => 0
  | c :: l => c.toNat % 128 + 128 * val l
theorem val_append (l m : List UInt8) : val (l ++ m) = val l + 128 ^ l.length * val m := by
  induction l with
  | nil => simp [val]
  | cons c l ih => simp only [List.cons_append, val, ih, List.length_cons, Nat.pow_succ]; rw [Nat.mul_add, Nat.mul_comm (128 ^ l.length) 128, Nat.mul_assoc]; omega
theorem val_lt (l : List UInt8) : val l < 128 ^ l.length := by
  induction l with
  | nil => simp [val]
  | cons c l ih => simp only [val, List.length_cons, Nat.pow_succ]; have := Nat.mod_lt c.toNat (show 0 < 128 by decide); omega
theorem val_snoc (l : List UInt8) (c : UInt8) : val (l ++ [c]) = val l + 128 ^ l.length * (c.toNat % 128) := by rw [val_append]; simp [val]

/-- The number of digits at the beginning that are not the last one. -/
def lead (l : List UInt8) : Nat := (l.takeWhile fun c => decide (128 ≤ c.toNat)).length
/-- THE DECODING OF AN INTEGER: it, how many bytes it used, the error (0, 4: form, 5: short). -/
def dec (l : List UInt8) : Int × Nat × Int :=
  if 10 ≤ lead l then (0, 0, 4) else if lead l = l.length then (0, 0, 5) else
  if (0 < lead l ∧ (l.getD (lead l) 0).toNat = 0) ∨ (lead l = 9 ∧ 1 < (l.getD (lead l) 0).toNat) then (0, 0, 4) else (unzig (val (l.take (lead l + 1))), lead l + 1, 0)

/-- Raised digits. -/
def Up (l : List UInt8) : Prop := ∀ c ∈ l, 128 ≤ c.toNat
theorem lead_up {l : List UInt8} (h : Up l) : lead l = l.length := by
  induction l with
  | nil => rfl
  | cons x l ih =>
    have hx : 128 ≤ x.toNat := h x (by simp)
    have := ih (fun y hy => h y (by simp [hy]))
    unfold lead at this ⊢
    simp [hx, this]
theorem lead_at {p : List UInt8} (h : Up p) {c : UInt8} (hc : c.toNat < 128) (r : List UInt8) : lead (p ++ c :: r) = p.length := by
  induction p with
  | nil =>
    have : decide (128 ≤ c.toNat) = false := by simp; omega
    simp [lead, this]
  | cons x p ih =>
    have hx : 128 ≤ x.toNat := h x (by simp)
    have := ih (fun y hy => h y (by simp [hy]))
    unfold lead at this ⊢
    simp [hx, this]
theorem lead_mono {p : List UInt8} (h : Up p) (r : List UInt8) : p.length ≤ lead (p ++ r) := by
  induction p with
  | nil => simp
  | cons x p ih =>
    have hx : 128 ≤ x.toNat := h x (by simp)
    have := ih (fun y hy => h y (by simp [hy]))
    unfold lead at this ⊢
    simp [hx]
    omega
theorem lead_le (l : List UInt8) : lead l ≤ l.length := by
  unfold lead
  exact (List.takeWhile_prefix _).length_le
/-- Every string is raised digits alone, or such, a last digit, and a rest. -/
theorem parts (l : List UInt8) : Up l ∨ ∃ p c r, l = p ++ c :: r ∧ Up p ∧ c.toNat < 128 := by
  induction l with
  | nil => exact .inl (fun c h => by cases h)
  | cons x l ih =>
    by_cases hx : x.toNat < 128
    · exact .inr ⟨[], x, l, rfl, (fun c h => by cases h), hx⟩
    · rcases ih with h | ⟨p, c, r, rfl, hp, hc⟩
      · refine .inl (fun c hc => ?_)
        rcases List.mem_cons.1 hc with rfl | hc
        · omega
        · exact h c hc
      · refine .inr ⟨x :: p, c, r, rfl, fun y hy => ?_, hc⟩
        rcases List.mem_cons.1 hy with rfl | hy
        · omega
        · exact hp y hy
theorem dec_up {l : List UInt8} (h : Up l) : dec l = if 10 ≤ l.length then (0, 0, 4) else (0, 0, 5) := by
  unfold dec
  rw [lead_up h]
  simp
theorem dec_at {p : List UInt8} (h : Up p) {c : UInt8} (hc : c.toNat < 128) (r : List UInt8) :
    dec (p ++ c :: r) = if 10 ≤ p.length then (0, 0, 4) else if (0 < p.length ∧ c.toNat = 0) ∨ (p.length = 9 ∧ 1 < c.toNat) then (0, 0, 4) else (unzig (val (p ++ [c])), p.length + 1, 0) := by
  unfold dec
  rw [lead_at h hc r]
  have e1 : (p ++ c :: r).getD p.length 0 = c := by simp
  have e2 : (p ++ c :: r).take (p.length + 1) = p ++ [c] := by simp [List.take_append, List.take_of_length_le]
  have e3 : ¬ p.length = (p ++ c :: r).length := by simp
  rw [e1, e2, if_neg e3]

/-- What an encoding is made of. -/
structure Code (f u : Nat) (p : List UInt8) (c : UInt8) : Prop where
  up : Up p
  low : c.toNat < 128
  len : p.length ≤ f
  val : val (p ++ [c]) = u
  last : 0 < p.length → c.toNat ≠ 0
theorem Code.mk_ : ∀ (f u : Nat), u < 128 ^ (f + 1) → ∃ p c, uvar f u = p ++ [c] ∧ Code f u p c
  | 0, u, h => ⟨[], UInt8.ofNat u, rfl, ⟨(fun c h => by cases h), by rw [UInt8.toNat_ofNat']; omega, by simp, by simp [V.val]; omega, by simp⟩⟩
  | f + 1, u, h => by
    by_cases hu : u < 128
    · exact ⟨[], UInt8.ofNat u, uvar_small _ _ hu, ⟨(fun c h => by cases h), by rw [UInt8.toNat_ofNat']; omega, by simp, by simp [V.val]; omega, by simp⟩⟩
    · obtain ⟨p, c, e, hc⟩ := Code.mk_ f (u / 128) (by rw [Nat.pow_succ] at h; omega)
      have hx : (UInt8.ofNat (u % 128 + 128)).toNat = u % 128 + 128 := by rw [UInt8.toNat_ofNat']; omega
      refine ⟨UInt8.ofNat (u % 128 + 128) :: p, c, by rw [uvar_big f u hu, e]; rfl, ⟨fun y hy => ?_, hc.low, by have := hc.len; simp; omega, ?_, fun _ => ?_⟩⟩
      · rcases List.mem_cons.1 hy with rfl | hy
        · omega
        · exact hc.up y hy
      · simp only [List.cons_append, V.val, hx, hc.val]
        omega
      · intro h0
        by_cases hp : 0 < p.length
        · exact hc.last hp h0
        · have : p = [] := List.eq_nil_of_length_eq_zero (by omega)
          have hv := hc.val
          subst this
          simp [V.val, h0] at hv
          omega
theorem Code.unique : ∀ (p : List UInt8) (c : UInt8) (f : Nat), Up p → c.toNat < 128 → p.length ≤ f → (0 < p.length → c.toNat ≠ 0) → uvar f (V.val (p ++ [c])) = p ++ [c]
  | [], c, f, _, hc, _, _ => by
    have e : V.val ([] ++ [c]) = c.toNat := by simp [V.val]; omega
    rw [e, uvar_small f _ hc]
    simp
  | x :: p, c, 0, _, _, hf, _ => by simp at hf
  | x :: p, c, f + 1, hp, hc, hf, hl => by
    have hx : 128 ≤ x.toNat := hp x (by simp)
    have hx' := x.toNat_lt
    have hc0 := hl (by simp)
    have hpos : 0 < V.val (p ++ [c]) := by
      rw [val_snoc]
      have : 0 < 128 ^ p.length * (c.toNat % 128) := Nat.mul_pos (Nat.pow_pos (by decide)) (by omega)
      omega
    have ih := Code.unique p c f (fun y hy => hp y (by simp [hy])) hc (by simpa using hf) (fun _ => hc0)
    have e : V.val (x :: p ++ [c]) = x.toNat % 128 + 128 * V.val (p ++ [c]) := rfl
    rw [e, uvar_big f _ (by omega), show (x.toNat % 128 + 128 * V.val (p ++ [c])) / 128 = V.val (p ++ [c]) by omega, ih]
    have : UInt8.ofNat ((x.toNat % 128 + 128 * V.val (p ++ [c])) % 128 + 128) = x := by
      apply UInt8.toNat_inj.1
      rw [UInt8.toNat_ofNat']
      omega
    rw [this]
    rfl
theorem enc_code {n : Int} (h : In n) : ∃ p c, enc n = p ++ [c] ∧ Code 9 (zig n) p c := Code.mk_ 9 (zig n) (Nat.lt_of_lt_of_le (zig_lt h) (by decide))
/-- In ten digits the last one is at most one. -/
theorem Code.ten {u : Nat} {p : List UInt8} {c : UInt8} (h : Code 9 u p c) (hu : u < 18446744073709551616) (hp : p.length = 9) : c.toNat ≤ 1 := by
  have hv := h.val
  rw [val_snoc, hp] at hv
  have hc := h.low
  have e : (128 : Nat) ^ 9 = 9223372036854775808 := by decide
  rw [e] at hv
  have : c.toNat % 128 = c.toNat := Nat.mod_eq_of_lt hc
  rw [this] at hv
  omega
theorem enc_length {n : Int} (h : In n) : 1 ≤ (enc n).length ∧ (enc n).length ≤ 10 := by
  obtain ⟨p, c, e, hc⟩ := enc_code h
  have := hc.len
  rw [e]
  simp
  omega

/-- WHAT WAS ENCODED IS DECODED, whatever follows. -/
theorem dec_enc {n : Int} (h : In n) (r : List UInt8) : dec (enc n ++ r) = (n, (enc n).length, 0) := by
  obtain ⟨p, c, e, hc⟩ := enc_code h
  rw [e, List.append_assoc]
  show dec (p ++ c :: r) = _
  have hlen := hc.len
  rw [dec_at hc.up hc.low, if_neg (by omega), if_neg, hc.val, unzig_zig]
  · simp
  · rintro (⟨h1, h2⟩ | ⟨h1, h2⟩)
    · exact hc.last h1 h2
    · have := hc.ten (zig_lt h) h1
      omega
theorem dec_enc' {n : Int} (h : In n) : dec (enc n) = (n, (enc n).length, 0) := by simpa using dec_enc h []

/-- WHATEVER IS DECODED HAS AS ITS ENCODING THE BYTES THAT WERE USED. -/
theorem dec_ok {l : List UInt8} {n : Int} {k : Nat} (h : dec l = (n, k, 0)) : 1 ≤ k ∧ k ≤ l.length ∧ enc n = l.take k ∧ In n := by
  rcases parts l with hu | ⟨p, c, r, rfl, hp, hc⟩
  · rw [dec_up hu] at h
    split at h <;> simp at h
  · rw [dec_at hp hc] at h
    split at h
    · simp at h
    · split at h
      · simp at h
      · rename_i h10 hb
        simp only [Prod.mk.injEq, and_true] at h
        obtain ⟨rfl, rfl⟩ := h
        have hv : val (p ++ [c]) < 18446744073709551616 := by
          rw [val_snoc]
          have h1 := val_lt p
          have hcm : c.toNat % 128 = c.toNat := Nat.mod_eq_of_lt hc
          rw [hcm]
          by_cases h9 : p.length = 9
          · have : c.toNat ≤ 1 := by
              rcases Nat.lt_or_ge 1 c.toNat with hh | hh
              · exact absurd (Or.inr ⟨h9, hh⟩) hb
              · exact hh
            rw [h9] at h1 ⊢
            have e : (128 : Nat) ^ 9 = 9223372036854775808 := by decide
            rw [e] at h1 ⊢
            omega
          · have hle : p.length ≤ 8 := by omega
            have hpow : 128 ^ p.length ≤ 128 ^ 8 := Nat.pow_le_pow_right (by decide) hle
            have : 128 ^ p.length * c.toNat ≤ 128 ^ 8 * 127 := Nat.mul_le_mul hpow (by omega)
            have e : (128 : Nat) ^ 8 = 72057594037927936 := by decide
            rw [e] at hpow this
            omega
        refine ⟨by omega, by simp, ?_, unzig_in hv⟩
        unfold enc
        rw [zig_unzig, Code.unique p c 9 hp hc (by omega) (fun h1 h2 => hb (.inl ⟨h1, h2⟩))]
        simp [List.take_append, List.take_of_length_le]
/-- An error leaves nothing. -/
theorem dec_err {l : List UInt8} (h : (dec l).2.2 ≠ 0) : (dec l) = (0, 0, 4) ∨ dec l = (0, 0, 5) := by
  rcases parts l with hu | ⟨p, c, r, rfl, hp, hc⟩
  · rw [dec_up hu] at h ⊢
    split <;> simp
  · rw [dec_at hp hc] at h ⊢
    split
    · simp
    · split
      · simp
      · rename_i h1 h2
        rw [if_neg h1, if_neg h2] at h
        simp at h
theorem dec_cases (l : List UInt8) : dec l = (0, 0, 4) ∨ dec l = (0, 0, 5) ∨ ∃ n k, dec l = (n, k, 0) := by
  by_cases h : (dec l).2.2 = 0
  · exact .inr (.inr ⟨(dec l).1, (dec l).2.1, by rw [← h]⟩)
  · rcases dec_err h with h | h
    · exact .inl h
    · exact .inr (.inl h)
/-- AN ENCODING WITHOUT ITS LAST BYTES IS TOO SHORT. -/
theorem dec_cut {n : Int} (h : In n) {j : Nat} (hj : j < (enc n).length) : dec ((enc n).take j) = (0, 0, 5) := by
  obtain ⟨p, c, e, hc⟩ := enc_code h
  rw [e] at hj ⊢
  have hjp : j ≤ p.length := by simp at hj; omega
  have et : (p ++ [c]).take j = p.take j := by rw [List.take_append_of_le_length hjp]
  rw [et, dec_up (fun y hy => hc.up y (List.mem_of_mem_take hy)), if_neg]
  have := hc.len
  rw [List.length_take]
  omega
/-- HOW MANY BYTES. -/
theorem enc_size {n : Int} (h : In n) {k : Nat} (h1 : 1 ≤ k) (_h9 : k ≤ 9) : (enc n).length ≤ k ↔ zig n < 128 ^ k := by
  obtain ⟨p, c, e, hc⟩ := enc_code h
  have hl : (enc n).length = p.length + 1 := by rw [e]; simp
  rw [hl]
  have hv := hc.val
  constructor
  · intro hle
    rw [← hv]
    refine Nat.lt_of_lt_of_le (val_lt _) ?_
    exact Nat.pow_le_pow_right (by decide) (by simpa using hle)
  · intro hlt
    rcases Nat.lt_or_ge k (p.length + 1) with hk | hk
    · exfalso
      rw [← hv, val_snoc] at hlt
      have hc0 := hc.last (by omega)
      have hcl := hc.low
      have : 128 ^ k ≤ 128 ^ p.length := Nat.pow_le_pow_right (by decide) (by omega)
      have h2 : 128 ^ p.length * 1 ≤ 128 ^ p.length * (c.toNat % 128) := Nat.mul_le_mul_left _ (by omega)
      omega
    · exact hk
theorem zig_bound (n : Int) (b : Nat) : zig n < 2 * b ↔ (-(b : Int) ≤ n ∧ n < b) := by unfold zig; split <;> omega

/-! ### lengths, strings, lists -/
/-- A length of at most 'most'. -/
def decLen (l : List UInt8) (most : Int) : Int × Nat × Int :=
  if (dec l).2.2 ≠ 0 then (0, 0, (dec l).2.2) else if (dec l).1 < 0 then (0, 0, 4) else if max most 0 < (dec l).1 then (0, 0, 3) else ((dec l).1, (dec l).2.1, 0)
def encText (s : List UInt8) : List UInt8 := enc s.length ++ s
def decText (l : List UInt8) (most : Int) : List UInt8 × Nat × Int :=
  if (decLen l most).2.2 ≠ 0 then ([], 0, (decLen l most).2.2) else
  if (l.length : Int) - (decLen l most).2.1 < (decLen l most).1 then ([], 0, 5) else
  ((l.drop (decLen l most).2.1).take (decLen l most).1.toNat, (decLen l most).2.1 + (decLen l most).1.toNat, 0)
def encList (x : List Int) : List UInt8 := enc x.length ++ x.flatMap enc
/-- So many integers one behind the other. -/
def decN : Nat → List UInt8 → List Int × Nat × Int
  | 0, _ => ([], 0, 0)
  | k + 1, l => if (dec l).2.2 ≠ 0 then ([], 0, (dec l).2.2) else
    if (decN k (l.drop (dec l).2.1)).2.2 ≠ 0 then ([], 0, (decN k (l.drop (dec l).2.1)).2.2) else
    ((dec l).1 :: (decN k (l.drop (dec l).2.1)).1, (dec l).2.1 + (decN k (l.drop (dec l).2.1)).2.1, 0)
def decList (l : List UInt8) (most : Int) : List Int × Nat × Int :=
  if (decLen l most).2.2 ≠ 0 then ([], 0, (decLen l most).2.2) else
  if (decN (decLen l most).1.toNat (l.drop (decLen l most).2.1)).2.2 ≠ 0 then ([], 0, (decN (decLen l most).1.toNat (l.drop (decLen l most).2.1)).2.2) else
  ((decN (decLen l most).1.toNat (l.drop (decLen l most).2.1)).1, (decLen l most).2.1 + (decN (decLen l most).1.toNat (l.drop (decLen l most).2.1)).2.1, 0)

theorem decLen_ok {l : List UInt8} {most m : Int} {k : Nat} (h : dec l = (m, k, 0)) (h0 : 0 ≤ m) (h1 : m ≤ max most 0) : decLen l most = (m, k, 0) := by
  unfold decLen
  rw [h]
  simp only [ne_eq, not_true_eq_false, if_false]
  rw [if_neg (by omega), if_neg (by omega)]
theorem decLen_is {l : List UInt8} {most m : Int} {k : Nat} (h : decLen l most = (m, k, 0)) : dec l = (m, k, 0) ∧ 0 ≤ m ∧ m ≤ max most 0 := by
  unfold decLen at h
  split at h
  · rename_i h0; simp at h; exact absurd h.2.2 h0
  · rename_i h0
    split at h
    · simp at h
    · split at h
      · simp at h
      · rename_i h1 h2
        simp only [Prod.mk.injEq, and_true] at h
        simp only [ne_eq, Decidable.not_not] at h0
        refine ⟨by rw [← h.1, ← h.2, ← h0], by omega, by omega⟩
theorem decLen_err {l : List UInt8} {most : Int} (h : (decLen l most).2.2 ≠ 0) : (decLen l most) = (0, 0, (decLen l most).2.2) := by
  unfold decLen at h ⊢
  split
  · rfl
  · split
    · rfl
    · split
      · rfl
      · rename_i h0 h1 h2
        rw [if_neg h0, if_neg h1, if_neg h2] at h
        simp at h
theorem decLen_short {l : List UInt8} {most : Int} (h : dec l = (0, 0, 5)) : decLen l most = (0, 0, 5) := by
  unfold decLen
  rw [h]
  simp

theorem decText_enc {s r : List UInt8} {most : Int} (hs : In s.length) (hm : (s.length : Int) ≤ max most 0) : decText (encText s ++ r) most = (s, (encText s).length, 0) := by
  have hd : dec (encText s ++ r) = ((s.length : Int), (enc s.length).length, 0) := by unfold encText; rw [List.append_assoc]; exact dec_enc hs _
  have hl := decLen_ok hd (by omega) hm
  have hlen : (encText s ++ r).length = (enc s.length).length + s.length + r.length := by simp [encText]; omega
  unfold decText
  rw [hl]
  simp only [ne_eq, not_true_eq_false, if_false]
  rw [if_neg (by rw [hlen]; omega)]
  simp [encText]
theorem decText_ok {l s : List UInt8} {most : Int} {k : Nat} (h : decText l most = (s, k, 0)) : 1 ≤ k ∧ k ≤ l.length ∧ encText s = l.take k ∧ In s.length := by
  unfold decText at h
  split at h
  · rename_i h0; simp at h; exact absurd h.2.2 h0
  · split at h
    · simp at h
    · rename_i h0 h1
      simp only [ne_eq, Decidable.not_not] at h0
      have hl := decLen_is (l := l) (most := most) (m := (decLen l most).1) (k := (decLen l most).2.1) (by rw [← h0])
      generalize (decLen l most).1 = m at *
      generalize (decLen l most).2.1 = u at *
      simp only [Prod.mk.injEq, and_true] at h
      obtain ⟨hd, hm0, hm1⟩ := hl
      obtain ⟨h1u, hul, he, hin⟩ := dec_ok hd
      obtain ⟨rfl, rfl⟩ := h
      have hsl : ((l.drop u).take m.toNat).length = m.toNat := by rw [List.length_take, List.length_drop]; omega
      refine ⟨by omega, by omega, ?_, by rw [hsl, Int.toNat_of_nonneg hm0]; exact hin⟩
      unfold encText
      rw [hsl, Int.toNat_of_nonneg hm0, he]
      rw [List.take_add]
theorem decText_err {l : List UInt8} {most : Int} (h : (decText l most).2.2 ≠ 0) : decText l most = ([], 0, (decText l most).2.2) := by
  unfold decText at h ⊢
  split
  · rfl
  · split
    · rfl
    · rename_i h0 h1
      rw [if_neg h0, if_neg h1] at h
      simp at h
theorem decText_cut {s : List UInt8} {most : Int} (hs : In s.length) (hm : (s.length : Int) ≤ max most 0) {j : Nat} (hj : j < (encText s).length) : decText ((encText s).take j) most = ([], 0, 5) := by
  unfold encText at hj ⊢
  by_cases h : j < (enc s.length).length
  · rw [List.take_append_of_le_length (by omega)]
    unfold decText
    rw [decLen_short (dec_cut hs h)]
    simp
  · have e : (enc s.length ++ s).take j = enc s.length ++ s.take (j - (enc s.length).length) := by
      rw [List.take_append, List.take_of_length_le (by omega)]
    rw [e]
    have hd := dec_enc hs (s.take (j - (enc s.length).length))
    have hl := decLen_ok hd (by omega) hm
    unfold decText
    rw [hl]
    simp only [ne_eq, not_true_eq_false, if_false]
    rw [if_pos]
    rw [List.length_append, List.length_take]
    simp at hj
    omega

/-- All of them are integers of the machine. -/
def Ins (x : List Int) : Prop := ∀ n ∈ x, In n
theorem decN_enc : ∀ (x : List Int) (r : List UInt8), Ins x → decN x.length (x.flatMap enc ++ r) = (x, (x.flatMap enc).length, 0)
  | [], r, _ => rfl
  | n :: x, r, h => by
    have hn : In n := h n (by simp)
    have ih := decN_enc x r (fun m hm => h m (by simp [hm]))
    simp only [List.length_cons, List.flatMap_cons, List.append_assoc]
    have hd := dec_enc hn (x.flatMap enc ++ r)
    unfold decN
    rw [hd]
    simp only [ne_eq, not_true_eq_false, if_false, List.drop_left, ih, List.length_append]
theorem decN_ok : ∀ {k : Nat} {l : List UInt8} {x : List Int} {u : Nat}, decN k l = (x, u, 0) → x.length = k ∧ u ≤ l.length ∧ x.flatMap enc = l.take u ∧ Ins x
  | 0, l, x, u, h => by
    simp only [decN, Prod.mk.injEq, and_true] at h
    obtain ⟨rfl, rfl⟩ := h
    exact ⟨rfl, Nat.zero_le _, by simp, fun n hn => by cases hn⟩
  | k + 1, l, x, u, h => by
    unfold decN at h
    split at h
    · rename_i h0; simp at h; exact absurd h.2.2 h0
    · split at h
      · rename_i h0; simp at h; exact absurd h.2.2 h0
      · rename_i h0 h1
        simp only [ne_eq, Decidable.not_not] at h0 h1
        have hd := dec_ok (l := l) (n := (dec l).1) (k := (dec l).2.1) (by rw [← h0])
        have hr := decN_ok (k := k) (l := l.drop (dec l).2.1) (x := (decN k (l.drop (dec l).2.1)).1) (u := (decN k (l.drop (dec l).2.1)).2.1) (by rw [← h1])
        generalize (decN k (l.drop (dec l).2.1)).1 = y at *
        generalize (decN k (l.drop (dec l).2.1)).2.1 = v at *
        simp only [Prod.mk.injEq, and_true] at h
        obtain ⟨rfl, rfl⟩ := h
        obtain ⟨a1, a2, a3, a4⟩ := hd
        obtain ⟨b1, b2, b3, b4⟩ := hr
        rw [List.length_drop] at b2
        refine ⟨by simp [b1], by omega, ?_, fun n hn => ?_⟩
        · rw [List.flatMap_cons, a3, b3, List.take_add]
        · rcases List.mem_cons.1 hn with rfl | hn
          · exact a4
          · exact b4 n hn
theorem decN_err : ∀ (k : Nat) (l : List UInt8), (decN k l).2.2 ≠ 0 → decN k l = ([], 0, (decN k l).2.2)
  | 0, l, h => by simp [decN] at h
  | k + 1, l, h => by
    unfold decN at h ⊢
    split
    · rfl
    · split
      · rfl
      · rename_i h0 h1
        rw [if_neg h0, if_neg h1] at h
        simp at h
theorem decN_cut : ∀ (x : List Int) (j : Nat), Ins x → j < (x.flatMap enc).length → decN x.length ((x.flatMap enc).take j) = ([], 0, 5)
  | [], j, _, h => by simp at h
  | n :: x, j, h, hj => by
    have hn : In n := h n (by simp)
    simp only [List.flatMap_cons, List.length_cons] at hj ⊢
    by_cases hlt : j < (enc n).length
    · rw [List.take_append_of_le_length (by omega)]
      unfold decN
      rw [dec_cut hn hlt]
      simp
    · have e : (enc n ++ x.flatMap enc).take j = enc n ++ (x.flatMap enc).take (j - (enc n).length) := by
        rw [List.take_append, List.take_of_length_le (by omega)]
      have ih := decN_cut x (j - (enc n).length) (fun m hm => h m (by simp [hm])) (by rw [List.length_append] at hj; omega)
      rw [e]
      unfold decN
      rw [dec_enc hn]
      simp only [ne_eq, not_true_eq_false, if_false, List.drop_left, ih]
      simp

theorem decList_enc {x : List Int} {r : List UInt8} {most : Int} (hx : Ins x) (hn : In x.length) (hm : (x.length : Int) ≤ max most 0) : decList (encList x ++ r) most = (x, (encList x).length, 0) := by
  have hd : dec (encList x ++ r) = ((x.length : Int), (enc x.length).length, 0) := by unfold encList; rw [List.append_assoc]; exact dec_enc hn _
  have hl := decLen_ok hd (by omega) hm
  unfold decList
  rw [hl]
  have e : (encList x ++ r).drop (enc x.length).length = x.flatMap enc ++ r := by unfold encList; rw [List.append_assoc, List.drop_left]
  simp only [ne_eq, not_true_eq_false, if_false, e, Int.toNat_natCast, decN_enc x r hx]
  simp [encList]
theorem decList_ok {l : List UInt8} {x : List Int} {most : Int} {k : Nat} (h : decList l most = (x, k, 0)) : 1 ≤ k ∧ k ≤ l.length ∧ encList x = l.take k ∧ Ins x ∧ In x.length := by
  unfold decList at h
  split at h
  · rename_i h0; simp at h; exact absurd h.2.2 h0
  · split at h
    · rename_i h0; simp at h; exact absurd h.2.2 h0
    · rename_i h0 h1
      simp only [ne_eq, Decidable.not_not] at h0 h1
      have hl := decLen_is (l := l) (most := most) (m := (decLen l most).1) (k := (decLen l most).2.1) (by rw [← h0])
      generalize (decLen l most).1 = m at *
      generalize (decLen l most).2.1 = u at *
      have hr := decN_ok (k := m.toNat) (l := l.drop u) (x := (decN m.toNat (l.drop u)).1) (u := (decN m.toNat (l.drop u)).2.1) (by rw [← h1])
      generalize (decN m.toNat (l.drop u)).1 = y at *
      generalize (decN m.toNat (l.drop u)).2.1 = v at *
      simp only [Prod.mk.injEq, and_true] at h
      obtain ⟨rfl, rfl⟩ := h
      obtain ⟨hd, hm0, hm1⟩ := hl
      obtain ⟨h1u, hul, he, hin⟩ := dec_ok hd
      obtain ⟨b1, b2, b3, b4⟩ := hr
      rw [List.length_drop] at b2
      refine ⟨by omega, by omega, ?_, b4, by rw [b1, Int.toNat_of_nonneg hm0]; exact hin⟩
      unfold encList
      rw [b1, Int.toNat_of_nonneg hm0, he, b3, List.take_add]
theorem decList_err {l : List UInt8} {most : Int} (h : (decList l most).2.2 ≠ 0) : decList l most = ([], 0, (decList l most).2.2) := by
  unfold decList at h ⊢
  split
  · rfl
  · split
    · rfl
    · rename_i h0 h1
      rw [if_neg h0, if_neg h1] at h
      simp at h
theorem decList_cut {x : List Int} {most : Int} (hx : Ins x) (hn : In x.length) (hm : (x.length : Int) ≤ max most 0) {j : Nat} (hj : j < (encList x).length) : decList ((encList x).take j) most = ([], 0, 5) := by
  unfold encList at hj ⊢
  by_cases h : j < (enc x.length).length
  · rw [List.take_append_of_le_length (by omega)]
    unfold decList
    rw [decLen_short (dec_cut hn h)]
    simp
  · have e : (enc x.length ++ x.flatMap enc).take j = enc x.length ++ (x.flatMap enc).take (j - (enc x.length).length) := by
      rw [List.take_append, List.take_of_length_le (by omega)]
    rw [e]
    have hd := dec_enc hn ((x.flatMap enc).take (j - (enc x.length).length))
    have hl := decLen_ok hd (by omega) hm
    have hc := decN_cut x (j - (enc x.length).length) hx (by rw [List.length_append] at hj; omega)
    unfold decList
    rw [hl]
    simp only [ne_eq, not_true_eq_false, if_false, List.drop_left, Int.toNat_natCast, hc]
    simp
theorem flat_length {x : List Int} (hx : Ins x) : (x.flatMap enc).length ≤ 10 * x.length := by
  induction x with
  | nil => simp
  | cons n x ih =>
    have h1 := (enc_length (hx n (by simp))).2
    have h2 := ih (fun m hm => hx m (by simp [hm]))
    simp only [List.flatMap_cons, List.length_append, List.length_cons]
    omega
end Go.Proofs.YtjficpdfofmcnaaDoor.V

/- The plain mathematics of the checksum (CRC-32, by bits and by four bits) and of the digest (FNV-1a): no program in sight. -/
namespace Go.Proofs.YtjficpdfofmcnaaDoor.M

/-- One shift of the checksum's register. -/
def bit (x : BitVec 32) : BitVec 32 := (x >>> 1) ^^^ (if x.getLsbD 0 then 0xedb88320#32 else 0#32)
/-- Four shifts. -/
def nib (x : BitVec 32) : BitVec 32 := bit (bit (bit (bit x)))
/-- Eight shifts. -/
def oct (x : BitVec 32) : BitVec 32 := nib (nib x)
/-- A byte as 32 bits. -/
def ext (c : UInt8) : BitVec 32 := BitVec.ofNat 32 c.toNat

theorem bit_xor (x y : BitVec 32) : bit (x ^^^ y) = bit x ^^^ bit y := by
  unfold bit
  rw [BitVec.ushiftRight_xor_distrib, BitVec.getLsbD_xor]
  cases x.getLsbD 0 <;> cases y.getLsbD 0 <;> simp only [Bool.bne_true, Bool.bne_false, Bool.not_true, Bool.not_false, Bool.false_eq_true, if_true, if_false, BitVec.xor_zero]
  · ac_rfl
  · ac_rfl
  · have e : ∀ p q c : BitVec 32, p ^^^ c ^^^ (q ^^^ c) = p ^^^ q := by
      intro p q c
      rw [BitVec.xor_assoc, ← BitVec.xor_assoc c q c, BitVec.xor_comm c q, BitVec.xor_assoc q c c, BitVec.xor_self, BitVec.xor_zero]
    exact (e _ _ _).symm
theorem nib_xor (x y : BitVec 32) : nib (x ^^^ y) = nib x ^^^ nib y := by
  unfold nib; simp only [bit_xor]
theorem oct_xor (x y : BitVec 32) : oct (x ^^^ y) = oct x ^^^ oct y := by
  unfold oct; simp only [nib_xor]

theorem bit_shl (x : BitVec 32) (h : x.getLsbD 31 = false) : bit (x <<< 1) = x := by
  unfold bit
  have h0 : (x <<< 1).getLsbD 0 = false := by simp
  rw [h0]
  simp only [Bool.false_eq_true, if_false, BitVec.xor_zero]
  apply BitVec.eq_of_getLsbD_eq
  intro i hi
  simp only [BitVec.getLsbD_ushiftRight, BitVec.getLsbD_shiftLeft]
  by_cases h31 : i = 31
  · subst h31; rw [h]; simp
  · simp; omega

/-- The part above the lowest four bits, and the lowest four bits. -/
theorem split4 (x : BitVec 32) : x = ((x >>> 4) <<< 4) ^^^ (x &&& 15#32) := by
  apply BitVec.eq_of_getLsbD_eq
  intro i hi
  have h15 : (15#32).getLsbD i = decide (i < 4) := by
    rcases (by omega : i = 0 ∨ i = 1 ∨ i = 2 ∨ i = 3 ∨ 4 ≤ i) with h | h | h | h | h
    · subst h; decide
    · subst h; decide
    · subst h; decide
    · subst h; decide
    · rw [decide_eq_false (by omega)]
      have : (15#32) = BitVec.ofNat 32 (2 ^ 4 - 1) := by decide
      rw [this, BitVec.getLsbD_ofNat, Nat.testBit_two_pow_sub_one]
      simp; omega
  simp only [BitVec.getLsbD_xor, BitVec.getLsbD_shiftLeft, BitVec.getLsbD_ushiftRight, BitVec.getLsbD_and, h15]
  by_cases h4 : i < 4
  · simp [h4]
  · have e : 4 + (i - 4) = i := by omega
    simp [h4, hi, e]

theorem shl_shl (y : BitVec 32) : (y >>> 4) <<< 4 = (((((y >>> 4) <<< 1) <<< 1) <<< 1) <<< 1) := by
  simp only [← BitVec.shiftLeft_add]

/-- THE TABLE's STEP: four shifts are a shift by four and what the lowest four bits are combined with. -/
theorem nib_eq (x : BitVec 32) : nib x = (x >>> 4) ^^^ nib (x &&& 15#32) := by
  have h : nib ((x >>> 4) <<< 4) = x >>> 4 := by
    rw [shl_shl]
    unfold nib
    rw [bit_shl _ (by simp), bit_shl _ (by simp), bit_shl _ (by simp), bit_shl _ (by simp)]
  conv => lhs; rw [split4 x, nib_xor, h]

theorem bit_inj {x y : BitVec 32} (h : bit x = bit y) : x = y := by
  have key : ∀ z : BitVec 32, bit z = 0#32 → z = 0#32 := by
    intro z hz
    unfold bit at hz
    have h31 : ((z >>> 1) ^^^ (if z.getLsbD 0 then 0xedb88320#32 else 0#32)).getLsbD 31 = false := by rw [hz]; decide
    rw [BitVec.getLsbD_xor, BitVec.getLsbD_ushiftRight, BitVec.getLsbD_of_ge z (1 + 31) (by omega)] at h31
    cases h0 : z.getLsbD 0 with
    | true =>
      rw [h0] at h31
      simp at h31
    | false =>
      rw [h0] at hz
      simp only [Bool.false_eq_true, if_false, BitVec.xor_zero] at hz
      apply BitVec.eq_of_getLsbD_eq
      intro i hi
      cases i with
      | zero => rw [h0]; simp
      | succ i =>
        have := congrArg (fun v => BitVec.getLsbD v i) hz
        simp only [BitVec.getLsbD_ushiftRight] at this
        rw [Nat.add_comm 1 i] at this
        rw [this]; simp
  have h2 : bit (x ^^^ y) = 0#32 := by rw [bit_xor, h, BitVec.xor_self]
  have h3 := key _ h2
  have : x ^^^ y ^^^ y = 0#32 ^^^ y := by rw [h3]
  rw [BitVec.xor_assoc, BitVec.xor_self, BitVec.xor_zero, BitVec.zero_xor] at this
  exact this
theorem nib_inj {x y : BitVec 32} (h : nib x = nib y) : x = y := bit_inj (bit_inj (bit_inj (bit_inj h)))
theorem oct_inj {x y : BitVec 32} (h : oct x = oct y) : x = y := nib_inj (nib_inj h)

/-- The register behind one byte more. -/
def crcStep (r : BitVec 32) (c : UInt8) : BitVec 32 := oct (r ^^^ ext c)
/-- The register behind bytes. -/
def crcFrom (r : BitVec 32) (l : List UInt8) : BitVec 32 := l.foldl crcStep r
def crcReg (l : List UInt8) : BitVec 32 := crcFrom 0xffffffff#32 l
/-- THE CHECKSUM. -/
def crc (l : List UInt8) : BitVec 32 := ~~~ crcReg l

theorem crcFrom_snoc (r : BitVec 32) (l : List UInt8) (c : UInt8) : crcFrom r (l ++ [c]) = crcStep (crcFrom r l) c := by
  simp [crcFrom]
theorem crcFrom_append (r : BitVec 32) (l m : List UInt8) : crcFrom r (l ++ m) = crcFrom (crcFrom r l) m := by
  simp [crcFrom]
theorem crcReg_take (l : List UInt8) (k : Nat) (h : k < l.length) : crcReg (l.take (k + 1)) = crcStep (crcReg (l.take k)) l[k] := by
  unfold crcReg
  rw [List.take_succ_eq_append_getElem h, crcFrom_snoc]

/-- Byte by byte. -/
def xorL : List UInt8 → List UInt8 → List UInt8
  | a :: l, b :: m => (a ^^^ b) :: xorL l m
  | _, _ => []
theorem ext_xor (a b : UInt8) : ext (a ^^^ b) = ext a ^^^ ext b := by
  unfold ext
  apply BitVec.eq_of_toNat_eq
  have ha := a.toNat_lt
  have hb := b.toNat_lt
  have hx := (a ^^^ b).toNat_lt
  simp only [BitVec.toNat_ofNat, BitVec.toNat_xor]
  rw [Nat.mod_eq_of_lt (by omega), Nat.mod_eq_of_lt (by omega), Nat.mod_eq_of_lt (by omega), UInt8.toNat_xor]
theorem crcFrom_xor : ∀ (l m : List UInt8) (r s : BitVec 32), l.length = m.length → crcFrom (r ^^^ s) (xorL l m) = crcFrom r l ^^^ crcFrom s m
  | [], [], r, s, _ => rfl
  | a :: l, b :: m, r, s, h => by
    have h' : l.length = m.length := by simpa using h
    simp only [xorL, crcFrom, List.foldl_cons]
    have := crcFrom_xor l m (crcStep r a) (crcStep s b) h'
    unfold crcFrom at this
    rw [← this]
    congr 1
    unfold crcStep
    rw [ext_xor, ← oct_xor]
    congr 1
    ac_rfl
  | [], _ :: _, _, _, h => by simp at h
  | _ :: _, [], _, _, h => by simp at h
theorem length_xorL : ∀ (l m : List UInt8), l.length = m.length → (xorL l m).length = l.length
  | [], [], _ => rfl
  | a :: l, b :: m, h => by
    have h' : l.length = m.length := by simpa using h
    simp [xorL, length_xorL l m h']
  | [], _ :: _, h => by simp at h
  | _ :: _, [], h => by simp at h
theorem not_xor3 (x y z : BitVec 32) : ~~~ x ^^^ ~~~ y ^^^ ~~~ z = ~~~ (x ^^^ y ^^^ z) := by
  apply BitVec.eq_of_getLsbD_eq
  intro i hi
  simp only [BitVec.getLsbD_xor, BitVec.getLsbD_not, hi, decide_true, Bool.true_and]
  cases x.getLsbD i <;> cases y.getLsbD i <;> cases z.getLsbD i <;> rfl
/-- THE CHECKSUMS OF THREE STRINGS OF ONE LENGTH ADD UP. -/
theorem crc_linear (a b c : List UInt8) (h1 : a.length = b.length) (h2 : a.length = c.length) : crc a ^^^ crc b ^^^ crc c = crc (xorL (xorL a b) c) := by
  have e : (0xffffffff#32 ^^^ 0xffffffff#32 ^^^ 0xffffffff#32 : BitVec 32) = 0xffffffff#32 := by decide
  unfold crc crcReg
  rw [not_xor3, ← crcFrom_xor a b _ _ h1, ← crcFrom_xor (xorL a b) c _ _ (by rw [length_xorL a b h1, h2]), e]

theorem crcFrom_inj : ∀ (l : List UInt8) {r s : BitVec 32}, crcFrom r l = crcFrom s l → r = s
  | [], _, _, h => h
  | a :: l, r, s, h => by
    have h' := crcFrom_inj l (r := crcStep r a) (s := crcStep s a) h
    have h2 := oct_inj h'
    have h3 : r ^^^ ext a ^^^ ext a = s ^^^ ext a ^^^ ext a := by rw [h2]
    simpa [BitVec.xor_assoc] using h3
theorem ext_inj {a b : UInt8} (h : ext a = ext b) : a = b := by
  have := congrArg BitVec.toNat h
  unfold ext at this
  have ha := a.toNat_lt
  have hb := b.toNat_lt
  simp only [BitVec.toNat_ofNat] at this
  rw [Nat.mod_eq_of_lt (by omega), Nat.mod_eq_of_lt (by omega)] at this
  exact UInt8.toNat_inj.1 this
/-- A CHANGED BYTE CHANGES THE CHECKSUM. -/
theorem crc_set (l : List UInt8) (i : Nat) (hi : i < l.length) (c : UInt8) (hc : c ≠ l[i]) : crc (l.set i c) ≠ crc l := by
  intro h
  have h1 : crcReg (l.set i c) = crcReg l := by
    have := congrArg (fun v => ~~~ v) h
    simpa [crc] using this
  have e1 : l.set i c = l.take i ++ c :: l.drop (i + 1) := by rw [List.set_eq_take_append_cons_drop, if_pos hi]
  have e2 : l = l.take i ++ l[i] :: l.drop (i + 1) := by simp
  rw [e1] at h1
  unfold crcReg at h1
  rw [crcFrom_append] at h1
  conv at h1 => rhs; rw [e2, crcFrom_append]
  have h2 := crcFrom_inj (l.drop (i + 1)) (r := crcStep _ c) (s := crcStep _ l[i]) h1
  have h3 := oct_inj h2
  have h4 : ext c = ext l[i] := by
    have := congrArg (fun v => crcFrom 0xffffffff#32 (l.take i) ^^^ v) h3
    simpa [← BitVec.xor_assoc] using this
  exact hc (ext_inj h4)

/-- THE FOUR BYTES OF A CHECKSUM, the most significant one first. -/
def be4 (x : BitVec 32) : List UInt8 := [UInt8.ofNat (x.toNat / 16777216), UInt8.ofNat (x.toNat / 65536), UInt8.ofNat (x.toNat / 256), UInt8.ofNat x.toNat]
theorem length_be4 (x : BitVec 32) : (be4 x).length = 4 := rfl
theorem be4_inj {x y : BitVec 32} (h : be4 x = be4 y) : x = y := by
  unfold be4 at h
  simp only [List.cons.injEq, and_true] at h
  obtain ⟨h1, h2, h3, h4⟩ := h
  have g1 := congrArg UInt8.toNat h1
  have g2 := congrArg UInt8.toNat h2
  have g3 := congrArg UInt8.toNat h3
  have g4 := congrArg UInt8.toNat h4
  simp only [UInt8.toNat_ofNat'] at g1 g2 g3 g4
  have hx := x.isLt
  have hy := y.isLt
  apply BitVec.eq_of_toNat_eq
  omega
/-- SEALED BYTES. -/
def sealed (l : List UInt8) : List UInt8 := l ++ be4 (crc l)
theorem length_sealed (l : List UInt8) : (sealed l).length = l.length + 4 := by simp [sealed, length_be4]

/-- The digest. -/
def fnvStep (d : BitVec 64) (c : UInt8) : BitVec 64 := (d ^^^ BitVec.ofNat 64 c.toNat) * 0x100000001b3#64
def fnvFrom (d : BitVec 64) (l : List UInt8) : BitVec 64 := l.foldl fnvStep d
def fnv (l : List UInt8) : BitVec 64 := fnvFrom 0xcbf29ce484222325#64 l
theorem fnvFrom_take (d : BitVec 64) (l : List UInt8) (k : Nat) (h : k < l.length) : fnvFrom d (l.take (k + 1)) = fnvStep (fnvFrom d (l.take k)) l[k] := by
  rw [List.take_succ_eq_append_getElem h]; simp only [fnvFrom, List.foldl_append, List.foldl_cons, List.foldl_nil]
theorem fnvFrom_append (d : BitVec 64) (l m : List UInt8) : fnvFrom d (l ++ m) = fnvFrom (fnvFrom d l) m := by simp [fnvFrom]
/-- The byte number j of x, from the least significant one. -/
def byteAt (x j : Nat) : UInt8 := UInt8.ofNat (x / 256 ^ j)
/-- The lowest bytes of x, the most significant one first. -/
def beN (x : Nat) : Nat → List UInt8
  | 0 => []
  | k + 1 => byteAt x k :: beN x k
theorem length_beN (x k : Nat) : (beN x k).length = k := by induction k with | zero => rfl | succ k ih => simp [beN, ih]
theorem get_beN (x : Nat) : ∀ (k i : Nat) (h : i < (beN x k).length), (beN x k)[i] = byteAt x (k - 1 - i)
  | 0, i, h => by simp [beN] at h
  | k + 1, 0, h => by simp [beN]
  | k + 1, i + 1, h => by
    simp only [beN, List.getElem_cons_succ]
    rw [get_beN x k i (by simpa [beN] using h)]
    congr 1
    omega
/-- A hexadecimal digit. -/
def digit (j : Nat) : UInt8 := if j < 10 then UInt8.ofNat (48 + j) else UInt8.ofNat (87 + j)
/-- The digit number j of d, of 16, from the most significant one. -/
def hexAt (d j : Nat) : UInt8 := digit (d / 16 ^ (15 - j) % 16)
/-- THE 16 DIGITS. -/
def hexL (d : Nat) : List UInt8 := (List.range 16).map (hexAt d)
theorem be4_beN (x : BitVec 32) : be4 x = beN x.toNat 4 := by simp [be4, beN, byteAt]
end Go.Proofs.YtjficpdfofmcnaaDoor.M

/- The plain mathematics of the device: durable sectors, pending writes. No program in sight. -/
namespace Go.Proofs.YtjficpdfofmcnaaDoor.Dv

structure Disk where
  sectors : List (List UInt8)
  pending : List (Int × List UInt8)
  left : Int
  down : Bool
def Disk.zero : Disk := ⟨[], [], 0, false⟩
/-- Is there such a sector? -/
def has (n : Nat) (s : Int) : Bool := decide (0 ≤ s ∧ s < (n : Int))
/-- One write made durable. -/
def put (S : List (List UInt8)) (p : Int × List UInt8) : List (List UInt8) := if has S.length p.1 = true then S.set p.1.toNat p.2 else S
/-- All of them, in order. -/
def settle (S : List (List UInt8)) (ps : List (Int × List UInt8)) : List (List UInt8) := ps.foldl put S
/-- The content of a sector behind these writes. -/
def content (b : List UInt8) (s : Int) (ps : List (Int × List UInt8)) : List UInt8 := ps.foldl (fun b p => if p.1 = s then p.2 else b) b
theorem put_length (S : List (List UInt8)) (p : Int × List UInt8) : (put S p).length = S.length := by
  unfold put
  split <;> simp
theorem settle_length (ps : List (Int × List UInt8)) : ∀ S : List (List UInt8), (settle S ps).length = S.length := by
  induction ps with
  | nil => intro S; rfl
  | cons p ps ih => intro S; exact (ih (put S p)).trans (put_length S p)
theorem put_get (S : List (List UInt8)) (p : Int × List UInt8) (i : Nat) : (put S p)[i]? = (S[i]?).map fun b => if p.1 = (i : Int) then p.2 else b := by
  unfold put
  by_cases h : has S.length p.1 = true
  · rw [if_pos h]
    simp only [has, decide_eq_true_eq] at h
    by_cases e : p.1 = (i : Int)
    · rw [show p.1.toNat = i by omega, List.getElem?_set_self (by omega)]
      simp [e, List.getElem?_eq_getElem (show i < S.length by omega)]
    · rw [List.getElem?_set_ne (by omega)]
      simp [e]
  · rw [if_neg h]
    simp only [has, decide_eq_true_eq] at h
    by_cases e : p.1 = (i : Int)
    · rw [List.getElem?_eq_none (by omega)]; rfl
    · simp [e]
/-- The sectors behind the writes, one by one. -/
theorem settle_get (ps : List (Int × List UInt8)) : ∀ (S : List (List UInt8)) (i : Nat), (settle S ps)[i]? = (S[i]?).map fun b => content b (i : Int) ps := by
  induction ps with
  | nil => intro S i; simp [settle, content]
  | cons p ps ih =>
    intro S i
    have h : settle S (p :: ps) = settle (put S p) ps := rfl
    rw [h, ih, put_get, Option.map_map]
    rfl
/-- Those pending writes whose numbers are in keep. -/
def kept (keep : List Int) : Nat → List (Int × List UInt8) → List (Int × List UInt8)
  | _, [] => []
  | i, p :: ps => if keep.contains (i : Int) then p :: kept keep (i + 1) ps else kept keep (i + 1) ps
theorem kept_nil : ∀ (i : Nat) (ps : List (Int × List UInt8)), kept [] i ps = []
  | _, [] => rfl
  | i, p :: ps => by simp [kept, kept_nil (i + 1) ps]

/-! ### The functions -/
def new (n : Int) : Disk × Int := if n < 1 ∨ 4096 < n then (Disk.zero, 2) else (⟨List.replicate n.toNat (List.replicate 64 0), [], -1, false⟩, 0)
def write (d : Disk) (s : Int) (b : List UInt8) : Disk × Int :=
  if d.down = true then (d, 23) else if has d.sectors.length s = false then (Disk.zero, 2) else if b.length ≠ 64 then (Disk.zero, 1) else
  if d.left = 0 then (⟨d.sectors, d.pending ++ [(s, b)], 0, true⟩, 23) else (⟨d.sectors, d.pending ++ [(s, b)], if 0 < d.left then d.left - 1 else d.left, d.down⟩, 0)
def flush (d : Disk) : Disk × Int := if d.down = true then (Disk.zero, 23) else (⟨settle d.sectors d.pending, [], d.left, false⟩, 0)
def read (d : Disk) (s : Int) : List UInt8 × Int :=
  if d.down = true then ([], 23) else if has d.sectors.length s = false then ([], 2) else (content (d.sectors.getD s.toNat []) s d.pending, 0)
def arm (d : Disk) (left : Int) : Disk := ⟨d.sectors, d.pending, max left (-1), d.down⟩
def crash (d : Disk) (keep : List Int) : Disk := ⟨settle d.sectors (kept keep 0 d.pending), [], -1, false⟩

/-! ### Sizes -/
/-- A device of at most 4096 sectors and k pending writes, of at most 200 bytes each. -/
structure Fits (k : Nat) (d : Disk) : Prop where
  ns : d.sectors.length ≤ 4096
  np : d.pending.length ≤ k
  ss : ∀ b ∈ d.sectors, b.length ≤ 200
  sp : ∀ p ∈ d.pending, p.2.length ≤ 200
theorem Fits.mono {k k' : Nat} {d : Disk} (h : Fits k d) (hk : k ≤ k') : Fits k' d := ⟨h.ns, Nat.le_trans h.np hk, h.ss, h.sp⟩
theorem zero_fits (k : Nat) : Fits k Disk.zero := ⟨by simp [Disk.zero], by simp [Disk.zero], by simp [Disk.zero], by simp [Disk.zero]⟩
def tot (l : List (List UInt8)) : Nat := (l.map List.length).sum
theorem tot_le (l : List (List UInt8)) (h : ∀ b ∈ l, b.length ≤ 200) : tot l ≤ l.length * 200 := by
  induction l with
  | nil => simp [tot]
  | cons b l ih =>
    have h1 := ih fun x hx => h x (List.mem_cons_of_mem _ hx)
    have h2 := h b (List.mem_cons_self ..)
    simp only [tot, List.map_cons, List.sum_cons, List.length_cons] at *
    omega
theorem tot_take (l : List (List UInt8)) (k : Nat) (h : k < l.length) : tot (l.take (k + 1)) = tot (l.take k) + l[k].length := by
  rw [List.take_succ_eq_append_getElem h]
  unfold tot
  rw [List.map_append, List.sum_append]
  simp
theorem tot_take_le (l : List (List UInt8)) (k : Nat) : tot (l.take k) ≤ tot l := by
  have : tot l = tot (l.take k) + tot (l.drop k) := by
    conv => lhs; rw [← List.take_append_drop k l]
    unfold tot
    rw [List.map_append, List.sum_append]
  omega
theorem put_fits (S : List (List UInt8)) (p : Int × List UInt8) (h : ∀ b ∈ S, b.length ≤ 200) (hp : p.2.length ≤ 200) : ∀ b ∈ put S p, b.length ≤ 200 := by
  intro b hb
  unfold put at hb
  split at hb
  · rcases List.mem_or_eq_of_mem_set hb with hb | rfl
    · exact h b hb
    · exact hp
  · exact h b hb
theorem settle_fits (ps : List (Int × List UInt8)) : ∀ (S : List (List UInt8)), (∀ b ∈ S, b.length ≤ 200) → (∀ p ∈ ps, p.2.length ≤ 200) → ∀ b ∈ settle S ps, b.length ≤ 200 := by
  induction ps with
  | nil => intro S h _; exact h
  | cons p ps ih => intro S h hp; exact ih (put S p) (put_fits S p h (hp p (List.mem_cons_self ..))) fun q hq => hp q (List.mem_cons_of_mem _ hq)
theorem kept_sub (keep : List Int) : ∀ (ps : List (Int × List UInt8)) (i : Nat), ∀ p ∈ kept keep i ps, p ∈ ps
  | [], _, p, h => by simp [kept] at h
  | q :: ps, i, p, h => by
    unfold kept at h
    split at h
    · rcases List.mem_cons.1 h with rfl | h
      · exact List.mem_cons_self ..
      · exact List.mem_cons_of_mem _ (kept_sub keep ps (i + 1) p h)
    · exact List.mem_cons_of_mem _ (kept_sub keep ps (i + 1) p h)
theorem new_fits (n : Int) : Fits 0 (new n).1 := by
  unfold new
  split
  · exact zero_fits 0
  · refine ⟨by simp; omega, by simp, fun b hb => ?_, by simp⟩
    rw [(List.mem_replicate.1 hb).2]
    simp
theorem write_fits {k : Nat} {d : Disk} (h : Fits k d) (s : Int) (b : List UInt8) : Fits (k + 1) (write d s b).1 := by
  unfold write
  split
  · exact h.mono (by omega)
  · split
    · exact zero_fits _
    · split
      · exact zero_fits _
      · rename_i hb
        have hp : ∀ p ∈ d.pending ++ [(s, b)], p.2.length ≤ 200 := by
          intro p hp
          rcases List.mem_append.1 hp with hp | hp
          · exact h.sp p hp
          · simp at hp
            subst hp
            simp; omega
        have hn : (d.pending ++ [(s, b)]).length ≤ k + 1 := by have := h.np; simp; omega
        split <;> exact ⟨h.ns, hn, h.ss, hp⟩
theorem flush_fits {k : Nat} {d : Disk} (h : Fits k d) : Fits 0 (flush d).1 := by
  unfold flush
  split
  · exact zero_fits _
  · exact ⟨by simpa [settle_length] using h.ns, by simp, settle_fits _ _ h.ss h.sp, by simp⟩
theorem arm_fits {k : Nat} {d : Disk} (h : Fits k d) (left : Int) : Fits k (arm d left) := ⟨h.ns, h.np, h.ss, h.sp⟩
theorem crash_fits {k : Nat} {d : Disk} (h : Fits k d) (keep : List Int) : Fits 0 (crash d keep) :=
  ⟨by simpa [crash, settle_length] using h.ns, by simp [crash], settle_fits _ _ h.ss fun p hp => h.sp p (kept_sub keep _ _ p hp), by simp [crash]⟩

/-! ### What was written is read -/
theorem content_append (b : List UInt8) (s : Int) (ps : List (Int × List UInt8)) (p : Int × List UInt8) : content b s (ps ++ [p]) = if p.1 = s then p.2 else content b s ps := by
  simp [content, List.foldl_append]
theorem read_mk (S : List (List UInt8)) (P : List (Int × List UInt8)) (l : Int) (i : Int) (h : has S.length i = true) : read ⟨S, P, l, false⟩ i = (content (S.getD i.toNat []) i P, 0) := by
  simp [read, h]
theorem settle_getD (S : List (List UInt8)) (P : List (Int × List UInt8)) (i : Nat) (h : i < S.length) : (settle S P).getD i [] = content (S.getD i []) (i : Int) P := by
  have := settle_get P S i
  rw [List.getElem?_eq_getElem h] at this
  simp [List.getD, this, List.getElem?_eq_getElem h]
theorem has_nat {n i : Nat} (h : i < n) : has n (i : Int) = true := by simp [has]; omega

/-! ### A sequence of writes -/
def written (d : Disk) (i : Nat) : List (Int × UInt8) → Disk × Nat × Int
  | [] => (d, i, 0)
  | o :: os => if (write d o.1 (List.replicate 64 o.2)).2 = 23 then ((write d o.1 (List.replicate 64 o.2)).1, i, 23) else
    if (write d o.1 (List.replicate 64 o.2)).2 = 0 then written (write d o.1 (List.replicate 64 o.2)).1 (i + 1) os else written d (i + 1) os
theorem write_cases (d : Disk) (s : Int) (b : List UInt8) :
    (d.down = true ∧ write d s b = (d, 23)) ∨ (d.down = false ∧ has d.sectors.length s = false ∧ write d s b = (Disk.zero, 2)) ∨ (d.down = false ∧ has d.sectors.length s = true ∧ b.length ≠ 64 ∧ write d s b = (Disk.zero, 1)) ∨
    (d.down = false ∧ has d.sectors.length s = true ∧ b.length = 64 ∧ d.left = 0 ∧ write d s b = (⟨d.sectors, d.pending ++ [(s, b)], 0, true⟩, 23)) ∨
    (d.down = false ∧ has d.sectors.length s = true ∧ b.length = 64 ∧ d.left ≠ 0 ∧ write d s b = (⟨d.sectors, d.pending ++ [(s, b)], if 0 < d.left then d.left - 1 else d.left, false⟩, 0)) := by
  unfold write
  cases hd : d.down
  · cases hh : has d.sectors.length s
    · simp
    · by_cases hb : b.length = 64
      · by_cases hl : d.left = 0
        · simp [hb, hl]
        · simp [hb, hl]
      · simp [hb]
  · simp
theorem written_sectors (os : List (Int × UInt8)) : ∀ (d : Disk) (i : Nat), (written d i os).1.sectors = d.sectors := by
  induction os with
  | nil => intro d i; rfl
  | cons o os ih =>
    intro d i
    unfold written
    rcases write_cases d o.1 (List.replicate 64 o.2) with ⟨_, h⟩ | ⟨_, _, h⟩ | ⟨_, _, _, h⟩ | ⟨_, _, _, _, h⟩ | ⟨_, _, _, _, h⟩ <;> rw [h] <;> simp [ih]
theorem written_fits (os : List (Int × UInt8)) : ∀ (k : Nat) (d : Disk) (i : Nat), Fits k d → Fits (k + os.length) (written d i os).1 := by
  induction os with
  | nil => intro k d i h; exact h
  | cons o os ih =>
    intro k d i h
    have hf := write_fits h o.1 (List.replicate 64 o.2)
    unfold written
    split
    · exact hf.mono (by simp)
    · split
      · exact (ih (k + 1) _ _ hf).mono (by simp; omega)
      · exact (ih k _ _ h).mono (by simp)
/-- Without a fuse no write crashes the device. -/
theorem written_safe (os : List (Int × UInt8)) : ∀ (d : Disk) (i : Nat), d.down = false → d.left = -1 → (written d i os).2 = (i + os.length, 0) ∧ (written d i os).1.down = false ∧ (written d i os).1.left = -1 := by
  induction os with
  | nil => intro d i h1 h2; exact ⟨rfl, h1, h2⟩
  | cons o os ih =>
    intro d i h1 h2
    unfold written
    rcases write_cases d o.1 (List.replicate 64 o.2) with ⟨h0, h⟩ | ⟨_, _, h⟩ | ⟨_, _, _, h⟩ | ⟨_, _, _, h0, h⟩ | ⟨_, _, _, _, h⟩
    · rw [h1] at h0; cases h0
    · rw [h]
      have := ih d (i + 1) h1 h2
      simp only [show ((2 : Int) = 23) = False by simp, show ((2 : Int) = 0) = False by simp, if_false, List.length_cons]
      rw [show i + (os.length + 1) = i + 1 + os.length by omega]
      exact this
    · rw [h]
      have := ih d (i + 1) h1 h2
      simp only [show ((1 : Int) = 23) = False by simp, show ((1 : Int) = 0) = False by simp, if_false, List.length_cons]
      rw [show i + (os.length + 1) = i + 1 + os.length by omega]
      exact this
    · omega
    · rw [h]
      have := ih (⟨d.sectors, d.pending ++ [(o.1, List.replicate 64 o.2)], if 0 < d.left then d.left - 1 else d.left, false⟩ : Disk) (i + 1) rfl (by rw [h2]; rfl)
      simp only [show ((0 : Int) = 23) = False by simp, if_false, if_true, List.length_cons]
      rw [show i + (os.length + 1) = i + 1 + os.length by omega]
      exact this
/-- With a fuse of left writes. -/
theorem written_fuse (os : List (Int × UInt8)) : ∀ (d : Disk) (i left : Nat), d.down = false → d.left = (left : Int) → (∀ o ∈ os, has d.sectors.length o.1 = true) →
    if os.length ≤ left then (written d i os).2 = (i + os.length, 0) ∧ (written d i os).1.down = false ∧ (written d i os).1.left = ((left - os.length : Nat) : Int) ∧ (written d i os).1.pending.length = d.pending.length + os.length
    else (written d i os).2 = (i + left, 23) ∧ (written d i os).1.down = true ∧ (written d i os).1.pending.length = d.pending.length + left + 1 := by
  induction os with
  | nil => intro d i left h1 h2 _; simp [written, h1, h2]
  | cons o os ih =>
    intro d i left h1 h2 hs
    have ho := hs o (List.mem_cons_self ..)
    rcases write_cases d o.1 (List.replicate 64 o.2) with ⟨h0, h⟩ | ⟨_, h0, h⟩ | ⟨_, _, h0, h⟩ | ⟨_, _, _, h0, h⟩ | ⟨_, _, _, h0, h⟩
    · rw [h1] at h0; cases h0
    · rw [ho] at h0; cases h0
    · simp at h0
    · have hl : left = 0 := by omega
      subst hl
      unfold written
      rw [h]
      simp
    · obtain ⟨l', rfl⟩ : ∃ l', left = l' + 1 := ⟨left - 1, by omega⟩
      have hw : written d i (o :: os) = written ⟨d.sectors, d.pending ++ [(o.1, List.replicate 64 o.2)], (l' : Int), false⟩ (i + 1) os := by
        conv => lhs; unfold written
        rw [h]
        simp only [show ((0 : Int) = 23) = False by simp, if_false, if_true]
        rw [if_pos (show 0 < d.left by omega), show d.left - 1 = (l' : Int) by omega]
      rw [hw]
      have := ih ⟨d.sectors, d.pending ++ [(o.1, List.replicate 64 o.2)], (l' : Int), false⟩ (i + 1) l' rfl rfl fun q hq => hs q (List.mem_cons_of_mem _ hq)
      by_cases hle : os.length ≤ l'
      · rw [if_pos hle] at this
        rw [if_pos (by simp; omega)]
        obtain ⟨a, b, c, e⟩ := this
        refine ⟨by rw [a]; simp; omega, b, by rw [c]; simp, by rw [e]; simp; omega⟩
      · rw [if_neg hle] at this
        rw [if_neg (by simp; omega)]
        obtain ⟨a, b, e⟩ := this
        refine ⟨by rw [a]; simp; omega, b, by rw [e]; simp; omega⟩
/-- The pending writes are all old or of 64 bytes (for the crash behind them only the sectors count). -/
theorem crash_nil (d : Disk) : crash d [] = ⟨d.sectors, [], -1, false⟩ := by simp [crash, kept_nil, settle]
theorem kept_all (keep : List Int) : ∀ (ps : List (Int × List UInt8)) (i : Nat), (∀ j, i ≤ j → j < i + ps.length → keep.contains (j : Int) = true) → kept keep i ps = ps
  | [], _, _ => rfl
  | p :: ps, i, h => by
    unfold kept
    rw [if_pos (h i (Nat.le_refl _) (by simp)), kept_all keep ps (i + 1) fun j h1 h2 => h j (by omega) (by simp; omega)]

/-- Those pending writes whose numbers q accepts. -/
def keptq (q : Nat → Bool) : Nat → List (Int × List UInt8) → List (Int × List UInt8)
  | _, [] => []
  | i, p :: ps => if q i = true then p :: keptq q (i + 1) ps else keptq q (i + 1) ps
theorem keptq_snoc (q : Nat → Bool) : ∀ (ps : List (Int × List UInt8)) (i : Nat) (p : Int × List UInt8), keptq q i (ps ++ [p]) = keptq q i ps ++ if q (i + ps.length) = true then [p] else []
  | [], i, p => by simp [keptq]
  | a :: ps, i, p => by
    have h := keptq_snoc q ps (i + 1) p
    simp only [List.cons_append, keptq, h, List.length_cons]
    rw [show i + 1 + ps.length = i + (ps.length + 1) by omega]
    split <;> simp
theorem keptq_take (q : Nat → Bool) (ps : List (Int × List UInt8)) (k : Nat) (h : k < ps.length) : keptq q 0 (ps.take (k + 1)) = keptq q 0 (ps.take k) ++ if q k = true then [ps[k]] else [] := by
  rw [List.take_succ_eq_append_getElem h, keptq_snoc]
  simp [Nat.min_eq_left (Nat.le_of_lt h)]
theorem keptq_true : ∀ (ps : List (Int × List UInt8)) (i : Nat), keptq (fun _ => true) i ps = ps
  | [], _ => rfl
  | p :: ps, i => by simp [keptq, keptq_true ps (i + 1)]
theorem keptq_keep (keep : List Int) : ∀ (ps : List (Int × List UInt8)) (i : Nat), keptq (fun j => keep.contains (j : Int)) i ps = kept keep i ps
  | [], _ => rfl
  | p :: ps, i => by rw [keptq, kept, keptq_keep keep ps (i + 1)]
theorem settle_snoc (S : List (List UInt8)) (ps : List (Int × List UInt8)) (p : Int × List UInt8) : settle S (ps ++ [p]) = put (settle S ps) p := by simp [settle, List.foldl_append]
/-- The step of settling, by cases. -/
theorem settle_step (q : Nat → Bool) (S : List (List UInt8)) (ps : List (Int × List UInt8)) (k : Nat) (h : k < ps.length) :
    settle S (keptq q 0 (ps.take (k + 1))) = if q k = true then (if has S.length ps[k].1 = true then (settle S (keptq q 0 (ps.take k))).set ps[k].1.toNat ps[k].2 else settle S (keptq q 0 (ps.take k))) else settle S (keptq q 0 (ps.take k)) := by
  rw [keptq_take q ps k h]
  by_cases hq : q k = true
  · rw [if_pos hq, if_pos hq, settle_snoc]
    unfold put
    rw [settle_length]
  · rw [if_neg hq, if_neg hq, List.append_nil]

/-- At most so many sectors and pending writes, of at most 200 bytes. -/
def few (d : Disk) (m : Nat) : Bool := decide (d.sectors.length ≤ m ∧ d.pending.length ≤ m ∧ (∀ b ∈ d.sectors, b.length ≤ 200) ∧ ∀ p ∈ d.pending, p.2.length ≤ 200)
theorem few_fits {d : Disk} {m : Nat} (h : few d m = true) (hm : m ≤ 4096) : Fits m d ∧ d.sectors.length ≤ m := by
  simp only [few, decide_eq_true_eq] at h
  exact ⟨⟨Nat.le_trans h.1 hm, h.2.1, h.2.2.1, h.2.2.2⟩, h.1⟩
end Go.Proofs.YtjficpdfofmcnaaDoor.Dv

/- A device in memory: a slice of sectors, a slice of pending writes, two numbers; what a function that returns one leaves. -/
namespace Go.Proofs.YtjficpdfofmcnaaDoor
open Go.RowKit Go.Joins

theorem off_set4 (w : World) (b : Nat) (x y z u : Value) : Off [b] w ((((w.setCell ⟨b, 0, none⟩ x).setCell ⟨b, 1, none⟩ y).setCell ⟨b, 2, none⟩ z).setCell ⟨b, 3, none⟩ u) :=
  ((((Off.refl [b] w).setCell (p := ⟨b, 0, none⟩) (by simp) x).setCell (p := ⟨b, 1, none⟩) (by simp) y).setCell (p := ⟨b, 2, none⟩) (by simp) z).setCell (p := ⟨b, 3, none⟩) (by simp) u
theorem Bx.set4 {w : World} {b : Nat} {a0 a1 a2 a3 : Value} (h : Bx w b [a0, a1, a2, a3]) (x y z u : Value) : Bx ((((w.setCell ⟨b, 0, none⟩ x).setCell ⟨b, 1, none⟩ y).setCell ⟨b, 2, none⟩ z).setCell ⟨b, 3, none⟩ u) b [x, y, z, u] := by
  have := (((h.set (j := 0) (by simp) x).set (j := 1) (by simp) y).set (j := 2) (by simp) z).set (j := 3) (by simp) u
  simpa only [List.set_cons_zero, List.set_cons_succ] using this
/-- A slice of bytes, with what it reads as. -/
structure Sl where
  a : Option Addr
  n : Nat
  c : Nat
  l : List UInt8
def Sl.v (s : Sl) : Value := .slice s.a s.n s.c
def Sl.Ok (w : World) (s : Sl) : Prop := RB w s.a s.n s.c s.l
def Sl.cells (s : Sl) : List Value := [s.v]
/-- A pending write. -/
structure Pe where
  k : Int
  s : Sl
def Pe.cells (p : Pe) : List Value := [.int .i64 p.k, p.s.v]
def Pe.m (p : Pe) : Int × List UInt8 := (p.k, p.s.l)
/-- A slice of sectors that reads as S. -/
structure RS (w : World) (A : Option Addr) (n c : Nat) (S : List Sl) : Prop where
  rd : Rd w 1 A n c (S.map Sl.v)
  ok : ∀ s ∈ S, s.Ok w
/-- A slice of pending writes that reads as P. -/
structure RP (w : World) (A : Option Addr) (n c : Nat) (P : List Pe) : Prop where
  rd : Rd w 2 A n c (P.flatMap Pe.cells)
  ok : ∀ p ∈ P, p.s.Ok w
section
variable {w w' : World} {A : Option Addr} {n c : Nat} {S : List Sl} {P : List Pe}
theorem Sl.Ok.below {s : Sl} (h : s.Ok w) (hb : Below w.heap.size w w') : s.Ok w' := RB.below h hb
theorem RS.below (h : RS w A n c S) (hb : Below w.heap.size w w') : RS w' A n c S := ⟨h.rd.below hb, fun s hs => (h.ok s hs).below hb⟩
theorem RP.below (h : RP w A n c P) (hb : Below w.heap.size w w') : RP w' A n c P := ⟨h.rd.below hb, fun s hs => (h.ok s hs).below hb⟩
theorem RS.len (h : RS w A n c S) : S.length = n := by have := h.rd.len; simpa using this
theorem pe_two : ∀ p : Pe, p.cells.length = 2 := fun _ => rfl
theorem RP.len (h : RP w A n c P) : P.length = n := h.rd.rows pe_two (by decide)
theorem RS.cap (h : RS w A n c S) : n ≤ c := h.rd.cap
theorem RP.cap (h : RP w A n c P) : n ≤ c := h.rd.cap
theorem RS.big (h : RS w A n c S) : c ≤ maxLen := h.rd.big
theorem RP.big (h : RP w A n c P) : c ≤ maxLen := h.rd.big
theorem RS.none_ (w : World) : RS w none 0 0 [] := ⟨Rd.none_ w 1, fun s h => by cases h⟩
theorem RP.none_ (w : World) : RP w none 0 0 [] := ⟨Rd.none_ w 2, fun s h => by cases h⟩
/-- A sector's cell. -/
theorem RS.at_ (h : RS w A n c S) {k : Nat} (hk : k < S.length) : ∃ b o, A = some ⟨b, o, none⟩ ∧ b < w.heap.size ∧ w.cell? ⟨b, o + k, none⟩ = some (.slice S[k].a S[k].n S[k].c) ∧ RB w S[k].a S[k].n S[k].c S[k].l := by
  obtain ⟨b, o, u, e, hlt, hu, hc⟩ := Rd.at_ h.rd (k := k) (by have := h.len; omega)
  rw [List.getElem?_map, List.getElem?_eq_getElem hk] at hu
  simp only [Option.map_some, Option.some.injEq] at hu
  subst hu
  exact ⟨b, o, e, hlt, hc, h.ok _ (List.getElem_mem hk)⟩
/-- A pending write's cells. -/
theorem RP.at_ (h : RP w A n c P) {k : Nat} (hk : k < P.length) : ∃ b o, A = some ⟨b, o, none⟩ ∧ b < w.heap.size ∧ w.cell? ⟨b, o + k * 2, none⟩ = some (.int .i64 P[k].k) ∧
    w.cell? ⟨b, o + k * 2 + 1, none⟩ = some (.slice P[k].s.a P[k].s.n P[k].s.c) ∧ RB w P[k].s.a P[k].s.n P[k].s.c P[k].s.l := by
  obtain ⟨b, o, e, hlt, hc⟩ := h.rd.row pe_two hk h.len
  exact ⟨b, o, e, hlt, hc 0 _ rfl, hc 1 _ rfl, h.ok _ (List.getElem_mem hk)⟩
end
/-- A device. -/
structure Dk where
  a : Option Addr
  n : Nat
  c : Nat
  S : List Sl
  pa : Option Addr
  pn : Nat
  pc : Nat
  P : List Pe
  left : Int
  down : Bool
def Dk.cells (d : Dk) : List Value := [.slice d.a d.n d.c, .slice d.pa d.pn d.pc, .int .i64 d.left, .bool d.down]
/-- What a device is worth. -/
def Dk.m (d : Dk) : Dv.Disk := ⟨d.S.map (·.l), d.P.map Pe.m, d.left, d.down⟩
structure Dk.Ok (w : World) (d : Dk) : Prop where
  sec : RS w d.a d.n d.c d.S
  pen : RP w d.pa d.pn d.pc d.P
theorem Dk.Ok.below {w w' : World} {d : Dk} (h : d.Ok w) (hb : Below w.heap.size w w') : d.Ok w' := ⟨h.sec.below hb, h.pen.below hb⟩
def Dk.zero : Dk := ⟨none, 0, 0, [], none, 0, 0, [], 0, false⟩
theorem Dk.zero_ok (w : World) : Dk.zero.Ok w := ⟨RS.none_ w, RP.none_ w⟩
/-- A device as a value. -/
def Dk.v (d : Dk) : Value := .agg #[.slice d.a d.n d.c, .slice d.pa d.pn d.pc, .int .i64 d.left, .bool d.down]
/-- Nothing of it lies in block b. -/
def Sl.Av (s : Sl) (b : Nat) : Prop := 0 < s.n → ∀ a, s.a = some a → a.block ≠ b
structure Dk.Av (d : Dk) (b : Nat) : Prop where
  a_ : 0 < d.n → ∀ a, d.a = some a → a.block ≠ b
  s_ : ∀ s ∈ d.S, s.Av b
  p_ : 0 < d.pn → ∀ a, d.pa = some a → a.block ≠ b
  q_ : ∀ p ∈ d.P, p.s.Av b
theorem Rd.lt {w : World} {s n c : Nat} {A : Option Addr} {xs : List Value} (h : Rd w s A n c xs) (hn : 0 < n) {a : Addr} (ha : A = some a) : a.block < w.heap.size := by
  obtain ⟨b, o, e, hlt, _⟩ := h.mem hn
  rw [ha] at e
  injection e with e
  rw [e]
  exact hlt
theorem Sl.Ok.av {w : World} {s : Sl} (h : s.Ok w) {b : Nat} (hb : w.heap.size ≤ b) : s.Av b := fun hn a ha => by have := Rd.lt h hn ha; omega
theorem Dk.Ok.av {w : World} {d : Dk} (h : d.Ok w) {b : Nat} (hb : w.heap.size ≤ b) : d.Av b :=
  ⟨fun hn a ha => by have := Rd.lt h.sec.rd hn ha; omega, fun s hs => (h.sec.ok s hs).av hb, fun hn a ha => by have := Rd.lt h.pen.rd hn ha; omega, fun p hp => (h.pen.ok p hp).av hb⟩
theorem Sl.Ok.off {T : List Nat} {w w' : World} {s : Sl} (h : s.Ok w) (ho : Off T w w') (hT : ∀ b ∈ T, s.Av b) : s.Ok w' := Rd.off h ho fun hn a ha hb => hT _ hb hn a ha rfl
theorem RS.off {T : List Nat} {w w' : World} {A : Option Addr} {n c : Nat} {S : List Sl} (h : RS w A n c S) (ho : Off T w w') (h1 : ∀ b ∈ T, 0 < n → ∀ a, A = some a → a.block ≠ b) (h2 : ∀ b ∈ T, ∀ s ∈ S, s.Av b) : RS w' A n c S :=
  ⟨h.rd.off ho fun hn a ha hb => h1 _ hb hn a ha rfl, fun s hs => (h.ok s hs).off ho fun b hb => h2 b hb s hs⟩
theorem RP.off {T : List Nat} {w w' : World} {A : Option Addr} {n c : Nat} {P : List Pe} (h : RP w A n c P) (ho : Off T w w') (h1 : ∀ b ∈ T, 0 < n → ∀ a, A = some a → a.block ≠ b) (h2 : ∀ b ∈ T, ∀ p ∈ P, p.s.Av b) : RP w' A n c P :=
  ⟨h.rd.off ho fun hn a ha hb => h1 _ hb hn a ha rfl, fun s hs => (h.ok s hs).off ho fun b hb => h2 b hb s hs⟩
theorem Dk.Ok.off {T : List Nat} {w w' : World} {d : Dk} (h : d.Ok w) (ho : Off T w w') (hT : ∀ b ∈ T, d.Av b) : d.Ok w' :=
  ⟨h.sec.off ho (fun b hb => (hT b hb).a_) (fun b hb => (hT b hb).s_), h.pen.off ho (fun b hb => (hT b hb).p_) (fun b hb => (hT b hb).q_)⟩
theorem Dk.zero_av (b : Nat) : Dk.zero.Av b := ⟨fun h => absurd h (by simp [Dk.zero]), (fun s hs => by cases hs), fun h => absurd h (by simp [Dk.zero]), (fun s hs => by cases hs)⟩
/-- WHAT A FUNCTION THAT RETURNS A DEVICE LEAVES. I b: what came in avoids block b; then so does what is returned. -/
def RetK (w : World) (I : Nat → Prop) (m : Dv.Disk) (e : Ending) (w' : World) : Prop := ∃ d : Dk, e = .returned d.v ∧ d.Ok w' ∧ d.m = m ∧ Below w.heap.size w w' ∧ ∀ b, b < w.heap.size → I b → d.Av b
/-- The same with an error number behind it. -/
def RetKE (w : World) (I : Nat → Prop) (m : Dv.Disk × Int) (e : Ending) (w' : World) : Prop := ∃ d : Dk, e = .returned (.tuple #[d.v, .int .i64 m.2]) ∧ d.Ok w' ∧ d.m = m.1 ∧ Below w.heap.size w w' ∧ ∀ b, b < w.heap.size → I b → d.Av b
end Go.Proofs.YtjficpdfofmcnaaDoor

/- The plain mathematics of the journal: its sectors, what is found on a device. No program in sight. -/
namespace Go.Proofs.YtjficpdfofmcnaaDoor.Jn

/-- A sector of a kind with a payload. -/
def sec (k : UInt8) (p : List UInt8) : List UInt8 := k :: (p ++ List.replicate (63 - p.length) 0)
theorem sec_length {k : UInt8} {p : List UInt8} (h : p.length ≤ 63) : (sec k p).length = 64 := by simp [sec]; omega
theorem sec_zero : sec 0 [] = List.replicate 64 0 := rfl
def headB (e : Int) : List UInt8 := sec 3 (M.sealed (V.enc e))
def title4 (e n l s : Int) : List UInt8 := V.enc e ++ V.enc n ++ V.enc l ++ V.enc s
def titleB (e n l s : Int) : List UInt8 := sec 1 (M.sealed (title4 e n l s))
theorem head_len {e : Int} (h : V.In e) : (M.sealed (V.enc e)).length ≤ 63 := by have := V.enc_length h; rw [M.length_sealed]; omega
theorem title_len {e n l s : Int} (h1 : V.In e) (h2 : V.In n) (h3 : V.In l) (h4 : V.In s) : (M.sealed (title4 e n l s)).length ≤ 63 := by
  have := V.enc_length h1
  have := V.enc_length h2
  have := V.enc_length h3
  have := V.enc_length h4
  rw [M.length_sealed]
  simp [title4]
  omega
theorem headB_length {e : Int} (h : V.In e) : (headB e).length = 64 := sec_length (head_len h)
theorem titleB_length {e n l s : Int} (h1 : V.In e) (h2 : V.In n) (h3 : V.In l) (h4 : V.In s) : (titleB e n l s).length = 64 := sec_length (title_len h1 h2 h3 h4)
theorem headB_drop (e : Int) : (headB e).drop 1 = V.enc e ++ (M.be4 (M.crc (V.enc e)) ++ List.replicate (63 - (M.sealed (V.enc e)).length) 0) := by
  simp [headB, sec, M.sealed]
theorem titleB_drop (e n l s : Int) : ∃ r, (titleB e n l s).drop 1 = V.enc e ++ (V.enc n ++ (V.enc l ++ (V.enc s ++ r))) := by
  refine ⟨M.be4 (M.crc (title4 e n l s)) ++ List.replicate (63 - (M.sealed (title4 e n l s)).length) 0, ?_⟩
  simp [titleB, sec, M.sealed, title4]

/-! ### The head -/
/-- The epoch of a head sector, and whether it is one. -/
def readHead (b : List UInt8) : Int × Bool :=
  if b.length ≠ 64 then (0, false) else
  if (V.dec (b.drop 1)).2.2 ≠ 0 ∨ (V.dec (b.drop 1)).1 < 1 ∨ 1073741824 < (V.dec (b.drop 1)).1 then (0, false) else
  if b = headB (V.dec (b.drop 1)).1 then ((V.dec (b.drop 1)).1, true) else (0, false)
theorem dec_in (l : List UInt8) : V.In (V.dec l).1 := by
  by_cases h : (V.dec l).2.2 = 0
  · exact (V.dec_ok (l := l) (n := (V.dec l).1) (k := (V.dec l).2.1) (by rw [← h])).2.2.2
  · rcases V.dec_err h with h | h <;> rw [h] <;> simp [V.In]
theorem dec_used (l : List UInt8) : (V.dec l).2.1 ≤ l.length := by
  by_cases h : (V.dec l).2.2 = 0
  · exact (V.dec_ok (l := l) (n := (V.dec l).1) (k := (V.dec l).2.1) (by rw [← h])).2.1
  · rcases V.dec_err h with h | h <;> rw [h] <;> simp
theorem readHead_true {b : List UInt8} (h : (readHead b).2 = true) : 1 ≤ (readHead b).1 ∧ (readHead b).1 ≤ 1073741824 ∧ b = headB (readHead b).1 := by
  unfold readHead at h ⊢
  split
  · rename_i h1; rw [if_pos h1] at h; cases h
  · rename_i h1
    rw [if_neg h1] at h
    split
    · rename_i h2; rw [if_pos h2] at h; cases h
    · rename_i h2
      rw [if_neg h2] at h
      split
      · rename_i h3
        exact ⟨by omega, by omega, h3⟩
      · rename_i h3; rw [if_neg h3] at h; cases h
theorem readHead_false {b : List UInt8} (h : (readHead b).2 = false) : readHead b = (0, false) := by
  unfold readHead at h ⊢
  split
  · rfl
  · split
    · rfl
    · split
      · rename_i h1 h2 h3
        rw [if_neg h1, if_neg h2, if_pos h3] at h
        cases h
      · rfl
theorem readHead_head {e : Int} (h1 : 1 ≤ e) (h2 : e ≤ 1073741824) : readHead (headB e) = (e, true) := by
  have hi : V.In e := by unfold V.In; omega
  have hd : V.dec ((headB e).drop 1) = (e, (V.enc e).length, 0) := by rw [headB_drop]; exact V.dec_enc hi _
  unfold readHead
  rw [hd, if_neg (by rw [headB_length hi]; decide), if_neg (by simp; omega), if_pos rfl]
theorem readHead_range (b : List UInt8) : 0 ≤ (readHead b).1 ∧ (readHead b).1 ≤ 1073741824 := by
  cases h : (readHead b).2
  · rw [readHead_false h]; decide
  · have := readHead_true h; omega

/-! ### Titles -/
/-- What is left behind k integers. -/
def st (r : List UInt8) : Nat → List UInt8
  | 0 => r
  | k + 1 => (st r k).drop (V.dec (st r k)).2.1
/-- Four integers, one after the other; none on an error. -/
def dec4 (r : List UInt8) : Option (Int × Int × Int × Int) :=
  if (V.dec (st r 0)).2.2 ≠ 0 then none else
  if (V.dec (st r 1)).2.2 ≠ 0 then none else
  if (V.dec (st r 2)).2.2 ≠ 0 then none else
  if (V.dec (st r 3)).2.2 ≠ 0 then none else
  some ((V.dec (st r 0)).1, (V.dec (st r 1)).1, (V.dec (st r 2)).1, (V.dec (st r 3)).1)
theorem st_enc {e n l s : Int} (h1 : V.In e) (h2 : V.In n) (h3 : V.In l) (h4 : V.In s) (r : List UInt8) :
    V.dec (st (V.enc e ++ (V.enc n ++ (V.enc l ++ (V.enc s ++ r)))) 0) = (e, (V.enc e).length, 0) ∧ V.dec (st (V.enc e ++ (V.enc n ++ (V.enc l ++ (V.enc s ++ r)))) 1) = (n, (V.enc n).length, 0) ∧
    V.dec (st (V.enc e ++ (V.enc n ++ (V.enc l ++ (V.enc s ++ r)))) 2) = (l, (V.enc l).length, 0) ∧ V.dec (st (V.enc e ++ (V.enc n ++ (V.enc l ++ (V.enc s ++ r)))) 3) = (s, (V.enc s).length, 0) := by
  have d1 := V.dec_enc h1 (V.enc n ++ (V.enc l ++ (V.enc s ++ r)))
  have d2 := V.dec_enc h2 (V.enc l ++ (V.enc s ++ r))
  have d3 := V.dec_enc h3 (V.enc s ++ r)
  have d4 := V.dec_enc h4 r
  simp only [st, d1, List.drop_left, d2, d3, d4, and_self]
/-- The four numbers of a title sector. -/
def titleOf (b : List UInt8) : Option (Int × Int × Int × Int) :=
  if b.length ≠ 64 then none else
  match dec4 (b.drop 1) with
  | none => none
  | some (e, n, l, s) => if b = titleB e n l s then some (e, n, l, s) else none
theorem dec4_enc {e n l s : Int} (h1 : V.In e) (h2 : V.In n) (h3 : V.In l) (h4 : V.In s) (r : List UInt8) : dec4 (V.enc e ++ (V.enc n ++ (V.enc l ++ (V.enc s ++ r)))) = some (e, n, l, s) := by
  obtain ⟨d1, d2, d3, d4⟩ := st_enc h1 h2 h3 h4 r
  unfold dec4
  rw [d1, d2, d3, d4]
  simp
theorem titleOf_title {e n l s : Int} (h1 : V.In e) (h2 : V.In n) (h3 : V.In l) (h4 : V.In s) : titleOf (titleB e n l s) = some (e, n, l, s) := by
  obtain ⟨r, hr⟩ := titleB_drop e n l s
  unfold titleOf
  rw [if_neg (by rw [titleB_length h1 h2 h3 h4]; decide), hr, dec4_enc h1 h2 h3 h4]
  simp
theorem dec4_in {r : List UInt8} {e n l s : Int} (h : dec4 r = some (e, n, l, s)) : V.In e ∧ V.In n ∧ V.In l ∧ V.In s := by
  unfold dec4 at h
  split at h
  · cases h
  · split at h
    · cases h
    · split at h
      · cases h
      · split at h
        · cases h
        · simp only [Option.some.injEq, Prod.mk.injEq] at h
          obtain ⟨rfl, rfl, rfl, rfl⟩ := h
          exact ⟨dec_in _, dec_in _, dec_in _, dec_in _⟩
theorem titleOf_is {b : List UInt8} {e n l s : Int} (h : titleOf b = some (e, n, l, s)) : b = titleB e n l s ∧ V.In e ∧ V.In n ∧ V.In l ∧ V.In s := by
  unfold titleOf at h
  split at h
  · cases h
  · cases hd : dec4 (b.drop 1) with
    | none => rw [hd] at h; cases h
    | some t =>
      obtain ⟨e', n', l', s'⟩ := t
      rw [hd] at h
      simp only at h
      split at h
      · rename_i hb
        simp only [Option.some.injEq, Prod.mk.injEq] at h
        obtain ⟨rfl, rfl, rfl, rfl⟩ := h
        exact ⟨hb, dec4_in hd⟩
      · cases h
theorem titleOf_none {b : List UInt8} (h : dec4 (b.drop 1) = none) : titleOf b = none := by
  unfold titleOf
  split
  · rfl
  · rw [h]
theorem titleOf_some {b : List UInt8} {e n l s : Int} (hb : b.length = 64) (h : dec4 (b.drop 1) = some (e, n, l, s)) : titleOf b = if b = titleB e n l s then some (e, n, l, s) else none := by
  unfold titleOf
  rw [if_neg (by omega), h]
theorem titleOf_short {b : List UInt8} (hb : b.length ≠ 64) : titleOf b = none := by
  unfold titleOf
  rw [if_pos hb]
/-- The numbers of the first k of four. -/
def tv (r : List UInt8) (k j : Nat) : Int := if j < k then (V.dec (st r j)).1 else 0
theorem tv_in (r : List UInt8) (k j : Nat) : V.In (tv r k j) := by
  unfold tv
  split
  · exact dec_in _
  · simp [V.In]
theorem dec4_none {r : List UInt8} {k : Nat} (hk : k < 4) (h : (V.dec (st r k)).2.2 ≠ 0) : dec4 r = none := by
  unfold dec4
  have hc : k = 0 ∨ k = 1 ∨ k = 2 ∨ k = 3 := by omega
  rcases hc with rfl | rfl | rfl | rfl
  · rw [if_pos h]
  · rw [if_pos h, ite_self]
  · rw [if_pos h, ite_self, ite_self]
  · rw [if_pos h, ite_self, ite_self, ite_self]
theorem tv_at {r : List UInt8} {k j : Nat} (h : j < k) : tv r k j = (V.dec (st r j)).1 := by unfold tv; rw [if_pos h]
theorem dec4_some {r : List UInt8} (h : ∀ j, j < 4 → (V.dec (st r j)).2.2 = 0) : dec4 r = some (tv r 4 0, tv r 4 1, tv r 4 2, tv r 4 3) := by
  unfold dec4
  rw [if_neg (fun hn => hn (h 0 (by decide))), if_neg (fun hn => hn (h 1 (by decide))), if_neg (fun hn => hn (h 2 (by decide))), if_neg (fun hn => hn (h 3 (by decide))), tv_at (by decide), tv_at (by decide), tv_at (by decide), tv_at (by decide)]
theorem titleOf_head {b : List UInt8} {t : Int × Int × Int × Int} (h : titleOf b = some t) : b.head? = some 1 := by
  obtain ⟨e, n, l, s⟩ := t
  rw [(titleOf_is h).1]
  rfl
theorem titleOf_zeros : titleOf (List.replicate 64 0) = none := by
  cases h : titleOf (List.replicate 64 0) with
  | none => rfl
  | some t => have := titleOf_head h; simp [List.replicate] at this
/-- The reference's reading: without a look at the errors. -/
def seq4 (r : List UInt8) : Int × Int := ((V.dec (st r 2)).1, (V.dec (st r 3)).1)
theorem seq4_in (r : List UInt8) : V.In (seq4 r).1 ∧ V.In (seq4 r).2 := ⟨by simp only [seq4]; exact dec_in _, by simp only [seq4]; exact dec_in _⟩
theorem seq4_enc {e n l s : Int} (h1 : V.In e) (h2 : V.In n) (h3 : V.In l) (h4 : V.In s) (r : List UInt8) : seq4 (V.enc e ++ (V.enc n ++ (V.enc l ++ (V.enc s ++ r)))) = (l, s) := by
  obtain ⟨d1, d2, d3, d4⟩ := st_enc h1 h2 h3 h4 r
  unfold seq4
  rw [d3, d4]
/-- Does a sector name a length and a checksum for this epoch and number? -/
def named (b : List UInt8) (e n : Int) : Option (Int × Int) :=
  match titleOf b with
  | none => none
  | some (e', n', l, s) => if e' = e ∧ n' = n ∧ 0 ≤ l then some (l, s) else none
theorem named_seq {b : List UInt8} {e n : Int} (he : V.In e) (hn : V.In n) (_hb : b.length = 64) :
    named b e n = if 0 ≤ (seq4 (b.drop 1)).1 ∧ b = titleB e n (seq4 (b.drop 1)).1 (seq4 (b.drop 1)).2 then some (seq4 (b.drop 1)) else none := by
  have hi := seq4_in (b.drop 1)
  split
  · rename_i h
    obtain ⟨h1, h2⟩ := h
    have ht := titleOf_title he hn hi.1 hi.2
    rw [← h2] at ht
    unfold named
    rw [ht]
    simp only
    rw [if_pos ⟨trivial, trivial, h1⟩]
  · rename_i h
    unfold named
    cases ht : titleOf b with
    | none => rfl
    | some t =>
      obtain ⟨e', n', l, s⟩ := t
      simp only
      split
      · rename_i h3
        obtain ⟨rfl, rfl, h3⟩ := h3
        obtain ⟨hb', h5, h6, h7, h8⟩ := titleOf_is ht
        obtain ⟨r, hr⟩ := titleB_drop e' n' l s
        exfalso
        apply h
        rw [hb', hr, seq4_enc h5 h6 h7 h8]
        exact ⟨h3, rfl⟩
      · rfl
theorem named_yes {b : List UInt8} {e n u v : Int} (he : V.In e) (hn : V.In n) (hb : b.length = 64) (hs : seq4 (b.drop 1) = (u, v)) (h1 : 0 ≤ u) (h2 : b = titleB e n u v) : named b e n = some (u, v) := by
  have h := named_seq he hn hb
  rw [hs] at h
  rw [h]
  exact if_pos ⟨h1, h2⟩
theorem named_no {b : List UInt8} {e n u v : Int} (he : V.In e) (hn : V.In n) (hb : b.length = 64) (hs : seq4 (b.drop 1) = (u, v)) (h1 : ¬ (0 ≤ u ∧ b = titleB e n u v)) : named b e n = none := by
  have h := named_seq he hn hb
  rw [hs] at h
  rw [h]
  exact if_neg h1
theorem named_short {b : List UInt8} {e n : Int} (hb : b.length ≠ 64) : named b e n = none := by
  unfold named titleOf
  rw [if_pos hb]
theorem named_is {b : List UInt8} {e n l s : Int} (h : named b e n = some (l, s)) : titleOf b = some (e, n, l, s) ∧ 0 ≤ l := by
  unfold named at h
  cases ht : titleOf b with
  | none => rw [ht] at h; cases h
  | some t =>
    obtain ⟨e', n', l', s'⟩ := t
    rw [ht] at h
    simp only at h
    split at h
    · rename_i h3
      simp only [Option.some.injEq, Prod.mk.injEq] at h
      obtain ⟨rfl, rfl⟩ := h
      obtain ⟨rfl, rfl, h3⟩ := h3
      exact ⟨rfl, h3⟩
    · cases h
theorem named_zeros (e n : Int) : named (List.replicate 64 0) e n = none := by
  unfold named
  rw [titleOf_zeros]

/-! ### Records -/
/-- How many content sectors. -/
def sectors (l : Nat) : Nat := (l + 62) / 63
theorem sectors_le (l : Nat) : l ≤ sectors l * 63 := by unfold sectors; omega
theorem sectors_lt (l : Nat) : sectors l * 63 < l + 63 := by unfold sectors; omega
/-- The content of sector i. -/
def cont (m : Dv.Disk) (i : Nat) : List UInt8 := Dv.content (m.sectors.getD i []) (i : Int) m.pending
/-- The payloads of k content sectors. -/
def body (m : Dv.Disk) (a : Nat) : Nat → Option (List UInt8)
  | 0 => some []
  | k + 1 => match body m a k with
    | none => none
    | some c => if (cont m (a + k)).length = 64 ∧ (cont m (a + k)).head? = some 2 then some (c ++ (cont m (a + k)).drop 1) else none
def crcI (l : List UInt8) : Int := ((M.crc l).toNat : Int)
/-- THE RECORD with a number at a sector. -/
def recOf (m : Dv.Disk) (e n : Int) (a : Nat) : Option (List UInt8) :=
  if m.sectors.length ≤ a then none else
  match named (cont m a) e n with
  | none => none
  | some (l, s) => if m.sectors.length - a - 1 < sectors l.toNat then none else
    match body m (a + 1) (sectors l.toNat) with
    | none => none
    | some c => if (∀ x ∈ c.drop l.toNat, x = 0) ∧ crcI (c.take l.toNat) = s then some (c.take l.toNat) else none
theorem body_length (m : Dv.Disk) (a : Nat) : ∀ (k : Nat) (c : List UInt8), body m a k = some c → c.length = k * 63
  | 0, c, h => by simp [body] at h; subst h; simp
  | k + 1, c, h => by
    unfold body at h
    cases hb : body m a k with
    | none => rw [hb] at h; cases h
    | some c' =>
      rw [hb] at h
      simp only at h
      split at h
      · rename_i h2
        simp only [Option.some.injEq] at h
        subst h
        rw [List.length_append, body_length m a k c' hb, List.length_drop, h2.1]
        omega
      · cases h
/-- The records from a sector on, and the sector behind them. -/
inductive Chain (m : Dv.Disk) (e : Int) : Nat → Nat → List (List UInt8) → Nat → Prop
  | nil (a n : Nat) : Chain m e a n [] a
  | snoc {a n b : Nat} {L : List (List UInt8)} {c : List UInt8} (h : Chain m e a n L b) (hc : recOf m e ((n + L.length : Nat) : Int) b = some c) : Chain m e a n (L ++ [c]) (b + 1 + sectors c.length)
theorem recOf_length {m : Dv.Disk} {e n : Int} {a : Nat} {c : List UInt8} (h : recOf m e n a = some c) : a < m.sectors.length ∧ a + 1 + sectors c.length ≤ m.sectors.length := by
  unfold recOf at h
  split at h
  · cases h
  · rename_i ha
    cases hn : named (cont m a) e n with
    | none => rw [hn] at h; cases h
    | some t =>
      obtain ⟨l, s⟩ := t
      rw [hn] at h
      simp only at h
      split at h
      · cases h
      · rename_i hs
        cases hb : body m (a + 1) (sectors l.toNat) with
        | none => rw [hb] at h; cases h
        | some c' =>
          rw [hb] at h
          simp only at h
          split at h
          · simp only [Option.some.injEq] at h
            subst h
            have hl := body_length m (a + 1) _ _ hb
            have hle := sectors_le l.toNat
            rw [List.length_take, hl, Nat.min_eq_left hle]
            omega
          · cases h
theorem Chain.le {m : Dv.Disk} {e : Int} {a n b : Nat} {L : List (List UInt8)} (h : Chain m e a n L b) (ha : a ≤ m.sectors.length) : b ≤ m.sectors.length ∧ a + L.length ≤ b := by
  induction h with
  | nil => exact ⟨ha, by simp⟩
  | snoc h hc ih =>
    have := ih
    have := recOf_length hc
    simp
    omega
theorem Chain.uniq {m : Dv.Disk} {e : Int} {a n b : Nat} {L : List (List UInt8)} (h : Chain m e a n L b) : ∀ {L' : List (List UInt8)} {b' : Nat}, Chain m e a n L' b' → L'.length = L.length → L' = L ∧ b' = b := by
  induction h with
  | nil =>
    intro L' b' h' hl
    cases h' with
    | nil => exact ⟨rfl, rfl⟩
    | snoc h2 hc2 => simp at hl
  | snoc h hc ih =>
    intro L' b' h' hl
    cases h' with
    | nil => simp at hl
    | snoc h2 hc2 =>
      simp only [List.length_append, List.length_cons, List.length_nil] at hl
      obtain ⟨rfl, rfl⟩ := ih h2 (by omega)
      rw [hc] at hc2
      simp only [Option.some.injEq] at hc2
      subst hc2
      exact ⟨rfl, rfl⟩
theorem Chain.take {m : Dv.Disk} {e : Int} {a n b : Nat} {L : List (List UInt8)} (h : Chain m e a n L b) : ∀ k, k < L.length → ∃ b' c, Chain m e a n (L.take k) b' ∧ recOf m e ((n + k : Nat) : Int) b' = some c := by
  induction h with
  | nil => intro k hk; simp at hk
  | @snoc b L c h hc ih =>
    intro k hk
    by_cases e1 : k < L.length
    · obtain ⟨b', c', h1, h2⟩ := ih k e1
      refine ⟨b', c', ?_, h2⟩
      rw [List.take_append_of_le_length (by omega)]
      exact h1
    · have e2 : k = L.length := by simp at hk; omega
      subst e2
      exact ⟨b, c, by rw [List.take_left']; exact h; rfl, hc⟩
/-- Of two chains that have come to their end, one is the other. -/
theorem Chain.det {m : Dv.Disk} {e : Int} {a n b b' : Nat} {L L' : List (List UInt8)} (h : Chain m e a n L b) (hn : recOf m e ((n + L.length : Nat) : Int) b = none) (h' : Chain m e a n L' b') (hn' : recOf m e ((n + L'.length : Nat) : Int) b' = none) : L = L' ∧ b = b' := by
  rcases Nat.lt_trichotomy L.length L'.length with hl | hl | hl
  · obtain ⟨b1, c, h1, h2⟩ := h'.take L.length hl
    have := h.uniq h1 (by simp; omega)
    rw [this.2, hn] at h2
    cases h2
  · obtain ⟨h1, h2⟩ := h'.uniq h hl
    exact ⟨h1, h2⟩
  · obtain ⟨b1, c, h1, h2⟩ := h.take L'.length hl
    have := h'.uniq h1 (by simp; omega)
    rw [this.2, hn'] at h2
    cases h2
/-! ### What depends on what -/
/-- Two devices agree below a sector. -/
def Agree (m m' : Dv.Disk) (k : Nat) : Prop := m'.sectors.length = m.sectors.length ∧ ∀ i, i < k → cont m' i = cont m i
theorem body_agree {m m' : Dv.Disk} {k : Nat} (h : Agree m m' k) (a : Nat) : ∀ j, a + j ≤ k → body m' a j = body m a j
  | 0, _ => rfl
  | j + 1, hj => by
    unfold body
    rw [body_agree h a j (by omega), h.2 (a + j) (by omega)]
theorem recOf_agree {m m' : Dv.Disk} {e n : Int} {a k : Nat} {c : List UInt8} (h : Agree m m' k) (hc : recOf m e n a = some c) (hk : a + 1 + sectors c.length ≤ k) : recOf m' e n a = some c := by
  have hl := recOf_length hc
  unfold recOf at hc ⊢
  rw [h.1]
  split at hc
  · cases hc
  · rename_i ha
    rw [if_neg ha, h.2 a (by omega)]
    cases hn : named (cont m a) e n with
    | none => rw [hn] at hc; cases hc
    | some t =>
      obtain ⟨l, s⟩ := t
      rw [hn] at hc
      simp only at hc ⊢
      split at hc
      · cases hc
      · rename_i hs
        rw [if_neg hs]
        cases hb : body m (a + 1) (sectors l.toNat) with
        | none => rw [hb] at hc; cases hc
        | some c' =>
          rw [hb] at hc
          simp only at hc
          split at hc
          · rename_i hq
            simp only [Option.some.injEq] at hc
            have hlen := body_length m (a + 1) _ _ hb
            have hle := sectors_le l.toNat
            have : c.length = l.toNat := by rw [← hc, List.length_take, hlen]; omega
            rw [body_agree h (a + 1) (sectors l.toNat) (by rw [← this]; omega), hb]
            simp only
            rw [if_pos hq, hc]
          · cases hc
theorem Chain.agree {m m' : Dv.Disk} {e : Int} {a n b k : Nat} {L : List (List UInt8)} (h : Chain m e a n L b) (hm : Agree m m' k) (hb : b ≤ k) : Chain m' e a n L b := by
  induction h with
  | nil => exact .nil _ _
  | @snoc b L c h hc ih => exact .snoc (ih (by omega)) (recOf_agree hm hc hb)
theorem recOf_behind {m : Dv.Disk} {e n : Int} {a : Nat} (h : m.sectors.length ≤ a) : recOf m e n a = none := by
  unfold recOf
  rw [if_pos h]
theorem recOf_zeros {m : Dv.Disk} {e n : Int} {a : Nat} (h : cont m a = List.replicate 64 0) : recOf m e n a = none := by
  unfold recOf
  split
  · rfl
  · rw [h, named_zeros]
/-! ### The ways through a record -/
theorem named_of {b : List UInt8} {e n t0 t1 t2 t3 : Int} (h : titleOf b = some (t0, t1, t2, t3)) : named b e n = if t0 = e ∧ t1 = n ∧ 0 ≤ t2 then some (t2, t3) else none := by
  unfold named
  rw [h]
theorem named_none {b : List UInt8} {e n : Int} (h : titleOf b = none) : named b e n = none := by
  unfold named
  rw [h]
section
variable {m : Dv.Disk} {e n l s : Int} {a : Nat}
theorem recOf_no (h : named (cont m a) e n = none) : recOf m e n a = none := by
  unfold recOf
  split
  · rfl
  · rw [h]
theorem recOf_much (h : named (cont m a) e n = some (l, s)) (hs : m.sectors.length - a - 1 < sectors l.toNat) : recOf m e n a = none := by
  unfold recOf
  split
  · rfl
  · rw [h]
    simp only
    rw [if_pos hs]
theorem recOf_body (h : named (cont m a) e n = some (l, s)) (hb : body m (a + 1) (sectors l.toNat) = none) : recOf m e n a = none := by
  unfold recOf
  split
  · rfl
  · rw [h]
    simp only
    split
    · rfl
    · rw [hb]
theorem recOf_tail {c : List UInt8} (h : named (cont m a) e n = some (l, s)) (hb : body m (a + 1) (sectors l.toNat) = some c) (hc : ¬ ((∀ x ∈ c.drop l.toNat, x = 0) ∧ crcI (c.take l.toNat) = s)) : recOf m e n a = none := by
  unfold recOf
  split
  · rfl
  · rw [h]
    simp only
    split
    · rfl
    · rw [hb]
      simp only
      rw [if_neg hc]
theorem recOf_yes {c : List UInt8} (ha : a < m.sectors.length) (h : named (cont m a) e n = some (l, s)) (hs : ¬ m.sectors.length - a - 1 < sectors l.toNat) (hb : body m (a + 1) (sectors l.toNat) = some c) (hc : ∀ x ∈ c.drop l.toNat, x = 0) (hq : crcI (c.take l.toNat) = s) :
    recOf m e n a = some (c.take l.toNat) := by
  unfold recOf
  rw [if_neg (by omega), h]
  simp only
  rw [if_neg hs, hb]
  simp only
  rw [if_pos ⟨hc, hq⟩]
end
theorem body_none (m : Dv.Disk) (a : Nat) {k : Nat} (h : body m a k = none) : ∀ j, k ≤ j → body m a j = none
  | 0, hj => by obtain rfl : k = 0 := by omega
                exact h
  | j + 1, hj => by
    by_cases hk : k = j + 1
    · subst hk; exact h
    · unfold body
      rw [body_none m a h j (by omega)]
theorem body_next {m : Dv.Disk} {a k : Nat} {c : List UInt8} (h : body m a k = some c) : body m a (k + 1) = if (cont m (a + k)).length = 64 ∧ (cont m (a + k)).head? = some 2 then some (c ++ (cont m (a + k)).drop 1) else none := by
  conv => lhs; unfold body
  rw [h]
theorem read_cont {m : Dv.Disk} (h : m.down = false) {i : Nat} (hi : i < m.sectors.length) : Dv.read m (i : Int) = (cont m i, 0) := by
  unfold Dv.read cont
  rw [h, Dv.has_nat hi]
  simp
/-- The reference compares a content sector with what it should be. -/
theorem sec_eq {x : UInt8} {tl : List UInt8} {n : Nat} (hl : tl.length = 63) (hn : n ≤ 63) : (x :: tl = sec 2 (tl.take n)) ↔ (x = 2 ∧ ∀ y ∈ tl.drop n, y = 0) := by
  have h1 : (tl.take n).length = n := by rw [List.length_take]; omega
  unfold sec
  rw [h1, List.cons.injEq]
  refine and_congr_right fun _ => ?_
  constructor
  · intro h y hy
    have h2 : tl.drop n = List.replicate (63 - n) 0 := by
      have h3 := congrArg (List.drop n) h
      have h4 : (tl.take n).drop n = [] := List.drop_of_length_le (by omega)
      rwa [List.drop_append_of_le_length (by omega), h4, List.nil_append] at h3
    rw [h2] at hy
    exact (List.mem_replicate.1 hy).2
  · intro h
    have h2 : tl.drop n = List.replicate (63 - n) 0 := List.eq_replicate_iff.2 ⟨by rw [List.length_drop]; omega, h⟩
    rw [← h2, List.take_append_drop]
theorem rec_step {cb tl : List UInt8} {k L n : Nat} (hc : cb.length = k * 63) (hk : k * 63 < L) (hl : tl.length = 63) (hn : n = min 63 (L - k * 63)) :
    (cb ++ tl).take L = cb.take L ++ tl.take n ∧ (cb ++ tl).drop L = tl.drop n := by
  have h1 : cb.take L = cb := List.take_of_length_le (by omega)
  have h2 : tl.take (L - k * 63) = tl.take n := by
    by_cases h : L - k * 63 ≤ 63
    · rw [hn, Nat.min_eq_right h]
    · rw [hn, Nat.min_eq_left (by omega), List.take_of_length_le (by omega), List.take_of_length_le (by omega)]
  have h3 : tl.drop (L - k * 63) = tl.drop n := by
    by_cases h : L - k * 63 ≤ 63
    · rw [hn, Nat.min_eq_right h]
    · rw [hn, Nat.min_eq_left (by omega), List.drop_of_length_le (by omega), List.drop_of_length_le (by omega)]
  refine ⟨?_, ?_⟩
  · rw [List.take_append, hc, h1, h2]
  · rw [List.drop_append, hc, h3, List.drop_of_length_le (by omega), List.nil_append]
end Go.Proofs.YtjficpdfofmcnaaDoor.Jn
