/- Append, and where the new slice lies; lists of slices of bytes that grow. -/
import Derived.Test.YtpekbcoclmhcnaaDev1
import Derived.Maps.AppendAt
import Derived.Deep.RegionLaw
namespace Go.Proofs.Ytpekbcoclmhcnaa
open Go.RowKit Go.Joins

/-- What an append leaves. -/
structure App (w : World) (base : Nat) (e : TypeId) (s : Nat) (v : Value) (n : Nat) (xs : List Value) (A' : Option Addr) (c' : Nat) (w' : World) : Prop where
  tgt : Tgt w' base e s (.slice A' n c') n xs
  grown : w.grownBy w' v.ownBlock
  at_ : ∀ a, A' = some a → v.ownBlock = some a.block ∨ (w.heap.size ≤ a.block ∧ a.block < w'.heap.size)
  below : Below base w w'
section
variable {P : Program} (w : World)
theorem run_append_app (base : Nat) (t ty e : TypeId) (i : TypeInfo) (z : Value) (s bytes : Nat) (ht : P.underlying t = some (.slice e)) (hi : P.info? e = some i) (hz : i.zero = some z)
    (hsize : i.size = s) (hby : i.bytes = bytes) (hzs : z.cells.size = s) (hsz : 0 < s)
    (v : Value) (n : Nat) (xs : List Value) (hv : Tgt w base e s v n xs)
    (A : Option Addr) (m c : Nat) (news : List Value) (hr : Rd w s A m c news) (h1 : ∀ u ∈ news, u.oneCell' = true)
    (hbytes : (n + m) * bytes ≤ 140737488355328) (hpos : 0 < bytes) (hbase : base ≤ w.heap.size) :
    ∃ A' c' w', (Builtin.append_ #[t, t] ty #[v, .slice A m c]).run P w = .ok (.slice A' (n + m) c') w' ∧ App w base e s v (n + m) (xs ++ news) A' c' w' := by
  have hsum : n + m ≤ 140737488355328 := Nat.le_trans (Nat.le_mul_of_pos_right _ hpos) hbytes
  have h63 : n + m ≤ maxLen := by simp only [maxLen]; omega
  have key : ∀ v' w', (Builtin.append_ #[t, t] ty #[v, .slice A m c]).run P w = .ok v' w' → Tgt w' base e s v' (n + m) (xs ++ news) → w.grownBy w' v.ownBlock → (∀ g, v'.ownBlock = some g → v.ownBlock = some g ∨ (w.heap.size ≤ g ∧ g < w'.heap.size)) → Below base w w' →
      ∃ A' c' w', (Builtin.append_ #[t, t] ty #[v, .slice A m c]).run P w = .ok (.slice A' (n + m) c') w' ∧ App w base e s v (n + m) (xs ++ news) A' c' w' := by
    intro v' w' hrun h2 h3 h4 h5
    obtain ⟨A', c', rfl, _⟩ := h2.rd
    exact ⟨A', c', w', hrun, ⟨h2, h3, fun a ha => h4 a.block (by rw [ha]; rfl), h5⟩⟩
  rcases Nat.eq_zero_or_pos m with hm | hm
  · subst hm
    have hnil : news = [] := List.eq_nil_of_length_eq_zero (by have := hr.len; simpa using this)
    subst hnil
    obtain ⟨A', c', hvv, hrd⟩ := hv.rd
    subst hvv
    exact key _ w (run_append_zero w t ty e i ht hi A' A n c' c hrd.cap) (by simpa using hv) ⟨rfl, rfl, rfl, Nat.le_refl _, fun _ _ _ => rfl⟩ (fun g hg => .inl hg) (Below.refl _ _)
  · obtain ⟨b, o, rfl, hlt, hc⟩ := hr.mem hm
    have hcells : ∀ j u, news[j]? = some u → w.cell? ((⟨b, o, none⟩ : Addr).add j) = some u := fun j u hu => by rw [Addr.add_lit]; exact hc j u hu
    have fresh : ∀ {v' : Value} {w' : World}, w'.ownsRow w.heap.size e s v' (n + m) (xs ++ news) → ∀ g, v'.ownBlock = some g → v.ownBlock = some g ∨ (w.heap.size ≤ g ∧ g < w'.heap.size) := fun h g hg => .inr (h.lt g hg)
    rcases hv with ⟨A', rfl, hrd⟩ | hown
    · rcases Nat.eq_zero_or_pos n with hn | hn
      · subst hn
        have hx : xs = [] := List.eq_nil_of_length_eq_zero (by have := hrd.len; simpa using this)
        subst hx
        cases A' with
        | none =>
          obtain ⟨v', w', hrun, h2, h3, _⟩ := run_append_own (P := P) w w.heap.size t ty e i z s bytes ht hi hz hsize hby hzs hsz _ 0 [] (World.ownsRow_nil w w.heap.size e s) _ m c news hr.len hcells h1 h63 hbytes (Nat.le_refl _)
          exact key v' w' hrun (.inr (ownsRow_le h2 hbase)) h3 (fresh h2) ((Below.refl _ _).grown h3 hbase (by simp [Value.ownBlock]))
        | some a =>
          obtain ⟨v', w', hrun, h2, h3⟩ := run_append_arg_grows (P := P) w t ty e i z s bytes ht hi hz hsize hby hzs hsz a 0 0 [] (by simp) (fun j u h => by simp at h) _ m c news hr.len hcells (by omega) h63 hbytes
          exact key v' w' hrun (.inr (ownsRow_le h2 hbase)) ⟨h3.os, h3.tape, h3.output, h3.size, fun k hk _ => h3.block k hk (by simp)⟩ (fresh h2) ((Below.refl _ _).grown h3 hbase (by simp))
      · obtain ⟨b', o', rfl, _, hc'⟩ := hrd.mem hn
        obtain ⟨v', w', hrun, h2, h3⟩ := run_append_arg_grows (P := P) w t ty e i z s bytes ht hi hz hsize hby hzs hsz ⟨b', o', none⟩ n n xs hrd.len (fun j u h => by rw [Addr.add_lit]; exact hc' j u h) _ m c news hr.len hcells (by omega) h63 hbytes
        exact key v' w' hrun (.inr (ownsRow_le h2 hbase)) ⟨h3.os, h3.tape, h3.output, h3.size, fun k hk _ => h3.block k hk (by simp)⟩ (fresh h2) ((Below.refl _ _).grown h3 hbase (by simp))
    · obtain ⟨v', w', hrun, h2, h3, _, h5⟩ := run_append_own_at (P := P) w base t ty e i z s bytes ht hi hz hsize hby hzs hsz v n xs hown _ m c news hr.len hcells h1 h63 hbytes hbase
      refine key v' w' hrun (.inr h2) h3 (fun g hg => ?_) ((Below.refl _ _).grown h3 hbase fun k hk => (hown.lt k hk).1)
      rcases h5 with h5 | h5
      · exact .inl (h5 ▸ hg)
      · have hlt := (h2.lt g hg).2
        rw [h5] at hg
        injection hg with hg
        exact .inr ⟨by omega, hlt⟩
theorem wp_append_app {o : Oper} {a : Act} {K : Act → World → Prop} {Q : Exit → Act → World → Prop} (sx x : Operand) (t : TypeId)
    (ho : o.op = .call { callee := .builtin .append, args := #[sx, x], argTypes := #[t, t] })
    (base : Nat) (e : TypeId) (z : Value) (s bytes : Nat) (ht : P.underlying t = some (.slice e)) (hinfo : (P.info? e).map (fun i => (i.zero, i.size, i.bytes)) = some (some z, s, bytes)) (hzs : z.cells.size = s) (hsz : 0 < s) (hpos : 0 < bytes)
    (v : Value) (n : Nat) (xs : List Value) (hs : a.eval sx = v) (hv : Tgt w base e s v n xs)
    (A : Option Addr) (m c : Nat) (news : List Value) (hx : a.eval x = .slice A m c) (hr : Rd w s A m c news) (h1 : ∀ u ∈ news, u.oneCell' = true)
    (hbytes : (n + m) * bytes ≤ 140737488355328) (hbase : base ≤ w.heap.size)
    (h : ∀ A' c' w', App w base e s v (n + m) (xs ++ news) A' c' w' → K (a.put o.dst (.slice A' (n + m) c')) w') : o.wp P a w K Q := by
  obtain ⟨i, hi, hz0, hz1, hz2⟩ := info_parts hinfo
  obtain ⟨A', c', w', hrun, h2⟩ := run_append_app (P := P) w base t o.type e i z s bytes ht hi hz0 hz1 hz2 hzs hsz v n xs hv A m c news hr h1 hbytes hpos hbase
  unfold Oper.wp execOp
  simp only [ho, resolve, invoke, builtin, Sem.run_bind, Sem.run_pure, Result.andThen_ok, List.map_toArray, List.map_cons, List.map_nil, hs, hx, hrun]
  exact h A' c' w' h2
theorem wpList_append_app {ops : Array Oper} {rest : List Oper} {o : Oper} {a : Act} {Q : Exit → Act → World → Prop} (hgd : o.guard = none) (sx x : Operand) (t : TypeId)
    (ho : o.op = .call { callee := .builtin .append, args := #[sx, x], argTypes := #[t, t] })
    (base : Nat) (e : TypeId) (z : Value) (s bytes : Nat) (ht : P.underlying t = some (.slice e)) (hinfo : (P.info? e).map (fun i => (i.zero, i.size, i.bytes)) = some (some z, s, bytes)) (hzs : z.cells.size = s) (hsz : 0 < s) (hpos : 0 < bytes)
    (v : Value) (n : Nat) (xs : List Value) (hs : a.eval sx = v) (hv : Tgt w base e s v n xs)
    (A : Option Addr) (m c : Nat) (news : List Value) (hx : a.eval x = .slice A m c) (hr : Rd w s A m c news) (h1 : ∀ u ∈ news, u.oneCell' = true)
    (hbytes : (n + m) * bytes ≤ 140737488355328) (hbase : base ≤ w.heap.size)
    (h : ∀ A' c' w', App w base e s v (n + m) (xs ++ news) A' c' w' → wpList P ops Q rest (a.put o.dst (.slice A' (n + m) c')) w') : wpList P ops Q (o :: rest) a w :=
  wpList_plain hgd fun _ hK => wp_append_app w sx x t ho base e z s bytes ht hinfo hzs hsz hpos v n xs hs hv A m c news hx hr h1 hbytes hbase fun A' c' w' h2 => hK _ _ (h A' c' w' h2)
theorem step_append_app {ops : Array Oper} {o : Oper} {a : Act} {K : Act → World → Prop} {Q : Exit → Act → World → Prop} {E : Prop} (hgd : o.guard = none) (sx x : Operand) (t : TypeId)
    (ho : o.op = .call { callee := .builtin .append, args := #[sx, x], argTypes := #[t, t] })
    (base : Nat) (e : TypeId) (z : Value) (s bytes : Nat) (ht : P.underlying t = some (.slice e)) (hinfo : (P.info? e).map (fun i => (i.zero, i.size, i.bytes)) = some (some z, s, bytes)) (hzs : z.cells.size = s) (hsz : 0 < s) (hpos : 0 < bytes)
    (v : Value) (n : Nat) (xs : List Value) (hs : a.eval sx = v) (hv : Tgt w base e s v n xs)
    (A : Option Addr) (m c : Nat) (news : List Value) (hx : a.eval x = .slice A m c) (hr : Rd w s A m c news) (h1 : ∀ u ∈ news, u.oneCell' = true)
    (hbytes : (n + m) * bytes ≤ 140737488355328) (hbase : base ≤ w.heap.size)
    (h : ∀ A' c' w', App w base e s v (n + m) (xs ++ news) A' c' w' → K (a.put o.dst (.slice A' (n + m) c')) w') :
    if Region.wanted o (yielded ops a.tmps) = true then Oper.wp P o a w K Q else E := by
  have hw : Region.wanted o (yielded ops a.tmps) = true := by simp [Region.wanted, hgd]
  rw [if_pos hw]
  exact wp_append_app w sx x t ho base e z s bytes ht hinfo hzs hsz hpos v n xs hs hv A m c news hx hr h1 hbytes hbase h
end
theorem sl_info : (Try.prog.info? 26).map (fun i => (i.zero, i.size, i.bytes)) = some (some (.slice none 0 0), 1, 24) := by kernel_rfl
theorem wr_info : (Try.prog.info? 53).map (fun i => (i.zero, i.size, i.bytes)) = some (some (.agg #[.int .i64 0, .slice none 0 0]), 2, 32) := by kernel_rfl
theorem sl_one (S : List Sl) : ∀ u ∈ S.map Sl.v, u.oneCell' = true := by
  intro u hu
  obtain ⟨_, _, rfl⟩ := List.mem_map.1 hu
  rfl
theorem pe_one (P : List Pe) : ∀ u ∈ P.flatMap Pe.cells, u.oneCell' = true := by
  intro u hu
  obtain ⟨p, _, hp⟩ := List.mem_flatMap.1 hu
  simp only [Pe.cells, List.mem_cons, List.not_mem_nil, or_false] at hp
  rcases hp with rfl | rfl <;> rfl
/-- A slice of bytes that does not lie in block g. -/
def Sl.Away (s : Sl) (g : Option Nat) : Prop := 0 < s.n → ∀ a, s.a = some a → g ≠ some a.block
theorem Sl.Ok.grown {s : Sl} {w w' : World} {g : Option Nat} (h : s.Ok w) (hg : w.grownBy w' g) (ha : s.Away g) : s.Ok w' := by
  refine Rd.off (T := g.toList) h (Off.of_grown hg fun k hk => by simp [hk]) fun hn a e => ?_
  have := ha hn a e
  cases g with
  | none => simp
  | some x => simp only [Option.toList, List.mem_singleton]; intro hh; exact this (by rw [hh])
theorem Sl.Ok.lt {s : Sl} {w : World} (h : s.Ok w) (hn : 0 < s.n) {a : Addr} (ha : s.a = some a) : a.block < w.heap.size := by
  obtain ⟨b, o, e, hlt, _⟩ := Rd.mem h hn
  rw [ha] at e
  injection e with e
  rw [e]
  exact hlt
theorem own_lt {A : Option Addr} {n c N g : Nat} (h : ∀ a, A = some a → a.block < N) (hg : (Value.slice A n c).ownBlock = some g) : g < N := by
  cases A with
  | none => simp [Value.ownBlock] at hg
  | some a =>
    simp only [Value.ownBlock, Option.some.injEq] at hg
    rw [← hg]
    exact h a rfl
/-- Bytes in memory that is newer than N lie in no block below N. -/
theorem away_new {s : Sl} {A : Option Addr} {n c N : Nat} (h : ∀ a, A = some a → a.block < N) (hs : ∀ a, s.a = some a → N ≤ a.block) : s.Away ((Value.slice A n c).ownBlock) := fun _ a ha hg => by
  have h1 := own_lt h hg
  have h2 := hs a ha
  omega
/-- A growing list of slices of bytes. -/
structure GS (w : World) (base : Nat) (A : Option Addr) (n c : Nat) (S : List Sl) : Prop where
  tgt : Tgt w base 26 1 (.slice A n c) n (S.map Sl.v)
  ok : ∀ s ∈ S, s.Ok w
  away : ∀ s ∈ S, s.Away ((Value.slice A n c).ownBlock)
  lt : ∀ a, A = some a → a.block < w.heap.size
theorem GS.rs {w : World} {base : Nat} {A : Option Addr} {n c : Nat} {S : List Sl} (h : GS w base A n c S) : RS w A n c S := by
  obtain ⟨A', c', e, hr⟩ := h.tgt.rd
  injection e with e1 _ e3
  subst e1 e3
  exact ⟨hr, h.ok⟩
theorem GS.below {w w' : World} {base : Nat} {A : Option Addr} {n c : Nat} {S : List Sl} (h : GS w base A n c S) (hb : Below w.heap.size w w') : GS w' base A n c S := ⟨h.tgt.below hb, fun s hs => (h.ok s hs).below hb, h.away, fun a ha => Nat.lt_of_lt_of_le (h.lt a ha) hb.size⟩
theorem GS.nil (w : World) (base : Nat) : GS w base none 0 0 [] := ⟨Tgt.nil w base _ 1, (fun s hs => by cases hs), (fun s hs => by cases hs), (fun a h => by cases h)⟩
/-- One more. -/
theorem GS.app {w w' : World} {base : Nat} {A : Option Addr} {n c : Nat} {S : List Sl} {A' : Option Addr} {c' : Nat} {s : Sl} (h : GS w base A n c S) (ha : App w base 26 1 (.slice A n c) (n + 1) (S.map Sl.v ++ [s.v]) A' c' w')
    (hs : s.Ok w) (hw : s.Away ((Value.slice A n c).ownBlock)) : GS w' base A' (n + 1) c' (S ++ [s]) := by
  have all : ∀ t ∈ S ++ [s], t.Ok w ∧ t.Away ((Value.slice A n c).ownBlock) := fun t ht => by
    rcases List.mem_append.1 ht with ht | ht
    · exact ⟨h.ok t ht, h.away t ht⟩
    · simp only [List.mem_singleton] at ht
      subst ht
      exact ⟨hs, hw⟩
  refine ⟨by rw [List.map_append]; exact ha.tgt, fun t ht => (all t ht).1.grown ha.grown (all t ht).2, fun t ht hn a e => ?_, fun a e => ?l⟩
  case l =>
    rcases ha.at_ a e with h3 | h3
    · exact Nat.lt_of_lt_of_le (own_lt h.lt h3) ha.grown.size
    · exact h3.2
  have h1 := (all t ht).2 hn a e
  have h2 := (all t ht).1.lt hn e
  cases A' with
  | none => simp [Value.ownBlock]
  | some a' =>
    simp only [Value.ownBlock]
    intro hh
    injection hh with hh
    rcases ha.at_ a' rfl with h3 | h3
    · rw [h3, hh] at h1; exact h1 rfl
    · omega
/-- A growing list of pending writes. -/
structure GP (w : World) (base : Nat) (A : Option Addr) (n c : Nat) (P : List Pe) : Prop where
  tgt : Tgt w base 53 2 (.slice A n c) n (P.flatMap Pe.cells)
  ok : ∀ p ∈ P, p.s.Ok w
  away : ∀ p ∈ P, p.s.Away ((Value.slice A n c).ownBlock)
  lt : ∀ a, A = some a → a.block < w.heap.size
theorem GP.rp {w : World} {base : Nat} {A : Option Addr} {n c : Nat} {P : List Pe} (h : GP w base A n c P) : RP w A n c P := by
  obtain ⟨A', c', e, hr⟩ := h.tgt.rd
  injection e with e1 _ e3
  subst e1 e3
  exact ⟨hr, h.ok⟩
theorem GP.below {w w' : World} {base : Nat} {A : Option Addr} {n c : Nat} {P : List Pe} (h : GP w base A n c P) (hb : Below w.heap.size w w') : GP w' base A n c P := ⟨h.tgt.below hb, fun s hs => (h.ok s hs).below hb, h.away, fun a ha => Nat.lt_of_lt_of_le (h.lt a ha) hb.size⟩
theorem GP.nil (w : World) (base : Nat) : GP w base none 0 0 [] := ⟨Tgt.nil w base _ 2, (fun s hs => by cases hs), (fun s hs => by cases hs), (fun a h => by cases h)⟩
/-- More of them. -/
theorem GP.app {w w' : World} {base m : Nat} {A : Option Addr} {n c : Nat} {P Q : List Pe} {A' : Option Addr} {c' : Nat} (h : GP w base A n c P) (ha : App w base 53 2 (.slice A n c) m (P.flatMap Pe.cells ++ Q.flatMap Pe.cells) A' c' w')
    (hs : ∀ p ∈ Q, p.s.Ok w) (hw : ∀ p ∈ Q, p.s.Away ((Value.slice A n c).ownBlock)) : GP w' base A' m c' (P ++ Q) := by
  have all : ∀ t ∈ P ++ Q, t.s.Ok w ∧ t.s.Away ((Value.slice A n c).ownBlock) := fun t ht => by
    rcases List.mem_append.1 ht with ht | ht
    · exact ⟨h.ok t ht, h.away t ht⟩
    · exact ⟨hs t ht, hw t ht⟩
  refine ⟨by rw [List.flatMap_append]; exact ha.tgt, fun t ht => (all t ht).1.grown ha.grown (all t ht).2, fun t ht hn a e => ?_, fun a e => ?l⟩
  case l =>
    rcases ha.at_ a e with h3 | h3
    · exact Nat.lt_of_lt_of_le (own_lt h.lt h3) ha.grown.size
    · exact h3.2
  have h1 := (all t ht).2 hn a e
  have h2 := (all t ht).1.lt hn e
  cases A' with
  | none => simp [Value.ownBlock]
  | some a' =>
    simp only [Value.ownBlock]
    intro hh
    injection hh with hh
    rcases ha.at_ a' rfl with h3 | h3
    · rw [h3, hh] at h1; exact h1 rfl
    · omega
/-- WHAT A FUNCTION THAT RETURNS BYTES IN NEW MEMORY LEAVES. -/
def RetBF (w : World) (l : List UInt8) (e : Ending) (w' : World) : Prop := ∃ A n c, e = .returned (.slice A n c) ∧ RB w' A n c l ∧ (∀ a, A = some a → w.heap.size ≤ a.block) ∧ Below w.heap.size w w'
theorem tgt_empty (w : World) (base : Nat) (t e : TypeId) (s : Nat) : Tgt (w.alloc (.cells #[] t)) base e s (.slice (some ⟨w.heap.size, 0, none⟩) 0 0) 0 [] :=
  .inl ⟨_, rfl, ⟨by simp, Nat.le_refl _, by simp [maxLen], (fun h => by cases h), fun h => absurd h (by omega)⟩⟩
/-- One slice, as the walk lays it in a block of its own. -/
theorem rd_one (w : World) (v : Value) (t : TypeId) : Rd (w.alloc (.cells #[v] t)) 1 (some ⟨w.heap.size, 0, none⟩) 1 1 [v] :=
  (Wh.new w t [v]).rd rfl (Nat.le_refl _) (by simp [maxLen]) (fun j u hu => by rw [Nat.zero_add]; exact hu)
theorem rd_two (w : World) (x y : Value) (t : TypeId) : Rd (w.alloc (.cells #[x, y] t)) 2 (some ⟨w.heap.size, 0, none⟩) 1 1 [x, y] :=
  (Wh.new w t [x, y]).rd rfl (Nat.le_refl _) (by simp [maxLen]) (fun j u hu => by rw [Nat.zero_add]; exact hu)
end Go.Proofs.Ytpekbcoclmhcnaa
