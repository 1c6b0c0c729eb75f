/- The device: its memory. -/
import Derived.Test.YtjficpdfofmcnaaDoorBed1
import Derived.Maps.AppendAt
import Derived.Deep.RegionLaw
import Derived.Deep.OwnRows
import Derived.Deep.CutRange
import Derived.Deep.RegionHeld3
import Derived.Maps.OwnOps
import Derived.Maps.OwnSet
/- device.has, the closures of device; a piece of a great block of bytes. -/
namespace Go.Proofs.YtjficpdfofmcnaaDoor
open Go.RowKit Go.Joins

theorem below_next {B : Nat} {w w' w'' : World} (h : Below B w w') (hb : Below w'.heap.size w' w'') (hB : B ≤ w.heap.size) : Below B w w'' := h.trans (hb.mono (Nat.le_trans hB h.size))

/-- device.has -/
theorem has_any (A : Option Addr) (n c : Nat) (pA : Option Addr) (pn pc : Nat) (left : Int) (down : Bool) (s : Int) (w : World) :
    Calls Tryd.prog 65 #[.agg #[.slice A n c, .slice pA pn pc, .int .i64 left, .bool down], .int .i64 s] w fun e w' => e = .returned (.bool (Dv.has n s)) ∧ Below w.heap.size w w' := by
  by_cases h0 : 0 ≤ s
  · have h1 : decide ((0 : Int) ≤ s) = true := decide_eq_true h0
    by_cases h2 : s < (n : Int)
    · have h3 : decide (s < (n : Int)) = true := decide_eq_true h2
      have HX : Keep (Dv.has n s = true) := ⟨decide_eq_true ⟨h0, h2⟩⟩
      go_enter Tryd.func65, Tryd.ntmps65
      go_wp2
      go_ret
      exact ⟨by rw [HX.out]; rfl, below_alloc1 _ _⟩
    · have h3 : decide (s < (n : Int)) = false := decide_eq_false h2
      have HX : Keep (Dv.has n s = false) := ⟨decide_eq_false fun h => h2 h.2⟩
      go_enter Tryd.func65, Tryd.ntmps65
      go_wp2
      go_ret
      exact ⟨by rw [HX.out]; rfl, below_alloc1 _ _⟩
  · have h1 : decide ((0 : Int) ≤ s) = false := decide_eq_false h0
    have HX : Keep (Dv.has n s = false) := ⟨decide_eq_false fun h => h0 h.1⟩
    go_enter Tryd.func65, Tryd.ntmps65
    go_wp2
    go_ret
    exact ⟨by rw [HX.out]; rfl, below_alloc1 _ _⟩

theorem u8_one : (Tryd.prog.info? 5).map (·.size) = some 1 := by kernel_rfl
/-- The slice of what is left, behind off bytes of block F. -/
def Lft (F off rest : Nat) (fa : Option Addr) : Prop := (0 < rest → fa = some ⟨F, off, none⟩) ∧ (fa = none → rest = 0)
theorem Lft.cut {F off rest n : Nat} {fa : Option Addr} (h : Lft F off rest fa) (hn : n ≤ rest) : Lft F (off + n) (rest - n) (cutA fa n rest 1) := by
  refine ⟨fun h0 => ?_, fun h0 => ?_⟩
  · have := h.1 (by omega)
    subst this
    unfold cutA
    rw [if_neg (by omega)]
    simp [Addr.add_lit]
  · unfold cutA at h0
    split at h0
    · omega
    · cases fa with
      | none => have := h.2 rfl; omega
      | some a => simp at h0
set_option maxHeartbeats 400000 in
/-- device.fresh's closure take: the next piece of the block. -/
theorem take_any (A : Option Addr) (n c : Nat) (l : List UInt8) (V F off rest : Nat) (fa : Option Addr) (cur : List Value) (e0 : TypeId) (w : World) (hl : RB w A n c l) (hv : Bx w V [.slice fa rest rest]) (hF : Wh w F e0 cur)
    (hfa : Lft F off rest fa) (hfit : off + rest ≤ cur.length) (hn : n ≤ rest) (hr : rest ≤ 1000000000) (hne : V ≠ F) :
    Calls Tryd.prog 84 #[.slice A n c, .pointer (some ⟨V, 0, none⟩)] w fun e w' =>
      e = .returned (.slice fa n n) ∧ Bx w' V [.slice (cutA fa n rest 1) (rest - n) (rest - n)] ∧ Wh w' F e0 (splice cur off (l.map bv)) ∧ Off [F, V] w w' := by
  have HL := Keep.mk hl
  have HV := Keep.mk hv
  have HF := Keep.mk hF
  have HA := Keep.mk hfa
  have HN : Keep (V ≠ F) := ⟨hne⟩
  have c0 := hv.cell 0 _ rfl
  have hlen := hl.len
  have k1 := run_cut3_b fa rest rest 0 n n 0 n n rfl rfl rfl (by omega) (by omega) hn
  have k2 := run_from_b fa rest rest n n rfl hn
  rw [cutA_zero] at k1
  have K1 := Keep.mk k1
  clear hl hv hF hfa hne k1
  go_enter Tryd.func84, Tryd.ntmps84
  go_wp2_with (refine wpList_copy_off rfl (.tmp 6) (.tmp 7) 26 26 rfl 5 Tryd.underlying26 u8_one fa A rest rest n c rfl rfl F off cur e0 HF.out (l.map bv) HL.out hn (fun h0 => HA.out.1 (by omega)) (by omega) (bv_one l) ?_; intro w2 hF2 ho2; have HF2 := Keep.mk hF2; have HO2 := Keep.mk ho2; have HV2 := Keep.mk (HV.out.off ho2 (by simpa using HN.out)); have c2 := HV2.out.cell 0 _ rfl; have f2 := HV2.out.fz 0; clear hF2 ho2 c0)
  go_ret
  exact ⟨rfl, HV2.out.set (j := 0) (by simp) _, HF2.out.other (Ne.symm HN.out) _, (HO2.out.sub (by simp)).setCell (by simp) _⟩

/-! ### The pieces -/
/-- A slice of bytes that lies in block F before place off. -/
structure Pc (F off : Nat) (cur : List Value) (s : Sl) : Prop where
  n : s.l.length = s.n
  c : s.n ≤ s.c
  big : s.c ≤ maxLen
  nil : s.a = none → s.c = 0
  at_ : 0 < s.n → ∃ o, s.a = some ⟨F, o, none⟩ ∧ o + s.n ≤ off ∧ ∀ j u, (s.l.map bv)[j]? = some u → cur[o + j]? = some u
theorem Pc.ok {F off : Nat} {cur : List Value} {s : Sl} {w : World} {e : TypeId} (h : Pc F off cur s) (hF : Wh w F e cur) : s.Ok w := by
  refine ⟨by simp [h.n], h.c, h.big, h.nil, fun hn => ?_⟩
  obtain ⟨o, e, _, hj⟩ := h.at_ hn
  exact ⟨F, o, e, hF.lt, fun j u hu => (hF.cell _).trans (hj j u hu)⟩
theorem Pc.laid {F off off' k : Nat} {cur cs : List Value} {s : Sl} (h : Pc F off cur s) (hk : off ≤ k) (hf : k + cs.length ≤ cur.length) (h' : off ≤ off') : Pc F off' (splice cur k cs) s := by
  refine ⟨h.n, h.c, h.big, h.nil, fun hn => ?_⟩
  obtain ⟨o, e, ho, hj⟩ := h.at_ hn
  refine ⟨o, e, by omega, fun j u hu => ?_⟩
  have hl : j < s.l.length := by have := (List.getElem?_eq_some_iff.1 hu).1; simpa using this
  rw [splice_before _ _ _ hf (by have := h.n; omega)]
  exact hj j u hu
/-- What take returns. -/
theorem Pc.new {F off rest n : Nat} {cur : List Value} {fa : Option Addr} {l : List UInt8} (hfa : Lft F off rest fa) (hl : l.length = n) (hn : n ≤ rest) (hfit : off + rest ≤ cur.length) (hr : rest ≤ 1000000000) :
    Pc F (off + n) (splice cur off (l.map bv)) ⟨fa, n, n, l⟩ := by
  refine ⟨hl, Nat.le_refl _, by simp only [maxLen]; omega, fun h => by have := hfa.2 h; show n = 0; omega, fun h0 => ⟨off, hfa.1 (by simp only at h0; omega), by simp, fun j u hu => ?_⟩⟩
  have hj : j < (l.map bv).length := (List.getElem?_eq_some_iff.1 hu).1
  rw [splice_in _ _ _ (by simp; omega) hj]
  exact hu
end Go.Proofs.YtjficpdfofmcnaaDoor

/- Append, and where the new slice lies; lists of slices of bytes that grow. -/
namespace Go.Proofs.YtjficpdfofmcnaaDoor
open Go.RowKit Go.Joins

/-- What an append leaves. -/
structure App (w : World) (base : Nat) (e : TypeId) (s : Nat) (v : Value) (n : Nat) (xs : List Value) (A' : Option Addr) (c' : Nat) (w' : World) : Prop where
  tgt : Tgt w' base e s (.slice A' n c') n xs
  grown : w.grownBy w' v.ownBlock
  at_ : ∀ a, A' = some a → v.ownBlock = some a.block ∨ (w.heap.size ≤ a.block ∧ a.block < w'.heap.size)
  below : Below base w w'
section
variable {P : Program} (w : World)
theorem run_append_app (base : Nat) (t ty e : TypeId) (i : TypeInfo) (z : Value) (s bytes : Nat) (ht : P.underlying t = some (.slice e)) (hi : P.info? e = some i) (hz : i.zero = some z)
    (hsize : i.size = s) (hby : i.bytes = bytes) (hzs : z.cells.size = s) (hsz : 0 < s)
    (v : Value) (n : Nat) (xs : List Value) (hv : Tgt w base e s v n xs)
    (A : Option Addr) (m c : Nat) (news : List Value) (hr : Rd w s A m c news) (h1 : ∀ u ∈ news, u.oneCell' = true)
    (hbytes : (n + m) * bytes ≤ 140737488355328) (hpos : 0 < bytes) (hbase : base ≤ w.heap.size) :
    ∃ A' c' w', (Builtin.append_ #[t, t] ty #[v, .slice A m c]).run P w = .ok (.slice A' (n + m) c') w' ∧ App w base e s v (n + m) (xs ++ news) A' c' w' := by
  have hsum : n + m ≤ 140737488355328 := Nat.le_trans (Nat.le_mul_of_pos_right _ hpos) hbytes
  have h63 : n + m ≤ maxLen := by simp only [maxLen]; omega
  have key : ∀ v' w', (Builtin.append_ #[t, t] ty #[v, .slice A m c]).run P w = .ok v' w' → Tgt w' base e s v' (n + m) (xs ++ news) → w.grownBy w' v.ownBlock → (∀ g, v'.ownBlock = some g → v.ownBlock = some g ∨ (w.heap.size ≤ g ∧ g < w'.heap.size)) → Below base w w' →
      ∃ A' c' w', (Builtin.append_ #[t, t] ty #[v, .slice A m c]).run P w = .ok (.slice A' (n + m) c') w' ∧ App w base e s v (n + m) (xs ++ news) A' c' w' := by
    intro v' w' hrun h2 h3 h4 h5
    obtain ⟨A', c', rfl, _⟩ := h2.rd
    exact ⟨A', c', w', hrun, ⟨h2, h3, fun a ha => h4 a.block (by rw [ha]; rfl), h5⟩⟩
  rcases Nat.eq_zero_or_pos m with hm | hm
  · subst hm
    have hnil : news = [] := List.eq_nil_of_length_eq_zero (by have := hr.len; simpa using this)
    subst hnil
    obtain ⟨A', c', hvv, hrd⟩ := hv.rd
    subst hvv
    exact key _ w (run_append_zero w t ty e i ht hi A' A n c' c hrd.cap) (by simpa using hv) ⟨rfl, rfl, rfl, Nat.le_refl _, fun _ _ _ => rfl⟩ (fun g hg => .inl hg) (Below.refl _ _)
  · obtain ⟨b, o, rfl, hlt, hc⟩ := hr.mem hm
    have hcells : ∀ j u, news[j]? = some u → w.cell? ((⟨b, o, none⟩ : Addr).add j) = some u := fun j u hu => by rw [Addr.add_lit]; exact hc j u hu
    have fresh : ∀ {v' : Value} {w' : World}, w'.ownsRow w.heap.size e s v' (n + m) (xs ++ news) → ∀ g, v'.ownBlock = some g → v.ownBlock = some g ∨ (w.heap.size ≤ g ∧ g < w'.heap.size) := fun h g hg => .inr (h.lt g hg)
    rcases hv with ⟨A', rfl, hrd⟩ | hown
    · rcases Nat.eq_zero_or_pos n with hn | hn
      · subst hn
        have hx : xs = [] := List.eq_nil_of_length_eq_zero (by have := hrd.len; simpa using this)
        subst hx
        cases A' with
        | none =>
          obtain ⟨v', w', hrun, h2, h3, _⟩ := run_append_own (P := P) w w.heap.size t ty e i z s bytes ht hi hz hsize hby hzs hsz _ 0 [] (World.ownsRow_nil w w.heap.size e s) _ m c news hr.len hcells h1 h63 hbytes (Nat.le_refl _)
          exact key v' w' hrun (.inr (ownsRow_le h2 hbase)) h3 (fresh h2) ((Below.refl _ _).grown h3 hbase (by simp [Value.ownBlock]))
        | some a =>
          obtain ⟨v', w', hrun, h2, h3⟩ := run_append_arg_grows (P := P) w t ty e i z s bytes ht hi hz hsize hby hzs hsz a 0 0 [] (by simp) (fun j u h => by simp at h) _ m c news hr.len hcells (by omega) h63 hbytes
          exact key v' w' hrun (.inr (ownsRow_le h2 hbase)) ⟨h3.os, h3.tape, h3.output, h3.size, fun k hk _ => h3.block k hk (by simp)⟩ (fresh h2) ((Below.refl _ _).grown h3 hbase (by simp))
      · obtain ⟨b', o', rfl, _, hc'⟩ := hrd.mem hn
        obtain ⟨v', w', hrun, h2, h3⟩ := run_append_arg_grows (P := P) w t ty e i z s bytes ht hi hz hsize hby hzs hsz ⟨b', o', none⟩ n n xs hrd.len (fun j u h => by rw [Addr.add_lit]; exact hc' j u h) _ m c news hr.len hcells (by omega) h63 hbytes
        exact key v' w' hrun (.inr (ownsRow_le h2 hbase)) ⟨h3.os, h3.tape, h3.output, h3.size, fun k hk _ => h3.block k hk (by simp)⟩ (fresh h2) ((Below.refl _ _).grown h3 hbase (by simp))
    · obtain ⟨v', w', hrun, h2, h3, _, h5⟩ := run_append_own_at (P := P) w base t ty e i z s bytes ht hi hz hsize hby hzs hsz v n xs hown _ m c news hr.len hcells h1 h63 hbytes hbase
      refine key v' w' hrun (.inr h2) h3 (fun g hg => ?_) ((Below.refl _ _).grown h3 hbase fun k hk => (hown.lt k hk).1)
      rcases h5 with h5 | h5
      · exact .inl (h5 ▸ hg)
      · have hlt := (h2.lt g hg).2
        rw [h5] at hg
        injection hg with hg
        exact .inr ⟨by omega, hlt⟩
theorem wp_append_app {o : Oper} {a : Act} {K : Act → World → Prop} {Q : Exit → Act → World → Prop} (sx x : Operand) (t : TypeId)
    (ho : o.op = .call { callee := .builtin .append, args := #[sx, x], argTypes := #[t, t] })
    (base : Nat) (e : TypeId) (z : Value) (s bytes : Nat) (ht : P.underlying t = some (.slice e)) (hinfo : (P.info? e).map (fun i => (i.zero, i.size, i.bytes)) = some (some z, s, bytes)) (hzs : z.cells.size = s) (hsz : 0 < s) (hpos : 0 < bytes)
    (v : Value) (n : Nat) (xs : List Value) (hs : a.eval sx = v) (hv : Tgt w base e s v n xs)
    (A : Option Addr) (m c : Nat) (news : List Value) (hx : a.eval x = .slice A m c) (hr : Rd w s A m c news) (h1 : ∀ u ∈ news, u.oneCell' = true)
    (hbytes : (n + m) * bytes ≤ 140737488355328) (hbase : base ≤ w.heap.size)
    (h : ∀ A' c' w', App w base e s v (n + m) (xs ++ news) A' c' w' → K (a.put o.dst (.slice A' (n + m) c')) w') : o.wp P a w K Q := by
  obtain ⟨i, hi, hz0, hz1, hz2⟩ := info_parts hinfo
  obtain ⟨A', c', w', hrun, h2⟩ := run_append_app (P := P) w base t o.type e i z s bytes ht hi hz0 hz1 hz2 hzs hsz v n xs hv A m c news hr h1 hbytes hpos hbase
  unfold Oper.wp execOp
  simp only [ho, resolve, invoke, builtin, Sem.run_bind, Sem.run_pure, Result.andThen_ok, List.map_toArray, List.map_cons, List.map_nil, hs, hx, hrun]
  exact h A' c' w' h2
theorem wpList_append_app {ops : Array Oper} {rest : List Oper} {o : Oper} {a : Act} {Q : Exit → Act → World → Prop} (hgd : o.guard = none) (sx x : Operand) (t : TypeId)
    (ho : o.op = .call { callee := .builtin .append, args := #[sx, x], argTypes := #[t, t] })
    (base : Nat) (e : TypeId) (z : Value) (s bytes : Nat) (ht : P.underlying t = some (.slice e)) (hinfo : (P.info? e).map (fun i => (i.zero, i.size, i.bytes)) = some (some z, s, bytes)) (hzs : z.cells.size = s) (hsz : 0 < s) (hpos : 0 < bytes)
    (v : Value) (n : Nat) (xs : List Value) (hs : a.eval sx = v) (hv : Tgt w base e s v n xs)
    (A : Option Addr) (m c : Nat) (news : List Value) (hx : a.eval x = .slice A m c) (hr : Rd w s A m c news) (h1 : ∀ u ∈ news, u.oneCell' = true)
    (hbytes : (n + m) * bytes ≤ 140737488355328) (hbase : base ≤ w.heap.size)
    (h : ∀ A' c' w', App w base e s v (n + m) (xs ++ news) A' c' w' → wpList P ops Q rest (a.put o.dst (.slice A' (n + m) c')) w') : wpList P ops Q (o :: rest) a w :=
  wpList_plain hgd fun _ hK => wp_append_app w sx x t ho base e z s bytes ht hinfo hzs hsz hpos v n xs hs hv A m c news hx hr h1 hbytes hbase fun A' c' w' h2 => hK _ _ (h A' c' w' h2)
theorem step_append_app {ops : Array Oper} {o : Oper} {a : Act} {K : Act → World → Prop} {Q : Exit → Act → World → Prop} {E : Prop} (hgd : o.guard = none) (sx x : Operand) (t : TypeId)
    (ho : o.op = .call { callee := .builtin .append, args := #[sx, x], argTypes := #[t, t] })
    (base : Nat) (e : TypeId) (z : Value) (s bytes : Nat) (ht : P.underlying t = some (.slice e)) (hinfo : (P.info? e).map (fun i => (i.zero, i.size, i.bytes)) = some (some z, s, bytes)) (hzs : z.cells.size = s) (hsz : 0 < s) (hpos : 0 < bytes)
    (v : Value) (n : Nat) (xs : List Value) (hs : a.eval sx = v) (hv : Tgt w base e s v n xs)
    (A : Option Addr) (m c : Nat) (news : List Value) (hx : a.eval x = .slice A m c) (hr : Rd w s A m c news) (h1 : ∀ u ∈ news, u.oneCell' = true)
    (hbytes : (n + m) * bytes ≤ 140737488355328) (hbase : base ≤ w.heap.size)
    (h : ∀ A' c' w', App w base e s v (n + m) (xs ++ news) A' c' w' → K (a.put o.dst (.slice A' (n + m) c')) w') :
    if Region.wanted o (yielded ops a.tmps) = true then Oper.wp P o a w K Q else E := by
  have hw : Region.wanted o (yielded ops a.tmps) = true := by simp [Region.wanted, hgd]
  rw [if_pos hw]
  exact wp_append_app w sx x t ho base e z s bytes ht hinfo hzs hsz hpos v n xs hs hv A m c news hx hr h1 hbytes hbase h
end
theorem sl_info : (Tryd.prog.info? 26).map (fun i => (i.zero, i.size, i.bytes)) = some (some (.slice none 0 0), 1, 24) := by kernel_rfl
theorem wr_info : (Tryd.prog.info? 79).map (fun i => (i.zero, i.size, i.bytes)) = some (some (.agg #[.int .i64 0, .slice none 0 0]), 2, 32) := by kernel_rfl
theorem sl_one (S : List Sl) : ∀ u ∈ S.map Sl.v, u.oneCell' = true := by
  intro u hu
  obtain ⟨_, _, rfl⟩ := List.mem_map.1 hu
  rfl
theorem pe_one (P : List Pe) : ∀ u ∈ P.flatMap Pe.cells, u.oneCell' = true := by
  intro u hu
  obtain ⟨p, _, hp⟩ := List.mem_flatMap.1 hu
  simp only [Pe.cells, List.mem_cons, List.not_mem_nil, or_false] at hp
  rcases hp with rfl | rfl <;> rfl
/-- A slice of bytes that does not lie in block g. -/
def Sl.Away (s : Sl) (g : Option Nat) : Prop := 0 < s.n → ∀ a, s.a = some a → g ≠ some a.block
theorem Sl.Ok.grown {s : Sl} {w w' : World} {g : Option Nat} (h : s.Ok w) (hg : w.grownBy w' g) (ha : s.Away g) : s.Ok w' := by
  refine Rd.off (T := g.toList) h (Off.of_grown hg fun k hk => by simp [hk]) fun hn a e => ?_
  have := ha hn a e
  cases g with
  | none => simp
  | some x => simp only [Option.toList, List.mem_singleton]; intro hh; exact this (by rw [hh])
theorem Sl.Ok.lt {s : Sl} {w : World} (h : s.Ok w) (hn : 0 < s.n) {a : Addr} (ha : s.a = some a) : a.block < w.heap.size := by
  obtain ⟨b, o, e, hlt, _⟩ := Rd.mem h hn
  rw [ha] at e
  injection e with e
  rw [e]
  exact hlt
theorem own_lt {A : Option Addr} {n c N g : Nat} (h : ∀ a, A = some a → a.block < N) (hg : (Value.slice A n c).ownBlock = some g) : g < N := by
  cases A with
  | none => simp [Value.ownBlock] at hg
  | some a =>
    simp only [Value.ownBlock, Option.some.injEq] at hg
    rw [← hg]
    exact h a rfl
/-- Bytes in memory that is newer than N lie in no block below N. -/
theorem away_new {s : Sl} {A : Option Addr} {n c N : Nat} (h : ∀ a, A = some a → a.block < N) (hs : ∀ a, s.a = some a → N ≤ a.block) : s.Away ((Value.slice A n c).ownBlock) := fun _ a ha hg => by
  have h1 := own_lt h hg
  have h2 := hs a ha
  omega
/-- A growing list of slices of bytes. -/
structure GS (w : World) (base : Nat) (A : Option Addr) (n c : Nat) (S : List Sl) : Prop where
  tgt : Tgt w base 26 1 (.slice A n c) n (S.map Sl.v)
  ok : ∀ s ∈ S, s.Ok w
  away : ∀ s ∈ S, s.Away ((Value.slice A n c).ownBlock)
  lt : ∀ a, A = some a → a.block < w.heap.size
theorem GS.rs {w : World} {base : Nat} {A : Option Addr} {n c : Nat} {S : List Sl} (h : GS w base A n c S) : RS w A n c S := by
  obtain ⟨A', c', e, hr⟩ := h.tgt.rd
  injection e with e1 _ e3
  subst e1 e3
  exact ⟨hr, h.ok⟩
theorem GS.below {w w' : World} {base : Nat} {A : Option Addr} {n c : Nat} {S : List Sl} (h : GS w base A n c S) (hb : Below w.heap.size w w') : GS w' base A n c S := ⟨h.tgt.below hb, fun s hs => (h.ok s hs).below hb, h.away, fun a ha => Nat.lt_of_lt_of_le (h.lt a ha) hb.size⟩
theorem GS.nil (w : World) (base : Nat) : GS w base none 0 0 [] := ⟨Tgt.nil w base _ 1, (fun s hs => by cases hs), (fun s hs => by cases hs), (fun a h => by cases h)⟩
/-- One more. -/
theorem GS.app {w w' : World} {base : Nat} {A : Option Addr} {n c : Nat} {S : List Sl} {A' : Option Addr} {c' : Nat} {s : Sl} (h : GS w base A n c S) (ha : App w base 26 1 (.slice A n c) (n + 1) (S.map Sl.v ++ [s.v]) A' c' w')
    (hs : s.Ok w) (hw : s.Away ((Value.slice A n c).ownBlock)) : GS w' base A' (n + 1) c' (S ++ [s]) := by
  have all : ∀ t ∈ S ++ [s], t.Ok w ∧ t.Away ((Value.slice A n c).ownBlock) := fun t ht => by
    rcases List.mem_append.1 ht with ht | ht
    · exact ⟨h.ok t ht, h.away t ht⟩
    · simp only [List.mem_singleton] at ht
      subst ht
      exact ⟨hs, hw⟩
  refine ⟨by rw [List.map_append]; exact ha.tgt, fun t ht => (all t ht).1.grown ha.grown (all t ht).2, fun t ht hn a e => ?_, fun a e => ?l⟩
  case l =>
    rcases ha.at_ a e with h3 | h3
    · exact Nat.lt_of_lt_of_le (own_lt h.lt h3) ha.grown.size
    · exact h3.2
  have h1 := (all t ht).2 hn a e
  have h2 := (all t ht).1.lt hn e
  cases A' with
  | none => simp [Value.ownBlock]
  | some a' =>
    simp only [Value.ownBlock]
    intro hh
    injection hh with hh
    rcases ha.at_ a' rfl with h3 | h3
    · rw [h3, hh] at h1; exact h1 rfl
    · omega
/-- A growing list of pending writes. -/
structure GP (w : World) (base : Nat) (A : Option Addr) (n c : Nat) (P : List Pe) : Prop where
  tgt : Tgt w base 79 2 (.slice A n c) n (P.flatMap Pe.cells)
  ok : ∀ p ∈ P, p.s.Ok w
  away : ∀ p ∈ P, p.s.Away ((Value.slice A n c).ownBlock)
  lt : ∀ a, A = some a → a.block < w.heap.size
theorem GP.rp {w : World} {base : Nat} {A : Option Addr} {n c : Nat} {P : List Pe} (h : GP w base A n c P) : RP w A n c P := by
  obtain ⟨A', c', e, hr⟩ := h.tgt.rd
  injection e with e1 _ e3
  subst e1 e3
  exact ⟨hr, h.ok⟩
theorem GP.below {w w' : World} {base : Nat} {A : Option Addr} {n c : Nat} {P : List Pe} (h : GP w base A n c P) (hb : Below w.heap.size w w') : GP w' base A n c P := ⟨h.tgt.below hb, fun s hs => (h.ok s hs).below hb, h.away, fun a ha => Nat.lt_of_lt_of_le (h.lt a ha) hb.size⟩
theorem GP.nil (w : World) (base : Nat) : GP w base none 0 0 [] := ⟨Tgt.nil w base _ 2, (fun s hs => by cases hs), (fun s hs => by cases hs), (fun a h => by cases h)⟩
/-- More of them. -/
theorem GP.app {w w' : World} {base m : Nat} {A : Option Addr} {n c : Nat} {P Q : List Pe} {A' : Option Addr} {c' : Nat} (h : GP w base A n c P) (ha : App w base 79 2 (.slice A n c) m (P.flatMap Pe.cells ++ Q.flatMap Pe.cells) A' c' w')
    (hs : ∀ p ∈ Q, p.s.Ok w) (hw : ∀ p ∈ Q, p.s.Away ((Value.slice A n c).ownBlock)) : GP w' base A' m c' (P ++ Q) := by
  have all : ∀ t ∈ P ++ Q, t.s.Ok w ∧ t.s.Away ((Value.slice A n c).ownBlock) := fun t ht => by
    rcases List.mem_append.1 ht with ht | ht
    · exact ⟨h.ok t ht, h.away t ht⟩
    · exact ⟨hs t ht, hw t ht⟩
  refine ⟨by rw [List.flatMap_append]; exact ha.tgt, fun t ht => (all t ht).1.grown ha.grown (all t ht).2, fun t ht hn a e => ?_, fun a e => ?l⟩
  case l =>
    rcases ha.at_ a e with h3 | h3
    · exact Nat.lt_of_lt_of_le (own_lt h.lt h3) ha.grown.size
    · exact h3.2
  have h1 := (all t ht).2 hn a e
  have h2 := (all t ht).1.lt hn e
  cases A' with
  | none => simp [Value.ownBlock]
  | some a' =>
    simp only [Value.ownBlock]
    intro hh
    injection hh with hh
    rcases ha.at_ a' rfl with h3 | h3
    · rw [h3, hh] at h1; exact h1 rfl
    · omega
/-- WHAT A FUNCTION THAT RETURNS BYTES IN NEW MEMORY LEAVES. -/
def RetBF (w : World) (l : List UInt8) (e : Ending) (w' : World) : Prop := ∃ A n c, e = .returned (.slice A n c) ∧ RB w' A n c l ∧ (∀ a, A = some a → w.heap.size ≤ a.block) ∧ Below w.heap.size w w'
theorem tgt_empty (w : World) (base : Nat) (t e : TypeId) (s : Nat) : Tgt (w.alloc (.cells #[] t)) base e s (.slice (some ⟨w.heap.size, 0, none⟩) 0 0) 0 [] :=
  .inl ⟨_, rfl, ⟨by simp, Nat.le_refl _, by simp [maxLen], (fun h => by cases h), fun h => absurd h (by omega)⟩⟩
/-- One slice, as the walk lays it in a block of its own. -/
theorem rd_one (w : World) (v : Value) (t : TypeId) : Rd (w.alloc (.cells #[v] t)) 1 (some ⟨w.heap.size, 0, none⟩) 1 1 [v] :=
  (Wh.new w t [v]).rd rfl (Nat.le_refl _) (by simp [maxLen]) (fun j u hu => by rw [Nat.zero_add]; exact hu)
theorem rd_two (w : World) (x y : Value) (t : TypeId) : Rd (w.alloc (.cells #[x, y] t)) 2 (some ⟨w.heap.size, 0, none⟩) 1 1 [x, y] :=
  (Wh.new w t [x, y]).rd rfl (Nat.le_refl _) (by simp [maxLen]) (fun j u hu => by rw [Nat.zero_add]; exact hu)
end Go.Proofs.YtjficpdfofmcnaaDoor

/- device.fresh. -/
namespace Go.Proofs.YtjficpdfofmcnaaDoor
open Go.RowKit Go.Joins

theorem made_one (z : Value) (n : Nat) : madeCells #[z] n = (List.replicate n z).toArray := by
  unfold madeCells
  apply Array.ext
  · simp
  · intro i h1 h2
    simp [Nat.mod_one]
/-- n pairs of cells. -/
def prs (x y : Value) (n : Nat) : List Value := (List.replicate n [x, y]).flatten
theorem prs_length (x y : Value) (n : Nat) : (prs x y n).length = n * 2 := by
  unfold prs
  rw [List.length_flatten]
  simp
theorem prs_succ (x y : Value) (n : Nat) : prs x y (n + 1) = x :: y :: prs x y n := by simp [prs, List.replicate_succ]
theorem prs_get (x y : Value) : ∀ (n i : Nat), i < n * 2 → (prs x y n)[i]? = some (if i % 2 = 0 then x else y)
  | 0, i, h => by omega
  | n + 1, 0, h => by simp [prs_succ]
  | n + 1, 1, h => by simp [prs_succ]
  | n + 1, i + 2, h => by
    rw [prs_succ, List.getElem?_cons_succ, List.getElem?_cons_succ, prs_get x y n i (by omega)]
    simp
theorem made_two (x y : Value) (n : Nat) : madeCells #[x, y] (n * 2) = (prs x y n).toArray := by
  unfold madeCells
  apply Array.ext
  · simp [prs_length]
  · intro i h1 h2
    have h3 : i < n * 2 := by simpa using h1
    have := prs_get x y n i h3
    rw [List.getElem?_eq_getElem (by rw [prs_length]; exact h3)] at this
    injection this with this
    simp only [Array.getElem_map, Array.getElem_range, List.size_toArray, List.getElem_toArray, this]
    rcases Nat.mod_two_eq_zero_or_one i with h | h <;> simp [h]
theorem run_make_two {P : Program} (t e : TypeId) (x y : Value) (bytes : Nat) (ht : P.underlying t = some (.slice e)) (hi : (P.info? e).map (fun i => (i.zero, i.size, i.bytes)) = some (some (.agg #[x, y]), 2, bytes))
    (kl kc : IntKind) (n : Nat) (hbytes : bytes * n ≤ 281474976710656) (h63 : n ≤ 9223372036854775807) (w : World) :
    (Instr.makeSlice t (.int kl (n : Int)) (.int kc (n : Int))).run P w = .ok (.slice (some ⟨w.heap.size, 0, none⟩) n n) (w.alloc (.cells (prs x y n).toArray e)) := by
  obtain ⟨i, hi, hzz⟩ := Option.map_eq_some_iff.1 hi
  simp only [Prod.mk.injEq] at hzz
  obtain ⟨hz, hs, hb⟩ := hzz
  have hb' : (i.bytes : Int) * (n : Int) ≤ 281474976710656 := by
    have h : ((i.bytes * n : Nat) : Int) ≤ 281474976710656 := by rw [hb]; omega
    rwa [Int.natCast_mul] at h
  have hr := run_make (P := P) w t e i _ ht hi hz kl kc n n (by omega) (by omega) hb' (by omega)
  simp only [Int.toNat_natCast, hs] at hr
  rw [hr]
  congr 4
  exact made_two x y n
/-- A row that is filled from the left. -/
theorem fill_set (L : List Value) (z v : Value) (k : Nat) (h : L.length = k) (m : Nat) : (L ++ List.replicate (m + 1) z).set k v = (L ++ [v]) ++ List.replicate m z := by
  subst h
  rw [List.set_append_right _ _ (Nat.le_refl _), Nat.sub_self, List.replicate_succ, List.set_cons_zero]
  simp
theorem fill_two (L : List Value) (x y u v : Value) (k m : Nat) (h : L.length = k * 2) : ((L ++ prs x y (m + 1)).set (k * 2) u).set (k * 2 + 1) v = (L ++ [u, v]) ++ prs x y m := by
  rw [← h, List.set_append_right _ _ (Nat.le_refl _), Nat.sub_self, prs_succ, List.set_cons_zero, List.set_append_right _ _ (by omega), show L.length + 1 - L.length = 1 by omega, List.set_cons_succ, List.set_cons_zero]
  simp
theorem sum_take (l : List Nat) (k : Nat) (h : k < l.length) : (l.take (k + 1)).sum = (l.take k).sum + l[k] := by
  rw [List.take_succ_eq_append_getElem h, List.sum_append]
  simp
theorem sum_take_le (l : List Nat) (k : Nat) : (l.take k).sum ≤ l.sum := by
  have : l.sum = (l.take k).sum + (l.drop k).sum := by
    conv => lhs; rw [← List.take_append_drop k l]
    rw [List.sum_append]
  omega
theorem sum_bound (l : List Nat) (b : Nat) (h : ∀ x ∈ l, x ≤ b) : l.sum ≤ l.length * b := by
  induction l with
  | nil => simp
  | cons x l ih =>
    have h1 := ih fun y hy => h y (List.mem_cons_of_mem _ hy)
    have h2 := h x (List.mem_cons_self ..)
    simp only [List.sum_cons, List.length_cons, Nat.succ_mul]
    omega

/-- The state of fresh's great block behind some pieces. -/
structure Fs (wr : World) (F V T off : Nat) (fa : Option Addr) (cur : List Value) (ps : List Sl) : Prop where
  blk : Wh wr F 5 cur
  len : cur.length = T
  var : Bx wr V [.slice fa (T - off) (T - off)]
  lft : Lft F off (T - off) fa
  pc : ∀ s ∈ ps, Pc F off cur s
  le : off ≤ T
theorem Fs.off {wr w' : World} {F V T off : Nat} {fa : Option Addr} {cur : List Value} {ps : List Sl} {L : List Nat} (h : Fs wr F V T off fa cur ps) (ho : Off L wr w') (h1 : F ∉ L) (h2 : V ∉ L) : Fs w' F V T off fa cur ps :=
  ⟨h.blk.off ho h1, h.len, h.var.off ho h2, h.lft, h.pc, h.le⟩
theorem Fs.below {wr w' : World} {F V T off : Nat} {fa : Option Addr} {cur : List Value} {ps : List Sl} (h : Fs wr F V T off fa cur ps) (ho : Below wr.heap.size wr w') : Fs w' F V T off fa cur ps :=
  ⟨h.blk.below ho, h.len, h.var.below ho, h.lft, h.pc, h.le⟩
theorem Fs.ok {wr : World} {F V T off : Nat} {fa : Option Addr} {cur : List Value} {ps : List Sl} (h : Fs wr F V T off fa cur ps) : ∀ s ∈ ps, s.Ok wr := fun s hs => (h.pc s hs).ok h.blk
set_option maxHeartbeats 400000 in
theorem Fs.take {wr : World} {F V T off : Nat} {fa : Option Addr} {cur : List Value} {ps : List Sl} (h : Fs wr F V T off fa cur ps) (A : Option Addr) (n c : Nat) (l : List UInt8) (hl : RB wr A n c l) (hn : off + n ≤ T) (hT : T ≤ 1000000000) (hne : V ≠ F) :
    Calls Tryd.prog 84 #[.slice A n c, .pointer (some ⟨V, 0, none⟩)] wr fun e w' =>
      e = .returned (.slice fa n n) ∧ (∃ fa' cur', Fs w' F V T (off + n) fa' cur' (ps ++ [⟨fa, n, n, l⟩])) ∧ Off [F, V] wr w' := by
  have hlen := RB.len hl
  have hle := h.le
  have hfit : off + (T - off) ≤ cur.length := by have := h.len; omega
  refine (take_any A n c l V F off (T - off) fa cur 5 wr hl h.var h.blk h.lft hfit (by omega) (by omega) hne).mono ?_
  rintro e w' ⟨rfl, hv, hF, ho⟩
  refine ⟨rfl, ⟨_, _, hF, ?_, by rw [← Nat.sub_sub]; exact hv, by rw [← Nat.sub_sub]; exact h.lft.cut (by omega), fun s hs => ?_, hn⟩, ho⟩
  · rw [length_splice _ _ _ (by simp; omega)]; exact h.len
  · rcases List.mem_append.1 hs with hs | hs
    · exact (h.pc s hs).laid (Nat.le_refl _) (by simp; omega) (by omega)
    · simp only [List.mem_singleton] at hs
      subst hs
      exact Pc.new h.lft hlen (by omega) hfit (by omega)

/-- A device in new memory: its rows are known whole, its bytes lie in one block. -/
structure Fq (B : Nat) (w : World) (R Q F off : Nat) (cur : List Value) (ps : List Sl) (qs : List Pe) : Prop where
  rR : Wh w R 26 (ps.map Sl.v)
  rQ : Wh w Q 79 (qs.flatMap Pe.cells)
  rF : Wh w F 5 cur
  pc : ∀ s ∈ ps, Pc F off cur s
  qc : ∀ p ∈ qs, Pc F off cur p.s
  lR : B ≤ R
  lQ : B ≤ Q
  lF : B ≤ F
  nRQ : R ≠ Q
  nRF : R ≠ F
  nQF : Q ≠ F
theorem Fq.off {B : Nat} {w w' : World} {R Q F off : Nat} {cur : List Value} {ps : List Sl} {qs : List Pe} {L : List Nat} (h : Fq B w R Q F off cur ps qs) (ho : Off L w w') (h1 : ∀ t ∈ L, t < B) : Fq B w' R Q F off cur ps qs :=
  have n1 := h.lR
  have n2 := h.lQ
  have n3 := h.lF
  ⟨h.rR.off ho fun hh => by have := h1 _ hh; omega, h.rQ.off ho fun hh => by have := h1 _ hh; omega, h.rF.off ho fun hh => by have := h1 _ hh; omega, h.pc, h.qc, h.lR, h.lQ, h.lF, h.nRQ, h.nRF, h.nQF⟩
theorem Fq.below {B : Nat} {w w' : World} {R Q F off : Nat} {cur : List Value} {ps : List Sl} {qs : List Pe} (h : Fq B w R Q F off cur ps qs) (ho : Below w.heap.size w w') : Fq B w' R Q F off cur ps qs :=
  h.off (L := []) (Off.of_below ho []) (fun t ht => by cases ht)
theorem Fq.rs {B : Nat} {w : World} {R Q F off : Nat} {cur : List Value} {ps : List Sl} {qs : List Pe} (h : Fq B w R Q F off cur ps qs) {n : Nat} (hn : ps.length = n) (hb : n ≤ 100000) : RS w (some ⟨R, 0, none⟩) n n ps :=
  ⟨h.rR.rd (by simp [hn]) (Nat.le_refl _) (by unfold maxLen; omega) (fun j u hu => by rw [Nat.zero_add]; exact hu), fun s hs => (h.pc s hs).ok h.rF⟩
theorem Fq.rp {B : Nat} {w : World} {R Q F off : Nat} {cur : List Value} {ps : List Sl} {qs : List Pe} (h : Fq B w R Q F off cur ps qs) {n : Nat} (hn : qs.length = n) (hb : n ≤ 100000) : RP w (some ⟨Q, 0, none⟩) n n qs :=
  ⟨h.rQ.rd (by rw [flat_len pe_two, hn]) (Nat.le_refl _) (by unfold maxLen; omega) (fun j u hu => by rw [Nat.zero_add]; exact hu), fun s hs => (h.qc s hs).ok h.rF⟩
/-- WHAT fresh LEAVES. -/
def RetF (w : World) (m : Dv.Disk) (e : Ending) (w' : World) : Prop := ∃ (R Q F off n pn : Nat) (cur : List Value) (ps : List Sl) (qs : List Pe),
  e = .returned (.agg #[.slice (some ⟨R, 0, none⟩) n n, .slice (some ⟨Q, 0, none⟩) pn pn, .int .i64 m.left, .bool m.down]) ∧ Fq (w.heap.size + 2) w' R Q F off cur ps qs ∧ ps.length = n ∧ qs.length = pn ∧ n ≤ 4096 ∧ pn ≤ 1000 ∧
  ps.map (·.l) = m.sectors ∧ qs.map Pe.m = m.pending ∧ Below w.heap.size w w'
theorem Pc.av {F off b : Nat} {cur : List Value} {s : Sl} (h : Pc F off cur s) (hb : F ≠ b) : s.Av b := fun hn a ha => by
  obtain ⟨o, e, _⟩ := h.at_ hn
  rw [ha] at e
  injection e with e
  rw [e]
  exact hb
theorem Fq.av {B : Nat} {w : World} {R Q F off : Nat} {cur : List Value} {ps : List Sl} {qs : List Pe} (h : Fq B w R Q F off cur ps qs) {b : Nat} (hb : b < B) (n pn : Nat) (left : Int) (down : Bool) : Dk.Av ⟨some ⟨R, 0, none⟩, n, n, ps, some ⟨Q, 0, none⟩, pn, pn, qs, left, down⟩ b := by
  have h1 := h.lR
  have h2 := h.lQ
  have h3 := h.lF
  refine ⟨fun _ a ha => ?_, fun s hs => (h.pc s hs).av (by omega), fun _ a ha => ?_, fun p hp => (h.qc p hp).av (by omega)⟩
  · injection ha with ha
    rw [← ha]
    show R ≠ b
    omega
  · injection ha with ha
    rw [← ha]
    show Q ≠ b
    omega
theorem RetF.k {w : World} {m : Dv.Disk} {e : Ending} {w' : World} (h : RetF w m e w') : RetK w (fun _ => True) m e w' := by
  obtain ⟨R, Q, F, off, n, pn, cur, ps, qs, rfl, hq, h1, h2, h3, h4, h5, h6, hb⟩ := h
  refine ⟨⟨some ⟨R, 0, none⟩, n, n, ps, some ⟨Q, 0, none⟩, pn, pn, qs, m.left, m.down⟩, rfl, ⟨hq.rs h1 (by show n ≤ 100000; omega), hq.rp h2 (by show pn ≤ 100000; omega)⟩, ?_, hb, fun b hb _ => hq.av (by omega) n pn m.left m.down⟩
  simp only [Dk.m, h5, h6]

set_option maxHeartbeats 2000000 in
set_option maxRecDepth 100000 in
theorem fresh_any (d : Dk) (K : Nat) (w : World) (h : d.Ok w) (hf : Dv.Fits K d.m) (hK : K ≤ 1000) :
    Calls Tryd.prog 77 #[.agg #[.slice d.a d.n d.c, .slice d.pa d.pn d.pc, .int .i64 d.left, .bool d.down]] w (RetF w d.m) := by
  obtain ⟨A, n, c, S, pA, pn, pc, P, left, down⟩ := d
  simp only
  have HS := Keep.mk h.sec
  have HP := Keep.mk h.pen
  have hn := h.sec.len
  have hpn := h.pen.len
  simp only at hn hpn HS HP
  have hn1 : n ≤ 4096 := by have := hf.ns; simp [Dk.m] at this; omega
  have hpn1 : pn ≤ 1000 := by have := hf.np; simp [Dk.m] at this; omega
  obtain ⟨NS, hNS⟩ : ∃ NS : List Nat, NS = S.map (·.n) := ⟨_, rfl⟩
  obtain ⟨NP, hNP⟩ : ∃ NP : List Nat, NP = P.map (·.s.n) := ⟨_, rfl⟩
  have hs1 : ∀ x ∈ NS, x ≤ 200 := by
    intro x hx
    rw [hNS] at hx
    obtain ⟨s, hs, rfl⟩ := List.mem_map.1 hx
    have h1 := hf.ss s.l (List.mem_map.2 ⟨s, hs, rfl⟩)
    have h2 := RB.len (h.sec.ok s hs)
    omega
  have hp1 : ∀ x ∈ NP, x ≤ 200 := by
    intro x hx
    rw [hNP] at hx
    obtain ⟨s, hs, rfl⟩ := List.mem_map.1 hx
    have h1 := hf.sp s.m (List.mem_map.2 ⟨s, hs, rfl⟩)
    have h2 := RB.len (h.pen.ok s hs)
    simp [Pe.m] at h1
    omega
  have hls : NS.length = n := by rw [hNS]; simpa using hn
  have hlp : NP.length = pn := by rw [hNP]; simpa using hpn
  have hts := sum_bound NS 200 hs1
  have htp := sum_bound NP 200 hp1
  rw [hls] at hts
  rw [hlp] at htp
  have hts1 : NS.sum ≤ 819200 := by omega
  have htp1 : NP.sum ≤ 200000 := by omega
  have HN := Keep.mk hNS
  have HNP := Keep.mk hNP
  have HLN := Keep.mk hls
  have HLP := Keep.mk hlp
  have HSL := Keep.mk hn
  have HPL := Keep.mk hpn
  have hmf : ∀ (fn : Fn) (first cap : Array Value) (w : World), (Instr.makeFunc fn first cap).run Tryd.prog w = .ok (.func fn first cap) w := fun _ _ _ _ => rfl
  clear h hf hs1 hp1 hNS hNP hts htp hls hlp hn hpn
  go_enter Tryd.func77, Tryd.ntmps77
  go_wp2
  have IX := Keep.mk ((Bx.new w [.slice A n c, .slice pA pn pc, .int .i64 left, .bool down] 25).alloc (.cells #[.slice none 0 0, .slice none 0 0, .int .i64 0, .bool false] 25))
  have OX := Keep.mk (Bx.new (w.alloc (.cells #[.slice A n c, .slice pA pn pc, .int .i64 left, .bool down] 25)) [.slice none 0 0, .slice none 0 0, .int .i64 0, .bool false] 25)
  have HB : Hid (Below w.heap.size w ((w.alloc (.cells #[.slice A n c, .slice pA pn pc, .int .i64 left, .bool down] 25)).alloc (.cells #[.slice none 0 0, .slice none 0 0, .int .i64 0, .bool false] 25))) := (below_alloc1 _ _).alloc (by simp) _
  generalize hw1 : (w.alloc (.cells #[.slice A n c, .slice pA pn pc, .int .i64 left, .bool down] 25)).alloc (.cells #[.slice none 0 0, .slice none 0 0, .int .i64 0, .bool false] 25) = w1 at *
  rw [World.size_alloc] at OX
  clear hw1
  go_loop [3, 17] (fun t i => ∃ k : Nat, k ≤ n ∧ i = .int .i64 k ∧ t = .int .i64 ((NS.take k).sum : Nat)) (fun _ i => n - (intOf i).toNat)
  case atStart => exact ⟨0, Nat.zero_le _, rfl, rfl⟩
  case round =>
    obtain ⟨k, hk, rfl, rfl⟩ := hrel
    by_cases hlt : k < n
    · have hkS : k < S.length := by have := HSL.out; omega
      obtain ⟨b, o, rfl, hbl, hck, hrb⟩ := (HS.out.below HB.out).at_ (k := k) hkS
      have hl := RB.len hrb
      have hcap := RB.cap hrb
      have hsum := sum_take_le NS (k + 1)
      have hst : Keep ((NS.take (k + 1)).sum = (NS.take k).sum + S[k].n) := ⟨by
        rw [sum_take NS k (by have := HLN.out; omega)]
        congr 1
        simp only [HN.out, List.getElem_map]⟩
      have hle : (NS.take k).sum + S[k].n ≤ 819200 := by rw [← hst.out]; omega
      clear hrb hl hcap
      go_wp2
      go_round
      case rel => exact ⟨k + 1, by omega, by go_num, by rw [hst.out]; go_num⟩
      case measure => simp [intOf]; omega
    · obtain rfl : n = k := by omega
      have hT : (NS.take n).sum = NS.sum := by rw [List.take_of_length_le (by have := HLN.out; omega)]
      rw [hT]
      clear hT hlt hk
      have p0 := IX.out.cell 1 _ rfl
      go_wp2
      clear p0
      go_loopw [3, 29] (fun t i wr => ∃ k : Nat, k ≤ pn ∧ i = .int .i64 k ∧ t = .int .i64 ((NS.sum + (NP.take k).sum : Nat)) ∧ Below w1.heap.size w1 wr) (fun _ i _ => pn - (intOf i).toNat)
      case atStart => exact ⟨0, Nat.zero_le _, rfl, rfl, Below.refl _ _⟩
      case round =>
        obtain ⟨k, hk, rfl, rfl, hb2⟩ := hrel
        have HB2 := Lib.hid (below_next HB.out hb2 (Nat.le_refl _))
        have HC2 := Lib.hid hb2
        clear hb2
        by_cases hlt : k < pn
        · have hkP : k < P.length := by have := HPL.out; omega
          obtain ⟨b, o, rfl, hbl, hck, hck1, hrb⟩ := (HP.out.below HB2.out).at_ (k := k) hkP
          have hl := RB.len hrb
          have hcap := RB.cap hrb
          have hsum := sum_take_le NP (k + 1)
          have hst : Keep ((NP.take (k + 1)).sum = (NP.take k).sum + P[k].s.n) := ⟨by
            rw [sum_take NP k (by have := HLP.out; omega)]
            congr 1
            simp only [HNP.out, List.getElem_map]⟩
          have hle : (NP.take k).sum + P[k].s.n ≤ 200000 := by rw [← hst.out]; omega
          clear hrb hl hcap
          go_wp2
          go_roundw
          case rel => exact ⟨k + 1, by omega, by go_num, by rw [hst.out]; go_num, HC2.out.alloc HC2.out.size _⟩
          case measure => simp [intOf]; omega
        · obtain rfl : pn = k := by omega
          have hT : (NP.take pn).sum = NP.sum := by rw [List.take_of_length_le (by have := HLP.out; omega)]
          rw [hT]
          clear hT hlt hk
          have IX2 := Keep.mk (IX.out.below HC2.out)
          have OX2 := Keep.mk (OX.out.below HC2.out)
          clear IX OX HC2
          obtain ⟨T, hT⟩ : ∃ T : Nat, T = NS.sum + NP.sum := ⟨_, rfl⟩
          have HT := Keep.mk hT
          have hT1 : T ≤ 1019200 := by omega
          rw [← hT]
          clear hT
          have hmk := run_make_row' (P := Tryd.prog) 26 5 (.int .u8 0) 1 Tryd.underlying26 u8_info rfl .i64 .i64 T (by omega) (by omega)
          have hmk1 := run_make_row' (P := Tryd.prog) 22 26 (.slice none 0 0) 24 Tryd.underlying22 sl_info rfl .i64 .i64 n (by omega) (by omega)
          have hz := HB2.out.size
          have iz := IX2.out.lt
          have oz := OX2.out.lt
          go_upto_region 14 with (fail)
          have HF3 := Keep.mk (show Wh ((wr.alloc (.cells (madeCells #[.int .u8 0] T) 5)).alloc (.cells #[.slice (some ⟨wr.heap.size, 0, none⟩) T T] 26)) wr.heap.size 5 (List.replicate T (.int .u8 0)) by rw [made_one]; exact (Wh.new wr 5 _).below (below_alloc1 _ _))
          have HV3 := Keep.mk (show Bx ((wr.alloc (.cells (madeCells #[.int .u8 0] T) 5)).alloc (.cells #[.slice (some ⟨wr.heap.size, 0, none⟩) T T] 26)) (wr.heap.size + 1) [.slice (some ⟨wr.heap.size, 0, none⟩) T T] by rw [← World.size_alloc wr (.cells (madeCells #[.int .u8 0] T) 5)]; exact Bx.new _ [.slice (some ⟨wr.heap.size, 0, none⟩) T T] 26)
          have HC3 : Hid (Below wr.heap.size wr ((wr.alloc (.cells (madeCells #[.int .u8 0] T) 5)).alloc (.cells #[.slice (some ⟨wr.heap.size, 0, none⟩) T T] 26))) := (below_alloc1 _ _).alloc (by simp) _
          have hz3 : wr.heap.size + 1 < ((wr.alloc (.cells (madeCells #[.int .u8 0] T) 5)).alloc (.cells #[.slice (some ⟨wr.heap.size, 0, none⟩) T T] 26)).heap.size := by simp
          generalize (wr.alloc (.cells (madeCells #[.int .u8 0] T) 5)).alloc (.cells #[.slice (some ⟨wr.heap.size, 0, none⟩) T T] 26) = w3 at *
          have HB3 := Lib.hid (below_next HB2.out HC3.out (Nat.le_refl _))
          have IX3 := Keep.mk (IX2.out.below HC3.out)
          have OX3 := Keep.mk (OX2.out.below HC3.out)
          clear IX2 OX2 HC3
          have i0 := IX3.out.cell 0 _ rfl
          have i2 := IX3.out.cell 2 _ rfl
          have i3 := IX3.out.cell 3 _ rfl
          have o0 := OX3.out.cell 0 _ rfl
          have o1 := OX3.out.cell 1 _ rfl
          have o2 := OX3.out.cell 2 _ rfl
          have o3 := OX3.out.cell 3 _ rfl
          have of := OX3.out.fz
          go_upto_region 15 with (fail)
          clear i0 i2 i3 o0 o1 o2 o3 of
          have HO4 : Keep (Off [w.heap.size + 1] w3 ((((w3.setCell ⟨w.heap.size + 1, 0, none⟩ (.slice none 0 0)).setCell ⟨w.heap.size + 1, 1, none⟩ (.slice none 0 0)).setCell ⟨w.heap.size + 1, 2, none⟩ (.int .i64 left)).setCell ⟨w.heap.size + 1, 3, none⟩ (.bool down))) := ⟨((((Off.refl _ _).setCell (by simp) _).setCell (by simp) _).setCell (by simp) _).setCell (by simp) _⟩
          have OX4 := Keep.mk ((((OX3.out.set (j := 0) (by simp) (.slice none 0 0)).set (j := 1) (by simp) (.slice none 0 0)).set (j := 2) (by simp) (.int .i64 left)).set (j := 3) (by simp) (.bool down))
          simp only [List.set_cons_zero, List.set_cons_succ] at OX4
          generalize (((w3.setCell ⟨w.heap.size + 1, 0, none⟩ (.slice none 0 0)).setCell ⟨w.heap.size + 1, 1, none⟩ (.slice none 0 0)).setCell ⟨w.heap.size + 1, 2, none⟩ (.int .i64 left)).setCell ⟨w.heap.size + 1, 3, none⟩ (.bool down) = w4 at *
          have IX4 := Keep.mk (IX3.out.off HO4.out (by simp))
          have HF4 := Keep.mk (HF3.out.off HO4.out (by simp; omega))
          have HV4 := Keep.mk (HV3.out.off HO4.out (by simp; omega))
          have HB4 := Lib.hid (HB3.out.trans (HO4.out.below (B := w.heap.size) (by omega) (by simp)))
          have hz4 := HO4.out.size
          clear IX3 HF3 HV3 HB3 OX3 HO4
          have i0 := IX4.out.cell 0 _ rfl
          have o0 := OX4.out.cell 0 _ rfl
          have of := OX4.out.fz
          have hol := OX4.out.lt
          go_upto_region 16 with (fail)
          clear i0 o0 of
          have HO5 : Keep (Off [w.heap.size + 1] w4 ((w4.setCell ⟨w.heap.size + 1, 0, none⟩ (.slice (some ⟨w4.heap.size, 0, none⟩) n n)).alloc (.cells (madeCells #[.slice none 0 0] n) 26))) := ⟨((Off.refl _ _).setCell (by simp) _).alloc _⟩
          have OX5 := Keep.mk ((OX4.out.set (j := 0) (by simp) (.slice (some ⟨w4.heap.size, 0, none⟩) n n)).alloc (.cells (madeCells #[.slice none 0 0] n) 26))
          simp only [List.set_cons_zero] at OX5
          have HR5 := Keep.mk (show Wh ((w4.setCell ⟨w.heap.size + 1, 0, none⟩ (.slice (some ⟨w4.heap.size, 0, none⟩) n n)).alloc (.cells (madeCells #[.slice none 0 0] n) 26)) w4.heap.size 26 (List.replicate n (.slice none 0 0)) by rw [made_one]; simpa [World.setCell] using Wh.new (w4.setCell ⟨w.heap.size + 1, 0, none⟩ (.slice (some ⟨w4.heap.size, 0, none⟩) n n)) 26 (List.replicate n (.slice none 0 0)))
          generalize (w4.setCell ⟨w.heap.size + 1, 0, none⟩ (.slice (some ⟨w4.heap.size, 0, none⟩) n n)).alloc (.cells (madeCells #[.slice none 0 0] n) 26) = w5 at *
          have IX5 := Keep.mk (IX4.out.off HO5.out (by simp))
          have HF5 := Keep.mk (HF4.out.off HO5.out (by simp; omega))
          have HV5 := Keep.mk (HV4.out.off HO5.out (by simp; omega))
          have HB5 := Lib.hid (HB4.out.trans (HO5.out.below (B := w.heap.size) (by omega) (by simp)))
          have hz5 := HO5.out.size
          clear IX4 HF4 HV4 HB4 OX4 HO5 hmk hmk1
          generalize wr.heap.size = F at *
          have hR : F + 1 < w4.heap.size := by omega
          generalize w4.heap.size = R at *
          have FS5 : Keep (Fs w5 F (F + 1) T 0 (some ⟨F, 0, none⟩) (List.replicate T (.int .u8 0)) []) := ⟨⟨HF5.out, by simp, by simpa using HV5.out, ⟨fun _ => rfl, (fun h => by cases h)⟩, (fun s h => by cases h), Nat.zero_le _⟩⟩
          clear HF5 HV5
          have i0 := IX5.out.cell 0 _ rfl
          go_wp2
          clear i0
          go_loopw [55] (fun i wr => ∃ (k : Nat) (fa : Option Addr) (cur : List Value) (ps : List Sl), k ≤ n ∧ i = .int .i64 k ∧ Fs wr F (F + 1) T (NS.take k).sum fa cur ps ∧ ps.map (·.l) = (S.take k).map (·.l) ∧
            Bx wr (w.heap.size + 1) [.slice (some ⟨R, 0, none⟩) n n, .slice none 0 0, .int .i64 left, .bool down] ∧ Bx wr w.heap.size [.slice A n c, .slice pA pn pc, .int .i64 left, .bool down] ∧
            Wh wr R 26 (ps.map Sl.v ++ List.replicate (n - k) (.slice none 0 0)) ∧ Below w.heap.size w wr) (fun i _ => n - (intOf i).toNat)
          case atStart => exact ⟨0, _, _, [], Nat.zero_le _, rfl, FS5.out, by simp, OX5.out, IX5.out, HR5.out, HB5.out⟩
          case round =>
            clear FS5 OX5 IX5 HR5 HB5
            rename_i wr0 _ _ _
            obtain ⟨k, fa, cur, ps, hk, rfl, hfs, hps, hox, hix, hrw, hb⟩ := hrel
            have FS6 := Keep.mk hfs
            have HP6 := Keep.mk hps
            have OX6 := Keep.mk hox
            have IX6 := Keep.mk hix
            have HR6 := Keep.mk hrw
            have HB6 := Lib.hid hb
            have hz6 := hb.size
            have hol6 := hox.lt
            clear hfs hps hox hix hrw hb
            by_cases hlt : k < n
            · have hkS : k < S.length := by have := HSL.out; omega
              have hkn : (0 : Int) ≤ (k : Int) := by omega
              have hkn1 : (k : Int) < (n : Int) := by omega
              obtain ⟨b, o, rfl, hbl, hck, hrb⟩ := (HS.out.below HB6.out).at_ (k := k) hkS
              have hsum := sum_take_le NS (k + 1)
              have hst : (NS.take (k + 1)).sum = (NS.take k).sum + S[k].n := by
                rw [sum_take NS k (by have := HLN.out; omega)]
                congr 1
                simp only [HN.out, List.getElem_map]
              have hpl : ps.length = k := by
                have := congrArg List.length HP6.out
                simpa [Nat.min_eq_left (show k ≤ S.length by omega)] using this
              have hTT := HT.out
              have CT : Keep (∀ X, Below wr.heap.size wr X → Calls Tryd.prog 84 #[.slice S[k].a S[k].n S[k].c, .pointer (some ⟨F + 1, 0, none⟩)] X fun e w' =>
                  e = .returned (.slice fa S[k].n S[k].n) ∧ (∃ fa' cur', Fs w' F (F + 1) T ((NS.take k).sum + S[k].n) fa' cur' (ps ++ [⟨fa, S[k].n, S[k].n, S[k].l⟩])) ∧ Off [F, F + 1] X w') :=
                ⟨fun X hX => (FS6.out.below hX).take S[k].a S[k].n S[k].c S[k].l (RB.below hrb hX) (by omega) (by omega) (by omega)⟩
              have HL6 : Keep ((S.take (k + 1)).map (·.l) = (S.take k).map (·.l) ++ [S[k].l]) := ⟨by rw [List.take_succ_eq_append_getElem hkS, List.map_append]; simp⟩
              have HST := Keep.mk hst
              have HPL6 := Keep.mk hpl
              generalize S[k] = sk at *
              clear hrb hst hpl hTT hsum
              have o0 := OX6.out.cell 0 _ rfl
              have RK : Keep ((ps.map Sl.v ++ List.replicate (n - k) (.slice none 0 0))[k]? = some (.slice none 0 0)) := ⟨by
                have h1 := HPL6.out
                rw [List.getElem?_append_right (by simp; omega), show k - (ps.map Sl.v).length = 0 by simp; omega, show n - k = (n - k - 1) + 1 by omega, List.replicate_succ, List.getElem?_cons_zero]⟩
              go_upto_region 19 with (fail)
              have hdr : Below wr.heap.size wr wr.drew := below_draws _ _ 1
              have HDR := Lib.hid hdr
              clear hdr
              go_region_held3 (fun X => X.cell? ⟨w.heap.size + 1, 0, none⟩ = some (.slice (some ⟨R, 0, none⟩) n n))
                (first | exact (OX6.out.below HDR.out).cell 0 _ rfl | exact ((OX6.out.below HDR.out).off HO.out (by simp; omega)).cell 0 _ rfl | exact (((OX6.out.below HDR.out).off HO.out (by simp; omega)).other (by simp; omega) _).cell 0 _ rfl)
                (first | (go_at_call 84; ((refine (CT.out _ HDR.out).mono ?_); rintro e wn ⟨rfl, hfs, ho⟩; have HO := Keep.mk ho; have HFS := Keep.mk hfs; have hrw := (HR6.out.below HDR.out).off ho (by simp; omega); have HRW := Keep.mk hrw; have rc := (hrw.cell k).trans RK.out; have rf := hrw.bx.fz k; clear hfs ho hrw)))
              have HW : Keep (Wh (wn.setCell ⟨R, k, none⟩ (.slice fa sk.n sk.n)) R 26 ((ps ++ [(⟨fa, sk.n, sk.n, sk.l⟩ : Sl)]).map Sl.v ++ List.replicate (n - (k + 1)) (.slice none 0 0))) := ⟨by
                have h1 := HRW.out.set (j := k) (.slice fa sk.n sk.n)
                rw [show n - k = (n - (k + 1)) + 1 by omega, fill_set _ _ _ k (by have := HPL6.out; simp; omega)] at h1
                simpa [Sl.v] using h1⟩
              have HOS : Keep (Off [F, F + 1, R] wr.drew (wn.setCell ⟨R, k, none⟩ (.slice fa sk.n sk.n))) := ⟨(HO.out.sub (by simp)).setCell (by simp) _⟩
              have hO9 := HFS.out
              obtain ⟨fa', cur', hfs⟩ := hO9
              have hfs1 := hfs.off ((Off.refl [R] wn).setCell (p := ⟨R, k, none⟩) (by simp) (.slice fa sk.n sk.n)) (by simp; omega) (by simp; omega)
              rw [← HST.out] at hfs1
              have FS7 := Keep.mk hfs1
              clear hfs hfs1 rc rf o0 HFS
              go_wp2
              go_roundw
              case rel =>
                refine ⟨k + 1, fa', cur', _, by omega, by go_num, FS7.out, ?_, (OX6.out.below HDR.out).off HOS.out (by simp; omega), (IX6.out.below HDR.out).off HOS.out (by simp; omega), HW.out, HB6.out.trans ((HDR.out.mono HB6.out.size).trans (HOS.out.below (by have := HDR.out.size; omega) (by simp; omega)))⟩
                rw [HL6.out, List.map_append, HP6.out]
                rfl
              case measure => simp [intOf]; omega
            · obtain rfl : n = k := by omega
              have hfl : (NS.take n).sum = NS.sum := by rw [List.take_of_length_le (by have := HLN.out; omega)]
              have hpm : ps.map (·.l) = S.map (·.l) := by
                have := HP6.out
                rwa [List.take_of_length_le (by have := HSL.out; omega)] at this
              have FS7 := FS6.out
              rw [hfl] at FS7
              have FS8 := Keep.mk FS7
              have HPM := Keep.mk hpm
              have HR8 := HR6.out
              rw [Nat.sub_self, List.replicate_zero, List.append_nil] at HR8
              have HR9 := Keep.mk HR8
              clear FS7 FS6 HP6 HR8 HR6 hfl hpm hlt hk
              have hmk2 := run_make_two (P := Tryd.prog) 23 79 (.int .i64 0) (.slice none 0 0) 32 Tryd.underlying23 wr_info .i64 .i64 pn (by omega) (by omega)
              have i1 := IX6.out.cell 1 _ rfl
              have o1 := OX6.out.cell 1 _ rfl
              have of := OX6.out.fz
              go_upto_region 22 with (fail)
              clear i1 o1 of
              have HO9 : Keep (Off [w.heap.size + 1] wr ((wr.setCell ⟨w.heap.size + 1, 1, none⟩ (.slice (some ⟨wr.heap.size, 0, none⟩) pn pn)).alloc (.cells (prs (.int .i64 0) (.slice none 0 0) pn).toArray 79))) := ⟨((Off.refl _ _).setCell (by simp) _).alloc _⟩
              have OX9 := Keep.mk ((OX6.out.set (j := 1) (by simp) (.slice (some ⟨wr.heap.size, 0, none⟩) pn pn)).alloc (.cells (prs (.int .i64 0) (.slice none 0 0) pn).toArray 79))
              simp only [List.set_cons_zero, List.set_cons_succ] at OX9
              have HQ9 := Keep.mk (show Wh ((wr.setCell ⟨w.heap.size + 1, 1, none⟩ (.slice (some ⟨wr.heap.size, 0, none⟩) pn pn)).alloc (.cells (prs (.int .i64 0) (.slice none 0 0) pn).toArray 79)) wr.heap.size 79 (prs (.int .i64 0) (.slice none 0 0) pn) by simpa [World.setCell] using Wh.new (wr.setCell ⟨w.heap.size + 1, 1, none⟩ (.slice (some ⟨wr.heap.size, 0, none⟩) pn pn)) 79 (prs (.int .i64 0) (.slice none 0 0) pn))
              have HRL := HR9.out.lt
              have HFL := FS8.out.var.lt
              generalize (wr.setCell ⟨w.heap.size + 1, 1, none⟩ (.slice (some ⟨wr.heap.size, 0, none⟩) pn pn)).alloc (.cells (prs (.int .i64 0) (.slice none 0 0) pn).toArray 79) = w9 at *
              have IX9 := Keep.mk (IX6.out.off HO9.out (by simp))
              have FS9 := Keep.mk (FS8.out.off HO9.out (by simp; omega) (by simp; omega))
              have HR10 := Keep.mk (HR9.out.off HO9.out (by simp; omega))
              have HB9 := Lib.hid (HB6.out.trans (HO9.out.below (B := w.heap.size) (by omega) (by simp)))
              have hz9 := HO9.out.size
              clear IX6 FS8 HR9 HB6 OX6 HO9 hmk2
              generalize wr.heap.size = Q at *
              have i1 := IX9.out.cell 1 _ rfl
              go_wp2
              clear i1
              go_loopw [76] (fun i wr => ∃ (k : Nat) (fa : Option Addr) (cur : List Value) (qs : List Pe), k ≤ pn ∧ i = .int .i64 k ∧ Fs wr F (F + 1) T (NS.sum + (NP.take k).sum) fa cur (ps ++ qs.map (·.s)) ∧ qs.map Pe.m = (P.take k).map Pe.m ∧
                Bx wr (w.heap.size + 1) [.slice (some ⟨R, 0, none⟩) n n, .slice (some ⟨Q, 0, none⟩) pn pn, .int .i64 left, .bool down] ∧ Bx wr w.heap.size [.slice A n c, .slice pA pn pc, .int .i64 left, .bool down] ∧
                Wh wr R 26 (ps.map Sl.v) ∧ Wh wr Q 79 (qs.flatMap Pe.cells ++ prs (.int .i64 0) (.slice none 0 0) (pn - k)) ∧ Below w.heap.size w wr) (fun i _ => pn - (intOf i).toNat)
              case atStart => exact ⟨0, _, _, [], Nat.zero_le _, rfl, by simpa using FS9.out, by simp, OX9.out, IX9.out, HR10.out, HQ9.out, HB9.out⟩
              case round =>
                clear FS9 OX9 IX9 HR10 HQ9 HB9
                obtain ⟨k, fb, cur1, qs, hk, rfl, hfs, hqs, hox, hix, hrw, hqw, hb⟩ := hrel
                have FS6 := Keep.mk hfs
                have HP6 := Keep.mk hqs
                have OX6 := Keep.mk hox
                have IX6 := Keep.mk hix
                have HR6 := Keep.mk hrw
                have HQ6 := Keep.mk hqw
                have HB6 := Lib.hid hb
                have hz6 := hb.size
                have hol6 := hox.lt
                clear hfs hqs hox hix hrw hqw hb
                by_cases hlt : k < pn
                · have hkP : k < P.length := by have := HPL.out; omega
                  have hkn : (0 : Int) ≤ (k : Int) := by omega
                  have hkn1 : (k : Int) < (pn : Int) := by omega
                  obtain ⟨b, o, rfl, hbl, hck, hck1, hrb⟩ := (HP.out.below HB6.out).at_ (k := k) hkP
                  have hsum := sum_take_le NP (k + 1)
                  have hst : (NP.take (k + 1)).sum = (NP.take k).sum + P[k].s.n := by
                    rw [sum_take NP k (by have := HLP.out; omega)]
                    congr 1
                    simp only [HNP.out, List.getElem_map]
                  have hpl : qs.length = k := by
                    have := congrArg List.length HP6.out
                    simpa [Nat.min_eq_left (show k ≤ P.length by omega)] using this
                  have hTT := HT.out
                  have CT : Keep (∀ X, Below wr.heap.size wr X → Calls Tryd.prog 84 #[.slice P[k].s.a P[k].s.n P[k].s.c, .pointer (some ⟨F + 1, 0, none⟩)] X fun e w' =>
                      e = .returned (.slice fb P[k].s.n P[k].s.n) ∧ (∃ fa' cur', Fs w' F (F + 1) T (NS.sum + (NP.take k).sum + P[k].s.n) fa' cur' (ps ++ qs.map (·.s) ++ [⟨fb, P[k].s.n, P[k].s.n, P[k].s.l⟩])) ∧ Off [F, F + 1] X w') :=
                    ⟨fun X hX => (FS6.out.below hX).take P[k].s.a P[k].s.n P[k].s.c P[k].s.l (RB.below hrb hX) (by omega) (by omega) (by omega)⟩
                  have HL6 : Keep ((P.take (k + 1)).map Pe.m = (P.take k).map Pe.m ++ [P[k].m]) := ⟨by rw [List.take_succ_eq_append_getElem hkP, List.map_append]; simp⟩
                  have HST := Keep.mk hst
                  have HPL6 := Keep.mk hpl
                  generalize P[k] = pk at *
                  clear hrb hst hpl hTT hsum
                  go_upto_region 25 with (fail)
                  have TX := Keep.mk (Bx.new wr [.int .i64 pk.k, .slice pk.s.a pk.s.n pk.s.c] 79)
                  have HDR : Hid (Below wr.heap.size wr (wr.alloc (.cells #[.int .i64 pk.k, .slice pk.s.a pk.s.n pk.s.c] 79))) := below_alloc1 _ _
                  generalize wr.alloc (.cells #[.int .i64 pk.k, .slice pk.s.a pk.s.n pk.s.c] 79) = wa at *
                  have HDE : Hid (Below wa.heap.size wa wa.drew) := below_draws _ _ 1
                  have HDS := Lib.hid (below_next HDR.out HDE.out (Nat.le_refl _))
                  have hza := HDR.out.size
                  have hol7 := HQ6.out.lt
                  have hol8 := HR6.out.lt
                  have hol9 := FS6.out.var.lt
                  have RK : Keep ((qs.flatMap Pe.cells ++ prs (.int .i64 0) (.slice none 0 0) (pn - k))[k * 2]? = some (.int .i64 0)) := ⟨by
                    have h1 := HPL6.out
                    have h2 := flat_len pe_two qs
                    rw [List.getElem?_append_right (by omega), h2, h1, Nat.sub_self, prs_get _ _ _ _ (by omega)]
                    rfl⟩
                  have RK1 : Keep ((qs.flatMap Pe.cells ++ prs (.int .i64 0) (.slice none 0 0) (pn - k))[k * 2 + 1]? = some (.slice none 0 0)) := ⟨by
                    have h1 := HPL6.out
                    have h2 := flat_len pe_two qs
                    rw [List.getElem?_append_right (by omega), h2, h1, show k * 2 + 1 - k * 2 = 1 by omega, prs_get _ _ _ _ (by omega)]
                    rfl⟩
                  have KS : Keep (∀ X, Below wr.heap.size wr X → Bx X wr.heap.size [.int .i64 pk.k, .slice pk.s.a pk.s.n pk.s.c] → X.cell? ⟨w.heap.size + 1, 1, none⟩ = some (.slice (some ⟨Q, 0, none⟩) pn pn) ∧ X.cell? ⟨wr.heap.size, 0, none⟩ = some (.int .i64 pk.k) ∧ X.cell? ⟨wr.heap.size, 1, none⟩ = some (.slice pk.s.a pk.s.n pk.s.c)) :=
                    ⟨fun X h1 h2 => ⟨(OX6.out.below h1).cell 1 _ rfl, h2.cell 0 _ rfl, h2.cell 1 _ rfl⟩⟩
                  have KO : Keep (∀ X, Off [F, F + 1] wa.drew X → X.cell? ⟨w.heap.size + 1, 1, none⟩ = some (.slice (some ⟨Q, 0, none⟩) pn pn) ∧ X.cell? ⟨wr.heap.size, 0, none⟩ = some (.int .i64 pk.k) ∧ X.cell? ⟨wr.heap.size, 1, none⟩ = some (.slice pk.s.a pk.s.n pk.s.c)) :=
                    ⟨fun X h1 => ⟨((OX6.out.below HDS.out).off h1 (by simp; omega)).cell 1 _ rfl, ((TX.out.below HDE.out).off h1 (by simp; omega)).cell 0 _ rfl, ((TX.out.below HDE.out).off h1 (by simp; omega)).cell 1 _ rfl⟩⟩
                  have KT : Keep (∀ X u v, Off [F, F + 1] wa.drew X → ((X.setCell ⟨Q, k * 2, none⟩ u).setCell ⟨Q, k * 2 + 1, none⟩ v).cell? ⟨w.heap.size + 1, 1, none⟩ = some (.slice (some ⟨Q, 0, none⟩) pn pn) ∧ ((X.setCell ⟨Q, k * 2, none⟩ u).setCell ⟨Q, k * 2 + 1, none⟩ v).cell? ⟨wr.heap.size, 0, none⟩ = some (.int .i64 pk.k) ∧ ((X.setCell ⟨Q, k * 2, none⟩ u).setCell ⟨Q, k * 2 + 1, none⟩ v).cell? ⟨wr.heap.size, 1, none⟩ = some (.slice pk.s.a pk.s.n pk.s.c)) :=
                    ⟨fun X u v h1 => ⟨((((OX6.out.below HDS.out).off h1 (by simp; omega)).other (by simp; omega) u).other (by simp; omega) v).cell 1 _ rfl, ((((TX.out.below HDE.out).off h1 (by simp; omega)).other (by simp; omega) u).other (by simp; omega) v).cell 0 _ rfl, ((((TX.out.below HDE.out).off h1 (by simp; omega)).other (by simp; omega) u).other (by simp; omega) v).cell 1 _ rfl⟩⟩
                  have s0 := TX.out.cell 0 _ rfl
                  clear s0
                  go_region_held3 (fun X => X.cell? ⟨w.heap.size + 1, 1, none⟩ = some (.slice (some ⟨Q, 0, none⟩) pn pn) ∧ X.cell? ⟨wr.heap.size, 0, none⟩ = some (.int .i64 pk.k) ∧ X.cell? ⟨wr.heap.size, 1, none⟩ = some (.slice pk.s.a pk.s.n pk.s.c))
                    (first | exact KO.out _ (Off.refl _ _) | exact KO.out _ HO.out | exact KT.out _ _ _ HO.out)
                    (first | (go_at_call 84; ((refine (CT.out _ HDS.out).mono ?_); rintro e wn ⟨rfl, hfs, ho⟩; have HO := Keep.mk ho; have HFS := Keep.mk hfs; have hrw := (HQ6.out.below HDS.out).off ho (by simp; omega); have HRW := Keep.mk hrw; have rc := (hrw.cell (k * 2)).trans RK.out; have rc1 := (hrw.cell (k * 2 + 1)).trans RK1.out; have rf := hrw.bx.fz (k * 2); have rf1 := hrw.bx.fz (k * 2 + 1); clear hfs ho hrw)))
                  have HW : Keep (Wh ((wn.setCell ⟨Q, k * 2, none⟩ (.int .i64 pk.k)).setCell ⟨Q, k * 2 + 1, none⟩ (.slice fb pk.s.n pk.s.n)) Q 79 ((qs ++ [(⟨pk.k, ⟨fb, pk.s.n, pk.s.n, pk.s.l⟩⟩ : Pe)]).flatMap Pe.cells ++ prs (.int .i64 0) (.slice none 0 0) (pn - (k + 1)))) := ⟨by
                    have h1 := (HRW.out.set (j := k * 2) (.int .i64 pk.k)).set (j := k * 2 + 1) (.slice fb pk.s.n pk.s.n)
                    rw [show pn - k = (pn - (k + 1)) + 1 by omega, fill_two _ _ _ _ _ k _ (by rw [flat_len pe_two, HPL6.out])] at h1
                    simpa [Pe.cells, Sl.v] using h1⟩
                  have HOS : Keep (Off [F, F + 1, Q] wa.drew ((wn.setCell ⟨Q, k * 2, none⟩ (.int .i64 pk.k)).setCell ⟨Q, k * 2 + 1, none⟩ (.slice fb pk.s.n pk.s.n))) := ⟨((HO.out.sub (by simp)).setCell (by simp) _).setCell (by simp) _⟩
                  have hO9 := HFS.out
                  obtain ⟨fa', cur', hfs⟩ := hO9
                  have hfs1 := hfs.off (((Off.refl [Q] wn).setCell (p := ⟨Q, k * 2, none⟩) (by simp) (.int .i64 pk.k)).setCell (p := ⟨Q, k * 2 + 1, none⟩) (by simp) (.slice fb pk.s.n pk.s.n)) (by simp; omega) (by simp; omega)
                  rw [Nat.add_assoc, ← HST.out, List.append_assoc] at hfs1
                  have FS7 := Keep.mk hfs1
                  clear hfs hfs1 rc rc1 rf rf1 HFS
                  go_wp2
                  go_roundw
                  case rel =>
                    refine ⟨k + 1, fa', cur', qs ++ [(⟨pk.k, ⟨fb, pk.s.n, pk.s.n, pk.s.l⟩⟩ : Pe)], by omega, by go_num, by rw [List.map_append]; exact FS7.out, ?_, (OX6.out.below HDS.out).off HOS.out (by simp; omega), (IX6.out.below HDS.out).off HOS.out (by simp; omega), (HR6.out.below HDS.out).off HOS.out (by simp; omega), HW.out, HB6.out.trans ((HDS.out.mono HB6.out.size).trans (HOS.out.below (by have := HDS.out.size; omega) (by simp; omega)))⟩
                    rw [HL6.out, List.map_append, HP6.out]
                    rfl
                  case measure => simp [intOf]; omega
                · obtain rfl : pn = k := by omega
                  have hqm : qs.map Pe.m = P.map Pe.m := by
                    have := HP6.out
                    rwa [List.take_of_length_le (by have := HPL.out; omega)] at this
                  have hql : qs.length = pn := by
                    have := congrArg List.length hqm
                    simpa [HPL.out] using this
                  have hpl : ps.length = n := by
                    have := congrArg List.length HPM.out
                    simpa [HSL.out] using this
                  have HQM := Keep.mk hqm
                  have HQ9 := HQ6.out
                  rw [Nat.sub_self] at HQ9
                  have HD : Keep (∀ X, Off [w.heap.size + 1] wr X → Fq (w.heap.size + 2) X R Q F (NS.sum + (NP.take pn).sum) cur1 ps qs) := ⟨fun X hX => by
                    have hfs := FS6.out.off hX (by simp; omega) (by simp; omega)
                    exact ⟨HR6.out.off hX (by simp; omega), (by simpa [prs] using HQ9.off hX (by simp; omega)), hfs.blk, fun s hs => hfs.pc s (List.mem_append_left _ hs), fun p hp => hfs.pc p.s (List.mem_append_right _ (List.mem_map.2 ⟨p, hp, rfl⟩)), by omega, by omega, by omega, by omega, by omega, by omega⟩⟩
                  have HQL := Keep.mk hql
                  have HPL9 := Keep.mk hpl
                  have o0 := OX6.out.cell 0 _ rfl
                  have o1 := OX6.out.cell 1 _ rfl
                  have o2 := OX6.out.cell 2 _ rfl
                  have o3 := OX6.out.cell 3 _ rfl
                  have of := OX6.out.fz
                  clear hqm hql hpl HQ9 FS6
                  go_wp2
                  refine bodyPost_ret (v := .agg #[.slice (some ⟨R, 0, none⟩) n n, .slice (some ⟨Q, 0, none⟩) pn pn, .int .i64 left, .bool down]) (by simp [results, Tryd.results77, go_sem, o0, o1, o2, o3]) rfl ?_
                  have hoff := (((((Off.refl [w.heap.size + 1] wr).setCell (p := ⟨w.heap.size + 1, 0, none⟩) (by simp) (.slice (some ⟨R, 0, none⟩) n n)).setCell (p := ⟨w.heap.size + 1, 1, none⟩) (by simp) (.slice (some ⟨Q, 0, none⟩) pn pn)).setCell (p := ⟨w.heap.size + 1, 2, none⟩) (by simp) (.int .i64 left)).setCell (p := ⟨w.heap.size + 1, 3, none⟩) (by simp) (.bool down))
                  exact ⟨R, Q, F, _, n, pn, _, ps, qs, rfl, HD.out _ hoff, HPL9.out, HQL.out, hn1, hpn1, HPM.out, HQM.out, HB6.out.trans (hoff.below (by omega) (by simp))⟩
end Go.Proofs.YtjficpdfofmcnaaDoor

/- device.Arm. -/
namespace Go.Proofs.YtjficpdfofmcnaaDoor
open Go.RowKit Go.Joins

set_option maxHeartbeats 1000000 in
theorem arm_any (d : Dk) (left : Int) (K : Nat) (w : World) (h : d.Ok w) (hf : Dv.Fits K d.m) (hK : K ≤ 1000) :
    Calls Tryd.prog 58 #[.agg #[.slice d.a d.n d.c, .slice d.pa d.pn d.pc, .int .i64 d.left, .bool d.down], .int .i64 left] w (RetK w (fun _ => True) (Dv.arm d.m left)) := by
  have HF := Keep.mk (fun (X : World) (hX : Below w.heap.size w X) => fresh_any d K X (h.below hX) hf hK)
  clear h hf
  go_enter Tryd.func58, Tryd.ntmps58
  go_wp2_with fail
  have HX0 : Hid (Below w.heap.size w ((w.alloc (.cells #[.slice d.a d.n d.c, .slice d.pa d.pn d.pc, .int .i64 d.left, .bool d.down] 25)).alloc (.cells #[.slice none 0 0, .slice none 0 0, .int .i64 0, .bool false] 25))) := (below_alloc1 _ _).alloc (by simp) _
  have HOX := Keep.mk (Bx.new (w.alloc (.cells #[.slice d.a d.n d.c, .slice d.pa d.pn d.pc, .int .i64 d.left, .bool d.down] 25)) [.slice none 0 0, .slice none 0 0, .int .i64 0, .bool false] 25)
  refine (HF.out _ HX0.out).mono ?_
  rintro e w1 hret
  obtain ⟨D, rfl, hok, hm, hb, hav⟩ := hret.k
  have hB0 : w.heap.size + 2 = ((w.alloc (.cells #[.slice d.a d.n d.c, .slice d.pa d.pn d.pc, .int .i64 d.left, .bool d.down] 25)).alloc (.cells #[.slice none 0 0, .slice none 0 0, .int .i64 0, .bool false] 25)).heap.size := by simp
  rw [← hB0] at hav
  rw [World.size_alloc] at HOX
  have OX1 := Keep.mk (HOX.out.below hb)
  have HB1 := Lib.hid (below_next HX0.out hb (Nat.le_refl _))
  have HK := Keep.mk hok
  have HM := Keep.mk hm
  have HAV := Keep.mk hav
  have o0 := OX1.out.cell 0 _ rfl
  have o1 := OX1.out.cell 1 _ rfl
  have o2 := OX1.out.cell 2 _ rfl
  have o3 := OX1.out.cell 3 _ rfl
  have of := OX1.out.fz
  clear hret hok hm hb hav hB0 HF
  unfold Dk.v
  go_upto_region 2 with (fail)
  clear o0 o1 o2 o3 of
  have HO2 := Keep.mk (off_set4 w1 (w.heap.size + 1) (.slice D.a D.n D.c) (.slice D.pa D.pn D.pc) (.int .i64 D.left) (.bool D.down))
  have OX2 := Keep.mk (OX1.out.set4 (.slice D.a D.n D.c) (.slice D.pa D.pn D.pc) (.int .i64 D.left) (.bool D.down))
  generalize (((w1.setCell ⟨w.heap.size + 1, 0, none⟩ (.slice D.a D.n D.c)).setCell ⟨w.heap.size + 1, 1, none⟩ (.slice D.pa D.pn D.pc)).setCell ⟨w.heap.size + 1, 2, none⟩ (.int .i64 D.left)).setCell ⟨w.heap.size + 1, 3, none⟩ (.bool D.down) = w2 at *
  have FIN : Keep (∀ X lf, lf = max left (-1) → Off [w.heap.size + 1] w2 X → RetK w (fun _ => True) (Dv.arm d.m left) (.returned (.agg #[.slice D.a D.n D.c, .slice D.pa D.pn D.pc, .int .i64 lf, .bool D.down])) X) := ⟨fun X lf hlf hX2 => by
    have hX := HO2.out.trans hX2
    have hok2 := HK.out.off hX (fun b hb => HAV.out b (by simp at hb; omega) trivial)
    refine ⟨{ D with left := lf }, rfl, ⟨hok2.sec, hok2.pen⟩, ?_, HB1.out.trans (hX.below HB1.out.size (by simp)), fun b hb _ => ?_⟩
    · have hm := HM.out
      rw [← hm]
      simp only [Dk.m, Dv.arm, hlf]
    · have h := HAV.out b (by omega) trivial
      exact ⟨h.a_, h.s_, h.p_, h.q_⟩⟩
  clear OX1 HB1 HK HO2
  have o0 := OX2.out.cell 0 _ rfl
  have o1 := OX2.out.cell 1 _ rfl
  have o2 := OX2.out.cell 2 _ rfl
  have o3 := OX2.out.cell 3 _ rfl
  have of := OX2.out.fz
  go_wp2
  · refine bodyPost_ret (v := .agg #[.slice D.a D.n D.c, .slice D.pa D.pn D.pc, .int .i64 (-1), .bool D.down]) (by simp [results, Tryd.results58, go_sem, o0, o1, o2, o3]) rfl ?_
    refine FIN.out _ (-1) (by rw [Int.max_eq_right (by omega)]) ?_
    repeat (refine Off.setCell ?_ (by simp) _)
    exact Off.refl _ _
  · refine bodyPost_ret (v := .agg #[.slice D.a D.n D.c, .slice D.pa D.pn D.pc, .int .i64 left, .bool D.down]) (by simp [results, Tryd.results58, go_sem, o0, o1, o2, o3]) rfl ?_
    refine FIN.out _ left (by rw [Int.max_eq_left (by omega)]) ?_
    repeat (refine Off.setCell ?_ (by simp) _)
    exact Off.refl _ _
end Go.Proofs.YtjficpdfofmcnaaDoor

/- device.settle and its two closures, Flush, Crash. -/
namespace Go.Proofs.YtjficpdfofmcnaaDoor
open Go.RowKit Go.Joins Go.Maps

theorem flush1_any (i : Int) (w : World) : Calls Tryd.prog 79 #[.int .i64 i] w fun e w' => e = .returned (.bool true) ∧ w = w' := by
  go_enter Tryd.func79, Tryd.ntmps79
  go_wp2
  go_ret
  exact ⟨rfl, rfl⟩
/-- Device words for the walk: 'out' behind the pieces. -/
theorem set_map_l (ps : List Sl) (j : Nat) (s : Sl) : (ps.set j s).map (·.l) = (ps.map (·.l)).set j s.l := by rw [List.map_set]
theorem set_map_v (ps : List Sl) (j : Nat) (s : Sl) : (ps.set j s).map Sl.v = (ps.map Sl.v).set j s.v := by rw [List.map_set]

theorem Fq.put {B : Nat} {w : World} {R Q F off : Nat} {cur : List Value} {ps : List Sl} {qs : List Pe} (h : Fq B w R Q F off cur ps qs) (j : Nat) (s : Sl) (hs : Pc F off cur s) : Fq B (w.setCell ⟨R, j, none⟩ (.slice s.a s.n s.c)) R Q F off cur (ps.set j s) qs := by
  refine ⟨?_, h.rQ.other (Ne.symm h.nRQ) _, h.rF.other (Ne.symm h.nRF) _, fun t ht => ?_, h.qc, h.lR, h.lQ, h.lF, h.nRQ, h.nRF, h.nQF⟩
  · rw [set_map_v]
    exact h.rR.set _
  · rcases List.mem_or_eq_of_mem_set ht with ht | rfl
    · exact h.pc t ht
    · exact hs
set_option maxHeartbeats 2000000 in
set_option maxRecDepth 100000 in
theorem settle_flush (q : Nat → Bool) (d : Dk) (K : Nat) (w : World) (h : d.Ok w) (hf : Dv.Fits K d.m) (hK : K ≤ 1000)
    (hq : ∀ (i : Nat) (X : World), i < 1000 → Below w.heap.size w X → Calls Tryd.prog 79 #[.int .i64 (i : Int)] X fun e w' => e = .returned (.bool (q i)) ∧ X = w') :
    Calls Tryd.prog 78 #[.agg #[.slice d.a d.n d.c, .slice d.pa d.pn d.pc, .int .i64 d.left, .bool d.down], .func (.func 79) #[] #[]] w (RetK w (fun _ => True) ⟨Dv.settle d.m.sectors (Dv.keptq q 0 d.m.pending), [], d.left, d.down⟩) := by
  have HQ := Keep.mk hq
  have HF := Keep.mk (fun (X : World) (hX : Below w.heap.size w X) => fresh_any d K X (h.below hX) hf hK)
  clear h hf hq
  go_enter Tryd.func78, Tryd.ntmps78
  go_wp2_with fail
  have HX0 : Hid (Below w.heap.size w ((w.alloc (.cells #[.slice d.a d.n d.c, .slice d.pa d.pn d.pc, .int .i64 d.left, .bool d.down] 25)).alloc (.cells #[.slice none 0 0, .slice none 0 0, .int .i64 0, .bool false] 25))) := (below_alloc1 _ _).alloc (by simp) _
  have HOX := Keep.mk (Bx.new (w.alloc (.cells #[.slice d.a d.n d.c, .slice d.pa d.pn d.pc, .int .i64 d.left, .bool d.down] 25)) [.slice none 0 0, .slice none 0 0, .int .i64 0, .bool false] 25)
  refine (HF.out _ HX0.out).mono ?_
  rintro e w1 ⟨R, Q, F, off, n, pn, cur, ps, qs, rfl, hfq, hn, hpn, hn1, hpn1, hps, hqs, hb⟩
  have hB0 : w.heap.size + 4 = ((w.alloc (.cells #[.slice d.a d.n d.c, .slice d.pa d.pn d.pc, .int .i64 d.left, .bool d.down] 25)).alloc (.cells #[.slice none 0 0, .slice none 0 0, .int .i64 0, .bool false] 25)).heap.size + 2 := by simp
  rw [← hB0] at hfq
  rw [World.size_alloc] at HOX
  have FQ1 := Keep.mk hfq
  have OX1 := Keep.mk (HOX.out.below hb)
  have HB1 := Lib.hid (below_next HX0.out hb (Nat.le_refl _))
  have HN := Keep.mk hn
  have HPN := Keep.mk hpn
  have HPS := Keep.mk hps
  have HQS := Keep.mk hqs
  clear hfq hb hn hpn hps hqs HX0 HOX hB0 HF
  have o0 := OX1.out.cell 0 _ rfl
  have o1 := OX1.out.cell 1 _ rfl
  have o2 := OX1.out.cell 2 _ rfl
  have o3 := OX1.out.cell 3 _ rfl
  have of := OX1.out.fz
  unfold Dk.m
  simp only
  generalize hSS : d.S.map (·.l) = SS at *
  generalize hPP : d.P.map Pe.m = PP at *
  have hSl : ps.map (·.l) = SS := by rw [HPS.out, ← hSS]; rfl
  have hPl : qs.map Pe.m = PP := by rw [HQS.out, ← hPP]; rfl
  have HSL := Keep.mk hSl
  have HPL := Keep.mk hPl
  have HSS : Keep (d.m.sectors = SS) := ⟨hSS⟩
  have HPP : Keep (d.m.pending = PP) := ⟨hPP⟩
  clear hSS hPP hSl hPl HPS HQS
  go_upto_region 2 with (fail)
  clear o0 o1 o2 o3 of
  have HO2 := Keep.mk (off_set4 w1 (w.heap.size + 1) (.slice (some ⟨R, 0, none⟩) n n) (.slice (some ⟨Q, 0, none⟩) pn pn) (.int .i64 d.left) (.bool d.down))
  have OX2 := Keep.mk (OX1.out.set4 (.slice (some ⟨R, 0, none⟩) n n) (.slice (some ⟨Q, 0, none⟩) pn pn) (.int .i64 d.left) (.bool d.down))
  generalize (((w1.setCell ⟨w.heap.size + 1, 0, none⟩ (.slice (some ⟨R, 0, none⟩) n n)).setCell ⟨w.heap.size + 1, 1, none⟩ (.slice (some ⟨Q, 0, none⟩) pn pn)).setCell ⟨w.heap.size + 1, 2, none⟩ (.int .i64 d.left)).setCell ⟨w.heap.size + 1, 3, none⟩ (.bool d.down) = w2 at *
  have FQ2 := Keep.mk (FQ1.out.off HO2.out (by simp))
  have HB2 := Lib.hid (HB1.out.trans (HO2.out.below (B := w.heap.size) HB1.out.size (by simp)))
  have hz2 := HB2.out.size
  have hol := OX2.out.lt
  clear FQ1 HB1 OX1 HO2
  have o1 := OX2.out.cell 1 _ rfl
  go_wp2
  clear o1
  go_loopw [12] (fun i wr => ∃ (k : Nat) (rs : List Sl), k ≤ pn ∧ i = .int .i64 k ∧ rs.length = n ∧ rs.map (·.l) = Dv.settle SS (Dv.keptq q 0 (PP.take k)) ∧ Fq (w.heap.size + 4) wr R Q F off cur rs qs ∧
      Bx wr (w.heap.size + 1) [.slice (some ⟨R, 0, none⟩) n n, .slice (some ⟨Q, 0, none⟩) pn pn, .int .i64 d.left, .bool d.down] ∧ Below w.heap.size w wr) (fun i _ => pn - (intOf i).toNat)
  case atStart => exact ⟨0, ps, Nat.zero_le _, rfl, HN.out, by rw [HSL.out]; simp [Dv.keptq, Dv.settle], FQ2.out, OX2.out, HB2.out⟩
  case round =>
    clear FQ2 OX2 HB2
    obtain ⟨k, rs, hk, rfl, hrl, hrs, hfq, hox, hb⟩ := hrel
    have HRL := Keep.mk hrl
    have HRS := Keep.mk hrs
    have FQ3 := Keep.mk hfq
    have OX3 := Keep.mk hox
    have HB3 := Lib.hid hb
    have hz3 := hb.size
    have hol3 := hox.lt
    clear hrl hrs hfq hox hb
    by_cases hlt : k < pn
    · have hkP : k < qs.length := by have := HPN.out; omega
      have hkPP : k < PP.length := by rw [← HPL.out]; simpa using hkP
      obtain ⟨b, o, hbo, hbl, hck, hck1, hrb⟩ := (FQ3.out.rp HPN.out (by omega)).at_ (k := k) hkP
      injection hbo with hbo
      injection hbo with hb1 hb2
      subst hb1 hb2
      rw [Nat.zero_add] at hck hck1
      have hpk : PP[k] = qs[k].m := by
        have : PP[k]? = (qs.map Pe.m)[k]? := by rw [HPL.out]
        rw [List.getElem?_eq_getElem hkPP, List.getElem?_map, List.getElem?_eq_getElem hkP] at this
        simpa using this
      have hstep := Dv.settle_step q SS PP k hkPP
      rw [hpk] at hstep
      have hSn : SS.length = n := by rw [← HSL.out]; simpa using HN.out
      rw [hSn] at hstep
      have HST := Keep.mk hstep
      have HKC := Keep.mk (FQ3.out.qc _ (List.getElem_mem hkP))
      generalize qs[k] = pk at *
      clear hstep hpk hrb hSn
      have HDR : Hid (Below wr.heap.size wr (wr.alloc (.cells #[.int .i64 pk.k, .slice pk.s.a pk.s.n pk.s.c] 79))) := below_alloc1 _ _
      have TX := Keep.mk (Bx.new wr [.int .i64 pk.k, .slice pk.s.a pk.s.n pk.s.c] 79)
      go_upto_region 5 with (fail)
      clear hck hck1
      generalize wr.alloc (.cells #[.int .i64 pk.k, .slice pk.s.a pk.s.n pk.s.c] 79) = wa at *
      have HBa := Lib.hid (below_next HB3.out HDR.out (Nat.le_refl _))
      have OXa := Keep.mk (OX3.out.below HDR.out)
      have FQa := Keep.mk (FQ3.out.below HDR.out)
      have hza := HDR.out.size
      have o0 := OXa.out.cell 0 _ rfl
      have o1 := OXa.out.cell 1 _ rfl
      have o2 := OXa.out.cell 2 _ rfl
      have o3 := OXa.out.cell 3 _ rfl
      have t0 := TX.out.cell 0 _ rfl
      have t1 := TX.out.cell 1 _ rfl
      have CK := Keep.mk (HQ.out k wa (by omega) HBa.out)
      cases hqk : q k
      · rw [hqk] at CK
        have HST2 : Keep (Dv.settle SS (Dv.keptq q 0 (PP.take (k + 1))) = Dv.settle SS (Dv.keptq q 0 (PP.take k))) := ⟨by rw [HST.out, hqk]; rfl⟩
        clear hqk
        go_wp2_with (go_at_call 79; refine (CK.out).mono ?_; rintro e w' ⟨rfl, rfl⟩)
        go_roundw
        case rel => exact ⟨k + 1, rs, by omega, by go_num, HRL.out, by rw [HRS.out, HST2.out], FQa.out, OXa.out, HBa.out⟩
        case measure => simp [intOf]; omega
      · rw [hqk] at CK
        by_cases hh : Dv.has n pk.k = true
        · have HST2 : Keep (Dv.settle SS (Dv.keptq q 0 (PP.take (k + 1))) = (Dv.settle SS (Dv.keptq q 0 (PP.take k))).set pk.k.toNat pk.s.l) := ⟨by rw [HST.out, hqk, if_pos rfl, show pk.m.1 = pk.k from rfl, if_pos hh]; rfl⟩
          have HHK := Keep.mk hh
          have hin : 0 ≤ pk.k ∧ pk.k < (n : Int) := by simpa [Dv.has] using hh
          obtain ⟨hin0, hin1⟩ := hin
          obtain ⟨j, hj⟩ : ∃ j : Nat, pk.k = (j : Int) := ⟨pk.k.toNat, by omega⟩
          have HJ := Keep.mk hj
          rw [hj] at hin0 hin1
          have hjn : j < n := by omega
          have hjr : j < rs.length := by have := HRL.out; omega
          have RJ : Keep ((rs.map Sl.v)[j]? = some (.slice rs[j].a rs[j].n rs[j].c)) := ⟨by rw [List.getElem?_map, List.getElem?_eq_getElem hjr]; rfl⟩
          generalize rs[j] = rj at RJ
          clear hh hqk hj
          go_wp2_with (first | (go_at_call 79; refine (CK.out).mono ?_; rintro e w' ⟨rfl, rfl⟩) | (go_at_call 65; refine (has_any _ n n _ pn pn d.left d.down pk.k _).mono ?_; rw [HHK.out]; rintro e w5 ⟨rfl, hb5⟩; have HB5 := Lib.hid hb5; have OX5 := Keep.mk (OXa.out.below hb5); have TX5 := Keep.mk (TX.out.below hb5); have FQ5 := Keep.mk (FQa.out.below hb5); have o05 := OX5.out.cell 0 _ rfl; have t05 := (TX5.out.cell 0 _ rfl).trans (congrArg (fun x => some (Value.int .i64 x)) HJ.out); have t15 := TX5.out.cell 1 _ rfl; have r05 := (FQ5.out.rR.cell j).trans RJ.out; have rf5 := FQ5.out.rR.bx.fz j; clear hb5))
          go_roundw
          case rel =>
            have hnR := FQ5.out.lR
            have hHB5 := HB5.out.size
            refine ⟨k + 1, rs.set j pk.s, by omega, by go_num, by rw [List.length_set]; exact HRL.out, ?_, FQ5.out.put j pk.s HKC.out, OX5.out.other (by simp; omega) _, (HBa.out.trans (HB5.out.mono HBa.out.size)).setCell (by simp; omega) _⟩
            rw [set_map_l, HRS.out, HST2.out, HJ.out]
            rfl
          case measure => simp [intOf]; omega
        · have hh0 : Dv.has n pk.k = false := by simpa using hh
          have HST2 : Keep (Dv.settle SS (Dv.keptq q 0 (PP.take (k + 1))) = Dv.settle SS (Dv.keptq q 0 (PP.take k))) := ⟨by rw [HST.out, hqk, if_pos rfl, show pk.m.1 = pk.k from rfl, if_neg hh]⟩
          have HHK := Keep.mk hh0
          clear hh hh0 hqk
          go_wp2_with (first | (go_at_call 79; refine (CK.out).mono ?_; rintro e w' ⟨rfl, rfl⟩) | (go_at_call 65; refine (has_any _ n n _ pn pn d.left d.down pk.k _).mono ?_; rw [HHK.out]; rintro e w5 ⟨rfl, hb5⟩; have HB5 := Lib.hid hb5; have OX5 := Keep.mk (OXa.out.below hb5); have FQ5 := Keep.mk (FQa.out.below hb5); clear hb5))
          go_roundw
          case rel => exact ⟨k + 1, rs, by omega, by go_num, HRL.out, by rw [HRS.out, HST2.out], FQ5.out, OX5.out, HBa.out.trans (HB5.out.mono HBa.out.size)⟩
          case measure => simp [intOf]; omega
    · obtain rfl : pn = k := by omega
      have hPPl : PP.length = pn := by rw [← HPL.out]; simpa using HPN.out
      have hrs : rs.map (·.l) = Dv.settle SS (Dv.keptq q 0 PP) := by
        have := HRS.out
        rwa [List.take_of_length_le (by omega)] at this
      have HR9 := Keep.mk hrs
      have o0 := OX3.out.cell 0 _ rfl
      have o1 := OX3.out.cell 1 _ rfl
      have o2 := OX3.out.cell 2 _ rfl
      have o3 := OX3.out.cell 3 _ rfl
      have of := OX3.out.fz
      clear hPPl hrs
      go_wp2
      refine bodyPost_ret (v := .agg #[.slice (some ⟨R, 0, none⟩) n n, .slice none 0 0, .int .i64 d.left, .bool d.down]) (by simp [results, Tryd.results78, go_sem, o0, o1, o2, o3]) rfl ?_
      refine ⟨⟨some ⟨R, 0, none⟩, n, n, rs, none, 0, 0, [], d.left, d.down⟩, rfl, ⟨(FQ3.out.off (L := [w.heap.size + 1]) ?o1 (by simp)).rs HRL.out (by show n ≤ 100000; omega), RP.none_ _⟩, ?_, HB3.out.trans (Off.below (T := [w.heap.size + 1]) ?o2 (by omega) (by simp)), fun b hb _ => ?av⟩
      case o1 => repeat (first | exact Off.refl _ _ | refine Off.setCell ?_ (by simp) _)
      case av =>
        have hav := FQ3.out.av (b := b) (by omega) n pn d.left d.down
        exact ⟨hav.a_, hav.s_, (fun h => absurd h (by simp)), (fun p hp => by cases hp)⟩
      case o2 => repeat (first | exact Off.refl _ _ | refine Off.setCell ?_ (by simp) _)
      show (⟨rs.map (·.l), [], d.left, d.down⟩ : Dv.Disk) = ⟨Dv.settle d.m.sectors (Dv.keptq q 0 d.m.pending), [], d.left, d.down⟩
      rw [HR9.out, HSS.out, HPP.out]
end Go.Proofs.YtjficpdfofmcnaaDoor
