/- A frame: nothing has turned but a few named blocks; a block known whole. -/
import Derived.Test.YtpekbcoclmhcnaaBase
import Derived.Test.YtpekbcoclmhcnaaBox
namespace Go.Proofs.Ytpekbcoclmhcnaa
open Go.RowKit Go.Joins

/-- Of the blocks of w none has turned but those of the list. -/
structure Off (T : List Nat) (w w' : World) : Prop where
  os : w'.os = w.os
  tape : w'.tape = w.tape
  output : w'.output = w.output
  size : w.heap.size ≤ w'.heap.size
  block : ∀ k, k < w.heap.size → k ∉ T → w'.heap[k]? = w.heap[k]?
section
variable {T T' : List Nat} {a b c w w' : World}
theorem Off.refl (T : List Nat) (w : World) : Off T w w := ⟨rfl, rfl, rfl, Nat.le_refl _, fun _ _ _ => rfl⟩
theorem Off.trans (h : Off T a b) (k : Off T b c) : Off T a c :=
  ⟨k.os.trans h.os, k.tape.trans h.tape, k.output.trans h.output, Nat.le_trans h.size k.size, fun i hi ht => (k.block i (Nat.lt_of_lt_of_le hi h.size) ht).trans (h.block i hi ht)⟩
theorem Off.sub (h : Off T a b) (hs : ∀ t ∈ T, t ∈ T') : Off T' a b := ⟨h.os, h.tape, h.output, h.size, fun i hi ht => h.block i hi fun hh => ht (hs i hh)⟩
theorem Off.of_below (h : Below a.heap.size a b) (T : List Nat) : Off T a b := ⟨h.os, h.tape, h.output, h.size, fun i hi _ => h.block i hi⟩
theorem Off.below {B : Nat} (h : Off T a b) (hB : B ≤ a.heap.size) (ht : ∀ t ∈ T, B ≤ t) : Below B a b :=
  ⟨h.os, h.tape, h.output, h.size, fun k hk => h.block k (by omega) fun hh => by have := ht k hh; omega⟩
theorem Off.below0 (h : Off T a b) (ht : ∀ t ∈ T, a.heap.size ≤ t) : Below a.heap.size a b := h.below (Nat.le_refl _) ht
theorem Off.alloc (h : Off T a b) (o : Obj) : Off T a (b.alloc o) := h.trans (Off.of_below (below_alloc1 _ _) T)
theorem Off.drewN (h : Off T a b) (k : Nat) : Off T a (b.drewN k) := h.trans (Off.of_below (below_draws _ _ _) T)
theorem Off.setCell (h : Off T a b) {p : Addr} (hp : p.block ∈ T) (v : Value) : Off T a (b.setCell p v) :=
  h.trans ⟨rfl, rfl, rfl, by simp [World.setCell], fun k _ hk => Below.heap_setCell b p v k fun e => hk (by rw [e]; exact hp)⟩
/-- A store into a block that is new. -/
theorem Off.setNew (h : Off T a b) {p : Addr} (hp : a.heap.size ≤ p.block) (v : Value) : Off T a (b.setCell p v) :=
  ⟨h.os, h.tape, h.output, by simpa [World.setCell] using h.size, fun k hk ht => (Below.heap_setCell b p v k (by omega)).trans (h.block k hk ht)⟩
theorem Off.of_grown {row : Option Nat} (h : a.grownBy b row) (ht : ∀ k, row = some k → k ∈ T) : Off T a b :=
  ⟨h.os, h.tape, h.output, h.size, fun k hk hh => h.block k hk fun e => hh (ht k e.symm)⟩
theorem Bx.at_block {b : Nat} {cs : List Value} (h : Bx w b cs) (he : w'.heap[b]? = w.heap[b]?) (hlt : b < w'.heap.size) : Bx w' b cs :=
  ⟨fun j u hu => (World.cell?_of_block (a := ⟨b, j, none⟩) he).trans (h.cell j u hu), fun j => (World.frozen?_of_block (a := ⟨b, j, none⟩) he).trans (h.fz j), hlt⟩
theorem Bx.off {b : Nat} {cs : List Value} (h : Bx w b cs) (ho : Off T w w') (hb : b ∉ T) : Bx w' b cs := h.at_block (ho.block b h.lt hb) (Nat.lt_of_lt_of_le h.lt ho.size)
theorem Rd.off {s n c : Nat} {A : Option Addr} {xs : List Value} (h : Rd w s A n c xs) (ho : Off T w w') (hA : 0 < n → ∀ a, A = some a → a.block ∉ T) : Rd w' s A n c xs :=
  ⟨h.len, h.cap, h.big, h.nil, fun hn => by
    obtain ⟨b, o, e, hlt, hc⟩ := h.mem hn
    exact ⟨b, o, e, Nat.lt_of_lt_of_le hlt ho.size, fun j u hu => (World.cell?_of_block (a := ⟨b, o + j, none⟩) (ho.block b hlt (hA hn _ e))).trans (hc j u hu)⟩⟩
end
/-- Block b is a row of cells, known whole, none of it frozen. -/
def Wh (w : World) (b : Nat) (e : TypeId) (cs : List Value) : Prop := w.heap[b]? = some (.cells cs.toArray e (0, 0))
section
variable {w w' : World} {b : Nat} {e : TypeId} {cs : List Value} {T : List Nat}
theorem Wh.lt (h : Wh w b e cs) : b < w.heap.size := (Array.getElem?_eq_some_iff.1 h).1
theorem Wh.off (h : Wh w b e cs) (ho : Off T w w') (hb : b ∉ T) : Wh w' b e cs := (ho.block b h.lt hb).trans h
theorem Wh.below (h : Wh w b e cs) (ho : Below w.heap.size w w') : Wh w' b e cs := (ho.block b h.lt).trans h
theorem Wh.new (w : World) (e : TypeId) (cs : List Value) : Wh (w.alloc (.cells cs.toArray e)) w.heap.size e cs := by
  show (w.heap.push _)[_]? = _
  simp
theorem Wh.cell (h : Wh w b e cs) (j : Nat) : w.cell? ⟨b, j, none⟩ = cs[j]? := by
  unfold Wh at h
  simp [World.cell?, h]
theorem Wh.bx (h : Wh w b e cs) : Bx w b cs := by
  have hh : w.heap[b]? = some (.cells cs.toArray e (0, 0)) := h
  exact ⟨fun j u hu => (h.cell j).trans hu, fun j => by simp [World.frozen?, hh], h.lt⟩
theorem Wh.set (h : Wh w b e cs) {j : Nat} (v : Value) : Wh (w.setCell ⟨b, j, none⟩ v) b e (cs.set j v) := by
  unfold Wh at *
  simp only [World.setCell, Array.getElem?_modify, h]
  simp
theorem Wh.other (h : Wh w b e cs) {p : Addr} (hp : b ≠ p.block) (v : Value) : Wh (w.setCell p v) b e cs := (Below.heap_setCell w p v b hp).trans h
/-- A part of it, read as a slice. -/
theorem Wh.rd (h : Wh w b e cs) {s o n c : Nat} {xs : List Value} (hl : xs.length = n * s) (hn : n ≤ c) (hc : c ≤ maxLen) (hx : ∀ j u, xs[j]? = some u → cs[o + j]? = some u) : Rd w s (some ⟨b, o, none⟩) n c xs :=
  ⟨hl, hn, hc, (fun h => by cases h), fun _ => ⟨b, o, rfl, h.lt, fun j u hu => (h.cell _).trans (hx j u hu)⟩⟩
end
/-- COPY INTO A BLOCK THAT IS KNOWN WHOLE: nothing else turns. -/
theorem wpList_copy_off {P : Program} {w : World} {ops : Array Oper} {rest : List Oper} {o : Oper} {a : Act} {Q : Exit → Act → World → Prop} (hgd : o.guard = none) (d s : Operand) (dT sT : TypeId)
    (ho : o.op = .call { callee := .builtin .copy, args := #[d, s], argTypes := #[dT, sT] }) (elem : TypeId) (hu : P.underlying dT = some (.slice elem)) (hsz : (P.info? elem).map (·.size) = some 1)
    (dp sp : Option Addr) (dLen dCap sLen sCap : Nat) (hd : a.eval d = .slice dp dLen dCap) (hs : a.eval s = .slice sp sLen sCap)
    (g off : Nat) (cur : List Value) (t : TypeId) (hg : Wh w g t cur) (cs : List Value) (hr : Rd w 1 sp sLen sCap cs) (hle : sLen ≤ dLen)
    (hpos : 0 < sLen → dp = some ⟨g, off, none⟩)
    (hfit : off + sLen ≤ cur.length) (h1 : ∀ v ∈ cs, v.oneCell' = true)
    (h : ∀ w', Wh w' g t (splice cur off cs) → Off [g] w w' → wpList P ops Q rest (a.put o.dst (goInt sLen)) w') :
    wpList P ops Q (o :: rest) a w := by
  have hcl : cs.length = sLen := by have := hr.len; omega
  have hmin : Nat.min sLen dLen = sLen := Nat.min_eq_left hle
  by_cases h0 : sLen = 0
  · have hcs : cs = [] := List.eq_nil_of_length_eq_zero (by omega)
    subst hcs
    refine wpList_copy_nothing hgd d s dT sT ho elem hu hsz dp sp dLen dCap sLen sCap hd hs (hmin.trans h0) ?_
    have hh := h w (by simpa [splice, Wh] using hg) (Off.refl _ _)
    rwa [h0] at hh
  · obtain rfl := hpos (by omega)
    obtain ⟨b, o', rfl, _, hcell⟩ := hr.mem (by omega)
    refine wpList_copy_own hgd d s dT sT ho elem hu hsz g off dLen dCap ⟨b, o', none⟩ sLen sCap hd hs cur.toArray t hg cs (hcl.trans hmin.symm) (fun j v hv => by rw [Addr.add_lit]; exact hcell j v hv) (by simpa [hcl] using hfit) h1 ?_
    rw [hcl]
    refine h _ ?_ ⟨rfl, rfl, rfl, by simp [World.setRow], fun k _ hk => setRow_other w g k _ (by simpa using hk)⟩
    have := setRow_heap w g cur.toArray (splice cur off cs).toArray t (0, 0) hg
    simpa [splice, Wh, hcl] using this
/-- Cells before and in the part that was laid. -/
theorem splice_before {α : Type} (L : List α) (off : Nat) (cs : List α) (h : off + cs.length ≤ L.length) {j : Nat} (hj : j < off) : (splice L off cs)[j]? = L[j]? := by
  unfold splice
  rw [List.getElem?_append_left (by simp; omega), List.getElem?_take]
  simp [hj]
theorem splice_in {α : Type} (L : List α) (off : Nat) (cs : List α) (h : off + cs.length ≤ L.length) {j : Nat} (hj : j < cs.length) : (splice L off cs)[off + j]? = cs[j]? := by
  unfold splice
  have hl : (L.take off).length = off := by simp; omega
  rw [List.getElem?_append_right (by omega), hl, List.getElem?_append_left (by omega)]
  congr 1
  omega
end Go.Proofs.Ytpekbcoclmhcnaa
