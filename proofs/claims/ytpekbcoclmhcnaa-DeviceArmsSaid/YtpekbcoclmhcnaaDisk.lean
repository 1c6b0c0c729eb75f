/- A device in memory: a slice of sectors, a slice of pending writes, two numbers; what a function that returns one leaves. -/
import Derived.Test.YtpekbcoclmhcnaaBytes
import Derived.Test.YtpekbcoclmhcnaaOff
import Derived.Test.YtpekbcoclmhcnaaRows2
import Derived.Test.YtpekbcoclmhcnaaDev
namespace Go.Proofs.Ytpekbcoclmhcnaa
open Go.RowKit Go.Joins

theorem off_set4 (w : World) (b : Nat) (x y z u : Value) : Off [b] w ((((w.setCell ⟨b, 0, none⟩ x).setCell ⟨b, 1, none⟩ y).setCell ⟨b, 2, none⟩ z).setCell ⟨b, 3, none⟩ u) :=
  ((((Off.refl [b] w).setCell (p := ⟨b, 0, none⟩) (by simp) x).setCell (p := ⟨b, 1, none⟩) (by simp) y).setCell (p := ⟨b, 2, none⟩) (by simp) z).setCell (p := ⟨b, 3, none⟩) (by simp) u
theorem Bx.set4 {w : World} {b : Nat} {a0 a1 a2 a3 : Value} (h : Bx w b [a0, a1, a2, a3]) (x y z u : Value) : Bx ((((w.setCell ⟨b, 0, none⟩ x).setCell ⟨b, 1, none⟩ y).setCell ⟨b, 2, none⟩ z).setCell ⟨b, 3, none⟩ u) b [x, y, z, u] := by
  have := (((h.set (j := 0) (by simp) x).set (j := 1) (by simp) y).set (j := 2) (by simp) z).set (j := 3) (by simp) u
  simpa only [List.set_cons_zero, List.set_cons_succ] using this
/-- A slice of bytes, with what it reads as. -/
structure Sl where
  a : Option Addr
  n : Nat
  c : Nat
  l : List UInt8
def Sl.v (s : Sl) : Value := .slice s.a s.n s.c
def Sl.Ok (w : World) (s : Sl) : Prop := RB w s.a s.n s.c s.l
def Sl.cells (s : Sl) : List Value := [s.v]
/-- A pending write. -/
structure Pe where
  k : Int
  s : Sl
def Pe.cells (p : Pe) : List Value := [.int .i64 p.k, p.s.v]
def Pe.m (p : Pe) : Int × List UInt8 := (p.k, p.s.l)
/-- A slice of sectors that reads as S. -/
structure RS (w : World) (A : Option Addr) (n c : Nat) (S : List Sl) : Prop where
  rd : Rd w 1 A n c (S.map Sl.v)
  ok : ∀ s ∈ S, s.Ok w
/-- A slice of pending writes that reads as P. -/
structure RP (w : World) (A : Option Addr) (n c : Nat) (P : List Pe) : Prop where
  rd : Rd w 2 A n c (P.flatMap Pe.cells)
  ok : ∀ p ∈ P, p.s.Ok w
section
variable {w w' : World} {A : Option Addr} {n c : Nat} {S : List Sl} {P : List Pe}
theorem Sl.Ok.below {s : Sl} (h : s.Ok w) (hb : Below w.heap.size w w') : s.Ok w' := RB.below h hb
theorem RS.below (h : RS w A n c S) (hb : Below w.heap.size w w') : RS w' A n c S := ⟨h.rd.below hb, fun s hs => (h.ok s hs).below hb⟩
theorem RP.below (h : RP w A n c P) (hb : Below w.heap.size w w') : RP w' A n c P := ⟨h.rd.below hb, fun s hs => (h.ok s hs).below hb⟩
theorem RS.len (h : RS w A n c S) : S.length = n := by have := h.rd.len; simpa using this
theorem pe_two : ∀ p : Pe, p.cells.length = 2 := fun _ => rfl
theorem RP.len (h : RP w A n c P) : P.length = n := h.rd.rows pe_two (by decide)
theorem RS.cap (h : RS w A n c S) : n ≤ c := h.rd.cap
theorem RP.cap (h : RP w A n c P) : n ≤ c := h.rd.cap
theorem RS.big (h : RS w A n c S) : c ≤ maxLen := h.rd.big
theorem RP.big (h : RP w A n c P) : c ≤ maxLen := h.rd.big
theorem RS.none_ (w : World) : RS w none 0 0 [] := ⟨Rd.none_ w 1, fun s h => by cases h⟩
theorem RP.none_ (w : World) : RP w none 0 0 [] := ⟨Rd.none_ w 2, fun s h => by cases h⟩
/-- A sector's cell. -/
theorem RS.at_ (h : RS w A n c S) {k : Nat} (hk : k < S.length) : ∃ b o, A = some ⟨b, o, none⟩ ∧ b < w.heap.size ∧ w.cell? ⟨b, o + k, none⟩ = some (.slice S[k].a S[k].n S[k].c) ∧ RB w S[k].a S[k].n S[k].c S[k].l := by
  obtain ⟨b, o, u, e, hlt, hu, hc⟩ := Rd.at_ h.rd (k := k) (by have := h.len; omega)
  rw [List.getElem?_map, List.getElem?_eq_getElem hk] at hu
  simp only [Option.map_some, Option.some.injEq] at hu
  subst hu
  exact ⟨b, o, e, hlt, hc, h.ok _ (List.getElem_mem hk)⟩
/-- A pending write's cells. -/
theorem RP.at_ (h : RP w A n c P) {k : Nat} (hk : k < P.length) : ∃ b o, A = some ⟨b, o, none⟩ ∧ b < w.heap.size ∧ w.cell? ⟨b, o + k * 2, none⟩ = some (.int .i64 P[k].k) ∧
    w.cell? ⟨b, o + k * 2 + 1, none⟩ = some (.slice P[k].s.a P[k].s.n P[k].s.c) ∧ RB w P[k].s.a P[k].s.n P[k].s.c P[k].s.l := by
  obtain ⟨b, o, e, hlt, hc⟩ := h.rd.row pe_two hk h.len
  exact ⟨b, o, e, hlt, hc 0 _ rfl, hc 1 _ rfl, h.ok _ (List.getElem_mem hk)⟩
end
/-- A device. -/
structure Dk where
  a : Option Addr
  n : Nat
  c : Nat
  S : List Sl
  pa : Option Addr
  pn : Nat
  pc : Nat
  P : List Pe
  left : Int
  down : Bool
def Dk.cells (d : Dk) : List Value := [.slice d.a d.n d.c, .slice d.pa d.pn d.pc, .int .i64 d.left, .bool d.down]
/-- What a device is worth. -/
def Dk.m (d : Dk) : Dv.Disk := ⟨d.S.map (·.l), d.P.map Pe.m, d.left, d.down⟩
structure Dk.Ok (w : World) (d : Dk) : Prop where
  sec : RS w d.a d.n d.c d.S
  pen : RP w d.pa d.pn d.pc d.P
theorem Dk.Ok.below {w w' : World} {d : Dk} (h : d.Ok w) (hb : Below w.heap.size w w') : d.Ok w' := ⟨h.sec.below hb, h.pen.below hb⟩
def Dk.zero : Dk := ⟨none, 0, 0, [], none, 0, 0, [], 0, false⟩
theorem Dk.zero_ok (w : World) : Dk.zero.Ok w := ⟨RS.none_ w, RP.none_ w⟩
/-- A device as a value. -/
def Dk.v (d : Dk) : Value := .agg #[.slice d.a d.n d.c, .slice d.pa d.pn d.pc, .int .i64 d.left, .bool d.down]
/-- Nothing of it lies in block b. -/
def Sl.Av (s : Sl) (b : Nat) : Prop := 0 < s.n → ∀ a, s.a = some a → a.block ≠ b
structure Dk.Av (d : Dk) (b : Nat) : Prop where
  a_ : 0 < d.n → ∀ a, d.a = some a → a.block ≠ b
  s_ : ∀ s ∈ d.S, s.Av b
  p_ : 0 < d.pn → ∀ a, d.pa = some a → a.block ≠ b
  q_ : ∀ p ∈ d.P, p.s.Av b
theorem Rd.lt {w : World} {s n c : Nat} {A : Option Addr} {xs : List Value} (h : Rd w s A n c xs) (hn : 0 < n) {a : Addr} (ha : A = some a) : a.block < w.heap.size := by
  obtain ⟨b, o, e, hlt, _⟩ := h.mem hn
  rw [ha] at e
  injection e with e
  rw [e]
  exact hlt
theorem Sl.Ok.av {w : World} {s : Sl} (h : s.Ok w) {b : Nat} (hb : w.heap.size ≤ b) : s.Av b := fun hn a ha => by have := Rd.lt h hn ha; omega
theorem Dk.Ok.av {w : World} {d : Dk} (h : d.Ok w) {b : Nat} (hb : w.heap.size ≤ b) : d.Av b :=
  ⟨fun hn a ha => by have := Rd.lt h.sec.rd hn ha; omega, fun s hs => (h.sec.ok s hs).av hb, fun hn a ha => by have := Rd.lt h.pen.rd hn ha; omega, fun p hp => (h.pen.ok p hp).av hb⟩
theorem Sl.Ok.off {T : List Nat} {w w' : World} {s : Sl} (h : s.Ok w) (ho : Off T w w') (hT : ∀ b ∈ T, s.Av b) : s.Ok w' := Rd.off h ho fun hn a ha hb => hT _ hb hn a ha rfl
theorem RS.off {T : List Nat} {w w' : World} {A : Option Addr} {n c : Nat} {S : List Sl} (h : RS w A n c S) (ho : Off T w w') (h1 : ∀ b ∈ T, 0 < n → ∀ a, A = some a → a.block ≠ b) (h2 : ∀ b ∈ T, ∀ s ∈ S, s.Av b) : RS w' A n c S :=
  ⟨h.rd.off ho fun hn a ha hb => h1 _ hb hn a ha rfl, fun s hs => (h.ok s hs).off ho fun b hb => h2 b hb s hs⟩
theorem RP.off {T : List Nat} {w w' : World} {A : Option Addr} {n c : Nat} {P : List Pe} (h : RP w A n c P) (ho : Off T w w') (h1 : ∀ b ∈ T, 0 < n → ∀ a, A = some a → a.block ≠ b) (h2 : ∀ b ∈ T, ∀ p ∈ P, p.s.Av b) : RP w' A n c P :=
  ⟨h.rd.off ho fun hn a ha hb => h1 _ hb hn a ha rfl, fun s hs => (h.ok s hs).off ho fun b hb => h2 b hb s hs⟩
theorem Dk.Ok.off {T : List Nat} {w w' : World} {d : Dk} (h : d.Ok w) (ho : Off T w w') (hT : ∀ b ∈ T, d.Av b) : d.Ok w' :=
  ⟨h.sec.off ho (fun b hb => (hT b hb).a_) (fun b hb => (hT b hb).s_), h.pen.off ho (fun b hb => (hT b hb).p_) (fun b hb => (hT b hb).q_)⟩
theorem Dk.zero_av (b : Nat) : Dk.zero.Av b := ⟨fun h => absurd h (by simp [Dk.zero]), (fun s hs => by cases hs), fun h => absurd h (by simp [Dk.zero]), (fun s hs => by cases hs)⟩
/-- WHAT A FUNCTION THAT RETURNS A DEVICE LEAVES. I b: what came in avoids block b; then so does what is returned. -/
def RetK (w : World) (I : Nat → Prop) (m : Dv.Disk) (e : Ending) (w' : World) : Prop := ∃ d : Dk, e = .returned d.v ∧ d.Ok w' ∧ d.m = m ∧ Below w.heap.size w w' ∧ ∀ b, b < w.heap.size → I b → d.Av b
/-- The same with an error number behind it. -/
def RetKE (w : World) (I : Nat → Prop) (m : Dv.Disk × Int) (e : Ending) (w' : World) : Prop := ∃ d : Dk, e = .returned (.tuple #[d.v, .int .i64 m.2]) ∧ d.Ok w' ∧ d.m = m.1 ∧ Below w.heap.size w w' ∧ ∀ b, b < w.heap.size → I b → d.Av b
end Go.Proofs.Ytpekbcoclmhcnaa
