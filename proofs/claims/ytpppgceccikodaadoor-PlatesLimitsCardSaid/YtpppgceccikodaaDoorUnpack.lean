/- plates.Unpack. -/
import Derived.Test.YtpppgceccikodaaDoorPair
import Derived.Test.YtpppgceccikodaaDoorPack
import Derived.Test.YtpppgceccikodaaDoorOpen
import Derived.Test.YtpppgceccikodaaDoorBox
namespace Go.Proofs.YtpppgceccikodaaDoor
open Go.RowKit Go.Joins

/-- What an unpacking leaves. -/
def RetPl (w : World) (r : Int × Int × List Int × Int) (e : Ending) (w' : World) : Prop := ∃ A n c, e = .returned (.tuple #[plv r.1 r.2.1 A n c, .int .i64 r.2.2.2]) ∧ RI w' A n c r.2.2.1 ∧ Below w.heap.size w w'
theorem open_any (A : Option Addr) (n c : Nat) (l : List UInt8) (w : World) (hl : RB w A n c l) (ht : Tab w) (hroom : n ≤ 140737488355328) : Calls Tryd.prog 32 #[.slice A n c] w (RetBE w (Pl.opened l).1 (Pl.opened l).2) := by
  have hlen := hl.len
  unfold Pl.opened
  by_cases hn : n < 4
  · rw [if_pos (by omega)]
    exact open_short A n c w hn
  · rw [if_neg (by omega), hlen]
    refine (open_long A n c l w hl ht (by omega) hroom).mono fun e w' h => ?_
    split at h
    · rename_i h1; rw [if_pos h1]; exact h
    · rename_i h1; rw [if_neg h1]; exact h
/-- A block of three cells that may be written. -/
structure Box3 (w : World) (b : Nat) (x y z : Value) : Prop where
  c0 : w.cell? ⟨b, 0, none⟩ = some x
  c1 : w.cell? ⟨b, 1, none⟩ = some y
  c2 : w.cell? ⟨b, 2, none⟩ = some z
  fz : ∀ j, w.frozen? ⟨b, j, none⟩ = false
  lt : b < w.heap.size
theorem Box3.below {w w' : World} {b : Nat} {x y z : Value} (h : Box3 w b x y z) (hb : Below w.heap.size w w') : Box3 w' b x y z :=
  ⟨(hb.cell (p := ⟨_, _, none⟩) h.lt).trans h.c0, (hb.cell (p := ⟨_, _, none⟩) h.lt).trans h.c1, (hb.cell (p := ⟨_, _, none⟩) h.lt).trans h.c2, fun j => (hb.frozen (p := ⟨b, j, none⟩) h.lt).trans (h.fz j), Nat.lt_of_lt_of_le h.lt hb.size⟩
theorem Box3.new (w : World) (x y z : Value) (t : TypeId) : Box3 (w.alloc (.cells #[x, y, z] t)) w.heap.size x y z :=
  ⟨by simp, by simp, by simp, fun j => by simp, by simp⟩
/-- A block of two cells that may be written. -/
structure Box2 (w : World) (b : Nat) (x y : Value) : Prop where
  c0 : w.cell? ⟨b, 0, none⟩ = some x
  c1 : w.cell? ⟨b, 1, none⟩ = some y
  fz : ∀ j, w.frozen? ⟨b, j, none⟩ = false
  lt : b < w.heap.size
theorem Box2.below {w w' : World} {b : Nat} {x y : Value} (h : Box2 w b x y) (hb : Below w.heap.size w w') : Box2 w' b x y :=
  ⟨(hb.cell (p := ⟨_, _, none⟩) h.lt).trans h.c0, (hb.cell (p := ⟨_, _, none⟩) h.lt).trans h.c1, fun j => (hb.frozen (p := ⟨b, j, none⟩) h.lt).trans (h.fz j), Nat.lt_of_lt_of_le h.lt hb.size⟩
theorem Box2.new (w : World) (x y : Value) (t : TypeId) : Box2 (w.alloc (.cells #[x, y] t)) w.heap.size x y :=
  ⟨by simp, by simp, fun j => by simp, by simp⟩
theorem below_set3 {w w' : World} {b : Nat} (h : Below w.heap.size w w') (hb : w.heap.size ≤ b) (x y z : Value) : Below w.heap.size w (((w'.setCell ⟨b, 0, none⟩ x).setCell ⟨b, 1, none⟩ y).setCell ⟨b, 2, none⟩ z) :=
  ((h.setCell hb _).setCell hb _).setCell hb _

theorem below_set3a {w w' : World} {b : Nat} (h : Below w.heap.size w w') (hb : w.heap.size ≤ b) (x y z : Value) (o : Obj) : Below w.heap.size w ((((w'.setCell ⟨b, 0, none⟩ x).setCell ⟨b, 1, none⟩ y).setCell ⟨b, 2, none⟩ z).alloc o) :=
  (below_set3 h hb x y z).alloc (below_set3 h hb x y z).size _

theorem OI.set {w : World} {base n c : Nat} {A : Option Addr} {l : List Int} (h : OI w base A n c l) {p : Addr} (hp : p.block < base) (u : Value) : OI (w.setCell p u) base A n c l := ownsRow_set h hp u

theorem unpack_big (A : Option Addr) (n c : Nat) (l : List UInt8) (w : World) (hl : RB w A n c l) (hn : 1048576 < n) : Calls Tryd.prog 18 #[.slice A n c] w (RetPl w (Pl.unpack l)) := by
  have hlen := hl.len
  have HU : Keep (Pl.unpack l = (0, 0, [], 3)) := ⟨by unfold Pl.unpack; rw [if_pos (by omega)]⟩
  have d1 : decide ((1048576 : Int) < (n : Int)) = true := by simp; omega
  clear hl hlen hn
  go_enter Tryd.func18, Tryd.ntmps18
  go_wp2
  refine bodyPost_ret (v := .tuple #[.agg #[.int .i64 0, .int .i64 0, .slice none 0 0], .int .i64 3]) (by simp [results, Tryd.results18, go_sem]) rfl ?_
  rw [HU.out]
  exact ⟨none, 0, 0, rfl, RI.none_ _, below_alloc1 _ _⟩

set_option maxHeartbeats 2000000 in
theorem unpack_err1 (A : Option Addr) (n c : Nat) (l : List UInt8) (w : World) (hl : RB w A n c l) (ht : Tab w) (hn : n ≤ 1048576) (he : (Pl.opened l).2 ≠ 0) : Calls Tryd.prog 18 #[.slice A n c] w (RetPl w (Pl.unpack l)) := by
  have hlen := hl.len
  have HU : Keep (Pl.unpack l = (0, 0, [], (Pl.opened l).2)) := ⟨by unfold Pl.unpack; rw [if_neg (by omega), if_pos he]⟩
  have d1 : decide ((1048576 : Int) < (n : Int)) = false := by simp; omega
  have HO := Lib.hid (fun w (h : RB w A n c l) ht => open_any A n c l w h ht (by omega))
  have HL := Lib.hid hl
  have HT := Keep.mk ht
  generalize Pl.opened l = p at *
  obtain ⟨x, q⟩ := p
  have b1 : (q != 0) = true := by simpa using he
  clear hl hlen hn ht he
  go_enter Tryd.func18, Tryd.ntmps18
  go_wp2_with fail
  refine (HO.out _ (HL.out.below (below_alloc1 _ _)) (HT.out.below (below_alloc1 _ _))).mono ?_
  rintro e w1 ⟨A1, n1, c1, rfl, hr, hb⟩
  have HB1 : Hid (Below w.heap.size w w1) := (below_alloc1 _ _).trans (hb.mono (by simp))
  obtain ⟨k0, k1, k2, kf, kl⟩ := (Box3.new w (.int .i64 0) (.int .i64 0) (.slice none 0 0) 24).below hb
  clear hr hb
  go_wp2
  refine bodyPost_ret (v := .tuple #[.agg #[.int .i64 0, .int .i64 0, .slice none 0 0], .int .i64 q]) (by simp [results, Tryd.results18, go_sem, k0, k1, k2]) rfl ?_
  rw [HU.out]
  exact ⟨none, 0, 0, rfl, RI.none_ _, below_set3 HB1.out (Nat.le_refl _) _ _ _⟩

set_option maxHeartbeats 2000000 in
theorem unpack_err2 (A : Option Addr) (n c : Nat) (l x : List UInt8) (w : World) (hl : RB w A n c l) (ht : Tab w) (hn : n ≤ 1048576) (ho : Pl.opened l = (x, 0)) (he : (Pl.two x).2.2.2 ≠ 0 ∨ (Pl.side (Pl.two x).1 && Pl.side (Pl.two x).2.1) = false) : Calls Tryd.prog 18 #[.slice A n c] w (RetPl w (Pl.unpack l)) := by
  have hlen := hl.len
  have HU : Keep (Pl.unpack l = Pl.unbody x) := ⟨by unfold Pl.unpack; rw [if_neg (by omega), ho, if_neg (by simp)]⟩
  have d1 : decide ((1048576 : Int) < (n : Int)) = false := by simp; omega
  have HO := Lib.hid (fun w (h : RB w A n c l) ht => open_any A n c l w h ht (by omega))
  rw [ho] at HO
  have HL := Lib.hid hl
  have HT := Keep.mk ht
  obtain ⟨m, k, u, q, htw⟩ : ∃ m k u q, Pl.two x = (m, k, u, q) := ⟨_, _, _, _, rfl⟩
  have HTW := Keep.mk htw
  rw [htw] at he
  simp only at he
  clear hl hlen hn ht ho htw
  by_cases hq : q = 0
  · subst hq
    have hs : (Pl.side m && Pl.side k) = false := by simpa using he
    have HUB : Keep (Pl.unbody x = (0, 0, [], 2)) := ⟨by unfold Pl.unbody; rw [HTW.out]; simp only; rw [if_neg (by simp), if_pos hs]⟩
    clear he
    by_cases hm : Pl.side m = true
    · have hk : Pl.side k = false := by rw [hm] at hs; simpa using hs
      have HS1 := Lib.hid (fun w => side_true m w hm)
      have HS2 := Lib.hid (fun w => side_false k w hk)
      clear hs hm hk
      go_enter Tryd.func18, Tryd.ntmps18
      go_wp2_with fail
      refine (HO.out _ (HL.out.below (below_alloc1 _ _)) (HT.out.below (below_alloc1 _ _))).mono ?_
      rintro e w1 ⟨A1, n1, c1, rfl, hr, hb⟩
      have HB1 : Hid (Below w.heap.size w w1) := (below_alloc1 _ _).trans (hb.mono (by simp))
      have BX1 := Keep.mk ((Box3.new w (.int .i64 0) (.int .i64 0) (.slice none 0 0) 24).below hb)
      have HR1 := Lib.hid hr
      clear hr hb
      go_wp2_with fail
      refine (pair_any A1 n1 c1 x w1 w1 HR1.out (Below.refl _ _)).mono ?_
      rintro e w2 ⟨A2, n2, c2, rfl, hr, hb⟩
      rw [HTW.out] at hr ⊢
      have HB2 : Hid (Below w.heap.size w w2) := HB1.out.trans (hb.mono HB1.out.size)
      have HR2 := Lib.hid hr
      have BX2 := Keep.mk (BX1.out.below hb)
      obtain ⟨k0, k1, k2, kf, kl⟩ := BX2.out
      have HB12 : Hid (Below w1.heap.size w1 w2) := hb
      clear hr hb BX1 HB1 HR1
      go_wp2_with fail
      refine (HS1.out _).mono ?_
      rintro e w' ⟨rfl, rfl⟩
      go_wp2_with fail
      refine (HS2.out _).mono ?_
      rintro e w' ⟨rfl, rfl⟩
      go_wp2
      refine bodyPost_ret (v := .tuple #[.agg #[.int .i64 0, .int .i64 0, .slice none 0 0], .int .i64 2]) (by simp [results, Tryd.results18, go_sem, k0, k1, k2, kl]) rfl ?_
      rw [HU.out, HUB.out]
      exact ⟨none, 0, 0, rfl, RI.none_ _, below_set3a HB2.out (Nat.le_refl _) _ _ _ _⟩
    · have hm' : Pl.side m = false := by simpa using hm
      have HS1 := Lib.hid (fun w => side_false m w hm')
      clear hs hm hm'
      go_enter Tryd.func18, Tryd.ntmps18
      go_wp2_with fail
      refine (HO.out _ (HL.out.below (below_alloc1 _ _)) (HT.out.below (below_alloc1 _ _))).mono ?_
      rintro e w1 ⟨A1, n1, c1, rfl, hr, hb⟩
      have HB1 : Hid (Below w.heap.size w w1) := (below_alloc1 _ _).trans (hb.mono (by simp))
      have BX1 := Keep.mk ((Box3.new w (.int .i64 0) (.int .i64 0) (.slice none 0 0) 24).below hb)
      have HR1 := Lib.hid hr
      clear hr hb
      go_wp2_with fail
      refine (pair_any A1 n1 c1 x w1 w1 HR1.out (Below.refl _ _)).mono ?_
      rintro e w2 ⟨A2, n2, c2, rfl, hr, hb⟩
      rw [HTW.out] at hr ⊢
      have HB2 : Hid (Below w.heap.size w w2) := HB1.out.trans (hb.mono HB1.out.size)
      have HR2 := Lib.hid hr
      have BX2 := Keep.mk (BX1.out.below hb)
      obtain ⟨k0, k1, k2, kf, kl⟩ := BX2.out
      have HB12 : Hid (Below w1.heap.size w1 w2) := hb
      clear hr hb BX1 HB1 HR1
      go_wp2_with fail
      refine (HS1.out _).mono ?_
      rintro e w' ⟨rfl, rfl⟩
      go_wp2
      refine bodyPost_ret (v := .tuple #[.agg #[.int .i64 0, .int .i64 0, .slice none 0 0], .int .i64 2]) (by simp [results, Tryd.results18, go_sem, k0, k1, k2, kl]) rfl ?_
      rw [HU.out, HUB.out]
      exact ⟨none, 0, 0, rfl, RI.none_ _, below_set3a HB2.out (Nat.le_refl _) _ _ _ _⟩
  · have HUB : Keep (Pl.unbody x = (0, 0, [], q)) := ⟨by unfold Pl.unbody; rw [HTW.out]; simp only; rw [if_pos hq]⟩
    have b1 : (q != 0) = true := by simpa using hq
    clear he hq
    go_enter Tryd.func18, Tryd.ntmps18
    go_wp2_with fail
    refine (HO.out _ (HL.out.below (below_alloc1 _ _)) (HT.out.below (below_alloc1 _ _))).mono ?_
    rintro e w1 ⟨A1, n1, c1, rfl, hr, hb⟩
    have HB1 : Hid (Below w.heap.size w w1) := (below_alloc1 _ _).trans (hb.mono (by simp))
    have BX1 := Keep.mk ((Box3.new w (.int .i64 0) (.int .i64 0) (.slice none 0 0) 24).below hb)
    have HR1 := Lib.hid hr
    clear hr hb
    go_wp2_with fail
    refine (pair_any A1 n1 c1 x w1 w1 HR1.out (Below.refl _ _)).mono ?_
    rintro e w2 ⟨A2, n2, c2, rfl, hr, hb⟩
    rw [HTW.out] at hr ⊢
    have HB2 : Hid (Below w.heap.size w w2) := HB1.out.trans (hb.mono HB1.out.size)
    have HR2 := Lib.hid hr
    have BX2 := Keep.mk (BX1.out.below hb)
    obtain ⟨k0, k1, k2, kf, kl⟩ := BX2.out
    have HB12 : Hid (Below w1.heap.size w1 w2) := hb
    clear hr hb BX1 HB1 HR1
    go_wp2
    refine bodyPost_ret (v := .tuple #[.agg #[.int .i64 0, .int .i64 0, .slice none 0 0], .int .i64 q]) (by simp [results, Tryd.results18, go_sem, k0, k1, k2, kl]) rfl ?_
    rw [HU.out, HUB.out]
    exact ⟨none, 0, 0, rfl, RI.none_ _, below_set3a HB2.out (Nat.le_refl _) _ _ _ _⟩

set_option maxRecDepth 100000 in
set_option maxHeartbeats 8000000 in
theorem unpack_loop (A : Option Addr) (n c : Nat) (l x : List UInt8) (W H : Int) (u : Nat) (w : World) (hl : RB w A n c l) (ht : Tab w) (hn : n ≤ 1048576) (ho : Pl.opened l = (x, 0)) (htw : Pl.two x = (W, H, u, 0)) (hs : (Pl.side W && Pl.side H) = true) : Calls Tryd.prog 18 #[.slice A n c] w (RetPl w (Pl.unpack l)) := by
  have hlen := hl.len
  obtain ⟨hs1, hs2⟩ : Pl.side W = true ∧ Pl.side H = true := by simpa using hs
  have hm := Pl.side_mul (w := W) (h := H) (by simpa [Pl.side] using hs1) (by simpa [Pl.side] using hs2)
  obtain ⟨N, hN⟩ : ∃ N : Nat, W * H = (N : Int) := ⟨(W * H).toNat, by omega⟩
  have hN1 : 1 ≤ N := by omega
  have hN2 : N ≤ 65536 := by omega
  have HUB : Keep (Pl.unpack l = if (Pl.unrun N N (-1) (x.drop u)).2 ≠ 0 then (0, 0, [], (Pl.unrun N N (-1) (x.drop u)).2) else (W, H, (Pl.unrun N N (-1) (x.drop u)).1, 0)) := ⟨by
    unfold Pl.unpack
    rw [if_neg (by omega), ho, if_neg (by simp)]
    unfold Pl.unbody
    simp only [htw]
    rw [if_neg (by simp), if_neg (by rw [hs]; simp), hN, Int.toNat_natCast]⟩
  have d1 : decide ((1048576 : Int) < (n : Int)) = false := by simp; omega
  have HO := Lib.hid (fun w (h : RB w A n c l) ht => open_any A n c l w h ht (by omega))
  rw [ho] at HO
  have HL := Lib.hid hl
  have HT := Keep.mk ht
  have HTW := Keep.mk htw
  have HS1 := Lib.hid (fun w => side_true W w hs1)
  have HS2 := Lib.hid (fun w => side_true H w hs2)
  clear hl hlen hn ht ho htw hs hs1 hs2 hm
  go_enter Tryd.func18, Tryd.ntmps18
  go_wp2_with fail
  refine (HO.out _ (HL.out.below (below_alloc1 _ _)) (HT.out.below (below_alloc1 _ _))).mono ?_
  rintro e w1 ⟨A1, n1, c1, rfl, hr, hb⟩
  have HB1 : Hid (Below w.heap.size w w1) := (below_alloc1 _ _).trans (hb.mono (by simp))
  have BX1 := Keep.mk ((Box3.new w (.int .i64 0) (.int .i64 0) (.slice none 0 0) 24).below hb)
  have HR1 := Lib.hid hr
  clear hr hb
  go_wp2_with fail
  refine (pair_any A1 n1 c1 x w1 w1 HR1.out (Below.refl _ _)).mono ?_
  rintro e w2 ⟨A2, n2, c2, rfl, hr, hb⟩
  rw [HTW.out] at hr ⊢
  have HB2 : Hid (Below w.heap.size w w2) := HB1.out.trans (hb.mono HB1.out.size)
  have HR2 := Lib.hid hr
  have BX2 := Keep.mk (BX1.out.below hb)
  obtain ⟨k0, k1, k2, kf, kl⟩ := BX2.out
  have HB12 : Hid (Below w1.heap.size w1 w2) := hb
  clear hr hb BX1 HB1 HR1
  go_wp2_with fail
  refine (HS1.out _).mono ?_
  rintro e w' ⟨rfl, rfl⟩
  go_wp2_with fail
  refine (HS2.out _).mono ?_
  rintro e w' ⟨rfl, rfl⟩
  have BX := Keep.mk (BX2.out.below (below_alloc1 w2 (.cells #[.int .i64 W, .int .i64 H] 51)))
  have SX := Keep.mk (Box2.new w2 (.int .i64 W) (.int .i64 H) 51)
  have HB3 : Hid (Below w.heap.size w (w2.alloc (.cells #[.int .i64 W, .int .i64 H] 51))) := HB2.out.alloc HB2.out.size _
  have HR3 := Lib.hid (show RB (w2.alloc (.cells #[.int .i64 W, .int .i64 H] 51)) A2 n2 c2 (x.drop u) from (by simpa using HR2.out.below (HB12.out.alloc HB12.out.size _)))
  go_wp2
  generalize hw3 : w2.alloc (.cells #[.int .i64 W, .int .i64 H] 51) = w3 at *
  have hsz : w2.heap.size < w3.heap.size := SX.out.lt
  clear k0 k1 k2 kf kl BX2 HB2 HR2 hw3
  generalize w2.heap.size = sb at *
  generalize hr0 : x.drop u = r0 at *
  clear hr0
  go_loopw [6, 8, 9] (fun rs v la wr => ∃ (f : Nat) (A' : Option Addr) (n' c' : Nat) (r : List UInt8) (B : Option Addr) (m d : Nat) (z : List Int) (last : Int), rs = .slice A' n' c' ∧ v = .slice B m d ∧ la = .int .i64 last ∧ RB w3 A' n' c' r ∧ OI wr w3.heap.size B m d z ∧ Pl.unrun N N (-1) r0 = Pl.join z (Pl.unrun f (N - m) last r) ∧ N - m ≤ f ∧ m ≤ N ∧ Below w3.heap.size w3 wr) (fun _ v _ _ => N - (match v with | .slice _ m _ => m | _ => 0))
  case atStart => exact ⟨N, A2, n2, c2, r0, none, 0, 0, [], -1, rfl, rfl, rfl, HR3.out, OI.nil _ _, by rw [Pl.join_nil]; rfl, by omega, by omega, Below.refl _ _⟩
  case round =>
    obtain ⟨f, A', n', c', r, B, m, d, z, last, rfl, rfl, rfl, hr, hoi, hun, hf, hmN, hb⟩ := hrel
    have HR := Lib.hid hr
    have HOI := Lib.hid hoi
    have HUN := Keep.mk hun
    have HB := Lib.hid hb
    have hws := hb.size
    obtain ⟨e0, e1, e2, ef, el⟩ := BX.out.below hb
    obtain ⟨s0, s1, sf, sl⟩ := SX.out.below hb
    clear hr hoi hun hb
    by_cases hlt : m < N
    · obtain ⟨g, rfl⟩ : ∃ g, f = g + 1 := ⟨f - 1, by omega⟩
      obtain ⟨p, y, v, q, htw2⟩ : ∃ p y v q, Pl.two r = (p, y, v, q) := ⟨_, _, _, _, rfl⟩
      have HTW2 := Keep.mk htw2
      have hne : ¬ w.heap.size = wr.heap.size := by omega
      have hne' : ¬ wr.heap.size = w.heap.size := by omega
      have hne2 : ¬ sb = wr.heap.size := by omega
      have hne2' : ¬ wr.heap.size = sb := by omega
      clear e0 e1 e2 ef s0 s1 sf htw2
      go_wp2_with fail
      refine (pair_any A' n' c' r w3 _ HR.out (HB.out.alloc HB.out.size _)).mono ?_
      rintro e w5 ⟨A5, n5, c5, rfl, hr, hb⟩
      rw [HTW2.out] at hr ⊢
      have HR5 := Lib.hid hr
      have HB35 : Hid (Below wr.heap.size wr w5) := (below_alloc1 _ _).trans (hb.mono (by simp))
      have HB5 : Hid (Below w3.heap.size w3 w5) := HB.out.trans (HB35.out.mono hws)
      have HBW : Hid (Below w.heap.size w w5) := HB3.out.trans (HB5.out.mono HB3.out.size)
      have HOI5 : Hid (OI w5 w3.heap.size B m d z) := HOI.out.below HB35.out
      obtain ⟨e0, e1, e2, ef, el5⟩ := BX.out.below HB5.out
      obtain ⟨s0, s1, sf, sl5⟩ := SX.out.below HB5.out
      obtain ⟨r0', r1', rf, rl⟩ := (Box2.new wr (.int .i64 0) (.int .i64 0) 51).below hb
      clear hr hb
      by_cases hq : q = 0
      · subst hq
        have HR6 : Hid (RB w3 A5 n5 c5 (r.drop v)) := by have h := HR5.out; rwa [if_pos rfl] at h
        clear HR5
        have hcase : (p < 1) ∨ (¬ p < 1 ∧ (N : Int) - (m : Int) < p) ∨ (¬ p < 1 ∧ ¬ (N : Int) - (m : Int) < p ∧ y < 0) ∨ (¬ p < 1 ∧ ¬ (N : Int) - (m : Int) < p ∧ ¬ y < 0 ∧ 100 < y) ∨ (¬ p < 1 ∧ ¬ (N : Int) - (m : Int) < p ∧ ¬ y < 0 ∧ ¬ 100 < y ∧ (y == last) = true) ∨ (¬ p < 1 ∧ ¬ (N : Int) - (m : Int) < p ∧ ¬ y < 0 ∧ ¬ 100 < y ∧ (y == last) = false) := by
          simp only [beq_iff_eq, beq_eq_false_iff_ne]
          omega
        have HBAD : Keep ((p < 1 ∨ ((N - m : Nat) : Int) < p ∨ y < 0 ∨ 100 < y ∨ y = last) → Pl.unpack l = (0, 0, [], 4)) := ⟨fun hbad => by
          have h := Pl.unrun_bad g (N - m) last r (by omega) HTW2.out hbad
          rw [HUB.out, HUN.out, h, Pl.join_err z _ rfl (by decide), if_pos (by decide)]⟩
        go_wp2
        go_quiet (fail)
        have HB36 : Hid (Below wr.heap.size wr (((w5.setCell ⟨wr.heap.size, 0, none⟩ (.int .i64 p)).setCell ⟨wr.heap.size, 1, none⟩ (.int .i64 y)).drewN nq)) := ((HB35.out.setCell (Nat.le_refl _) _).setCell (Nat.le_refl _) _).trans (below_draws _ _ _)
        generalize ((w5.setCell ⟨wr.heap.size, 0, none⟩ (.int .i64 p)).setCell ⟨wr.heap.size, 1, none⟩ (.int .i64 y)).drewN nq = w6 at *
        have HB6 : Hid (Below w3.heap.size w3 w6) := HB.out.trans (HB36.out.mono hws)
        have HBW6 : Hid (Below w.heap.size w w6) := HB3.out.trans (HB6.out.mono HB3.out.size)
        have HOI6 : Hid (OI w6 w3.heap.size B m d z) := HOI.out.below HB36.out
        clear e0 e1 e2 ef el5 s0 s1 sf sl5 r0' r1' rf rl HOI5 HB35 HB5 HBW
        obtain ⟨e0, e1, e2, ef, el5⟩ := BX.out.below HB6.out
        rcases hcase with h1 | ⟨h1, h2⟩ | ⟨h1, h2, h3⟩ | ⟨h1, h2, h3, h4⟩ | ⟨h1, h2, h3, h4, h5⟩ | ⟨h1, h2, h3, h4, h5⟩
        · have HER := Keep.mk (HBAD.out (.inl h1))
          go_wp2
          refine bodyPost_ret (v := .tuple #[.agg #[.int .i64 0, .int .i64 0, .slice none 0 0], .int .i64 4]) (by simp [results, Tryd.results18, go_sem, e0, e1, e2]) rfl ?_
          rw [HER.out]
          exact ⟨none, 0, 0, rfl, RI.none_ _, below_set3 HBW6.out (Nat.le_refl _) _ _ _⟩
        · have HER := Keep.mk (HBAD.out (.inr (.inl (by omega))))
          go_wp2
          refine bodyPost_ret (v := .tuple #[.agg #[.int .i64 0, .int .i64 0, .slice none 0 0], .int .i64 4]) (by simp [results, Tryd.results18, go_sem, e0, e1, e2]) rfl ?_
          rw [HER.out]
          exact ⟨none, 0, 0, rfl, RI.none_ _, below_set3 HBW6.out (Nat.le_refl _) _ _ _⟩
        · have HER := Keep.mk (HBAD.out (.inr (.inr (.inl h3))))
          go_wp2
          refine bodyPost_ret (v := .tuple #[.agg #[.int .i64 0, .int .i64 0, .slice none 0 0], .int .i64 4]) (by simp [results, Tryd.results18, go_sem, e0, e1, e2]) rfl ?_
          rw [HER.out]
          exact ⟨none, 0, 0, rfl, RI.none_ _, below_set3 HBW6.out (Nat.le_refl _) _ _ _⟩
        · have HER := Keep.mk (HBAD.out (.inr (.inr (.inr (.inl h4)))))
          go_wp2
          refine bodyPost_ret (v := .tuple #[.agg #[.int .i64 0, .int .i64 0, .slice none 0 0], .int .i64 4]) (by simp [results, Tryd.results18, go_sem, e0, e1, e2]) rfl ?_
          rw [HER.out]
          exact ⟨none, 0, 0, rfl, RI.none_ _, below_set3 HBW6.out (Nat.le_refl _) _ _ _⟩
        · have HER := Keep.mk (HBAD.out (.inr (.inr (.inr (.inr (by simpa using h5))))))
          go_wp2
          refine bodyPost_ret (v := .tuple #[.agg #[.int .i64 0, .int .i64 0, .slice none 0 0], .int .i64 4]) (by simp [results, Tryd.results18, go_sem, e0, e1, e2]) rfl ?_
          rw [HER.out]
          exact ⟨none, 0, 0, rfl, RI.none_ _, below_set3 HBW6.out (Nat.le_refl _) _ _ _⟩
        · obtain ⟨Q, rfl⟩ := Int.eq_ofNat_of_zero_le (show 0 ≤ p by omega)
          have HGO : Keep (Pl.unrun N N (-1) r0 = Pl.join (z ++ List.replicate Q y) (Pl.unrun g (N - (m + Q)) y (r.drop v))) := ⟨by
            have h := Pl.unrun_step g (N - m) last r (by omega) HTW2.out (by simp only [beq_eq_false_iff_ne] at h5; omega)
            rw [HUN.out, h, Pl.join_join, Int.toNat_natCast, Nat.sub_sub]⟩
          have hQ1 : 1 ≤ Q := by omega
          have hQ2 : m + Q ≤ N := by omega
          clear HBAD HUN HR
          go_wp2
          clear h1 h2 h3 h4 h5 hne hne' hne2 hne2' e0 e1 e2 ef el5
          obtain ⟨wo, rfl⟩ : ∃ wo : World, wo = wr := ⟨_, rfl⟩
          go_loopw [8, 95] (fun v i wr => ∃ (j : Nat) (B' : Option Addr) (m' d' : Nat), j ≤ Q ∧ i = .int .i64 j ∧ v = .slice B' m' d' ∧ OI wr w3.heap.size B' m' d' (z ++ List.replicate j y) ∧ m' = m + j ∧ Below w3.heap.size w3 wr) (fun _ i _ => Q - (intOf i).toNat)
          case atStart => exact ⟨0, B, m, d, Nat.zero_le _, rfl, rfl, by simpa using HOI6.out, rfl, HB6.out⟩
          case round =>
            obtain ⟨j, B', m', d', hj, rfl, rfl, hoi, hmj, hb⟩ := hrel
            have HOI' := Lib.hid hoi
            have HB' := Lib.hid hb
            have HMJ := Keep.mk hmj
            have hm' : m' ≤ 65536 := by omega
            have hws' := hb.size
            clear hoi hb hmj
            by_cases hjQ : j < Q
            · go_wp2_with (at_builtin; refine append_oi _ rfl (.tmp 97) (.tmp 99) rfl w3.heap.size B' m' d' _ rfl (HOI'.out.below (below_alloc1 _ _)) _ 1 1 [y] rfl (ri_one _ _) (by omega) (by simp; omega) ?_; intro A7 n7 c7 w7 ht hb7; have HT7 := Lib.hid ht; have HB7 := Lib.hid hb7; clear ht hb7)
              go_roundw
              case rel =>
                refine ⟨j + 1, A7, n7, c7, by omega, by go_num, rfl, ?_, ?_, (HB'.out.alloc hws' _).trans HB7.out⟩
                · have h := HT7.out
                  rwa [List.append_assoc, ← List.replicate_succ'] at h
                · have h1 := HT7.out.ri.len
                  have h2 := HOI'.out.ri.len
                  have h3 := HMJ.out
                  rw [List.length_append] at h1
                  simp at h1 h2
                  omega
              case measure => simp [intOf]; omega
            · obtain rfl : j = Q := by omega
              go_wp2
              go_roundw
              case rel => exact ⟨g, A5, n5, c5, r.drop v, B', m', d', _, y, rfl, rfl, rfl, HR6.out, HOI'.out, by rw [HGO.out, HMJ.out], by have := HMJ.out; omega, by have := HMJ.out; omega, HB'.out⟩
              case measure => have := HMJ.out; simp; omega
      · have b1 : (q != 0) = true := by simpa using hq
        have HER : Keep (Pl.unpack l = (0, 0, [], q)) := ⟨by
          have h := Pl.unrun_err g (N - m) last r (by omega) (e := q) (by rw [HTW2.out]) hq
          rw [HUB.out, HUN.out, h, Pl.join_err z _ rfl hq, if_pos hq]⟩
        clear hq
        go_wp2
        refine bodyPost_ret (v := .tuple #[.agg #[.int .i64 0, .int .i64 0, .slice none 0 0], .int .i64 q]) (by simp [results, Tryd.results18, go_sem, e0, e1, e2]) rfl ?_
        rw [HER.out]
        refine ⟨none, 0, 0, rfl, RI.none_ _, ?_⟩
        exact below_set3 ((HBW.out.setCell (Nat.le_of_lt el) _).setCell (Nat.le_of_lt el) _) (Nat.le_refl _) _ _ _
    · obtain rfl : m = N := by omega
      clear hlt
      have HZ : Keep (Pl.unrun m m (-1) r0 = if r = [] then (z, 0) else ([], 4)) := ⟨by
        rw [HUN.out, Nat.sub_self, Pl.unrun_zero]
        by_cases h0 : r = []
        · simp [Pl.join, h0]
        · simp [Pl.join, h0]⟩
      have hlr := HR.out.len
      by_cases h0 : r = []
      · have hn0 : n' = 0 := by rw [h0] at hlr; simpa using hlr.symm
        have HER : Keep (Pl.unpack l = (W, H, z, 0)) := ⟨by rw [HUB.out, HZ.out, if_pos h0]; simp⟩
        subst hn0
        clear hlr h0
        go_wp2
        refine bodyPost_ret (v := .tuple #[.agg #[.int .i64 W, .int .i64 H, .slice B m d], .int .i64 0]) (by simp [results, Tryd.results18, go_sem, e0, e1, e2]) rfl ?_
        rw [HER.out]
        have HBW : Below w.heap.size w wr := HB3.out.trans (HB.out.mono HB3.out.size)
        have hlb := BX.out.lt
        exact ⟨B, m, d, rfl, (((HOI.out.set (p := ⟨_, _, none⟩) hlb _).set (p := ⟨_, _, none⟩) hlb _).set (p := ⟨_, _, none⟩) hlb _).ri, below_set3 HBW (Nat.le_refl _) _ _ _⟩
      · have hn0 : 0 < n' := by rcases Nat.eq_zero_or_pos n' with h | h; exact absurd (List.eq_nil_of_length_eq_zero (by omega)) h0; exact h
        have HER : Keep (Pl.unpack l = (0, 0, [], 4)) := ⟨by rw [HUB.out, HZ.out, if_neg h0]; simp⟩
        have HBW : Hid (Below w.heap.size w wr) := HB3.out.trans (HB.out.mono HB3.out.size)
        clear hlr h0
        go_wp2
        refine bodyPost_ret (v := .tuple #[.agg #[.int .i64 0, .int .i64 0, .slice none 0 0], .int .i64 4]) (by simp [results, Tryd.results18, go_sem, e0, e1, e2]) rfl ?_
        rw [HER.out]
        exact ⟨none, 0, 0, rfl, RI.none_ _, below_set3 HBW.out (Nat.le_refl _) _ _ _⟩

theorem unpack_any (A : Option Addr) (n c : Nat) (l : List UInt8) (w : World) (hl : RB w A n c l) (ht : Tab w) : Calls Tryd.prog 18 #[.slice A n c] w (RetPl w (Pl.unpack l)) := by
  by_cases hn : 1048576 < n
  · exact unpack_big A n c l w hl hn
  · by_cases ho : (Pl.opened l).2 = 0
    · have ho' : Pl.opened l = ((Pl.opened l).1, 0) := by rw [← ho]
      by_cases he : (Pl.two (Pl.opened l).1).2.2.2 ≠ 0 ∨ (Pl.side (Pl.two (Pl.opened l).1).1 && Pl.side (Pl.two (Pl.opened l).1).2.1) = false
      · exact unpack_err2 A n c l _ w hl ht (by omega) ho' he
      · obtain ⟨h1, h2⟩ : (Pl.two (Pl.opened l).1).2.2.2 = 0 ∧ (Pl.side (Pl.two (Pl.opened l).1).1 && Pl.side (Pl.two (Pl.opened l).1).2.1) = true := by
          refine ⟨?_, ?_⟩
          · exact Decidable.byContradiction fun h => he (.inl h)
          · cases h : (Pl.side (Pl.two (Pl.opened l).1).1 && Pl.side (Pl.two (Pl.opened l).1).2.1)
            · exact absurd (.inr h) he
            · rfl
        exact unpack_loop A n c l _ _ _ (Pl.two (Pl.opened l).1).2.2.1 w hl ht (by omega) ho' (by rw [← h1]) h2
    · exact unpack_err1 A n c l w hl ht (by omega) ho
end Go.Proofs.YtpppgceccikodaaDoor
