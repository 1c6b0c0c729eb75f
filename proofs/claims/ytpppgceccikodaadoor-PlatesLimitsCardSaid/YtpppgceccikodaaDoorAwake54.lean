/- The examples of the chapter ('awake'). -/
import Derived.Test.YtpppgceccikodaaDoorLimit
import Derived.Test.YtpppgceccikodaaDoorSame54
import Derived.Test.YtpppgceccikodaaDoorRef03
import Derived.Test.YtpppgceccikodaaDoorPlates2
namespace Go.Proofs.YtpppgceccikodaaDoor
open Go.RowKit Go.Joins

theorem ex_check : Pl.check 2 2 [0, 0, 0, 5] = 0 := by decide +kernel
theorem ex_body : Pl.body 2 2 [0, 0, 0, 5] = [4, 4, 6, 0, 2, 10] := by
  unfold Pl.body
  rw [show ([0, 0, 0, 5] : List Int) = List.replicate 3 0 ++ [5] from rfl, Pl.packed_rep 0 3 [5] (by decide) (by decide), show ([5] : List Int) = List.replicate 1 5 ++ [] from rfl, Pl.packed_rep 5 1 [] (by decide) (by decide), Pl.packed_nil]
  decide +kernel
theorem ex_pack : Pl.pack 2 2 [0, 0, 0, 5] = M.sealed [4, 4, 6, 0, 2, 10] := by unfold Pl.pack; rw [ex_body]
theorem ex_unpack : Pl.unpack (M.sealed [4, 4, 6, 0, 2, 10]) = (2, 2, [0, 0, 0, 5], 0) := by rw [← ex_pack]; exact Pl.unpack_pack ex_check (by decide)
theorem ex_bad : Pl.unpack (M.sealed [4, 4, 2, 0, 4, 0, 2, 10]) = (0, 0, [], 4) := by decide +kernel
theorem ex_total : Pl.total 2 2 [0, 0, 0, 5] = 5 := by decide +kernel
theorem ex_arg : Pl.check 1 1 [] = 1 := by decide +kernel
/-- A plate of one cell. -/
def onep (A : Option Addr) (n c : Nat) (v : Int) : Pd := ⟨1, 1, A, n, c, [v]⟩
theorem ex_err (A0 A1 A2 A3 : Option Addr) (n0 n1 n2 n3 c0 c1 c2 c3 : Nat) (m : Int) (h : 0 ≤ m ∧ m ≤ 400) : limErr (onep A0 n0 c0 80) (onep A1 n1 c1 60) (onep A2 n2 c2 40) (onep A3 n3 c3 90) m = 0 := by
  have e0 : (onep A0 n0 c0 80).chk = 0 := by show Pl.check 1 1 [80] = 0; decide +kernel
  have e1 : (onep A1 n1 c1 60).chk = 0 := by show Pl.check 1 1 [60] = 0; decide +kernel
  have e2 : (onep A2 n2 c2 40).chk = 0 := by show Pl.check 1 1 [40] = 0; decide +kernel
  have e3 : (onep A3 n3 c3 90).chk = 0 := by show Pl.check 1 1 [90] = 0; decide +kernel
  unfold limErr
  rw [e0, e1, e2, e3]
  simp [onep]
  omega
theorem ex_red (A0 A1 A2 A3 : Option Addr) (n1 n2 n3 c0 c1 c2 c3 : Nat) (m : Int) : redAll (onep A0 1 c0 80) (onep A1 n1 c1 60) (onep A2 n2 c2 40) (onep A3 n3 c3 90) m = [Pl.reduce 80 60 40 90 m] := by
  simp [redAll, onep, List.range_succ]
theorem ex_180 : Pl.reduce 80 60 40 90 180 = (40, 30, 20, 90) := by decide +kernel
theorem ex_50 : Pl.reduce 80 60 40 90 50 = (0, 0, 0, 50) := by decide +kernel
theorem below_next {B : Nat} {w w' w'' : World} (h : Below B w w') (hb : Below w'.heap.size w' w'') (hB : B ≤ w.heap.size) : Below B w w'' := h.trans (hb.mono (Nat.le_trans hB h.size))
/-- Plates of one cell that were made so far. -/
def Acc (w : World) (L : List (Option Addr × Nat × Nat × Int)) : Prop := ∀ x ∈ L, RI w x.1 x.2.1 x.2.2.1 [x.2.2.2]
theorem Acc.below {w w' : World} {L : List (Option Addr × Nat × Nat × Int)} (h : Acc w L) (hb : Below w.heap.size w w') : Acc w' L := fun x hx => (h x hx).below hb
theorem Acc.step {w w' : World} {L : List (Option Addr × Nat × Nat × Int)} (h : Acc w L) (hb : Below w.heap.size w w') {A : Option Addr} {n c : Nat} {v : Int} (hr : RI w' A n c [v]) : Acc w' ((A, n, c, v) :: L) := by
  intro x hx
  rcases List.mem_cons.1 hx with rfl | hx
  · exact hr
  · exact (h x hx).below hb

/-- A plate of one cell with value r. -/
structure Pd.Is (w : World) (q : Pd) (r : Int) : Prop where
  w_ : q.w = 1
  h_ : q.h = 1
  l_ : q.l = [r]
  ok : q.Ok w
theorem Pd.Is.below {w w' : World} {q : Pd} {r : Int} (h : q.Is w r) (hb : Below w.heap.size w w') : q.Is w' r := ⟨h.w_, h.h_, h.l_, h.ok.below hb⟩
theorem Pd.Is.eq {w : World} {q : Pd} {r : Int} (h : q.Is w r) {A : Option Addr} {n c : Nat} (hr : RI w A n c [r]) : Pd.Eq w q (onep A n c r) := ⟨h.w_, h.h_, h.l_, h.ok, hr⟩
theorem limit_one (A0 A1 A2 A3 : Option Addr) (c0 c1 c2 c3 : Nat) (m r0 r1 r2 r3 : Int) (hm : 0 ≤ m ∧ m ≤ 400) (hred : Pl.reduce 80 60 40 90 m = (r0, r1, r2, r3)) (w : World) (h0 : RI w A0 1 c0 [80]) (h1 : RI w A1 1 c1 [60]) (h2 : RI w A2 1 c2 [40]) (h3 : RI w A3 1 c3 [90]) :
    Calls Tryd.prog 22 #[.agg #[.int .i64 1, .int .i64 1, .slice A0 1 c0, .int .i64 1, .int .i64 1, .slice A1 1 c1, .int .i64 1, .int .i64 1, .slice A2 1 c2, .int .i64 1, .int .i64 1, .slice A3 1 c3], .int .i64 m] w fun e w' => ∃ q0 q1 q2 q3 : Pd, e = .returned (.tuple #[.agg #[.int .i64 q0.w, .int .i64 q0.h, .slice q0.a q0.n q0.c, .int .i64 q1.w, .int .i64 q1.h, .slice q1.a q1.n q1.c, .int .i64 q2.w, .int .i64 q2.h, .slice q2.a q2.n q2.c, .int .i64 q3.w, .int .i64 q3.h, .slice q3.a q3.n q3.c], .int .i64 0]) ∧ q0.Is w' r0 ∧ q1.Is w' r1 ∧ q2.Is w' r2 ∧ q3.Is w' r3 ∧ Below w.heap.size w w' := by
  refine Calls.mono (limit_any (onep A0 1 c0 80) (onep A1 1 c1 60) (onep A2 1 c2 40) (onep A3 1 c3 90) m w h0 h1 h2 h3) ?_
  rintro e w' ⟨q0, q1, q2, q3, he, k0, k1, k2, k3, hb, hq⟩
  have hE := ex_err A0 A1 A2 A3 1 1 1 1 c0 c1 c2 c3 m hm
  rcases hq with ⟨hne, _⟩ | ⟨_, a1, a2, a3, a4, a5, a6, a7, a8, b1, b2, b3, b4⟩
  · exact absurd hE hne
  · rw [ex_red, hred] at b1 b2 b3 b4
    rw [hE] at he
    exact ⟨q0, q1, q2, q3, he, ⟨a1, a2, b1, k0⟩, ⟨a3, a4, b2, k1⟩, ⟨a5, a6, b3, k2⟩, ⟨a7, a8, b4, k3⟩, hb⟩

set_option maxRecDepth 100000 in
set_option maxHeartbeats 8000000 in
theorem awake_any (w : World) (ht : Tab w) : Calls Tryd.prog 10 #[] w fun e w' => e = .returned (.bool true) ∧ Below w.heap.size w w' := by
  have HT := Keep.mk ht
  clear ht
  go_enter Tryd.func10, Tryd.ntmps10
  go_wp2_with fail
  have hl := (ri_lit w [0, 0, 0, 5] (0, 0) 3 (by decide)).below (below_alloc1 _ (.cells #[.int .i64 2, .int .i64 2, .slice (some ⟨w.heap.size, 0, none⟩) 4 4] 24))
  have HB1 : Hid (Below w.heap.size w ((w.alloc (.cells ([0, 0, 0, 5].map iv).toArray 3)).alloc (.cells #[.int .i64 2, .int .i64 2, .slice (some ⟨w.heap.size, 0, none⟩) 4 4] 24))) := (below_alloc1 _ _).alloc (by simp) _
  have PX := Keep.mk (Bx.new (w.alloc (.cells ([0, 0, 0, 5].map iv).toArray 3)) [.int .i64 2, .int .i64 2, .slice (some ⟨w.heap.size, 0, none⟩) 4 4] 24)
  have HL1 : Hid (RI ((w.alloc (.cells ([0, 0, 0, 5].map iv).toArray 3)).alloc (.cells #[.int .i64 2, .int .i64 2, .slice (some ⟨w.heap.size, 0, none⟩) 4 4] 24)) (some ⟨w.heap.size, 0, none⟩) 4 4 [0, 0, 0, 5]) := hl
  clear hl
  simp only [List.map_cons, List.map_nil, iv] at HB1 PX HL1
  generalize hw1 : (w.alloc _).alloc _ = w1 at *
  rw [World.size_alloc] at PX
  clear hw1
  refine (pack_ok 2 2 (some ⟨w.heap.size, 0, none⟩) 4 4 [0, 0, 0, 5] w1 HL1.out (HT.out.below HB1.out) ex_check).mono ?_
  rw [ex_pack]
  rintro e w2 ⟨A2, n2, c2, rfl, hr, hb⟩
  have HR2 := Lib.hid hr
  have HB2 : Hid (Below w.heap.size w w2) := HB1.out.trans (hb.mono HB1.out.size)
  have HL2 := Lib.hid (HL1.out.below hb)
  have PX2 := Keep.mk (PX.out.below hb)
  clear hr hb HB1 HL1 PX
  go_wp2_with fail
  refine (unpack_any A2 n2 c2 _ w2 HR2.out (HT.out.below HB2.out)).mono ?_
  rw [ex_unpack]
  rintro e w3 ⟨A3, n3, c3, rfl, hr, hb⟩
  unfold plv
  have HR3 := Lib.hid ((hr).below (below_alloc1 w3 (.cells #[.int .i64 2, .int .i64 2, .slice A3 n3 c3] 24)))
  have QX3 := Keep.mk (Bx.new w3 [.int .i64 2, .int .i64 2, .slice A3 n3 c3] 24)
  have HB23 := Lib.hid (hb.alloc hb.size (.cells #[.int .i64 2, .int .i64 2, .slice A3 n3 c3] 24))
  have HB3 : Hid (Below w.heap.size w (w3.alloc (.cells #[.int .i64 2, .int .i64 2, .slice A3 n3 c3] 24))) := HB2.out.trans (HB23.out.mono HB2.out.size)
  clear hr hb
  go_wp2_with fail
  generalize hw3 : w3.alloc (.cells #[.int .i64 2, .int .i64 2, .slice A3 n3 c3] 24) = w3' at *
  have hs3 : w3'.heap.size = w3.heap.size + 1 := by rw [← hw3]; simp
  clear hw3
  have hc := rseal_any (some ⟨w3'.heap.size, 0, none⟩) 8 8 [4, 4, 2, 0, 4, 0, 2, 10] (w3'.alloc (.cells #[.int .u8 4, .int .u8 4, .int .u8 2, .int .u8 0, .int .u8 4, .int .u8 0, .int .u8 2, .int .u8 10] 5)) (rb_lit w3' [4, 4, 2, 0, 4, 0, 2, 10] (0, 0) 5 (by decide)) (by decide)
  rw [hs3] at hc
  have HB3a : Hid (Below w3'.heap.size w3' (w3'.alloc (.cells #[.int .u8 4, .int .u8 4, .int .u8 2, .int .u8 0, .int .u8 4, .int .u8 0, .int .u8 2, .int .u8 10] 5))) := below_alloc1 _ _
  generalize w3'.alloc (.cells #[.int .u8 4, .int .u8 4, .int .u8 2, .int .u8 0, .int .u8 4, .int .u8 0, .int .u8 2, .int .u8 10] 5) = w3a at *
  refine hc.mono ?_
  clear hc
  rintro e w4 ⟨A4, n4, c4, rfl, hr, hb⟩
  have HR4 := Lib.hid hr
  have HB34 : Hid (Below w3'.heap.size w3' w4) := HB3a.out.trans (hb.mono HB3a.out.size)
  have HB4 : Hid (Below w.heap.size w w4) := HB3.out.trans (HB34.out.mono HB3.out.size)
  clear hr hb HB3a
  go_wp2_with fail
  refine (unpack_any A4 n4 c4 _ w4 HR4.out (HT.out.below HB4.out)).mono ?_
  rw [ex_bad]
  rintro e w5 ⟨A5, n5, c5, rfl, hr, hb⟩
  unfold plv
  have HB35 : Hid (Below w3'.heap.size w3' (w5.alloc (.cells #[.int .i64 0, .int .i64 0, .slice A5 n5 c5] 24))) := HB34.out.trans ((hb.alloc hb.size _).mono HB34.out.size)
  have HB5 : Hid (Below w.heap.size w (w5.alloc (.cells #[.int .i64 0, .int .i64 0, .slice A5 n5 c5] 24))) := HB4.out.trans ((hb.alloc hb.size _).mono HB4.out.size)
  clear hr hb HB34 HB4
  go_wp2_with fail
  generalize w5.alloc (.cells #[.int .i64 0, .int .i64 0, .slice A5 n5 c5] 24) = w6 at *
  have A6 : Hid (Acc w6 []) := fun x hx => by cases hx
  refine (one_any 80 w6).mono ?_
  rintro e w7 ⟨B0, m0, d0, rfl, hr, hb⟩
  have AC7 := Lib.hid (Acc.step A6.out hb hr)
  have HC7 : Hid (Below w3'.heap.size w3' w7) := HB35.out.trans (hb.mono HB35.out.size)
  have HW7 : Hid (Below w.heap.size w w7) := HB5.out.trans (hb.mono HB5.out.size)
  clear hr hb
  go_wp2_with fail
  refine (one_any 60 w7).mono ?_
  rintro e w8 ⟨B1, m1, d1, rfl, hr, hb⟩
  have AC8 := Lib.hid (Acc.step AC7.out hb hr)
  have HC8 : Hid (Below w3'.heap.size w3' w8) := HC7.out.trans (hb.mono HC7.out.size)
  have HW8 : Hid (Below w.heap.size w w8) := HW7.out.trans (hb.mono HW7.out.size)
  clear hr hb
  go_wp2_with fail
  refine (one_any 40 w8).mono ?_
  rintro e w9 ⟨B2, m2, d2, rfl, hr, hb⟩
  have AC9 := Lib.hid (Acc.step AC8.out hb hr)
  have HC9 : Hid (Below w3'.heap.size w3' w9) := HC8.out.trans (hb.mono HC8.out.size)
  have HW9 : Hid (Below w.heap.size w w9) := HW8.out.trans (hb.mono HW8.out.size)
  clear hr hb
  go_wp2_with fail
  refine (one_any 90 w9).mono ?_
  rintro e w10 ⟨B3, m3, d3, rfl, hr, hb⟩
  have AC10 := Lib.hid (Acc.step AC9.out hb hr)
  have HC10 : Hid (Below w3'.heap.size w3' w10) := HC9.out.trans (hb.mono HC9.out.size)
  have HW10 : Hid (Below w.heap.size w w10) := HW9.out.trans (hb.mono HW9.out.size)
  clear hr hb
  go_wp2_with fail
  obtain rfl : m0 = 1 := (AC7.out _ (List.mem_cons_self ..)).len.symm
  obtain rfl : m1 = 1 := (AC8.out _ (List.mem_cons_self ..)).len.symm
  obtain rfl : m2 = 1 := (AC9.out _ (List.mem_cons_self ..)).len.symm
  obtain rfl : m3 = 1 := (AC10.out _ (List.mem_cons_self ..)).len.symm
  have AX := Lib.hid (AC10.out.below (below_alloc1 w10 (.cells #[.int .i64 1, .int .i64 1, .slice B0 1 d0, .int .i64 1, .int .i64 1, .slice B1 1 d1, .int .i64 1, .int .i64 1, .slice B2 1 d2, .int .i64 1, .int .i64 1, .slice B3 1 d3] 39)))
  have XX := Keep.mk (Bx.new w10 [.int .i64 1, .int .i64 1, .slice B0 1 d0, .int .i64 1, .int .i64 1, .slice B1 1 d1, .int .i64 1, .int .i64 1, .slice B2 1 d2, .int .i64 1, .int .i64 1, .slice B3 1 d3] 39)
  have HC11 : Hid (Below w3'.heap.size w3' (w10.alloc (.cells #[.int .i64 1, .int .i64 1, .slice B0 1 d0, .int .i64 1, .int .i64 1, .slice B1 1 d1, .int .i64 1, .int .i64 1, .slice B2 1 d2, .int .i64 1, .int .i64 1, .slice B3 1 d3] 39))) := HC10.out.alloc HC10.out.size _
  have HW11 : Hid (Below w.heap.size w (w10.alloc (.cells #[.int .i64 1, .int .i64 1, .slice B0 1 d0, .int .i64 1, .int .i64 1, .slice B1 1 d1, .int .i64 1, .int .i64 1, .slice B2 1 d2, .int .i64 1, .int .i64 1, .slice B3 1 d3] 39))) := HW10.out.alloc HW10.out.size _
  generalize w10.alloc (.cells #[.int .i64 1, .int .i64 1, .slice B0 1 d0, .int .i64 1, .int .i64 1, .slice B1 1 d1, .int .i64 1, .int .i64 1, .slice B2 1 d2, .int .i64 1, .int .i64 1, .slice B3 1 d3] 39) = w11 at *
  clear AC7 AC8 AC9 AC10 HC7 HC8 HC9 HC10 HW7 HW8 HW9 HW10
  refine (limit_one B0 B1 B2 B3 d0 d1 d2 d3 180 40 30 20 90 (by decide) ex_180 w11 (AX.out (B0, 1, d0, 80) (by simp)) (AX.out (B1, 1, d1, 60) (by simp)) (AX.out (B2, 1, d2, 40) (by simp)) (AX.out (B3, 1, d3, 90) (by simp))).mono ?_
  rintro e w12 ⟨q0, q1, q2, q3, rfl, k0, k1, k2, k3, hb⟩
  have YX := Keep.mk (Bx.new w12 [.int .i64 q0.w, .int .i64 q0.h, .slice q0.a q0.n q0.c, .int .i64 q1.w, .int .i64 q1.h, .slice q1.a q1.n q1.c, .int .i64 q2.w, .int .i64 q2.h, .slice q2.a q2.n q2.c, .int .i64 q3.w, .int .i64 q3.h, .slice q3.a q3.n q3.c] 39)
  have hb' := hb.alloc hb.size (.cells #[.int .i64 q0.w, .int .i64 q0.h, .slice q0.a q0.n q0.c, .int .i64 q1.w, .int .i64 q1.h, .slice q1.a q1.n q1.c, .int .i64 q2.w, .int .i64 q2.h, .slice q2.a q2.n q2.c, .int .i64 q3.w, .int .i64 q3.h, .slice q3.a q3.n q3.c] 39)
  have J0 := Keep.mk (k0.below (below_alloc1 w12 (.cells #[.int .i64 q0.w, .int .i64 q0.h, .slice q0.a q0.n q0.c, .int .i64 q1.w, .int .i64 q1.h, .slice q1.a q1.n q1.c, .int .i64 q2.w, .int .i64 q2.h, .slice q2.a q2.n q2.c, .int .i64 q3.w, .int .i64 q3.h, .slice q3.a q3.n q3.c] 39)))
  have J1 := Keep.mk (k1.below (below_alloc1 w12 (.cells #[.int .i64 q0.w, .int .i64 q0.h, .slice q0.a q0.n q0.c, .int .i64 q1.w, .int .i64 q1.h, .slice q1.a q1.n q1.c, .int .i64 q2.w, .int .i64 q2.h, .slice q2.a q2.n q2.c, .int .i64 q3.w, .int .i64 q3.h, .slice q3.a q3.n q3.c] 39)))
  have J2 := Keep.mk (k2.below (below_alloc1 w12 (.cells #[.int .i64 q0.w, .int .i64 q0.h, .slice q0.a q0.n q0.c, .int .i64 q1.w, .int .i64 q1.h, .slice q1.a q1.n q1.c, .int .i64 q2.w, .int .i64 q2.h, .slice q2.a q2.n q2.c, .int .i64 q3.w, .int .i64 q3.h, .slice q3.a q3.n q3.c] 39)))
  have J3 := Keep.mk (k3.below (below_alloc1 w12 (.cells #[.int .i64 q0.w, .int .i64 q0.h, .slice q0.a q0.n q0.c, .int .i64 q1.w, .int .i64 q1.h, .slice q1.a q1.n q1.c, .int .i64 q2.w, .int .i64 q2.h, .slice q2.a q2.n q2.c, .int .i64 q3.w, .int .i64 q3.h, .slice q3.a q3.n q3.c] 39)))
  have HC13 : Hid (Below w3'.heap.size w3' (w12.alloc (.cells #[.int .i64 q0.w, .int .i64 q0.h, .slice q0.a q0.n q0.c, .int .i64 q1.w, .int .i64 q1.h, .slice q1.a q1.n q1.c, .int .i64 q2.w, .int .i64 q2.h, .slice q2.a q2.n q2.c, .int .i64 q3.w, .int .i64 q3.h, .slice q3.a q3.n q3.c] 39))) := HC11.out.trans (hb'.mono HC11.out.size)
  have HW13 : Hid (Below w.heap.size w (w12.alloc (.cells #[.int .i64 q0.w, .int .i64 q0.h, .slice q0.a q0.n q0.c, .int .i64 q1.w, .int .i64 q1.h, .slice q1.a q1.n q1.c, .int .i64 q2.w, .int .i64 q2.h, .slice q2.a q2.n q2.c, .int .i64 q3.w, .int .i64 q3.h, .slice q3.a q3.n q3.c] 39))) := HW11.out.trans (hb'.mono HW11.out.size)
  have XX13 := Keep.mk (XX.out.below hb')
  have AX13 := Lib.hid (AX.out.below hb')
  clear hb hb' k0 k1 k2 k3 XX AX HC11 HW11
  have x0 := XX13.out.cell 0 _ rfl
  have x1 := XX13.out.cell 1 _ rfl
  have x2 := XX13.out.cell 2 _ rfl
  have x3 := XX13.out.cell 3 _ rfl
  have x4 := XX13.out.cell 4 _ rfl
  have x5 := XX13.out.cell 5 _ rfl
  have x6 := XX13.out.cell 6 _ rfl
  have x7 := XX13.out.cell 7 _ rfl
  have x8 := XX13.out.cell 8 _ rfl
  have x9 := XX13.out.cell 9 _ rfl
  have x10 := XX13.out.cell 10 _ rfl
  have x11 := XX13.out.cell 11 _ rfl
  have xl := XX13.out.lt
  go_wp2_with fail
  generalize w12.alloc (.cells #[.int .i64 q0.w, .int .i64 q0.h, .slice q0.a q0.n q0.c, .int .i64 q1.w, .int .i64 q1.h, .slice q1.a q1.n q1.c, .int .i64 q2.w, .int .i64 q2.h, .slice q2.a q2.n q2.c, .int .i64 q3.w, .int .i64 q3.h, .slice q3.a q3.n q3.c] 39) = w13 at *
  clear x0 x1 x2 x3 x4 x5 x6 x7 x8 x9 x10 x11 xl
  refine (limit_one B0 B1 B2 B3 d0 d1 d2 d3 50 0 0 0 50 (by decide) ex_50 w13 (AX13.out (B0, 1, d0, 80) (by simp)) (AX13.out (B1, 1, d1, 60) (by simp)) (AX13.out (B2, 1, d2, 40) (by simp)) (AX13.out (B3, 1, d3, 90) (by simp))).mono ?_
  rintro e w14 ⟨s0, s1, s2, s3, rfl, k0, k1, k2, k3, hb⟩
  have ZX := Keep.mk (Bx.new w14 [.int .i64 s0.w, .int .i64 s0.h, .slice s0.a s0.n s0.c, .int .i64 s1.w, .int .i64 s1.h, .slice s1.a s1.n s1.c, .int .i64 s2.w, .int .i64 s2.h, .slice s2.a s2.n s2.c, .int .i64 s3.w, .int .i64 s3.h, .slice s3.a s3.n s3.c] 39)
  have hb' := hb.alloc hb.size (.cells #[.int .i64 s0.w, .int .i64 s0.h, .slice s0.a s0.n s0.c, .int .i64 s1.w, .int .i64 s1.h, .slice s1.a s1.n s1.c, .int .i64 s2.w, .int .i64 s2.h, .slice s2.a s2.n s2.c, .int .i64 s3.w, .int .i64 s3.h, .slice s3.a s3.n s3.c] 39)
  have I0 := Keep.mk (k0.below (below_alloc1 w14 (.cells #[.int .i64 s0.w, .int .i64 s0.h, .slice s0.a s0.n s0.c, .int .i64 s1.w, .int .i64 s1.h, .slice s1.a s1.n s1.c, .int .i64 s2.w, .int .i64 s2.h, .slice s2.a s2.n s2.c, .int .i64 s3.w, .int .i64 s3.h, .slice s3.a s3.n s3.c] 39)))
  have I1 := Keep.mk (k1.below (below_alloc1 w14 (.cells #[.int .i64 s0.w, .int .i64 s0.h, .slice s0.a s0.n s0.c, .int .i64 s1.w, .int .i64 s1.h, .slice s1.a s1.n s1.c, .int .i64 s2.w, .int .i64 s2.h, .slice s2.a s2.n s2.c, .int .i64 s3.w, .int .i64 s3.h, .slice s3.a s3.n s3.c] 39)))
  have I2 := Keep.mk (k2.below (below_alloc1 w14 (.cells #[.int .i64 s0.w, .int .i64 s0.h, .slice s0.a s0.n s0.c, .int .i64 s1.w, .int .i64 s1.h, .slice s1.a s1.n s1.c, .int .i64 s2.w, .int .i64 s2.h, .slice s2.a s2.n s2.c, .int .i64 s3.w, .int .i64 s3.h, .slice s3.a s3.n s3.c] 39)))
  have I3 := Keep.mk (k3.below (below_alloc1 w14 (.cells #[.int .i64 s0.w, .int .i64 s0.h, .slice s0.a s0.n s0.c, .int .i64 s1.w, .int .i64 s1.h, .slice s1.a s1.n s1.c, .int .i64 s2.w, .int .i64 s2.h, .slice s2.a s2.n s2.c, .int .i64 s3.w, .int .i64 s3.h, .slice s3.a s3.n s3.c] 39)))
  have JJ0 := Keep.mk (J0.out.below hb')
  have JJ1 := Keep.mk (J1.out.below hb')
  have JJ2 := Keep.mk (J2.out.below hb')
  have JJ3 := Keep.mk (J3.out.below hb')
  have YX15 := Keep.mk (YX.out.below hb')
  have HC15 : Hid (Below w3'.heap.size w3' (w14.alloc (.cells #[.int .i64 s0.w, .int .i64 s0.h, .slice s0.a s0.n s0.c, .int .i64 s1.w, .int .i64 s1.h, .slice s1.a s1.n s1.c, .int .i64 s2.w, .int .i64 s2.h, .slice s2.a s2.n s2.c, .int .i64 s3.w, .int .i64 s3.h, .slice s3.a s3.n s3.c] 39))) := HC13.out.trans (hb'.mono HC13.out.size)
  have HW15 : Hid (Below w.heap.size w (w14.alloc (.cells #[.int .i64 s0.w, .int .i64 s0.h, .slice s0.a s0.n s0.c, .int .i64 s1.w, .int .i64 s1.h, .slice s1.a s1.n s1.c, .int .i64 s2.w, .int .i64 s2.h, .slice s2.a s2.n s2.c, .int .i64 s3.w, .int .i64 s3.h, .slice s3.a s3.n s3.c] 39))) := HW13.out.trans (hb'.mono HW13.out.size)
  clear hb hb' k0 k1 k2 k3 J0 J1 J2 J3 YX HC13 HW13 XX13 AX13
  go_wp2_with fail
  generalize hw15 : w14.alloc (.cells #[.int .i64 s0.w, .int .i64 s0.h, .slice s0.a s0.n s0.c, .int .i64 s1.w, .int .i64 s1.h, .slice s1.a s1.n s1.c, .int .i64 s2.w, .int .i64 s2.h, .slice s2.a s2.n s2.c, .int .i64 s3.w, .int .i64 s3.h, .slice s3.a s3.n s3.c] 39) = w15 at *
  have hs15 : w15.heap.size = w14.heap.size + 1 := by rw [← hw15]; simp
  clear hw15
  have hc := rseal_any (some ⟨w15.heap.size, 0, none⟩) 6 6 [4, 4, 6, 0, 2, 10] (w15.alloc (.cells #[.int .u8 4, .int .u8 4, .int .u8 6, .int .u8 0, .int .u8 2, .int .u8 10] 5)) (rb_lit w15 [4, 4, 6, 0, 2, 10] (0, 0) 5 (by decide)) (by decide)
  rw [hs15] at hc
  have HB16a : Hid (Below w15.heap.size w15 (w15.alloc (.cells #[.int .u8 4, .int .u8 4, .int .u8 6, .int .u8 0, .int .u8 2, .int .u8 10] 5))) := below_alloc1 _ _
  generalize w15.alloc (.cells #[.int .u8 4, .int .u8 4, .int .u8 6, .int .u8 0, .int .u8 2, .int .u8 10] 5) = w15a at *
  refine hc.mono ?_
  clear hc
  rintro e w16 ⟨A6, n6, c6, rfl, hr, hb⟩
  have HR16 := Lib.hid hr
  have HD16 : Hid (Below w15.heap.size w15 w16) := HB16a.out.trans (hb.mono HB16a.out.size)
  clear hr hb HB16a
  have HC16 : Hid (Below w3'.heap.size w3' w16) := HC15.out.trans (HD16.out.mono HC15.out.size)
  have HB216 : Hid (Below w2.heap.size w2 w16) := HB23.out.trans (HC16.out.mono HB23.out.size)
  go_wp2_with fail
  refine (same_true A2 n2 c2 A6 n6 c6 _ w16 (HR2.out.below HB216.out) HR16.out).mono ?_
  rintro e w17 ⟨rfl, kq, hw17⟩
  have HD17 : Hid (Below w15.heap.size w15 w17) := by rw [hw17]; exact HD16.out.trans (below_draws _ _ _)
  clear hw17
  have HC17 : Hid (Below w3'.heap.size w3' w17) := HC15.out.trans (HD17.out.mono HC15.out.size)
  have HB217 : Hid (Below w2.heap.size w2 w17) := HB23.out.trans (HC17.out.mono HB23.out.size)
  have PX17 := Keep.mk (PX2.out.below HB217.out)
  have QX17 := Keep.mk (QX3.out.below HC17.out)
  have HL17 := Lib.hid (HL2.out.below HB217.out)
  have HR317 := Lib.hid (HR3.out.below HC17.out)
  have y0 := PX17.out.cell 0 _ rfl
  have y1 := PX17.out.cell 1 _ rfl
  have y2 := PX17.out.cell 2 _ rfl
  have z0 := QX17.out.cell 0 _ rfl
  have z1 := QX17.out.cell 1 _ rfl
  have z2 := QX17.out.cell 2 _ rfl
  go_wp2_with fail
  have hc : Calls Tryd.prog 19 #[.agg #[.int .i64 2, .int .i64 2, .slice (some ⟨w.heap.size, 0, none⟩) 4 4], .agg #[.int .i64 2, .int .i64 2, .slice A3 n3 c3]] w17 _ := psame_true 2 2 (some ⟨w.heap.size, 0, none⟩) 4 4 A3 n3 c3 [0, 0, 0, 5] w17 HL17.out HR317.out
  refine hc.mono ?_
  clear hc
  rintro e w18 ⟨rfl, hb⟩
  have HD18 : Hid (Below w15.heap.size w15 w18) := HD17.out.trans (hb.mono HD17.out.size)
  clear hb y0 y1 y2 z0 z1 z2 HR2 HR16 HR317 HL17 PX17 QX17 HD16 HC16 HB216 HC17 HB217 HD17
  have HC18 : Hid (Below w3'.heap.size w3' w18) := HC15.out.trans (HD18.out.mono HC15.out.size)
  have HW18 : Hid (Below w.heap.size w w18) := HW15.out.trans (HD18.out.mono HW15.out.size)
  have HB218 : Hid (Below w2.heap.size w2 w18) := HB23.out.trans (HC18.out.mono HB23.out.size)
  have PX18 := Keep.mk (PX2.out.below HB218.out)
  have YX18 := Keep.mk (YX15.out.below HD18.out)
  have ZX18 := Keep.mk (ZX.out.below HD18.out)
  have HL18 := Lib.hid (HL2.out.below HB218.out)
  have T0 := Keep.mk (JJ0.out.below HD18.out)
  have T1 := Keep.mk (JJ1.out.below HD18.out)
  have T2 := Keep.mk (JJ2.out.below HD18.out)
  have T3 := Keep.mk (JJ3.out.below HD18.out)
  have U0 := Keep.mk (I0.out.below HD18.out)
  have U1 := Keep.mk (I1.out.below HD18.out)
  have U2 := Keep.mk (I2.out.below HD18.out)
  have U3 := Keep.mk (I3.out.below HD18.out)
  clear JJ0 JJ1 JJ2 JJ3 I0 I1 I2 I3 YX15 ZX HL2 HR3 HR4 QX3 PX2 HB218 HC15 HW15 HC18 HD18
  have AC : Hid (Acc w18.drew []) := fun x hx => by cases hx
  have HC : Hid (Below w18.heap.size w18 w18.drew) := below_draws _ _ 1
  have KP : Hid (∀ X, Below w18.heap.size w18 X → X.cell? ⟨w12.heap.size, 0, none⟩ = some (.int .i64 q0.w) ∧ X.cell? ⟨w12.heap.size, 1, none⟩ = some (.int .i64 q0.h) ∧ X.cell? ⟨w12.heap.size, 2, none⟩ = some (.slice q0.a q0.n q0.c) ∧ X.cell? ⟨w12.heap.size, 3, none⟩ = some (.int .i64 q1.w) ∧ X.cell? ⟨w12.heap.size, 4, none⟩ = some (.int .i64 q1.h) ∧ X.cell? ⟨w12.heap.size, 5, none⟩ = some (.slice q1.a q1.n q1.c) ∧ X.cell? ⟨w12.heap.size, 6, none⟩ = some (.int .i64 q2.w) ∧ X.cell? ⟨w12.heap.size, 7, none⟩ = some (.int .i64 q2.h) ∧ X.cell? ⟨w12.heap.size, 8, none⟩ = some (.slice q2.a q2.n q2.c) ∧ X.cell? ⟨w12.heap.size, 9, none⟩ = some (.int .i64 q3.w) ∧ X.cell? ⟨w12.heap.size, 10, none⟩ = some (.int .i64 q3.h) ∧ X.cell? ⟨w12.heap.size, 11, none⟩ = some (.slice q3.a q3.n q3.c) ∧ X.cell? ⟨w14.heap.size, 0, none⟩ = some (.int .i64 s0.w) ∧ X.cell? ⟨w14.heap.size, 1, none⟩ = some (.int .i64 s0.h) ∧ X.cell? ⟨w14.heap.size, 2, none⟩ = some (.slice s0.a s0.n s0.c) ∧ X.cell? ⟨w14.heap.size, 3, none⟩ = some (.int .i64 s1.w) ∧ X.cell? ⟨w14.heap.size, 4, none⟩ = some (.int .i64 s1.h) ∧ X.cell? ⟨w14.heap.size, 5, none⟩ = some (.slice s1.a s1.n s1.c) ∧ X.cell? ⟨w14.heap.size, 6, none⟩ = some (.int .i64 s2.w) ∧ X.cell? ⟨w14.heap.size, 7, none⟩ = some (.int .i64 s2.h) ∧ X.cell? ⟨w14.heap.size, 8, none⟩ = some (.slice s2.a s2.n s2.c) ∧ X.cell? ⟨w14.heap.size, 9, none⟩ = some (.int .i64 s3.w) ∧ X.cell? ⟨w14.heap.size, 10, none⟩ = some (.int .i64 s3.h) ∧ X.cell? ⟨w14.heap.size, 11, none⟩ = some (.slice s3.a s3.n s3.c) ∧ X.cell? ⟨w.heap.size + 1, 0, none⟩ = some (.int .i64 2) ∧ X.cell? ⟨w.heap.size + 1, 1, none⟩ = some (.int .i64 2) ∧ X.cell? ⟨w.heap.size + 1, 2, none⟩ = some (.slice (some ⟨w.heap.size, 0, none⟩) 4 4)) := fun X h => ⟨(YX18.out.below h).cell 0 _ rfl, (YX18.out.below h).cell 1 _ rfl, (YX18.out.below h).cell 2 _ rfl, (YX18.out.below h).cell 3 _ rfl, (YX18.out.below h).cell 4 _ rfl, (YX18.out.below h).cell 5 _ rfl, (YX18.out.below h).cell 6 _ rfl, (YX18.out.below h).cell 7 _ rfl, (YX18.out.below h).cell 8 _ rfl, (YX18.out.below h).cell 9 _ rfl, (YX18.out.below h).cell 10 _ rfl, (YX18.out.below h).cell 11 _ rfl, (ZX18.out.below h).cell 0 _ rfl, (ZX18.out.below h).cell 1 _ rfl, (ZX18.out.below h).cell 2 _ rfl, (ZX18.out.below h).cell 3 _ rfl, (ZX18.out.below h).cell 4 _ rfl, (ZX18.out.below h).cell 5 _ rfl, (ZX18.out.below h).cell 6 _ rfl, (ZX18.out.below h).cell 7 _ rfl, (ZX18.out.below h).cell 8 _ rfl, (ZX18.out.below h).cell 9 _ rfl, (ZX18.out.below h).cell 10 _ rfl, (ZX18.out.below h).cell 11 _ rfl, (PX18.out.below h).cell 0 _ rfl, (PX18.out.below h).cell 1 _ rfl, (PX18.out.below h).cell 2 _ rfl⟩
  have SF1 : Hid (∀ X, Below w18.heap.size w18 X → ∀ (a0 : Option Addr) (m0 e0 : Nat) (a1 : Option Addr) (m1 e1 : Nat) (a2 : Option Addr) (m2 e2 : Nat) (a3 : Option Addr) (m3 e3 : Nat), (∃ L, Acc X ((a3, m3, e3, 90) :: (a2, m2, e2, 20) :: (a1, m1, e1, 30) :: (a0, m0, e0, 40) :: L)) → Calls Tryd.prog 24 #[.agg #[.int .i64 q0.w, .int .i64 q0.h, .slice q0.a q0.n q0.c, .int .i64 q1.w, .int .i64 q1.h, .slice q1.a q1.n q1.c, .int .i64 q2.w, .int .i64 q2.h, .slice q2.a q2.n q2.c, .int .i64 q3.w, .int .i64 q3.h, .slice q3.a q3.n q3.c], .agg #[.int .i64 1, .int .i64 1, .slice a0 m0 e0, .int .i64 1, .int .i64 1, .slice a1 m1 e1, .int .i64 1, .int .i64 1, .slice a2 m2 e2, .int .i64 1, .int .i64 1, .slice a3 m3 e3]] X fun e w' => e = .returned (.bool true) ∧ Below X.heap.size X w') := fun X h a0 m0 e0 a1 m1 e1 a2 m2 e2 a3 m3 e3 ⟨L, hA⟩ => samefour_true q0 q1 q2 q3 (onep a0 m0 e0 40) (onep a1 m1 e1 30) (onep a2 m2 e2 20) (onep a3 m3 e3 90) X ((T0.out.below h).eq (hA (a0, m0, e0, 40) (by simp))) ((T1.out.below h).eq (hA (a1, m1, e1, 30) (by simp))) ((T2.out.below h).eq (hA (a2, m2, e2, 20) (by simp))) ((T3.out.below h).eq (hA (a3, m3, e3, 90) (by simp)))
  have SF2 : Hid (∀ X, Below w18.heap.size w18 X → ∀ (a0 : Option Addr) (m0 e0 : Nat) (a1 : Option Addr) (m1 e1 : Nat) (a2 : Option Addr) (m2 e2 : Nat) (a3 : Option Addr) (m3 e3 : Nat), (∃ L, Acc X ((a3, m3, e3, 50) :: (a2, m2, e2, 0) :: (a1, m1, e1, 0) :: (a0, m0, e0, 0) :: L)) → Calls Tryd.prog 24 #[.agg #[.int .i64 s0.w, .int .i64 s0.h, .slice s0.a s0.n s0.c, .int .i64 s1.w, .int .i64 s1.h, .slice s1.a s1.n s1.c, .int .i64 s2.w, .int .i64 s2.h, .slice s2.a s2.n s2.c, .int .i64 s3.w, .int .i64 s3.h, .slice s3.a s3.n s3.c], .agg #[.int .i64 1, .int .i64 1, .slice a0 m0 e0, .int .i64 1, .int .i64 1, .slice a1 m1 e1, .int .i64 1, .int .i64 1, .slice a2 m2 e2, .int .i64 1, .int .i64 1, .slice a3 m3 e3]] X fun e w' => e = .returned (.bool true) ∧ Below X.heap.size X w') := fun X h a0 m0 e0 a1 m1 e1 a2 m2 e2 a3 m3 e3 ⟨L, hA⟩ => samefour_true s0 s1 s2 s3 (onep a0 m0 e0 0) (onep a1 m1 e1 0) (onep a2 m2 e2 0) (onep a3 m3 e3 50) X ((U0.out.below h).eq (hA (a0, m0, e0, 0) (by simp))) ((U1.out.below h).eq (hA (a1, m1, e1, 0) (by simp))) ((U2.out.below h).eq (hA (a2, m2, e2, 0) (by simp))) ((U3.out.below h).eq (hA (a3, m3, e3, 50) (by simp)))
  have TOT : Hid (∀ X, Below w18.heap.size w18 X → Calls Tryd.prog 13 #[.agg #[.int .i64 2, .int .i64 2, .slice (some ⟨w.heap.size, 0, none⟩) 4 4]] X fun e w' => e = .returned (.int .i64 5) ∧ Below X.heap.size X w') := fun X h => by have hh := total_any 2 2 (some ⟨w.heap.size, 0, none⟩) 4 4 [0, 0, 0, 5] X (HL18.out.below h); rw [ex_total] at hh; exact hh
  have CHK : Hid (∀ X, Calls Tryd.prog 11 #[.agg #[.int .i64 1, .int .i64 1, .slice none 0 0]] X fun e w' => e = .returned (.int .i64 1) ∧ Below X.heap.size X w') := fun X => by have hh := check_any 1 1 none 0 0 [] X (RI.none_ _); rw [ex_arg] at hh; exact hh
  clear T0 T1 T2 T3 U0 U1 U2 U3 HL18 YX18 ZX18 PX18
  go_wp2
  go_region_held3 (fun X => X.cell? ⟨w12.heap.size, 0, none⟩ = some (.int .i64 q0.w) ∧ X.cell? ⟨w12.heap.size, 1, none⟩ = some (.int .i64 q0.h) ∧ X.cell? ⟨w12.heap.size, 2, none⟩ = some (.slice q0.a q0.n q0.c) ∧ X.cell? ⟨w12.heap.size, 3, none⟩ = some (.int .i64 q1.w) ∧ X.cell? ⟨w12.heap.size, 4, none⟩ = some (.int .i64 q1.h) ∧ X.cell? ⟨w12.heap.size, 5, none⟩ = some (.slice q1.a q1.n q1.c) ∧ X.cell? ⟨w12.heap.size, 6, none⟩ = some (.int .i64 q2.w) ∧ X.cell? ⟨w12.heap.size, 7, none⟩ = some (.int .i64 q2.h) ∧ X.cell? ⟨w12.heap.size, 8, none⟩ = some (.slice q2.a q2.n q2.c) ∧ X.cell? ⟨w12.heap.size, 9, none⟩ = some (.int .i64 q3.w) ∧ X.cell? ⟨w12.heap.size, 10, none⟩ = some (.int .i64 q3.h) ∧ X.cell? ⟨w12.heap.size, 11, none⟩ = some (.slice q3.a q3.n q3.c) ∧ X.cell? ⟨w14.heap.size, 0, none⟩ = some (.int .i64 s0.w) ∧ X.cell? ⟨w14.heap.size, 1, none⟩ = some (.int .i64 s0.h) ∧ X.cell? ⟨w14.heap.size, 2, none⟩ = some (.slice s0.a s0.n s0.c) ∧ X.cell? ⟨w14.heap.size, 3, none⟩ = some (.int .i64 s1.w) ∧ X.cell? ⟨w14.heap.size, 4, none⟩ = some (.int .i64 s1.h) ∧ X.cell? ⟨w14.heap.size, 5, none⟩ = some (.slice s1.a s1.n s1.c) ∧ X.cell? ⟨w14.heap.size, 6, none⟩ = some (.int .i64 s2.w) ∧ X.cell? ⟨w14.heap.size, 7, none⟩ = some (.int .i64 s2.h) ∧ X.cell? ⟨w14.heap.size, 8, none⟩ = some (.slice s2.a s2.n s2.c) ∧ X.cell? ⟨w14.heap.size, 9, none⟩ = some (.int .i64 s3.w) ∧ X.cell? ⟨w14.heap.size, 10, none⟩ = some (.int .i64 s3.h) ∧ X.cell? ⟨w14.heap.size, 11, none⟩ = some (.slice s3.a s3.n s3.c) ∧ X.cell? ⟨w.heap.size + 1, 0, none⟩ = some (.int .i64 2) ∧ X.cell? ⟨w.heap.size + 1, 1, none⟩ = some (.int .i64 2) ∧ X.cell? ⟨w.heap.size + 1, 2, none⟩ = some (.slice (some ⟨w.heap.size, 0, none⟩) 4 4))
    (first | exact KP.out _ HC.out | exact KP.out _ (below_draws _ _ 1))
    (first
      | (go_at_call 26; ((refine (one_any _ _).mono ?_); rintro e wn ⟨Bn, mn, dn, rfl, hr, hb⟩; have AC := Lib.hid (Acc.step AC.out hb hr); have HC := Lib.hid (below_next HC.out hb (Nat.le_refl _)); clear hr hb))
      | (go_at_call 24; ((with_reducible refine (SF1.out _ HC.out _ _ _ _ _ _ _ _ _ _ _ _ ?_).mono ?_); (exact ⟨_, AC.out⟩); rintro e wn ⟨rfl, hb⟩; have AC := Lib.hid (AC.out.below hb); have HC := Lib.hid (below_next HC.out hb (Nat.le_refl _)); clear hb))
      | (go_at_call 24; ((with_reducible refine (SF2.out _ HC.out _ _ _ _ _ _ _ _ _ _ _ _ ?_).mono ?_); (exact ⟨_, AC.out⟩); rintro e wn ⟨rfl, hb⟩; have AC := Lib.hid (AC.out.below hb); have HC := Lib.hid (below_next HC.out hb (Nat.le_refl _)); clear hb))
      | (go_at_call 13; ((refine (TOT.out _ HC.out).mono ?_); rintro e wn ⟨rfl, hb⟩; have HC := Lib.hid (below_next HC.out hb (Nat.le_refl _)); clear hb))
      | (go_at_call 11; ((refine (CHK.out _).mono ?_); rintro e wn ⟨rfl, hb⟩; have HC := Lib.hid (below_next HC.out hb (Nat.le_refl _)); clear hb)))
  go_wp2
  go_ret
  exact ⟨rfl, HW18.out.trans (HC.out.mono HW18.out.size)⟩
end Go.Proofs.YtpppgceccikodaaDoor
