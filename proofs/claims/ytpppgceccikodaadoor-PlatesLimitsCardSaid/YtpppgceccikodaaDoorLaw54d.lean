/- PlatesLimits. -/
import Derived.Test.YtpppgceccikodaaDoorRLimit
import Derived.Test.YtpppgceccikodaaDoorSame54
import Derived.Test.YtpppgceccikodaaDoorAwake54
import Derived.Test.YtpppgceccikodaaDoorBound
namespace Go.Proofs.YtpppgceccikodaaDoor
open Go.RowKit Go.Joins

/-- Two limits of the same plates agree. -/
theorem lim_eq {X Y Z : World} {p0 p1 p2 p3 : Pd} {m : Int} {q0 q1 q2 q3 r0 r1 r2 r3 : Pd} (hX : Below X.heap.size X Z) (hY : Below Y.heap.size Y Z) (a0 : q0.Ok X) (a1 : q1.Ok X) (a2 : q2.Ok X) (a3 : q3.Ok X) (b0 : r0.Ok Y) (b1 : r1.Ok Y) (b2 : r2.Ok Y) (b3 : r3.Ok Y)
    (h : (limErr p0 p1 p2 p3 m ≠ 0 ∧ q0 = Pd.zero ∧ q1 = Pd.zero ∧ q2 = Pd.zero ∧ q3 = Pd.zero) ∨
     (limErr p0 p1 p2 p3 m = 0 ∧ q0.w = p0.w ∧ q0.h = p0.h ∧ q1.w = p1.w ∧ q1.h = p1.h ∧ q2.w = p2.w ∧ q2.h = p2.h ∧ q3.w = p3.w ∧ q3.h = p3.h ∧
      q0.l = (redAll p0 p1 p2 p3 m).map (·.1) ∧ q1.l = (redAll p0 p1 p2 p3 m).map (·.2.1) ∧ q2.l = (redAll p0 p1 p2 p3 m).map (·.2.2.1) ∧ q3.l = (redAll p0 p1 p2 p3 m).map (·.2.2.2)))
    (k : (limErr p0 p1 p2 p3 m ≠ 0 ∧ r0 = Pd.zero ∧ r1 = Pd.zero ∧ r2 = Pd.zero ∧ r3 = Pd.zero) ∨
     (limErr p0 p1 p2 p3 m = 0 ∧ r0.w = p0.w ∧ r0.h = p0.h ∧ r1.w = p1.w ∧ r1.h = p1.h ∧ r2.w = p2.w ∧ r2.h = p2.h ∧ r3.w = p3.w ∧ r3.h = p3.h ∧
      r0.l = (redAll p0 p1 p2 p3 m).map (·.1) ∧ r1.l = (redAll p0 p1 p2 p3 m).map (·.2.1) ∧ r2.l = (redAll p0 p1 p2 p3 m).map (·.2.2.1) ∧ r3.l = (redAll p0 p1 p2 p3 m).map (·.2.2.2))) :
    Pd.Eq Z q0 r0 ∧ Pd.Eq Z q1 r1 ∧ Pd.Eq Z q2 r2 ∧ Pd.Eq Z q3 r3 := by
  have a0 := a0.below hX
  have a1 := a1.below hX
  have a2 := a2.below hX
  have a3 := a3.below hX
  have b0 := b0.below hY
  have b1 := b1.below hY
  have b2 := b2.below hY
  have b3 := b3.below hY
  rcases h with ⟨h, rfl, rfl, rfl, rfl⟩ | ⟨h, c1, c2, c3, c4, c5, c6, c7, c8, l0, l1, l2, l3⟩
  · rcases k with ⟨_, rfl, rfl, rfl, rfl⟩ | ⟨k, _⟩
    · exact ⟨⟨rfl, rfl, rfl, a0, b0⟩, ⟨rfl, rfl, rfl, a1, b1⟩, ⟨rfl, rfl, rfl, a2, b2⟩, ⟨rfl, rfl, rfl, a3, b3⟩⟩
    · exact absurd k h
  · rcases k with ⟨k, _⟩ | ⟨k, d1, d2, d3, d4, d5, d6, d7, d8, m0, m1, m2, m3⟩
    · exact absurd h k
    · exact ⟨⟨c1.trans d1.symm, c2.trans d2.symm, l0.trans m0.symm, a0, b0⟩, ⟨c3.trans d3.symm, c4.trans d4.symm, l1.trans m1.symm, a1, b1⟩, ⟨c5.trans d5.symm, c6.trans d6.symm, l2.trans m2.symm, a2, b2⟩, ⟨c7.trans d7.symm, c8.trans d8.symm, l3.trans m3.symm, a3, b3⟩⟩

set_option maxRecDepth 100000 in
set_option maxHeartbeats 8000000 in
theorem law_limits (p0 p1 p2 p3 : Pd) (m : Int) (w : World) (h0 : p0.Ok w) (h1 : p1.Ok w) (h2 : p2.Ok w) (h3 : p3.Ok w) (ht : Tab w) : Calls Tryd.prog 7 #[.agg #[.int .i64 p0.w, .int .i64 p0.h, .slice p0.a p0.n p0.c, .int .i64 p1.w, .int .i64 p1.h, .slice p1.a p1.n p1.c, .int .i64 p2.w, .int .i64 p2.h, .slice p2.a p2.n p2.c, .int .i64 p3.w, .int .i64 p3.h, .slice p3.a p3.n p3.c], .int .i64 m] w fun e w' => e = .returned (.bool true) ∧ Below w.heap.size w w' := by
  have HT := Keep.mk ht
  have F4 : Hid (∀ X, Calls Tryd.prog 21 #[.agg #[.int .i64 p0.w, .int .i64 p0.h, .slice p0.a p0.n p0.c, .int .i64 p1.w, .int .i64 p1.h, .slice p1.a p1.n p1.c, .int .i64 p2.w, .int .i64 p2.h, .slice p2.a p2.n p2.c, .int .i64 p3.w, .int .i64 p3.h, .slice p3.a p3.n p3.c]] X _) := fun X => four_any p0 p1 p2 p3 X
  generalize hb4 : (decide ((p0.n : Int) ≤ 5000) && decide ((p1.n : Int) ≤ 5000) && decide ((p2.n : Int) ≤ 5000) && decide ((p3.n : Int) ≤ 5000)) = b4 at *
  clear hb4
  have LM : Hid (∀ X, Below w.heap.size w X → Calls Tryd.prog 22 #[.agg #[.int .i64 p0.w, .int .i64 p0.h, .slice p0.a p0.n p0.c, .int .i64 p1.w, .int .i64 p1.h, .slice p1.a p1.n p1.c, .int .i64 p2.w, .int .i64 p2.h, .slice p2.a p2.n p2.c, .int .i64 p3.w, .int .i64 p3.h, .slice p3.a p3.n p3.c], .int .i64 m] X (RetFour X p0 p1 p2 p3 m)) := fun X h => limit_any p0 p1 p2 p3 m X (h0.below h) (h1.below h) (h2.below h) (h3.below h)
  have LR : Hid (∀ X, Below w.heap.size w X → Calls Tryd.prog 23 #[.agg #[.int .i64 p0.w, .int .i64 p0.h, .slice p0.a p0.n p0.c, .int .i64 p1.w, .int .i64 p1.h, .slice p1.a p1.n p1.c, .int .i64 p2.w, .int .i64 p2.h, .slice p2.a p2.n p2.c, .int .i64 p3.w, .int .i64 p3.h, .slice p3.a p3.n p3.c], .int .i64 m] X (RetFour X p0 p1 p2 p3 m)) := fun X h => rlimit_any p0 p1 p2 p3 m X (h0.below h) (h1.below h) (h2.below h) (h3.below h)
  have IX' : Keep (Bx (w.alloc (.cells #[.int .i64 p0.w, .int .i64 p0.h, .slice p0.a p0.n p0.c, .int .i64 p1.w, .int .i64 p1.h, .slice p1.a p1.n p1.c, .int .i64 p2.w, .int .i64 p2.h, .slice p2.a p2.n p2.c, .int .i64 p3.w, .int .i64 p3.h, .slice p3.a p3.n p3.c] 39)) w.heap.size [.int .i64 p0.w, .int .i64 p0.h, .slice p0.a p0.n p0.c, .int .i64 p1.w, .int .i64 p1.h, .slice p1.a p1.n p1.c, .int .i64 p2.w, .int .i64 p2.h, .slice p2.a p2.n p2.c, .int .i64 p3.w, .int .i64 p3.h, .slice p3.a p3.n p3.c]) := ⟨Bx.new w [.int .i64 p0.w, .int .i64 p0.h, .slice p0.a p0.n p0.c, .int .i64 p1.w, .int .i64 p1.h, .slice p1.a p1.n p1.c, .int .i64 p2.w, .int .i64 p2.h, .slice p2.a p2.n p2.c, .int .i64 p3.w, .int .i64 p3.h, .slice p3.a p3.n p3.c] 39⟩
  have HB : Hid (Below w.heap.size w (w.alloc (.cells #[.int .i64 p0.w, .int .i64 p0.h, .slice p0.a p0.n p0.c, .int .i64 p1.w, .int .i64 p1.h, .slice p1.a p1.n p1.c, .int .i64 p2.w, .int .i64 p2.h, .slice p2.a p2.n p2.c, .int .i64 p3.w, .int .i64 p3.h, .slice p3.a p3.n p3.c] 39))) := below_alloc1 _ _
  clear h0 h1 h2 h3 ht
  go_enter Tryd.func7, Tryd.ntmps7
  go_wp2_with fail
  generalize w.alloc (.cells #[.int .i64 p0.w, .int .i64 p0.h, .slice p0.a p0.n p0.c, .int .i64 p1.w, .int .i64 p1.h, .slice p1.a p1.n p1.c, .int .i64 p2.w, .int .i64 p2.h, .slice p2.a p2.n p2.c, .int .i64 p3.w, .int .i64 p3.h, .slice p3.a p3.n p3.c] 39) = w1 at *
  refine (F4.out _).mono ?_
  rintro e w2 ⟨rfl, hb⟩
  have HBW : Hid (Below w.heap.size w w2) := HB.out.trans (hb.mono HB.out.size)
  have IX2 := Keep.mk (IX'.out.below hb)
  clear hb IX' HB F4
  cases b4 with
  | false =>
    go_wp2_with fail
    refine (awake_any _ (HT.out.below HBW.out)).mono ?_
    rintro e w9 ⟨rfl, hb⟩
    have HB9 : Hid (Below w.heap.size w w9) := HBW.out.trans (hb.mono HBW.out.size)
    clear hb
    go_wp2
    go_ret
    exact ⟨rfl, HB9.out⟩
  | true =>
    have i0 := IX2.out.cell 0 _ rfl
    have i1 := IX2.out.cell 1 _ rfl
    have i2 := IX2.out.cell 2 _ rfl
    have i3 := IX2.out.cell 3 _ rfl
    have i4 := IX2.out.cell 4 _ rfl
    have i5 := IX2.out.cell 5 _ rfl
    have i6 := IX2.out.cell 6 _ rfl
    have i7 := IX2.out.cell 7 _ rfl
    have i8 := IX2.out.cell 8 _ rfl
    have i9 := IX2.out.cell 9 _ rfl
    have i10 := IX2.out.cell 10 _ rfl
    have i11 := IX2.out.cell 11 _ rfl
    go_wp2_with fail
    refine (LM.out w2 HBW.out).mono ?_
    rintro e w3 ⟨q0, q1, q2, q3, rfl, k0, k1, k2, k3, hb, hq⟩
    unfold arr4
    have hal := below_alloc1 w3 (.cells #[.int .i64 q0.w, .int .i64 q0.h, .slice q0.a q0.n q0.c, .int .i64 q1.w, .int .i64 q1.h, .slice q1.a q1.n q1.c, .int .i64 q2.w, .int .i64 q2.h, .slice q2.a q2.n q2.c, .int .i64 q3.w, .int .i64 q3.h, .slice q3.a q3.n q3.c] 39)
    have HQ := Keep.mk hq
    have K0 := Keep.mk k0
    have K1 := Keep.mk k1
    have K2 := Keep.mk k2
    have K3 := Keep.mk k3
    have IX3 := Keep.mk ((IX2.out.below hb).below hal)
    have QX3 : Keep (Bx (w3.alloc (.cells #[.int .i64 q0.w, .int .i64 q0.h, .slice q0.a q0.n q0.c, .int .i64 q1.w, .int .i64 q1.h, .slice q1.a q1.n q1.c, .int .i64 q2.w, .int .i64 q2.h, .slice q2.a q2.n q2.c, .int .i64 q3.w, .int .i64 q3.h, .slice q3.a q3.n q3.c] 39)) w3.heap.size [.int .i64 q0.w, .int .i64 q0.h, .slice q0.a q0.n q0.c, .int .i64 q1.w, .int .i64 q1.h, .slice q1.a q1.n q1.c, .int .i64 q2.w, .int .i64 q2.h, .slice q2.a q2.n q2.c, .int .i64 q3.w, .int .i64 q3.h, .slice q3.a q3.n q3.c]) := ⟨Bx.new w3 [.int .i64 q0.w, .int .i64 q0.h, .slice q0.a q0.n q0.c, .int .i64 q1.w, .int .i64 q1.h, .slice q1.a q1.n q1.c, .int .i64 q2.w, .int .i64 q2.h, .slice q2.a q2.n q2.c, .int .i64 q3.w, .int .i64 q3.h, .slice q3.a q3.n q3.c] 39⟩
    have HB3 : Hid (Below w.heap.size w (w3.alloc (.cells #[.int .i64 q0.w, .int .i64 q0.h, .slice q0.a q0.n q0.c, .int .i64 q1.w, .int .i64 q1.h, .slice q1.a q1.n q1.c, .int .i64 q2.w, .int .i64 q2.h, .slice q2.a q2.n q2.c, .int .i64 q3.w, .int .i64 q3.h, .slice q3.a q3.n q3.c] 39))) := (HBW.out.trans (hb.mono HBW.out.size)).alloc (HBW.out.trans (hb.mono HBW.out.size)).size _
    have HAL := Lib.hid hal
    clear i0 i1 i2 i3 i4 i5 i6 i7 i8 i9 i10 i11 k0 k1 k2 k3 hb hq hal IX2 HBW
    have hee : (limErr p0 p1 p2 p3 m == limErr p0 p1 p2 p3 m) = true := by simp
    have HEQ := Keep.mk (fun (X Y Z : World) (r0 r1 r2 r3 : Pd) => lim_eq (X := X) (Y := Y) (Z := Z) (p0 := p0) (p1 := p1) (p2 := p2) (p3 := p3) (m := m) (q0 := q0) (q1 := q1) (q2 := q2) (q3 := q3) (r0 := r0) (r1 := r1) (r2 := r2) (r3 := r3))
    go_upto_region 4 with (fail)
    generalize e9 : w3.alloc (.cells #[.int .i64 q0.w, .int .i64 q0.h, .slice q0.a q0.n q0.c, .int .i64 q1.w, .int .i64 q1.h, .slice q1.a q1.n q1.c, .int .i64 q2.w, .int .i64 q2.h, .slice q2.a q2.n q2.c, .int .i64 q3.w, .int .i64 q3.h, .slice q3.a q3.n q3.c] 39) = w4 at *
    clear e9
    have i0 := IX3.out.cell 0 _ rfl
    have i1 := IX3.out.cell 1 _ rfl
    have i2 := IX3.out.cell 2 _ rfl
    have i3 := IX3.out.cell 3 _ rfl
    have i4 := IX3.out.cell 4 _ rfl
    have i5 := IX3.out.cell 5 _ rfl
    have i6 := IX3.out.cell 6 _ rfl
    have i7 := IX3.out.cell 7 _ rfl
    have i8 := IX3.out.cell 8 _ rfl
    have i9 := IX3.out.cell 9 _ rfl
    have i10 := IX3.out.cell 10 _ rfl
    have i11 := IX3.out.cell 11 _ rfl
    go_wp2_with fail
    refine (LR.out w4 HB3.out).mono ?_
    rintro e w5 ⟨r0, r1, r2, r3, rfl, k0, k1, k2, k3, hb, hr⟩
    unfold arr4
    have hal := below_alloc1 w5 (.cells #[.int .i64 r0.w, .int .i64 r0.h, .slice r0.a r0.n r0.c, .int .i64 r1.w, .int .i64 r1.h, .slice r1.a r1.n r1.c, .int .i64 r2.w, .int .i64 r2.h, .slice r2.a r2.n r2.c, .int .i64 r3.w, .int .i64 r3.h, .slice r3.a r3.n r3.c] 39)
    have RX5 : Keep (Bx (w5.alloc (.cells #[.int .i64 r0.w, .int .i64 r0.h, .slice r0.a r0.n r0.c, .int .i64 r1.w, .int .i64 r1.h, .slice r1.a r1.n r1.c, .int .i64 r2.w, .int .i64 r2.h, .slice r2.a r2.n r2.c, .int .i64 r3.w, .int .i64 r3.h, .slice r3.a r3.n r3.c] 39)) w5.heap.size [.int .i64 r0.w, .int .i64 r0.h, .slice r0.a r0.n r0.c, .int .i64 r1.w, .int .i64 r1.h, .slice r1.a r1.n r1.c, .int .i64 r2.w, .int .i64 r2.h, .slice r2.a r2.n r2.c, .int .i64 r3.w, .int .i64 r3.h, .slice r3.a r3.n r3.c]) := ⟨Bx.new w5 [.int .i64 r0.w, .int .i64 r0.h, .slice r0.a r0.n r0.c, .int .i64 r1.w, .int .i64 r1.h, .slice r1.a r1.n r1.c, .int .i64 r2.w, .int .i64 r2.h, .slice r2.a r2.n r2.c, .int .i64 r3.w, .int .i64 r3.h, .slice r3.a r3.n r3.c] 39⟩
    have QX5 := Keep.mk ((QX3.out.below hb).below hal)
    have HB5 : Hid (Below w.heap.size w (w5.alloc (.cells #[.int .i64 r0.w, .int .i64 r0.h, .slice r0.a r0.n r0.c, .int .i64 r1.w, .int .i64 r1.h, .slice r1.a r1.n r1.c, .int .i64 r2.w, .int .i64 r2.h, .slice r2.a r2.n r2.c, .int .i64 r3.w, .int .i64 r3.h, .slice r3.a r3.n r3.c] 39))) := (HB3.out.trans (hb.mono HB3.out.size)).alloc (HB3.out.trans (hb.mono HB3.out.size)).size _
    have HB35 : Hid (Below w3.heap.size w3 (w5.alloc (.cells #[.int .i64 r0.w, .int .i64 r0.h, .slice r0.a r0.n r0.c, .int .i64 r1.w, .int .i64 r1.h, .slice r1.a r1.n r1.c, .int .i64 r2.w, .int .i64 r2.h, .slice r2.a r2.n r2.c, .int .i64 r3.w, .int .i64 r3.h, .slice r3.a r3.n r3.c] 39))) := below_next (below_next HAL.out hb (Nat.le_refl _)) hal (Nat.le_refl _)
    have E4 := HEQ.out w3 w5 (w5.alloc (.cells #[.int .i64 r0.w, .int .i64 r0.h, .slice r0.a r0.n r0.c, .int .i64 r1.w, .int .i64 r1.h, .slice r1.a r1.n r1.c, .int .i64 r2.w, .int .i64 r2.h, .slice r2.a r2.n r2.c, .int .i64 r3.w, .int .i64 r3.h, .slice r3.a r3.n r3.c] 39)) r0 r1 r2 r3 HB35.out hal K0.out K1.out K2.out K3.out k0 k1 k2 k3 HQ.out hr
    have SF := Keep.mk (samefour_true q0 q1 q2 q3 r0 r1 r2 r3 _ E4.1 E4.2.1 E4.2.2.1 E4.2.2.2)
    clear i0 i1 i2 i3 i4 i5 i6 i7 i8 i9 i10 i11 k0 k1 k2 k3 hb hr hal E4 IX3 HB3 HB35 HAL QX3 K0 K1 K2 K3 HQ HEQ
    go_upto_region 5 with (fail)
    unfold arr4 at SF
    generalize e9 : w5.alloc (.cells #[.int .i64 r0.w, .int .i64 r0.h, .slice r0.a r0.n r0.c, .int .i64 r1.w, .int .i64 r1.h, .slice r1.a r1.n r1.c, .int .i64 r2.w, .int .i64 r2.h, .slice r2.a r2.n r2.c, .int .i64 r3.w, .int .i64 r3.h, .slice r3.a r3.n r3.c] 39) = w6 at *
    clear e9
    have y0 := QX5.out.cell 0 _ rfl
    have y1 := QX5.out.cell 1 _ rfl
    have y2 := QX5.out.cell 2 _ rfl
    have y3 := QX5.out.cell 3 _ rfl
    have y4 := QX5.out.cell 4 _ rfl
    have y5 := QX5.out.cell 5 _ rfl
    have y6 := QX5.out.cell 6 _ rfl
    have y7 := QX5.out.cell 7 _ rfl
    have y8 := QX5.out.cell 8 _ rfl
    have y9 := QX5.out.cell 9 _ rfl
    have y10 := QX5.out.cell 10 _ rfl
    have y11 := QX5.out.cell 11 _ rfl
    have z0 := RX5.out.cell 0 _ rfl
    have z1 := RX5.out.cell 1 _ rfl
    have z2 := RX5.out.cell 2 _ rfl
    have z3 := RX5.out.cell 3 _ rfl
    have z4 := RX5.out.cell 4 _ rfl
    have z5 := RX5.out.cell 5 _ rfl
    have z6 := RX5.out.cell 6 _ rfl
    have z7 := RX5.out.cell 7 _ rfl
    have z8 := RX5.out.cell 8 _ rfl
    have z9 := RX5.out.cell 9 _ rfl
    have z10 := RX5.out.cell 10 _ rfl
    have z11 := RX5.out.cell 11 _ rfl
    go_wp2_with fail
    refine SF.out.mono ?_
    rintro e w7 ⟨rfl, hb⟩
    have HBW : Hid (Below w.heap.size w w7) := HB5.out.trans (hb.mono HB5.out.size)
    clear y0 y1 y2 y3 y4 y5 y6 y7 y8 y9 y10 y11 z0 z1 z2 z3 z4 z5 z6 z7 z8 z9 z10 z11 hb
    go_wp2_with fail
    refine (awake_any _ (HT.out.below HBW.out)).mono ?_
    rintro e w9 ⟨rfl, hb⟩
    have HB9 : Hid (Below w.heap.size w w9) := HBW.out.trans (hb.mono HBW.out.size)
    clear hb
    go_wp2
    go_ret
    exact ⟨rfl, HB9.out⟩
end Go.Proofs.YtpppgceccikodaaDoor
