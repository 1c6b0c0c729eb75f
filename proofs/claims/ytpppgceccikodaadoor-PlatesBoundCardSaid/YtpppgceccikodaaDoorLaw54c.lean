/- PlatesBound. -/
import Derived.Test.YtpppgceccikodaaDoorBound2
import Derived.Test.YtpppgceccikodaaDoorAwake54
namespace Go.Proofs.YtpppgceccikodaaDoor
open Go.RowKit Go.Joins

set_option maxRecDepth 100000 in
set_option maxHeartbeats 8000000 in
theorem law_bound (P : Nat → Pd) (m : Int) (w : World) (hP : ∀ i, i < 4 → (P i).Ok w) (ht : Tab w) : Calls Tryd.prog 8 #[.agg #[.int .i64 (P 0).w, .int .i64 (P 0).h, .slice (P 0).a (P 0).n (P 0).c, .int .i64 (P 1).w, .int .i64 (P 1).h, .slice (P 1).a (P 1).n (P 1).c, .int .i64 (P 2).w, .int .i64 (P 2).h, .slice (P 2).a (P 2).n (P 2).c, .int .i64 (P 3).w, .int .i64 (P 3).h, .slice (P 3).a (P 3).n (P 3).c], .int .i64 m] w fun e w' => e = .returned (.bool true) ∧ Below w.heap.size w w' := by
  have HT := Keep.mk ht
  have HP := Keep.mk hP
  clear hP ht
  have F4 : Hid (∀ X, Calls Tryd.prog 21 #[.agg #[.int .i64 (P 0).w, .int .i64 (P 0).h, .slice (P 0).a (P 0).n (P 0).c, .int .i64 (P 1).w, .int .i64 (P 1).h, .slice (P 1).a (P 1).n (P 1).c, .int .i64 (P 2).w, .int .i64 (P 2).h, .slice (P 2).a (P 2).n (P 2).c, .int .i64 (P 3).w, .int .i64 (P 3).h, .slice (P 3).a (P 3).n (P 3).c]] X _) := fun X => four_any (P 0) (P 1) (P 2) (P 3) X
  generalize hb4 : (decide (((P 0).n : Int) ≤ 5000) && decide (((P 1).n : Int) ≤ 5000) && decide (((P 2).n : Int) ≤ 5000) && decide (((P 3).n : Int) ≤ 5000)) = b4 at *
  clear hb4
  have LM : Hid (∀ X, Below w.heap.size w X → Calls Tryd.prog 22 #[.agg #[.int .i64 (P 0).w, .int .i64 (P 0).h, .slice (P 0).a (P 0).n (P 0).c, .int .i64 (P 1).w, .int .i64 (P 1).h, .slice (P 1).a (P 1).n (P 1).c, .int .i64 (P 2).w, .int .i64 (P 2).h, .slice (P 2).a (P 2).n (P 2).c, .int .i64 (P 3).w, .int .i64 (P 3).h, .slice (P 3).a (P 3).n (P 3).c], .int .i64 m] X (RetFour X (P 0) (P 1) (P 2) (P 3) m)) := fun X h => limit_any (P 0) (P 1) (P 2) (P 3) m X ((HP.out 0 (by omega)).below h) ((HP.out 1 (by omega)).below h) ((HP.out 2 (by omega)).below h) ((HP.out 3 (by omega)).below h)
  have IX := Keep.mk (Bx.new w (cells4 (P 0) (P 1) (P 2) (P 3)) 39)
  have HB : Hid (Below w.heap.size w (w.alloc (.cells (cells4 (P 0) (P 1) (P 2) (P 3)).toArray 39))) := below_alloc1 _ _
  unfold cells4 at HB
  have IX' : Keep (Bx (w.alloc (.cells #[.int .i64 (P 0).w, .int .i64 (P 0).h, .slice (P 0).a (P 0).n (P 0).c, .int .i64 (P 1).w, .int .i64 (P 1).h, .slice (P 1).a (P 1).n (P 1).c, .int .i64 (P 2).w, .int .i64 (P 2).h, .slice (P 2).a (P 2).n (P 2).c, .int .i64 (P 3).w, .int .i64 (P 3).h, .slice (P 3).a (P 3).n (P 3).c] 39)) w.heap.size (cells4 (P 0) (P 1) (P 2) (P 3))) := IX
  clear IX
  go_enter Tryd.func8, Tryd.ntmps8
  go_wp2_with fail
  generalize w.alloc (.cells #[.int .i64 (P 0).w, .int .i64 (P 0).h, .slice (P 0).a (P 0).n (P 0).c, .int .i64 (P 1).w, .int .i64 (P 1).h, .slice (P 1).a (P 1).n (P 1).c, .int .i64 (P 2).w, .int .i64 (P 2).h, .slice (P 2).a (P 2).n (P 2).c, .int .i64 (P 3).w, .int .i64 (P 3).h, .slice (P 3).a (P 3).n (P 3).c] 39) = w1 at *
  refine (F4.out _).mono ?_
  rintro e w2 ⟨rfl, hb⟩
  have HBW : Hid (Below w.heap.size w w2) := HB.out.trans (hb.mono HB.out.size)
  have IX2 := Keep.mk (IX'.out.below hb)
  clear hb IX' HB F4
  cases b4 with
  | false =>
    go_wp2_with fail
    refine (awake_any _ (HT.out.below HBW.out)).mono ?_
    rintro e w9 ⟨rfl, hb⟩
    have HB9 : Hid (Below w.heap.size w w9) := HBW.out.trans (hb.mono HBW.out.size)
    clear hb
    go_wp2
    go_ret
    exact ⟨rfl, HB9.out⟩
  | true =>
    have i0 := IX2.out.cell 0 _ rfl
    have i1 := IX2.out.cell 1 _ rfl
    have i2 := IX2.out.cell 2 _ rfl
    have i3 := IX2.out.cell 3 _ rfl
    have i4 := IX2.out.cell 4 _ rfl
    have i5 := IX2.out.cell 5 _ rfl
    have i6 := IX2.out.cell 6 _ rfl
    have i7 := IX2.out.cell 7 _ rfl
    have i8 := IX2.out.cell 8 _ rfl
    have i9 := IX2.out.cell 9 _ rfl
    have i10 := IX2.out.cell 10 _ rfl
    have i11 := IX2.out.cell 11 _ rfl
    go_wp2_with fail
    refine (LM.out w2 HBW.out).mono ?_
    rintro e w3 ⟨q0, q1, q2, q3, rfl, k0, k1, k2, k3, hb, hq⟩
    unfold arr4
    clear i0 i1 i2 i3 i4 i5 i6 i7 i8 i9 i10 i11
    rcases hq with ⟨hne, hz⟩ | ⟨he, a1, a2, a3, a4, a5, a6, a7, a8, l0, l1, l2, l3⟩
    · clear hz
      have b0 : (limErr (P 0) (P 1) (P 2) (P 3) m != 0) = true := by simp [hne]
      generalize limErr (P 0) (P 1) (P 2) (P 3) m = q at *
      have HB3 : Hid (Below w.heap.size w (w3.alloc (.cells #[.int .i64 q0.w, .int .i64 q0.h, .slice q0.a q0.n q0.c, .int .i64 q1.w, .int .i64 q1.h, .slice q1.a q1.n q1.c, .int .i64 q2.w, .int .i64 q2.h, .slice q2.a q2.n q2.c, .int .i64 q3.w, .int .i64 q3.h, .slice q3.a q3.n q3.c] 39))) := (HBW.out.trans (hb.mono HBW.out.size)).alloc (HBW.out.trans (hb.mono HBW.out.size)).size _
      clear hne k0 k1 k2 k3 hb HBW
      have HBW := HB3
      clear HB3
      go_wp2_with fail
      refine (awake_any _ (HT.out.below HBW.out)).mono ?_
      rintro e w9 ⟨rfl, hb⟩
      have HB9 : Hid (Below w.heap.size w w9) := HBW.out.trans (hb.mono HBW.out.size)
      clear hb
      go_wp2
      go_ret
      exact ⟨rfl, HB9.out⟩
    · rw [he]
      obtain ⟨Q, hQ0, hQ1, hQ2, hQ3⟩ : ∃ Q : Nat → Pd, q0 = Q 0 ∧ q1 = Q 1 ∧ q2 = Q 2 ∧ q3 = Q 3 := ⟨fn4 q0 q1 q2 q3, rfl, rfl, rfl, rfl⟩
      subst hQ0 hQ1 hQ2 hQ3
      have HF := Keep.mk (lim_facts he HP.out (four_all k0 k1 k2 k3) (four_all ⟨a1, a2⟩ ⟨a3, a4⟩ ⟨a5, a6⟩ ⟨a7, a8⟩) l0 l1 l2 l3)
      have LQ := Keep.mk (⟨l0, l1, l2, l3⟩ : (Q 0).l = _ ∧ (Q 1).l = _ ∧ (Q 2).l = _ ∧ (Q 3).l = _)
      have KQ : Keep (∀ i, i < 4 → (Q i).Ok w3) := ⟨four_all k0 k1 k2 k3⟩
      have HB3 : Hid (Below w.heap.size w w3) := HBW.out.trans (hb.mono HBW.out.size)
      have IX3 := Keep.mk (IX2.out.below hb)
      clear he a1 a2 a3 a4 a5 a6 a7 a8 l0 l1 l2 l3 k0 k1 k2 k3 hb HBW IX2 LM
      have QX := Keep.mk (Bx.new w3 (cells4 (Q 0) (Q 1) (Q 2) (Q 3)) 39)
      have QX4 : Keep (Bx (w3.alloc (.cells #[.int .i64 (Q 0).w, .int .i64 (Q 0).h, .slice (Q 0).a (Q 0).n (Q 0).c, .int .i64 (Q 1).w, .int .i64 (Q 1).h, .slice (Q 1).a (Q 1).n (Q 1).c, .int .i64 (Q 2).w, .int .i64 (Q 2).h, .slice (Q 2).a (Q 2).n (Q 2).c, .int .i64 (Q 3).w, .int .i64 (Q 3).h, .slice (Q 3).a (Q 3).n (Q 3).c] 39)) w3.heap.size (cells4 (Q 0) (Q 1) (Q 2) (Q 3))) := QX
      have IX4 := Keep.mk (IX3.out.alloc (.cells #[.int .i64 (Q 0).w, .int .i64 (Q 0).h, .slice (Q 0).a (Q 0).n (Q 0).c, .int .i64 (Q 1).w, .int .i64 (Q 1).h, .slice (Q 1).a (Q 1).n (Q 1).c, .int .i64 (Q 2).w, .int .i64 (Q 2).h, .slice (Q 2).a (Q 2).n (Q 2).c, .int .i64 (Q 3).w, .int .i64 (Q 3).h, .slice (Q 3).a (Q 3).n (Q 3).c] 39))
      have HB4 : Hid (Below w.heap.size w (w3.alloc (.cells #[.int .i64 (Q 0).w, .int .i64 (Q 0).h, .slice (Q 0).a (Q 0).n (Q 0).c, .int .i64 (Q 1).w, .int .i64 (Q 1).h, .slice (Q 1).a (Q 1).n (Q 1).c, .int .i64 (Q 2).w, .int .i64 (Q 2).h, .slice (Q 2).a (Q 2).n (Q 2).c, .int .i64 (Q 3).w, .int .i64 (Q 3).h, .slice (Q 3).a (Q 3).n (Q 3).c] 39))) := HB3.out.alloc HB3.out.size _
      have HB34 : Hid (Below w3.heap.size w3 (w3.alloc (.cells #[.int .i64 (Q 0).w, .int .i64 (Q 0).h, .slice (Q 0).a (Q 0).n (Q 0).c, .int .i64 (Q 1).w, .int .i64 (Q 1).h, .slice (Q 1).a (Q 1).n (Q 1).c, .int .i64 (Q 2).w, .int .i64 (Q 2).h, .slice (Q 2).a (Q 2).n (Q 2).c, .int .i64 (Q 3).w, .int .i64 (Q 3).h, .slice (Q 3).a (Q 3).n (Q 3).c] 39))) := below_alloc1 _ _
      clear QX IX3
      go_wp2
      generalize w3.alloc (.cells #[.int .i64 (Q 0).w, .int .i64 (Q 0).h, .slice (Q 0).a (Q 0).n (Q 0).c, .int .i64 (Q 1).w, .int .i64 (Q 1).h, .slice (Q 1).a (Q 1).n (Q 1).c, .int .i64 (Q 2).w, .int .i64 (Q 2).h, .slice (Q 2).a (Q 2).n (Q 2).c, .int .i64 (Q 3).w, .int .i64 (Q 3).h, .slice (Q 3).a (Q 3).n (Q 3).c] 39) = w4 at *
      have OP : Keep (∀ i, i < 4 → (P i).Ok w4) := ⟨fun i hi => (HP.out i hi).below HB4.out⟩
      have OQ : Keep (∀ i, i < 4 → (Q i).Ok w4) := ⟨fun i hi => (KQ.out i hi).below HB34.out⟩
      have hbig := HF.out.1.big
      have ip2 := IX4.out.cell 2 _ rfl
      have hiw := IX4.out.lt
      have hqw := QX4.out.lt
      go_loopw [7] (fun v wr => ∃ (i q : Nat), i ≤ 4 ∧ v = .int .i64 i ∧ wr = w4.drewN q) (fun v _ => 4 - (intOf v).toNat)
      case atStart => exact ⟨0, 0, by omega, rfl, rfl⟩
      case round =>
        obtain ⟨i, q, hi, rfl, rfl⟩ := hrel
        by_cases hlt : i < 4
        · have p0 := IX4.out.cell (i * 3) _ (c4w P hlt)
          have p1 := IX4.out.cell (i * 3 + 1) _ (c4h P hlt)
          have p2 := IX4.out.cell (i * 3 + 2) _ (c4v P hlt)
          have s0 := QX4.out.cell (i * 3) _ (c4w Q hlt)
          have s1 := QX4.out.cell (i * 3 + 1) _ (c4h Q hlt)
          have s2 := QX4.out.cell (i * 3 + 2) _ (c4v Q hlt)
          have b1 : ((Q i).w != (P i).w) = false := by simp [HF.out.1.w_ i hlt]
          have b2 : ((Q i).h != (P i).h) = false := by simp [HF.out.1.h_ i hlt]
          have b3 : (((Q i).n : Int) != ((P 0).n : Int)) = false := by simp [HF.out.1.nq i hlt]
          have b4 : (((P i).n : Int) != ((P 0).n : Int)) = false := by simp [HF.out.1.np i hlt]
          have z1 : (0 : Int) ≤ (i : Int) := by omega
          have z2 : (i : Int) < 4 := by omega
          go_wp2
          go_quiet (fail)
          go_wp2
          go_roundw
          case rel => exact ⟨i + 1, _, by omega, by go_num, rfl⟩
          case measure => simp [intOf]; omega
        · obtain rfl : i = 4 := by omega
          go_wp2
          clear hlt hi
          go_loopw [8] (fun v wr => ∃ (j q : Nat), j ≤ (P 0).n ∧ v = .int .i64 j ∧ wr = w4.drewN q) (fun v _ => (P 0).n - (intOf v).toNat)
          case atStart => exact ⟨0, _, by omega, rfl, rfl⟩
          case round =>
            obtain ⟨j, q', hj, rfl, rfl⟩ := hrel
            by_cases hjl : j < (P 0).n
            · obtain ⟨x, y, hx, hy, hbd, hs, heq⟩ := HF.out.1.cell j hjl
              have HX := Keep.mk hx
              have HY := Keep.mk hy
              have HBD := Keep.mk hbd
              have HS := Keep.mk hs
              have HEQ := Keep.mk heq
              clear hx hy hbd hs heq
              go_wp2
              go_loopw [9, 10, 11, 12] (fun b a sm v wr => ∃ (i q : Nat) (s : Bool), i ≤ 4 ∧ v = .int .i64 i ∧ b = .int .i64 (sumTo x i) ∧ a = .int .i64 (sumTo y i) ∧ sm = .bool s ∧ ((∀ t, t < i → x t = y t) → s = true) ∧ wr = w4.drewN q) (fun _ _ _ v _ => 4 - (intOf v).toNat)
              case atStart => exact ⟨0, _, true, by omega, rfl, rfl, rfl, rfl, (fun _ => rfl), rfl⟩
              case round =>
                obtain ⟨i, q'', s, hi, rfl, rfl, rfl, rfl, hsm, rfl⟩ := hrel
                have HSM := Keep.mk hsm
                clear hsm
                have xb := sumTo_bd x (fun i hi => ⟨Int.le_trans (HBD.out i hi).1 (HBD.out i hi).2.1, (HBD.out i hi).2.2⟩) i hi
                have yb := sumTo_bd y (fun i hi => ⟨(HBD.out i hi).1, Int.le_trans (HBD.out i hi).2.1 (HBD.out i hi).2.2⟩) i hi
                by_cases hlt : i < 4
                · have p2 := IX4.out.cell (i * 3 + 2) _ (c4v P hlt)
                  have s2 := QX4.out.cell (i * 3 + 2) _ (c4v Q hlt)
                  have hnp := HF.out.1.np i hlt
                  have hnq := HF.out.1.nq i hlt
                  have hlp := RI.len (OP.out i hlt)
                  have hlq := RI.len (OQ.out i hlt)
                  obtain ⟨bp, op, ep, _, cp⟩ := RI.at_ (OP.out i hlt) (k := j) (by omega)
                  obtain ⟨bq, oq, eq, _, cq⟩ := RI.at_ (OQ.out i hlt) (k := j) (by omega)
                  rw [ep] at p2
                  rw [eq] at s2
                  have exi : (P i).l[j] = x i := by have h := HX.out i hlt; rw [List.getElem?_eq_getElem (by omega)] at h; exact Option.some.inj h
                  have eyi : (Q i).l[j] = y i := by have h := HY.out i hlt; rw [List.getElem?_eq_getElem (by omega)] at h; exact Option.some.inj h
                  rw [exi] at cp
                  rw [eyi] at cq
                  have hb1 := HBD.out i hlt
                  obtain ⟨y1, y2, x2⟩ := hb1
                  have SX : Keep (sumTo x (i + 1) = sumTo x i + x i) := ⟨rfl⟩
                  have SY : Keep (sumTo y (i + 1) = sumTo y i + y i) := ⟨rfl⟩
                  have HNX : Keep ((∀ t, t < i + 1 → x t = y t) → s = true ∧ x i = y i) := ⟨fun h => ⟨HSM.out (fun t ht => h t (by omega)), h i (by omega)⟩⟩
                  have z1 : (0 : Int) ≤ (i : Int) := by omega
                  have z2 : (i : Int) < 4 := by omega
                  have z3 : (0 : Int) ≤ (j : Int) := by omega
                  have z4 : (j : Int) < ((P i).n : Int) := by omega
                  have z5 : (j : Int) < ((Q i).n : Int) := by omega
                  clear exi eyi ep eq hlp hlq hnp hnq HSM
                  generalize x i = xi at *
                  generalize y i = yi at *
                  generalize sumTo x i = sx at *
                  generalize sumTo y i = sy at *
                  have v1 : IntKind.i64.wrap (sx + xi) = sx + xi := IntWalk.i64_in _ (by omega)
                  have v2 : IntKind.i64.wrap (sy + yi) = sy + yi := IntWalk.i64_in _ (by omega)
                  have u1 : ¬ yi < 0 := by omega
                  have u2 : ¬ xi < yi := by omega
                  have u3 : decide (yi < 0) = false := by simp; omega
                  have u4 : decide (xi < yi) = false := by simp; omega
                  cases s with
                  | true =>
                    by_cases hxy : xi = yi
                    · have e1 : (xi == yi) = true := by simp [hxy]
                      clear hxy
                      go_wp2
                      go_quiet (fail)
                      go_wp2
                      go_quiet (fail)
                      go_wp2
                      go_quiet (fail)
                      go_wp2
                      go_roundw
                      case rel =>
                        repeat apply Exists.intro
                        refine And.intro ?rr ?ff
                        case ff => rfl
                        case rr => exact ⟨i + 1, _, true, by omega, by go_num, by rw [SX.out], by rw [SY.out], rfl, (fun _ => rfl), rfl⟩
                      case measure => simp [intOf]; omega
                    · have e1 : (xi == yi) = false := by simp [hxy]
                      have HN2 : Keep ((∀ t, t < i + 1 → x t = y t) → false = true) := ⟨fun h => absurd (HNX.out h).2 hxy⟩
                      clear hxy
                      go_wp2
                      go_quiet (fail)
                      go_wp2
                      go_quiet (fail)
                      go_wp2
                      go_quiet (fail)
                      go_wp2
                      go_roundw
                      case rel =>
                        repeat apply Exists.intro
                        refine And.intro ?rr ?ff
                        case ff => rfl
                        case rr => exact ⟨i + 1, _, false, by omega, by go_num, by rw [SX.out], by rw [SY.out], rfl, HN2.out, rfl⟩
                      case measure => simp [intOf]; omega
                  | false =>
                    have HN2 : Keep ((∀ t, t < i + 1 → x t = y t) → false = true) := ⟨fun h => (HNX.out h).1⟩
                    go_wp2
                    go_quiet (fail)
                    go_wp2
                    go_quiet (fail)
                    go_wp2
                    go_quiet (fail)
                    go_wp2
                    go_roundw
                    case rel =>
                      repeat apply Exists.intro
                      refine And.intro ?rr ?ff
                      case ff => rfl
                      case rr => exact ⟨i + 1, _, false, by omega, by go_num, by rw [SX.out], by rw [SY.out], rfl, HN2.out, rfl⟩
                    case measure => simp [intOf]; omega
                · obtain rfl : i = 4 := by omega
                  have hsm := HS.out
                  have u1 : decide (m < sumTo y 4) = false := by simp; omega
                  by_cases hbm : sumTo x 4 ≤ m
                  · obtain rfl : s = true := HSM.out (HEQ.out hbm)
                    have u2 : decide (sumTo x 4 ≤ m) = true := by simp; omega
                    generalize sumTo x 4 = sx at *
                    generalize sumTo y 4 = sy at *
                    go_wp2
                    go_roundw
                    case rel => exact ⟨j + 1, _, by omega, by go_num, rfl⟩
                    case measure => simp [intOf]; omega
                  · have u2 : decide (sumTo x 4 ≤ m) = false := by simp; omega
                    generalize sumTo x 4 = sx at *
                    generalize sumTo y 4 = sy at *
                    go_wp2
                    go_roundw
                    case rel => exact ⟨j + 1, _, by omega, by go_num, rfl⟩
                    case measure => simp [intOf]; omega
            · have SQ := Keep.mk (fun X (h : Below w4.heap.size w4 X) => limit_any (Q 0) (Q 1) (Q 2) (Q 3) m X ((OQ.out 0 (by omega)).below h) ((OQ.out 1 (by omega)).below h) ((OQ.out 2 (by omega)).below h) ((OQ.out 3 (by omega)).below h))
              have LM2 : Hid (∀ X, Below w4.heap.size w4 X → Calls Tryd.prog 22 #[.agg #[.int .i64 (Q 0).w, .int .i64 (Q 0).h, .slice (Q 0).a (Q 0).n (Q 0).c, .int .i64 (Q 1).w, .int .i64 (Q 1).h, .slice (Q 1).a (Q 1).n (Q 1).c, .int .i64 (Q 2).w, .int .i64 (Q 2).h, .slice (Q 2).a (Q 2).n (Q 2).c, .int .i64 (Q 3).w, .int .i64 (Q 3).h, .slice (Q 3).a (Q 3).n (Q 3).c], .int .i64 m] X (RetFour X (Q 0) (Q 1) (Q 2) (Q 3) m)) := fun X h => SQ.out X h
              clear SQ
              have QXL : Keep (Bx w4 w3.heap.size [.int .i64 (Q 0).w, .int .i64 (Q 0).h, .slice (Q 0).a (Q 0).n (Q 0).c, .int .i64 (Q 1).w, .int .i64 (Q 1).h, .slice (Q 1).a (Q 1).n (Q 1).c, .int .i64 (Q 2).w, .int .i64 (Q 2).h, .slice (Q 2).a (Q 2).n (Q 2).c, .int .i64 (Q 3).w, .int .i64 (Q 3).h, .slice (Q 3).a (Q 3).n (Q 3).c]) := QX4
              have i0 := QXL.out.cell 0 _ rfl
              have i1 := QXL.out.cell 1 _ rfl
              have i2 := QXL.out.cell 2 _ rfl
              have i3 := QXL.out.cell 3 _ rfl
              have i4 := QXL.out.cell 4 _ rfl
              have i5 := QXL.out.cell 5 _ rfl
              have i6 := QXL.out.cell 6 _ rfl
              have i7 := QXL.out.cell 7 _ rfl
              have i8 := QXL.out.cell 8 _ rfl
              have i9 := QXL.out.cell 9 _ rfl
              have i10 := QXL.out.cell 10 _ rfl
              have i11 := QXL.out.cell 11 _ rfl
              go_wp2_with fail
              refine (LM2.out _ (below_draws _ _ _)).mono ?_
              rintro e w5 ⟨r0, r1, r2, r3, rfl, k0, k1, k2, k3, hb, hq⟩
              unfold arr4
              rcases hq with ⟨hne, _⟩ | ⟨he, a1, a2, a3, a4, a5, a6, a7, a8, l0, l1, l2, l3⟩
              · exact absurd HF.out.2.1 hne
              · rw [he]
                have D5 : Hid (Below w4.heap.size w4 w5) := (below_draws _ _ _).trans (hb.mono (below_draws 0 _ _).size)
                have D6 : Hid (Below w4.heap.size w4 (w5.alloc (.cells #[.int .i64 r0.w, .int .i64 r0.h, .slice r0.a r0.n r0.c, .int .i64 r1.w, .int .i64 r1.h, .slice r1.a r1.n r1.c, .int .i64 r2.w, .int .i64 r2.h, .slice r2.a r2.n r2.c, .int .i64 r3.w, .int .i64 r3.h, .slice r3.a r3.n r3.c] 39))) := D5.out.alloc D5.out.size _
                have A56 : Hid (Below w5.heap.size w5 (w5.alloc (.cells #[.int .i64 r0.w, .int .i64 r0.h, .slice r0.a r0.n r0.c, .int .i64 r1.w, .int .i64 r1.h, .slice r1.a r1.n r1.c, .int .i64 r2.w, .int .i64 r2.h, .slice r2.a r2.n r2.c, .int .i64 r3.w, .int .i64 r3.h, .slice r3.a r3.n r3.c] 39))) := below_alloc1 _ _
                rw [HF.out.2.2] at l0 l1 l2 l3
                have E0 : Keep (Pd.Eq (w5.alloc (.cells #[.int .i64 r0.w, .int .i64 r0.h, .slice r0.a r0.n r0.c, .int .i64 r1.w, .int .i64 r1.h, .slice r1.a r1.n r1.c, .int .i64 r2.w, .int .i64 r2.h, .slice r2.a r2.n r2.c, .int .i64 r3.w, .int .i64 r3.h, .slice r3.a r3.n r3.c] 39)) (Q 0) r0) := ⟨a1.symm, a2.symm, LQ.out.1.trans l0.symm, (OQ.out 0 (by omega)).below D6.out, k0.below A56.out⟩
                have E1 : Keep (Pd.Eq (w5.alloc (.cells #[.int .i64 r0.w, .int .i64 r0.h, .slice r0.a r0.n r0.c, .int .i64 r1.w, .int .i64 r1.h, .slice r1.a r1.n r1.c, .int .i64 r2.w, .int .i64 r2.h, .slice r2.a r2.n r2.c, .int .i64 r3.w, .int .i64 r3.h, .slice r3.a r3.n r3.c] 39)) (Q 1) r1) := ⟨a3.symm, a4.symm, LQ.out.2.1.trans l1.symm, (OQ.out 1 (by omega)).below D6.out, k1.below A56.out⟩
                have E2 : Keep (Pd.Eq (w5.alloc (.cells #[.int .i64 r0.w, .int .i64 r0.h, .slice r0.a r0.n r0.c, .int .i64 r1.w, .int .i64 r1.h, .slice r1.a r1.n r1.c, .int .i64 r2.w, .int .i64 r2.h, .slice r2.a r2.n r2.c, .int .i64 r3.w, .int .i64 r3.h, .slice r3.a r3.n r3.c] 39)) (Q 2) r2) := ⟨a5.symm, a6.symm, LQ.out.2.2.1.trans l2.symm, (OQ.out 2 (by omega)).below D6.out, k2.below A56.out⟩
                have E3 : Keep (Pd.Eq (w5.alloc (.cells #[.int .i64 r0.w, .int .i64 r0.h, .slice r0.a r0.n r0.c, .int .i64 r1.w, .int .i64 r1.h, .slice r1.a r1.n r1.c, .int .i64 r2.w, .int .i64 r2.h, .slice r2.a r2.n r2.c, .int .i64 r3.w, .int .i64 r3.h, .slice r3.a r3.n r3.c] 39)) (Q 3) r3) := ⟨a7.symm, a8.symm, LQ.out.2.2.2.trans l3.symm, (OQ.out 3 (by omega)).below D6.out, k3.below A56.out⟩
                have SF : Hid (Calls Tryd.prog 24 #[.agg #[.int .i64 (Q 0).w, .int .i64 (Q 0).h, .slice (Q 0).a (Q 0).n (Q 0).c, .int .i64 (Q 1).w, .int .i64 (Q 1).h, .slice (Q 1).a (Q 1).n (Q 1).c, .int .i64 (Q 2).w, .int .i64 (Q 2).h, .slice (Q 2).a (Q 2).n (Q 2).c, .int .i64 (Q 3).w, .int .i64 (Q 3).h, .slice (Q 3).a (Q 3).n (Q 3).c], .agg #[.int .i64 r0.w, .int .i64 r0.h, .slice r0.a r0.n r0.c, .int .i64 r1.w, .int .i64 r1.h, .slice r1.a r1.n r1.c, .int .i64 r2.w, .int .i64 r2.h, .slice r2.a r2.n r2.c, .int .i64 r3.w, .int .i64 r3.h, .slice r3.a r3.n r3.c]] (w5.alloc (.cells #[.int .i64 r0.w, .int .i64 r0.h, .slice r0.a r0.n r0.c, .int .i64 r1.w, .int .i64 r1.h, .slice r1.a r1.n r1.c, .int .i64 r2.w, .int .i64 r2.h, .slice r2.a r2.n r2.c, .int .i64 r3.w, .int .i64 r3.h, .slice r3.a r3.n r3.c] 39)) fun e w' => e = .returned (.bool true) ∧ Below (w5.alloc (.cells #[.int .i64 r0.w, .int .i64 r0.h, .slice r0.a r0.n r0.c, .int .i64 r1.w, .int .i64 r1.h, .slice r1.a r1.n r1.c, .int .i64 r2.w, .int .i64 r2.h, .slice r2.a r2.n r2.c, .int .i64 r3.w, .int .i64 r3.h, .slice r3.a r3.n r3.c] 39)).heap.size (w5.alloc (.cells #[.int .i64 r0.w, .int .i64 r0.h, .slice r0.a r0.n r0.c, .int .i64 r1.w, .int .i64 r1.h, .slice r1.a r1.n r1.c, .int .i64 r2.w, .int .i64 r2.h, .slice r2.a r2.n r2.c, .int .i64 r3.w, .int .i64 r3.h, .slice r3.a r3.n r3.c] 39)) w') := samefour_true (Q 0) (Q 1) (Q 2) (Q 3) r0 r1 r2 r3 _ E0.out E1.out E2.out E3.out
                have QX6 : Keep (Bx (w5.alloc (.cells #[.int .i64 r0.w, .int .i64 r0.h, .slice r0.a r0.n r0.c, .int .i64 r1.w, .int .i64 r1.h, .slice r1.a r1.n r1.c, .int .i64 r2.w, .int .i64 r2.h, .slice r2.a r2.n r2.c, .int .i64 r3.w, .int .i64 r3.h, .slice r3.a r3.n r3.c] 39)) w3.heap.size [.int .i64 (Q 0).w, .int .i64 (Q 0).h, .slice (Q 0).a (Q 0).n (Q 0).c, .int .i64 (Q 1).w, .int .i64 (Q 1).h, .slice (Q 1).a (Q 1).n (Q 1).c, .int .i64 (Q 2).w, .int .i64 (Q 2).h, .slice (Q 2).a (Q 2).n (Q 2).c, .int .i64 (Q 3).w, .int .i64 (Q 3).h, .slice (Q 3).a (Q 3).n (Q 3).c]) := ⟨QXL.out.below D6.out⟩
                have HB6 : Hid (Below w.heap.size w (w5.alloc (.cells #[.int .i64 r0.w, .int .i64 r0.h, .slice r0.a r0.n r0.c, .int .i64 r1.w, .int .i64 r1.h, .slice r1.a r1.n r1.c, .int .i64 r2.w, .int .i64 r2.h, .slice r2.a r2.n r2.c, .int .i64 r3.w, .int .i64 r3.h, .slice r3.a r3.n r3.c] 39))) := HB4.out.trans (D6.out.mono HB4.out.size)
                clear he a1 a2 a3 a4 a5 a6 a7 a8 l0 l1 l2 l3 k0 k1 k2 k3 hb i0 i1 i2 i3 i4 i5 i6 i7 i8 i9 i10 i11 E0 E1 E2 E3
                have i0 := QX6.out.cell 0 _ rfl
                have i1 := QX6.out.cell 1 _ rfl
                have i2 := QX6.out.cell 2 _ rfl
                have i3 := QX6.out.cell 3 _ rfl
                have i4 := QX6.out.cell 4 _ rfl
                have i5 := QX6.out.cell 5 _ rfl
                have i6 := QX6.out.cell 6 _ rfl
                have i7 := QX6.out.cell 7 _ rfl
                have i8 := QX6.out.cell 8 _ rfl
                have i9 := QX6.out.cell 9 _ rfl
                have i10 := QX6.out.cell 10 _ rfl
                have i11 := QX6.out.cell 11 _ rfl
                have il := QX6.out.lt
                go_wp2_with fail
                refine SF.out.mono ?_
                rintro e w7 ⟨rfl, hb⟩
                have HBW : Hid (Below w.heap.size w w7) := HB6.out.trans (hb.mono HB6.out.size)
                clear hb i0 i1 i2 i3 i4 i5 i6 i7 i8 i9 i10 i11 il
                go_wp2_with fail
                refine (awake_any _ (HT.out.below HBW.out)).mono ?_
                rintro e w9 ⟨rfl, hb⟩
                have HB9 : Hid (Below w.heap.size w w9) := HBW.out.trans (hb.mono HBW.out.size)
                clear hb
                go_wp2
                go_ret
                exact ⟨rfl, HB9.out⟩
end Go.Proofs.YtpppgceccikodaaDoor
