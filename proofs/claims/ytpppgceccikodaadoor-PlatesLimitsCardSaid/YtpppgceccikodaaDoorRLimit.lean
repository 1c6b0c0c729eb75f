/- The reference's Limit. -/
import Derived.Test.YtpppgceccikodaaDoorLimit
import Derived.Test.YtpppgceccikodaaDoorLimited
import Derived.Test.YtpppgceccikodaaDoorTurn
import Derived.Deep.RegionLaw
import Derived.Deep.CutRange
namespace Go.Proofs.YtpppgceccikodaaDoor
open Go.RowKit Go.Joins

theorem below_next2 {B : Nat} {w w' w'' : World} (h : Below B w w') (hb : Below w'.heap.size w' w'') (hB : B ≤ w.heap.size) : Below B w w'' := h.trans (hb.mono (Nat.le_trans hB h.size))

theorem redc_len (p0 p1 p2 p3 : Pd) (m : Int) (t : Nat) : (redc p0 p1 p2 p3 m t).length = p0.n := by
  unfold redc
  split <;> simp [redAll_len]
theorem rows4_ri {w : World} {base n c t : Nat} {v : Nat → Value} {L : Nat → List Int} {A : Option Addr} (h : Rows4 w base v (fun _ => n) L) (ht : t < 4) (hv : v t = .slice A n c) : RI w A n c (L t) := by
  obtain ⟨A', c', e, hr⟩ := Tgt.rd (.inr (h.own t ht))
  rw [hv] at e
  injection e with e1 _ e3
  subst e1 e3
  exact hr
theorem rows4_set12 {w : World} {base b : Nat} {v : Nat → Value} {n : Nat → Nat} {L : Nat → List Int} (h : Rows4 w base v n L) (hb : b < base) (u0 u1 u2 u3 u4 u5 u6 u7 u8 u9 u10 u11 : Value) :
    Rows4 ((((((((((((w.setCell ⟨b, 0, none⟩ u0).setCell ⟨b, 1, none⟩ u1).setCell ⟨b, 2, none⟩ u2).setCell ⟨b, 3, none⟩ u3).setCell ⟨b, 4, none⟩ u4).setCell ⟨b, 5, none⟩ u5).setCell ⟨b, 6, none⟩ u6).setCell ⟨b, 7, none⟩ u7).setCell ⟨b, 8, none⟩ u8).setCell ⟨b, 9, none⟩ u9).setCell ⟨b, 10, none⟩ u10).setCell ⟨b, 11, none⟩ u11) base v n L :=
  (((((((((((h.set (p := ⟨b, 0, none⟩) hb _).set (p := ⟨b, 1, none⟩) hb _).set (p := ⟨b, 2, none⟩) hb _).set (p := ⟨b, 3, none⟩) hb _).set (p := ⟨b, 4, none⟩) hb _).set (p := ⟨b, 5, none⟩) hb _).set (p := ⟨b, 6, none⟩) hb _).set (p := ⟨b, 7, none⟩) hb _).set (p := ⟨b, 8, none⟩) hb _).set (p := ⟨b, 9, none⟩) hb _).set (p := ⟨b, 10, none⟩) hb _).set (p := ⟨b, 11, none⟩) hb _
set_option maxRecDepth 100000 in
set_option maxHeartbeats 8000000 in
theorem rlimit_any (p0 p1 p2 p3 : Pd) (m : Int) (w : World) (h0 : p0.Ok w) (h1 : p1.Ok w) (h2 : p2.Ok w) (h3 : p3.Ok w) : Calls Tryd.prog 23 #[arr4 p0 p1 p2 p3, .int .i64 m] w (RetFour w p0 p1 p2 p3 m) := by
  have H0 := Lib.hid h0
  have H1 := Lib.hid h1
  have H2 := Lib.hid h2
  have H3 := Lib.hid h3
  clear h0 h1 h2 h3
  unfold arr4
  have IX := Keep.mk (((Bx.new w (cells4 p0 p1 p2 p3) 39).alloc (.cells ([.int .i64 0, .int .i64 0, .slice none 0 0, .int .i64 0, .int .i64 0, .slice none 0 0, .int .i64 0, .int .i64 0, .slice none 0 0, .int .i64 0, .int .i64 0, .slice none 0 0]).toArray 39)).alloc (.cells ([.int .i64 0, .int .i64 0, .slice none 0 0, .int .i64 0, .int .i64 0, .slice none 0 0, .int .i64 0, .int .i64 0, .slice none 0 0, .int .i64 0, .int .i64 0, .slice none 0 0]).toArray 39))
  have RX := Keep.mk ((Bx.new (w.alloc (.cells (cells4 p0 p1 p2 p3).toArray 39)) ([.int .i64 0, .int .i64 0, .slice none 0 0, .int .i64 0, .int .i64 0, .slice none 0 0, .int .i64 0, .int .i64 0, .slice none 0 0, .int .i64 0, .int .i64 0, .slice none 0 0]) 39).alloc (.cells ([.int .i64 0, .int .i64 0, .slice none 0 0, .int .i64 0, .int .i64 0, .slice none 0 0, .int .i64 0, .int .i64 0, .slice none 0 0, .int .i64 0, .int .i64 0, .slice none 0 0]).toArray 39))
  have OX := Keep.mk (Bx.new ((w.alloc (.cells (cells4 p0 p1 p2 p3).toArray 39)).alloc (.cells ([.int .i64 0, .int .i64 0, .slice none 0 0, .int .i64 0, .int .i64 0, .slice none 0 0, .int .i64 0, .int .i64 0, .slice none 0 0, .int .i64 0, .int .i64 0, .slice none 0 0]).toArray 39)) ([.int .i64 0, .int .i64 0, .slice none 0 0, .int .i64 0, .int .i64 0, .slice none 0 0, .int .i64 0, .int .i64 0, .slice none 0 0, .int .i64 0, .int .i64 0, .slice none 0 0]) 39)
  have HB : Hid (Below w.heap.size w (((w.alloc (.cells (cells4 p0 p1 p2 p3).toArray 39)).alloc (.cells ([.int .i64 0, .int .i64 0, .slice none 0 0, .int .i64 0, .int .i64 0, .slice none 0 0, .int .i64 0, .int .i64 0, .slice none 0 0, .int .i64 0, .int .i64 0, .slice none 0 0]).toArray 39)).alloc (.cells ([.int .i64 0, .int .i64 0, .slice none 0 0, .int .i64 0, .int .i64 0, .slice none 0 0, .int .i64 0, .int .i64 0, .slice none 0 0, .int .i64 0, .int .i64 0, .slice none 0 0]).toArray 39))) := ((below_alloc1 _ _).alloc (by simp) _).alloc (by simp; omega) _
  unfold cells4 at IX RX OX HB
  go_enter Tryd.func23, Tryd.ntmps23
  go_wp2
  generalize ((w.alloc (.cells #[.int .i64 p0.w, .int .i64 p0.h, .slice p0.a p0.n p0.c, .int .i64 p1.w, .int .i64 p1.h, .slice p1.a p1.n p1.c, .int .i64 p2.w, .int .i64 p2.h, .slice p2.a p2.n p2.c, .int .i64 p3.w, .int .i64 p3.h, .slice p3.a p3.n p3.c] 39)).alloc (.cells ([.int .i64 0, .int .i64 0, .slice none 0 0, .int .i64 0, .int .i64 0, .slice none 0 0, .int .i64 0, .int .i64 0, .slice none 0 0, .int .i64 0, .int .i64 0, .slice none 0 0]).toArray 39)).alloc (.cells ([.int .i64 0, .int .i64 0, .slice none 0 0, .int .i64 0, .int .i64 0, .slice none 0 0, .int .i64 0, .int .i64 0, .slice none 0 0, .int .i64 0, .int .i64 0, .slice none 0 0]).toArray 39) = w2 at *
  rw [World.size_alloc] at RX
  rw [World.size_alloc, World.size_alloc] at OX
  have HC0 : Hid (∀ X : World, Below w.heap.size w X → Calls Tryd.prog 12 #[.agg #[.int .i64 p0.w, .int .i64 p0.h, .slice p0.a p0.n p0.c]] X fun e w' => e = .returned (.int .i64 p0.chk) ∧ Below X.heap.size X w') := fun X h => rcheck_any _ _ _ _ _ _ X (H0.out.below h)
  have HC1 : Hid (∀ X : World, Below w.heap.size w X → Calls Tryd.prog 12 #[.agg #[.int .i64 p1.w, .int .i64 p1.h, .slice p1.a p1.n p1.c]] X fun e w' => e = .returned (.int .i64 p1.chk) ∧ Below X.heap.size X w') := fun X h => rcheck_any _ _ _ _ _ _ X (H1.out.below h)
  have HC2 : Hid (∀ X : World, Below w.heap.size w X → Calls Tryd.prog 12 #[.agg #[.int .i64 p2.w, .int .i64 p2.h, .slice p2.a p2.n p2.c]] X fun e w' => e = .returned (.int .i64 p2.chk) ∧ Below X.heap.size X w') := fun X h => rcheck_any _ _ _ _ _ _ X (H2.out.below h)
  have HC3 : Hid (∀ X : World, Below w.heap.size w X → Calls Tryd.prog 12 #[.agg #[.int .i64 p3.w, .int .i64 p3.h, .slice p3.a p3.n p3.c]] X fun e w' => e = .returned (.int .i64 p3.chk) ∧ Below X.heap.size X w') := fun X h => rcheck_any _ _ _ _ _ _ X (H3.out.below h)
  go_loopw [7] (fun i wr => Bx wr w.heap.size [.int .i64 p0.w, .int .i64 p0.h, .slice p0.a p0.n p0.c, .int .i64 p1.w, .int .i64 p1.h, .slice p1.a p1.n p1.c, .int .i64 p2.w, .int .i64 p2.h, .slice p2.a p2.n p2.c, .int .i64 p3.w, .int .i64 p3.h, .slice p3.a p3.n p3.c] ∧ Bx wr (w.heap.size + 1) [.int .i64 0, .int .i64 0, .slice none 0 0, .int .i64 0, .int .i64 0, .slice none 0 0, .int .i64 0, .int .i64 0, .slice none 0 0, .int .i64 0, .int .i64 0, .slice none 0 0] ∧ Bx wr (w.heap.size + 2) [.int .i64 0, .int .i64 0, .slice none 0 0, .int .i64 0, .int .i64 0, .slice none 0 0, .int .i64 0, .int .i64 0, .slice none 0 0, .int .i64 0, .int .i64 0, .slice none 0 0] ∧ Below w.heap.size w wr ∧ ((i = .int .i64 0) ∨ (i = .int .i64 1 ∧ p0.chk = 0) ∨ (i = .int .i64 2 ∧ p0.chk = 0 ∧ p1.chk = 0) ∨ (i = .int .i64 3 ∧ p0.chk = 0 ∧ p1.chk = 0 ∧ p2.chk = 0) ∨ (i = .int .i64 4 ∧ p0.chk = 0 ∧ p1.chk = 0 ∧ p2.chk = 0 ∧ p3.chk = 0))) (fun i _ => 4 - (intOf i).toNat)
  case atStart => exact ⟨IX.out, RX.out, OX.out, HB.out, .inl rfl⟩
  case round =>
    obtain ⟨hi, hr, ho, hb, h⟩ := hrel
    clear IX RX OX HB
    have IX1 := Keep.mk hi
    have RX1 := Keep.mk hr
    have OX1 := Keep.mk ho
    have HB1 := Lib.hid hb
    clear hi hr ho hb
    rcases h with rfl | ⟨rfl, c0⟩ | ⟨rfl, c0, c1⟩ | ⟨rfl, c0, c1, c2⟩ | ⟨rfl, c0, c1, c2, c3⟩
    · have i0 := IX1.out.cell 0 _ rfl
      have i1 := IX1.out.cell 1 _ rfl
      have i2 := IX1.out.cell 2 _ rfl
      go_wp2_with fail
      refine (HC0.out _ HB1.out).mono ?_
      rintro e w5 ⟨rfl, hb⟩
      have HB5 : Hid (Below w.heap.size w w5) := HB1.out.trans (hb.mono HB1.out.size)
      have OX5 := Keep.mk (OX1.out.below hb)
      have RX5 := Keep.mk (RX1.out.below hb)
      have IX5 := Keep.mk (IX1.out.below hb)
      clear hb i0 i1 i2 IX1 OX1 RX1 HB1
      have IX1 := IX5
      have OX1 := OX5
      have RX1 := RX5
      have HB1 := HB5
      clear IX5 OX5 RX5 HB5
      by_cases hc : p0.chk = 0
      · have b0 : (p0.chk != 0) = false := by simp [hc]
        have KC := Keep.mk hc
        clear hc
        go_wp2
        go_roundw
        case rel => exact ⟨IX1.out, RX1.out, OX1.out, HB1.out, .inr (.inl ⟨rfl, KC.out⟩)⟩
        case measure => simp [intOf]
      · have b0 : (p0.chk != 0) = true := by simp [hc]
        have HER : Keep (limErr p0 p1 p2 p3 m = p0.chk) := ⟨by unfold limErr; rw [if_pos hc]⟩
        have HE0 := Keep.mk hc
        clear hc
        have o0 := OX1.out.cell 0 _ rfl
        have o1 := OX1.out.cell 1 _ rfl
        have o2 := OX1.out.cell 2 _ rfl
        have o3 := OX1.out.cell 3 _ rfl
        have o4 := OX1.out.cell 4 _ rfl
        have o5 := OX1.out.cell 5 _ rfl
        have o6 := OX1.out.cell 6 _ rfl
        have o7 := OX1.out.cell 7 _ rfl
        have o8 := OX1.out.cell 8 _ rfl
        have o9 := OX1.out.cell 9 _ rfl
        have o10 := OX1.out.cell 10 _ rfl
        have o11 := OX1.out.cell 11 _ rfl
        have s0 := RX1.out.cell 0 _ rfl
        have s1 := RX1.out.cell 1 _ rfl
        have s2 := RX1.out.cell 2 _ rfl
        have s3 := RX1.out.cell 3 _ rfl
        have s4 := RX1.out.cell 4 _ rfl
        have s5 := RX1.out.cell 5 _ rfl
        have s6 := RX1.out.cell 6 _ rfl
        have s7 := RX1.out.cell 7 _ rfl
        have s8 := RX1.out.cell 8 _ rfl
        have s9 := RX1.out.cell 9 _ rfl
        have s10 := RX1.out.cell 10 _ rfl
        have s11 := RX1.out.cell 11 _ rfl
        have sf := RX1.out.fz
        have sl := RX1.out.lt
        go_wp2
        refine bodyPost_ret (v := .tuple #[arr4 Pd.zero Pd.zero Pd.zero Pd.zero, .int .i64 p0.chk]) (by simp [results, Tryd.results23, go_sem, arr4, Pd.zero, s0, s1, s2, s3, s4, s5, s6, s7, s8, s9, s10, s11]) rfl ?_
        exact zero_ret w p0 p1 p2 p3 m _ _ HER.out HE0.out (below_set12 HB1.out (Nat.le_succ _) _ _ _ _ _ _ _ _ _ _ _ _)
    · have K0 := Keep.mk c0
      clear c0
      have i3 := IX1.out.cell 3 _ rfl
      have i4 := IX1.out.cell 4 _ rfl
      have i5 := IX1.out.cell 5 _ rfl
      go_wp2_with fail
      refine (HC1.out _ HB1.out).mono ?_
      rintro e w5 ⟨rfl, hb⟩
      have HB5 : Hid (Below w.heap.size w w5) := HB1.out.trans (hb.mono HB1.out.size)
      have OX5 := Keep.mk (OX1.out.below hb)
      have RX5 := Keep.mk (RX1.out.below hb)
      have IX5 := Keep.mk (IX1.out.below hb)
      clear hb i3 i4 i5 IX1 OX1 RX1 HB1
      have IX1 := IX5
      have OX1 := OX5
      have RX1 := RX5
      have HB1 := HB5
      clear IX5 OX5 RX5 HB5
      by_cases hc : p1.chk = 0
      · have b0 : (p1.chk != 0) = false := by simp [hc]
        have KC := Keep.mk hc
        clear hc
        go_wp2
        go_roundw
        case rel => exact ⟨IX1.out, RX1.out, OX1.out, HB1.out, .inr (.inr (.inl ⟨rfl, K0.out, KC.out⟩))⟩
        case measure => simp [intOf]
      · have b0 : (p1.chk != 0) = true := by simp [hc]
        have HER : Keep (limErr p0 p1 p2 p3 m = p1.chk) := ⟨by unfold limErr; rw [if_neg (by simp [K0.out]), if_pos hc]⟩
        have HE0 := Keep.mk hc
        clear hc
        have o0 := OX1.out.cell 0 _ rfl
        have o1 := OX1.out.cell 1 _ rfl
        have o2 := OX1.out.cell 2 _ rfl
        have o3 := OX1.out.cell 3 _ rfl
        have o4 := OX1.out.cell 4 _ rfl
        have o5 := OX1.out.cell 5 _ rfl
        have o6 := OX1.out.cell 6 _ rfl
        have o7 := OX1.out.cell 7 _ rfl
        have o8 := OX1.out.cell 8 _ rfl
        have o9 := OX1.out.cell 9 _ rfl
        have o10 := OX1.out.cell 10 _ rfl
        have o11 := OX1.out.cell 11 _ rfl
        have s0 := RX1.out.cell 0 _ rfl
        have s1 := RX1.out.cell 1 _ rfl
        have s2 := RX1.out.cell 2 _ rfl
        have s3 := RX1.out.cell 3 _ rfl
        have s4 := RX1.out.cell 4 _ rfl
        have s5 := RX1.out.cell 5 _ rfl
        have s6 := RX1.out.cell 6 _ rfl
        have s7 := RX1.out.cell 7 _ rfl
        have s8 := RX1.out.cell 8 _ rfl
        have s9 := RX1.out.cell 9 _ rfl
        have s10 := RX1.out.cell 10 _ rfl
        have s11 := RX1.out.cell 11 _ rfl
        have sf := RX1.out.fz
        have sl := RX1.out.lt
        go_wp2
        refine bodyPost_ret (v := .tuple #[arr4 Pd.zero Pd.zero Pd.zero Pd.zero, .int .i64 p1.chk]) (by simp [results, Tryd.results23, go_sem, arr4, Pd.zero, s0, s1, s2, s3, s4, s5, s6, s7, s8, s9, s10, s11]) rfl ?_
        exact zero_ret w p0 p1 p2 p3 m _ _ HER.out HE0.out (below_set12 HB1.out (Nat.le_succ _) _ _ _ _ _ _ _ _ _ _ _ _)
    · have K0 := Keep.mk c0
      have K1 := Keep.mk c1
      clear c0 c1
      have i6 := IX1.out.cell 6 _ rfl
      have i7 := IX1.out.cell 7 _ rfl
      have i8 := IX1.out.cell 8 _ rfl
      go_wp2_with fail
      refine (HC2.out _ HB1.out).mono ?_
      rintro e w5 ⟨rfl, hb⟩
      have HB5 : Hid (Below w.heap.size w w5) := HB1.out.trans (hb.mono HB1.out.size)
      have OX5 := Keep.mk (OX1.out.below hb)
      have RX5 := Keep.mk (RX1.out.below hb)
      have IX5 := Keep.mk (IX1.out.below hb)
      clear hb i6 i7 i8 IX1 OX1 RX1 HB1
      have IX1 := IX5
      have OX1 := OX5
      have RX1 := RX5
      have HB1 := HB5
      clear IX5 OX5 RX5 HB5
      by_cases hc : p2.chk = 0
      · have b0 : (p2.chk != 0) = false := by simp [hc]
        have KC := Keep.mk hc
        clear hc
        go_wp2
        go_roundw
        case rel => exact ⟨IX1.out, RX1.out, OX1.out, HB1.out, .inr (.inr (.inr (.inl ⟨rfl, K0.out, K1.out, KC.out⟩)))⟩
        case measure => simp [intOf]
      · have b0 : (p2.chk != 0) = true := by simp [hc]
        have HER : Keep (limErr p0 p1 p2 p3 m = p2.chk) := ⟨by unfold limErr; rw [if_neg (by simp [K0.out]), if_neg (by simp [K1.out]), if_pos hc]⟩
        have HE0 := Keep.mk hc
        clear hc
        have o0 := OX1.out.cell 0 _ rfl
        have o1 := OX1.out.cell 1 _ rfl
        have o2 := OX1.out.cell 2 _ rfl
        have o3 := OX1.out.cell 3 _ rfl
        have o4 := OX1.out.cell 4 _ rfl
        have o5 := OX1.out.cell 5 _ rfl
        have o6 := OX1.out.cell 6 _ rfl
        have o7 := OX1.out.cell 7 _ rfl
        have o8 := OX1.out.cell 8 _ rfl
        have o9 := OX1.out.cell 9 _ rfl
        have o10 := OX1.out.cell 10 _ rfl
        have o11 := OX1.out.cell 11 _ rfl
        have s0 := RX1.out.cell 0 _ rfl
        have s1 := RX1.out.cell 1 _ rfl
        have s2 := RX1.out.cell 2 _ rfl
        have s3 := RX1.out.cell 3 _ rfl
        have s4 := RX1.out.cell 4 _ rfl
        have s5 := RX1.out.cell 5 _ rfl
        have s6 := RX1.out.cell 6 _ rfl
        have s7 := RX1.out.cell 7 _ rfl
        have s8 := RX1.out.cell 8 _ rfl
        have s9 := RX1.out.cell 9 _ rfl
        have s10 := RX1.out.cell 10 _ rfl
        have s11 := RX1.out.cell 11 _ rfl
        have sf := RX1.out.fz
        have sl := RX1.out.lt
        go_wp2
        refine bodyPost_ret (v := .tuple #[arr4 Pd.zero Pd.zero Pd.zero Pd.zero, .int .i64 p2.chk]) (by simp [results, Tryd.results23, go_sem, arr4, Pd.zero, s0, s1, s2, s3, s4, s5, s6, s7, s8, s9, s10, s11]) rfl ?_
        exact zero_ret w p0 p1 p2 p3 m _ _ HER.out HE0.out (below_set12 HB1.out (Nat.le_succ _) _ _ _ _ _ _ _ _ _ _ _ _)
    · have K0 := Keep.mk c0
      have K1 := Keep.mk c1
      have K2 := Keep.mk c2
      clear c0 c1 c2
      have i9 := IX1.out.cell 9 _ rfl
      have i10 := IX1.out.cell 10 _ rfl
      have i11 := IX1.out.cell 11 _ rfl
      go_wp2_with fail
      refine (HC3.out _ HB1.out).mono ?_
      rintro e w5 ⟨rfl, hb⟩
      have HB5 : Hid (Below w.heap.size w w5) := HB1.out.trans (hb.mono HB1.out.size)
      have OX5 := Keep.mk (OX1.out.below hb)
      have RX5 := Keep.mk (RX1.out.below hb)
      have IX5 := Keep.mk (IX1.out.below hb)
      clear hb i9 i10 i11 IX1 OX1 RX1 HB1
      have IX1 := IX5
      have OX1 := OX5
      have RX1 := RX5
      have HB1 := HB5
      clear IX5 OX5 RX5 HB5
      by_cases hc : p3.chk = 0
      · have b0 : (p3.chk != 0) = false := by simp [hc]
        have KC := Keep.mk hc
        clear hc
        go_wp2
        go_roundw
        case rel => exact ⟨IX1.out, RX1.out, OX1.out, HB1.out, .inr (.inr (.inr (.inr (⟨rfl, K0.out, K1.out, K2.out, KC.out⟩))))⟩
        case measure => simp [intOf]
      · have b0 : (p3.chk != 0) = true := by simp [hc]
        have HER : Keep (limErr p0 p1 p2 p3 m = p3.chk) := ⟨by unfold limErr; rw [if_neg (by simp [K0.out]), if_neg (by simp [K1.out]), if_neg (by simp [K2.out]), if_pos hc]⟩
        have HE0 := Keep.mk hc
        clear hc
        have o0 := OX1.out.cell 0 _ rfl
        have o1 := OX1.out.cell 1 _ rfl
        have o2 := OX1.out.cell 2 _ rfl
        have o3 := OX1.out.cell 3 _ rfl
        have o4 := OX1.out.cell 4 _ rfl
        have o5 := OX1.out.cell 5 _ rfl
        have o6 := OX1.out.cell 6 _ rfl
        have o7 := OX1.out.cell 7 _ rfl
        have o8 := OX1.out.cell 8 _ rfl
        have o9 := OX1.out.cell 9 _ rfl
        have o10 := OX1.out.cell 10 _ rfl
        have o11 := OX1.out.cell 11 _ rfl
        have s0 := RX1.out.cell 0 _ rfl
        have s1 := RX1.out.cell 1 _ rfl
        have s2 := RX1.out.cell 2 _ rfl
        have s3 := RX1.out.cell 3 _ rfl
        have s4 := RX1.out.cell 4 _ rfl
        have s5 := RX1.out.cell 5 _ rfl
        have s6 := RX1.out.cell 6 _ rfl
        have s7 := RX1.out.cell 7 _ rfl
        have s8 := RX1.out.cell 8 _ rfl
        have s9 := RX1.out.cell 9 _ rfl
        have s10 := RX1.out.cell 10 _ rfl
        have s11 := RX1.out.cell 11 _ rfl
        have sf := RX1.out.fz
        have sl := RX1.out.lt
        go_wp2
        refine bodyPost_ret (v := .tuple #[arr4 Pd.zero Pd.zero Pd.zero Pd.zero, .int .i64 p3.chk]) (by simp [results, Tryd.results23, go_sem, arr4, Pd.zero, s0, s1, s2, s3, s4, s5, s6, s7, s8, s9, s10, s11]) rfl ?_
        exact zero_ret w p0 p1 p2 p3 m _ _ HER.out HE0.out (below_set12 HB1.out (Nat.le_succ _) _ _ _ _ _ _ _ _ _ _ _ _)
    · have K0 := Keep.mk c0
      have K1 := Keep.mk c1
      have K2 := Keep.mk c2
      have K3 := Keep.mk c3
      clear c0 c1 c2 c3
      go_wp2
      go_loopw [9] (fun i wr => Bx wr w.heap.size [.int .i64 p0.w, .int .i64 p0.h, .slice p0.a p0.n p0.c, .int .i64 p1.w, .int .i64 p1.h, .slice p1.a p1.n p1.c, .int .i64 p2.w, .int .i64 p2.h, .slice p2.a p2.n p2.c, .int .i64 p3.w, .int .i64 p3.h, .slice p3.a p3.n p3.c] ∧ Bx wr (w.heap.size + 1) [.int .i64 0, .int .i64 0, .slice none 0 0, .int .i64 0, .int .i64 0, .slice none 0 0, .int .i64 0, .int .i64 0, .slice none 0 0, .int .i64 0, .int .i64 0, .slice none 0 0] ∧ Bx wr (w.heap.size + 2) [.int .i64 0, .int .i64 0, .slice none 0 0, .int .i64 0, .int .i64 0, .slice none 0 0, .int .i64 0, .int .i64 0, .slice none 0 0, .int .i64 0, .int .i64 0, .slice none 0 0] ∧ Below w.heap.size w wr ∧ ((i = .int .i64 1) ∨ (i = .int .i64 2 ∧ (p1.w = p0.w ∧ p1.h = p0.h)) ∨ (i = .int .i64 3 ∧ (p1.w = p0.w ∧ p1.h = p0.h) ∧ (p2.w = p0.w ∧ p2.h = p0.h)) ∨ (i = .int .i64 4 ∧ (p1.w = p0.w ∧ p1.h = p0.h) ∧ (p2.w = p0.w ∧ p2.h = p0.h) ∧ (p3.w = p0.w ∧ p3.h = p0.h)))) (fun i _ => 4 - (intOf i).toNat)
      case atStart => exact ⟨IX1.out, RX1.out, OX1.out, HB1.out, .inl rfl⟩
      case round =>
        obtain ⟨hi, hr, ho, hb, h⟩ := hrel
        clear IX1 OX1 RX1 HB1
        have IX1 := Keep.mk hi
        have RX1 := Keep.mk hr
        have OX1 := Keep.mk ho
        have HB1 := Lib.hid hb
        have j0 := hi.cell 0 _ rfl
        have j1 := hi.cell 1 _ rfl
        clear hi hr ho hb
        rcases h with rfl | ⟨rfl, c1⟩ | ⟨rfl, c1, c2⟩ | ⟨rfl, c1, c2, c3⟩
        · have j2 := IX1.out.cell 3 _ rfl
          have j3 := IX1.out.cell 4 _ rfl
          by_cases hw : p1.w = p0.w
          · have b1 : (p1.w != p0.w) = false := by simp [hw]
            by_cases hh : p1.h = p0.h
            · have b2 : (p1.h != p0.h) = false := by simp [hh]
              have EC : Keep (p1.w = p0.w ∧ p1.h = p0.h) := ⟨hw, hh⟩
              clear hw hh
              go_wp2
              go_quiet (fail)
              go_wp2
              go_roundw
              case rel => exact ⟨IX1.out.drewN _, RX1.out.drewN _, OX1.out.drewN _, HB1.out.trans (below_draws _ _ _), .inr (.inl ⟨rfl, EC.out⟩)⟩
              case measure => simp [intOf]
            · have b2 : (p1.h != p0.h) = true := by simp [hh]
              have HER : Keep (limErr p0 p1 p2 p3 m = 1) := ⟨by unfold limErr; rw [if_neg (by simp [K0.out]), if_neg (by simp [K1.out]), if_neg (by simp [K2.out]), if_neg (by simp [K3.out]), if_pos (.inr hh)]⟩
              clear hw hh
              have HE0 : Keep ((1 : Int) ≠ 0) := ⟨by decide⟩
              have o0 := OX1.out.cell 0 _ rfl
              have o1 := OX1.out.cell 1 _ rfl
              have o2 := OX1.out.cell 2 _ rfl
              have o3 := OX1.out.cell 3 _ rfl
              have o4 := OX1.out.cell 4 _ rfl
              have o5 := OX1.out.cell 5 _ rfl
              have o6 := OX1.out.cell 6 _ rfl
              have o7 := OX1.out.cell 7 _ rfl
              have o8 := OX1.out.cell 8 _ rfl
              have o9 := OX1.out.cell 9 _ rfl
              have o10 := OX1.out.cell 10 _ rfl
              have o11 := OX1.out.cell 11 _ rfl
              have s0 := RX1.out.cell 0 _ rfl
              have s1 := RX1.out.cell 1 _ rfl
              have s2 := RX1.out.cell 2 _ rfl
              have s3 := RX1.out.cell 3 _ rfl
              have s4 := RX1.out.cell 4 _ rfl
              have s5 := RX1.out.cell 5 _ rfl
              have s6 := RX1.out.cell 6 _ rfl
              have s7 := RX1.out.cell 7 _ rfl
              have s8 := RX1.out.cell 8 _ rfl
              have s9 := RX1.out.cell 9 _ rfl
              have s10 := RX1.out.cell 10 _ rfl
              have s11 := RX1.out.cell 11 _ rfl
              have sf := RX1.out.fz
              have sl := RX1.out.lt
              go_wp2
              go_quiet (fail)
              go_wp2
              refine bodyPost_ret (v := .tuple #[arr4 Pd.zero Pd.zero Pd.zero Pd.zero, .int .i64 1]) (by simp [results, Tryd.results23, go_sem, arr4, Pd.zero, s0, s1, s2, s3, s4, s5, s6, s7, s8, s9, s10, s11]) rfl ?_
              exact zero_ret w p0 p1 p2 p3 m _ _ HER.out HE0.out (below_set12 (HB1.out.trans (below_draws _ _ _)) (Nat.le_succ _) _ _ _ _ _ _ _ _ _ _ _ _)
          · have b1 : (p1.w != p0.w) = true := by simp [hw]
            have HER : Keep (limErr p0 p1 p2 p3 m = 1) := ⟨by unfold limErr; rw [if_neg (by simp [K0.out]), if_neg (by simp [K1.out]), if_neg (by simp [K2.out]), if_neg (by simp [K3.out]), if_pos (.inl hw)]⟩
            clear hw
            have HE0 : Keep ((1 : Int) ≠ 0) := ⟨by decide⟩
            have o0 := OX1.out.cell 0 _ rfl
            have o1 := OX1.out.cell 1 _ rfl
            have o2 := OX1.out.cell 2 _ rfl
            have o3 := OX1.out.cell 3 _ rfl
            have o4 := OX1.out.cell 4 _ rfl
            have o5 := OX1.out.cell 5 _ rfl
            have o6 := OX1.out.cell 6 _ rfl
            have o7 := OX1.out.cell 7 _ rfl
            have o8 := OX1.out.cell 8 _ rfl
            have o9 := OX1.out.cell 9 _ rfl
            have o10 := OX1.out.cell 10 _ rfl
            have o11 := OX1.out.cell 11 _ rfl
            have s0 := RX1.out.cell 0 _ rfl
            have s1 := RX1.out.cell 1 _ rfl
            have s2 := RX1.out.cell 2 _ rfl
            have s3 := RX1.out.cell 3 _ rfl
            have s4 := RX1.out.cell 4 _ rfl
            have s5 := RX1.out.cell 5 _ rfl
            have s6 := RX1.out.cell 6 _ rfl
            have s7 := RX1.out.cell 7 _ rfl
            have s8 := RX1.out.cell 8 _ rfl
            have s9 := RX1.out.cell 9 _ rfl
            have s10 := RX1.out.cell 10 _ rfl
            have s11 := RX1.out.cell 11 _ rfl
            have sf := RX1.out.fz
            have sl := RX1.out.lt
            go_wp2
            go_quiet (fail)
            go_wp2
            refine bodyPost_ret (v := .tuple #[arr4 Pd.zero Pd.zero Pd.zero Pd.zero, .int .i64 1]) (by simp [results, Tryd.results23, go_sem, arr4, Pd.zero, s0, s1, s2, s3, s4, s5, s6, s7, s8, s9, s10, s11]) rfl ?_
            exact zero_ret w p0 p1 p2 p3 m _ _ HER.out HE0.out (below_set12 (HB1.out.trans (below_draws _ _ _)) (Nat.le_succ _) _ _ _ _ _ _ _ _ _ _ _ _)
        · have E1 := Keep.mk c1
          clear c1
          have j2 := IX1.out.cell 6 _ rfl
          have j3 := IX1.out.cell 7 _ rfl
          by_cases hw : p2.w = p0.w
          · have b1 : (p2.w != p0.w) = false := by simp [hw]
            by_cases hh : p2.h = p0.h
            · have b2 : (p2.h != p0.h) = false := by simp [hh]
              have EC : Keep (p2.w = p0.w ∧ p2.h = p0.h) := ⟨hw, hh⟩
              clear hw hh
              go_wp2
              go_quiet (fail)
              go_wp2
              go_roundw
              case rel => exact ⟨IX1.out.drewN _, RX1.out.drewN _, OX1.out.drewN _, HB1.out.trans (below_draws _ _ _), .inr (.inr (.inl ⟨rfl, E1.out, EC.out⟩))⟩
              case measure => simp [intOf]
            · have b2 : (p2.h != p0.h) = true := by simp [hh]
              have HER : Keep (limErr p0 p1 p2 p3 m = 1) := ⟨by unfold limErr; rw [if_neg (by simp [K0.out]), if_neg (by simp [K1.out]), if_neg (by simp [K2.out]), if_neg (by simp [K3.out]), if_neg (by simp [E1.out]), if_pos (.inr hh)]⟩
              clear hw hh
              have HE0 : Keep ((1 : Int) ≠ 0) := ⟨by decide⟩
              have o0 := OX1.out.cell 0 _ rfl
              have o1 := OX1.out.cell 1 _ rfl
              have o2 := OX1.out.cell 2 _ rfl
              have o3 := OX1.out.cell 3 _ rfl
              have o4 := OX1.out.cell 4 _ rfl
              have o5 := OX1.out.cell 5 _ rfl
              have o6 := OX1.out.cell 6 _ rfl
              have o7 := OX1.out.cell 7 _ rfl
              have o8 := OX1.out.cell 8 _ rfl
              have o9 := OX1.out.cell 9 _ rfl
              have o10 := OX1.out.cell 10 _ rfl
              have o11 := OX1.out.cell 11 _ rfl
              have s0 := RX1.out.cell 0 _ rfl
              have s1 := RX1.out.cell 1 _ rfl
              have s2 := RX1.out.cell 2 _ rfl
              have s3 := RX1.out.cell 3 _ rfl
              have s4 := RX1.out.cell 4 _ rfl
              have s5 := RX1.out.cell 5 _ rfl
              have s6 := RX1.out.cell 6 _ rfl
              have s7 := RX1.out.cell 7 _ rfl
              have s8 := RX1.out.cell 8 _ rfl
              have s9 := RX1.out.cell 9 _ rfl
              have s10 := RX1.out.cell 10 _ rfl
              have s11 := RX1.out.cell 11 _ rfl
              have sf := RX1.out.fz
              have sl := RX1.out.lt
              go_wp2
              go_quiet (fail)
              go_wp2
              refine bodyPost_ret (v := .tuple #[arr4 Pd.zero Pd.zero Pd.zero Pd.zero, .int .i64 1]) (by simp [results, Tryd.results23, go_sem, arr4, Pd.zero, s0, s1, s2, s3, s4, s5, s6, s7, s8, s9, s10, s11]) rfl ?_
              exact zero_ret w p0 p1 p2 p3 m _ _ HER.out HE0.out (below_set12 (HB1.out.trans (below_draws _ _ _)) (Nat.le_succ _) _ _ _ _ _ _ _ _ _ _ _ _)
          · have b1 : (p2.w != p0.w) = true := by simp [hw]
            have HER : Keep (limErr p0 p1 p2 p3 m = 1) := ⟨by unfold limErr; rw [if_neg (by simp [K0.out]), if_neg (by simp [K1.out]), if_neg (by simp [K2.out]), if_neg (by simp [K3.out]), if_neg (by simp [E1.out]), if_pos (.inl hw)]⟩
            clear hw
            have HE0 : Keep ((1 : Int) ≠ 0) := ⟨by decide⟩
            have o0 := OX1.out.cell 0 _ rfl
            have o1 := OX1.out.cell 1 _ rfl
            have o2 := OX1.out.cell 2 _ rfl
            have o3 := OX1.out.cell 3 _ rfl
            have o4 := OX1.out.cell 4 _ rfl
            have o5 := OX1.out.cell 5 _ rfl
            have o6 := OX1.out.cell 6 _ rfl
            have o7 := OX1.out.cell 7 _ rfl
            have o8 := OX1.out.cell 8 _ rfl
            have o9 := OX1.out.cell 9 _ rfl
            have o10 := OX1.out.cell 10 _ rfl
            have o11 := OX1.out.cell 11 _ rfl
            have s0 := RX1.out.cell 0 _ rfl
            have s1 := RX1.out.cell 1 _ rfl
            have s2 := RX1.out.cell 2 _ rfl
            have s3 := RX1.out.cell 3 _ rfl
            have s4 := RX1.out.cell 4 _ rfl
            have s5 := RX1.out.cell 5 _ rfl
            have s6 := RX1.out.cell 6 _ rfl
            have s7 := RX1.out.cell 7 _ rfl
            have s8 := RX1.out.cell 8 _ rfl
            have s9 := RX1.out.cell 9 _ rfl
            have s10 := RX1.out.cell 10 _ rfl
            have s11 := RX1.out.cell 11 _ rfl
            have sf := RX1.out.fz
            have sl := RX1.out.lt
            go_wp2
            go_quiet (fail)
            go_wp2
            refine bodyPost_ret (v := .tuple #[arr4 Pd.zero Pd.zero Pd.zero Pd.zero, .int .i64 1]) (by simp [results, Tryd.results23, go_sem, arr4, Pd.zero, s0, s1, s2, s3, s4, s5, s6, s7, s8, s9, s10, s11]) rfl ?_
            exact zero_ret w p0 p1 p2 p3 m _ _ HER.out HE0.out (below_set12 (HB1.out.trans (below_draws _ _ _)) (Nat.le_succ _) _ _ _ _ _ _ _ _ _ _ _ _)
        · have E1 := Keep.mk c1
          have E2 := Keep.mk c2
          clear c1 c2
          have j2 := IX1.out.cell 9 _ rfl
          have j3 := IX1.out.cell 10 _ rfl
          by_cases hw : p3.w = p0.w
          · have b1 : (p3.w != p0.w) = false := by simp [hw]
            by_cases hh : p3.h = p0.h
            · have b2 : (p3.h != p0.h) = false := by simp [hh]
              have EC : Keep (p3.w = p0.w ∧ p3.h = p0.h) := ⟨hw, hh⟩
              clear hw hh
              go_wp2
              go_quiet (fail)
              go_wp2
              go_roundw
              case rel => exact ⟨IX1.out.drewN _, RX1.out.drewN _, OX1.out.drewN _, HB1.out.trans (below_draws _ _ _), .inr (.inr (.inr (⟨rfl, E1.out, E2.out, EC.out⟩)))⟩
              case measure => simp [intOf]
            · have b2 : (p3.h != p0.h) = true := by simp [hh]
              have HER : Keep (limErr p0 p1 p2 p3 m = 1) := ⟨by unfold limErr; rw [if_neg (by simp [K0.out]), if_neg (by simp [K1.out]), if_neg (by simp [K2.out]), if_neg (by simp [K3.out]), if_neg (by simp [E1.out]), if_neg (by simp [E2.out]), if_pos (.inr hh)]⟩
              clear hw hh
              have HE0 : Keep ((1 : Int) ≠ 0) := ⟨by decide⟩
              have o0 := OX1.out.cell 0 _ rfl
              have o1 := OX1.out.cell 1 _ rfl
              have o2 := OX1.out.cell 2 _ rfl
              have o3 := OX1.out.cell 3 _ rfl
              have o4 := OX1.out.cell 4 _ rfl
              have o5 := OX1.out.cell 5 _ rfl
              have o6 := OX1.out.cell 6 _ rfl
              have o7 := OX1.out.cell 7 _ rfl
              have o8 := OX1.out.cell 8 _ rfl
              have o9 := OX1.out.cell 9 _ rfl
              have o10 := OX1.out.cell 10 _ rfl
              have o11 := OX1.out.cell 11 _ rfl
              have s0 := RX1.out.cell 0 _ rfl
              have s1 := RX1.out.cell 1 _ rfl
              have s2 := RX1.out.cell 2 _ rfl
              have s3 := RX1.out.cell 3 _ rfl
              have s4 := RX1.out.cell 4 _ rfl
              have s5 := RX1.out.cell 5 _ rfl
              have s6 := RX1.out.cell 6 _ rfl
              have s7 := RX1.out.cell 7 _ rfl
              have s8 := RX1.out.cell 8 _ rfl
              have s9 := RX1.out.cell 9 _ rfl
              have s10 := RX1.out.cell 10 _ rfl
              have s11 := RX1.out.cell 11 _ rfl
              have sf := RX1.out.fz
              have sl := RX1.out.lt
              go_wp2
              go_quiet (fail)
              go_wp2
              refine bodyPost_ret (v := .tuple #[arr4 Pd.zero Pd.zero Pd.zero Pd.zero, .int .i64 1]) (by simp [results, Tryd.results23, go_sem, arr4, Pd.zero, s0, s1, s2, s3, s4, s5, s6, s7, s8, s9, s10, s11]) rfl ?_
              exact zero_ret w p0 p1 p2 p3 m _ _ HER.out HE0.out (below_set12 (HB1.out.trans (below_draws _ _ _)) (Nat.le_succ _) _ _ _ _ _ _ _ _ _ _ _ _)
          · have b1 : (p3.w != p0.w) = true := by simp [hw]
            have HER : Keep (limErr p0 p1 p2 p3 m = 1) := ⟨by unfold limErr; rw [if_neg (by simp [K0.out]), if_neg (by simp [K1.out]), if_neg (by simp [K2.out]), if_neg (by simp [K3.out]), if_neg (by simp [E1.out]), if_neg (by simp [E2.out]), if_pos (.inl hw)]⟩
            clear hw
            have HE0 : Keep ((1 : Int) ≠ 0) := ⟨by decide⟩
            have o0 := OX1.out.cell 0 _ rfl
            have o1 := OX1.out.cell 1 _ rfl
            have o2 := OX1.out.cell 2 _ rfl
            have o3 := OX1.out.cell 3 _ rfl
            have o4 := OX1.out.cell 4 _ rfl
            have o5 := OX1.out.cell 5 _ rfl
            have o6 := OX1.out.cell 6 _ rfl
            have o7 := OX1.out.cell 7 _ rfl
            have o8 := OX1.out.cell 8 _ rfl
            have o9 := OX1.out.cell 9 _ rfl
            have o10 := OX1.out.cell 10 _ rfl
            have o11 := OX1.out.cell 11 _ rfl
            have s0 := RX1.out.cell 0 _ rfl
            have s1 := RX1.out.cell 1 _ rfl
            have s2 := RX1.out.cell 2 _ rfl
            have s3 := RX1.out.cell 3 _ rfl
            have s4 := RX1.out.cell 4 _ rfl
            have s5 := RX1.out.cell 5 _ rfl
            have s6 := RX1.out.cell 6 _ rfl
            have s7 := RX1.out.cell 7 _ rfl
            have s8 := RX1.out.cell 8 _ rfl
            have s9 := RX1.out.cell 9 _ rfl
            have s10 := RX1.out.cell 10 _ rfl
            have s11 := RX1.out.cell 11 _ rfl
            have sf := RX1.out.fz
            have sl := RX1.out.lt
            go_wp2
            go_quiet (fail)
            go_wp2
            refine bodyPost_ret (v := .tuple #[arr4 Pd.zero Pd.zero Pd.zero Pd.zero, .int .i64 1]) (by simp [results, Tryd.results23, go_sem, arr4, Pd.zero, s0, s1, s2, s3, s4, s5, s6, s7, s8, s9, s10, s11]) rfl ?_
            exact zero_ret w p0 p1 p2 p3 m _ _ HER.out HE0.out (below_set12 (HB1.out.trans (below_draws _ _ _)) (Nat.le_succ _) _ _ _ _ _ _ _ _ _ _ _ _)
        · have E1 := Keep.mk c1
          have E2 := Keep.mk c2
          have E3 := Keep.mk c3
          clear c1 c2 c3 j0 j1
          by_cases hm0 : m < 0
          · have HER : Keep (limErr p0 p1 p2 p3 m = 2) := ⟨by unfold limErr; rw [if_neg (by simp [K0.out]), if_neg (by simp [K1.out]), if_neg (by simp [K2.out]), if_neg (by simp [K3.out]), if_neg (by simp [E1.out]), if_neg (by simp [E2.out]), if_neg (by simp [E3.out]), if_pos hm0]⟩
            have HE0 : Keep ((2 : Int) ≠ 0) := ⟨by decide⟩
            have o0 := OX1.out.cell 0 _ rfl
            have o1 := OX1.out.cell 1 _ rfl
            have o2 := OX1.out.cell 2 _ rfl
            have o3 := OX1.out.cell 3 _ rfl
            have o4 := OX1.out.cell 4 _ rfl
            have o5 := OX1.out.cell 5 _ rfl
            have o6 := OX1.out.cell 6 _ rfl
            have o7 := OX1.out.cell 7 _ rfl
            have o8 := OX1.out.cell 8 _ rfl
            have o9 := OX1.out.cell 9 _ rfl
            have o10 := OX1.out.cell 10 _ rfl
            have o11 := OX1.out.cell 11 _ rfl
            have s0 := RX1.out.cell 0 _ rfl
            have s1 := RX1.out.cell 1 _ rfl
            have s2 := RX1.out.cell 2 _ rfl
            have s3 := RX1.out.cell 3 _ rfl
            have s4 := RX1.out.cell 4 _ rfl
            have s5 := RX1.out.cell 5 _ rfl
            have s6 := RX1.out.cell 6 _ rfl
            have s7 := RX1.out.cell 7 _ rfl
            have s8 := RX1.out.cell 8 _ rfl
            have s9 := RX1.out.cell 9 _ rfl
            have s10 := RX1.out.cell 10 _ rfl
            have s11 := RX1.out.cell 11 _ rfl
            have sf := RX1.out.fz
            have sl := RX1.out.lt
            go_wp2
            refine bodyPost_ret (v := .tuple #[arr4 Pd.zero Pd.zero Pd.zero Pd.zero, .int .i64 2]) (by simp [results, Tryd.results23, go_sem, arr4, Pd.zero, s0, s1, s2, s3, s4, s5, s6, s7, s8, s9, s10, s11]) rfl ?_
            exact zero_ret w p0 p1 p2 p3 m _ _ HER.out HE0.out (below_set12 HB1.out (Nat.le_succ _) _ _ _ _ _ _ _ _ _ _ _ _)
          · by_cases hm1 : 400 < m
            · have HER : Keep (limErr p0 p1 p2 p3 m = 2) := ⟨by unfold limErr; rw [if_neg (by simp [K0.out]), if_neg (by simp [K1.out]), if_neg (by simp [K2.out]), if_neg (by simp [K3.out]), if_neg (by simp [E1.out]), if_neg (by simp [E2.out]), if_neg (by simp [E3.out]), if_neg hm0, if_pos hm1]⟩
              have HE0 : Keep ((2 : Int) ≠ 0) := ⟨by decide⟩
              have o0 := OX1.out.cell 0 _ rfl
              have o1 := OX1.out.cell 1 _ rfl
              have o2 := OX1.out.cell 2 _ rfl
              have o3 := OX1.out.cell 3 _ rfl
              have o4 := OX1.out.cell 4 _ rfl
              have o5 := OX1.out.cell 5 _ rfl
              have o6 := OX1.out.cell 6 _ rfl
              have o7 := OX1.out.cell 7 _ rfl
              have o8 := OX1.out.cell 8 _ rfl
              have o9 := OX1.out.cell 9 _ rfl
              have o10 := OX1.out.cell 10 _ rfl
              have o11 := OX1.out.cell 11 _ rfl
              have s0 := RX1.out.cell 0 _ rfl
              have s1 := RX1.out.cell 1 _ rfl
              have s2 := RX1.out.cell 2 _ rfl
              have s3 := RX1.out.cell 3 _ rfl
              have s4 := RX1.out.cell 4 _ rfl
              have s5 := RX1.out.cell 5 _ rfl
              have s6 := RX1.out.cell 6 _ rfl
              have s7 := RX1.out.cell 7 _ rfl
              have s8 := RX1.out.cell 8 _ rfl
              have s9 := RX1.out.cell 9 _ rfl
              have s10 := RX1.out.cell 10 _ rfl
              have s11 := RX1.out.cell 11 _ rfl
              have sf := RX1.out.fz
              have sl := RX1.out.lt
              go_wp2
              refine bodyPost_ret (v := .tuple #[arr4 Pd.zero Pd.zero Pd.zero Pd.zero, .int .i64 2]) (by simp [results, Tryd.results23, go_sem, arr4, Pd.zero, s0, s1, s2, s3, s4, s5, s6, s7, s8, s9, s10, s11]) rfl ?_
              exact zero_ret w p0 p1 p2 p3 m _ _ HER.out HE0.out (below_set12 HB1.out (Nat.le_succ _) _ _ _ _ _ _ _ _ _ _ _ _)
            · have HER : Keep (limErr p0 p1 p2 p3 m = 0) := ⟨by unfold limErr; rw [if_neg (by simp [K0.out]), if_neg (by simp [K1.out]), if_neg (by simp [K2.out]), if_neg (by simp [K3.out]), if_neg (by simp [E1.out]), if_neg (by simp [E2.out]), if_neg (by simp [E3.out]), if_neg hm0, if_neg hm1]⟩
              go_wp2
              have L0 := H0.out.len
              have L1 := H1.out.len
              have L2 := H2.out.len
              have L3 := H3.out.len
              have G0 := Pl.check_ok K0.out
              have G1 := Pl.check_ok K1.out
              have G2 := Pl.check_ok K2.out
              have G3 := Pl.check_ok K3.out
              have e1 : p1.n = p0.n := by have h1 := G0.2.2.1; have h2 := G1.2.2.1; rw [E1.out.1, E1.out.2] at h2; omega
              have e2 : p2.n = p0.n := by have h1 := G0.2.2.1; have h2 := G2.2.2.1; rw [E2.out.1, E2.out.2] at h2; omega
              have e3 : p3.n = p0.n := by have h1 := G0.2.2.1; have h2 := G3.2.2.1; rw [E3.out.1, E3.out.2] at h2; omega
              have hN : p0.n ≤ 65536 := by have h1 := Pl.side_mul G0.1 G0.2.1; have h2 := G0.2.2.1; omega
              have HG0 : Keep (∀ x ∈ p0.l, 0 ≤ x ∧ x ≤ 100) := ⟨G0.2.2.2⟩
              have HG1 : Keep (∀ x ∈ p1.l, 0 ≤ x ∧ x ≤ 100) := ⟨G1.2.2.2⟩
              have HG2 : Keep (∀ x ∈ p2.l, 0 ≤ x ∧ x ≤ 100) := ⟨G2.2.2.2⟩
              have HG3 : Keep (∀ x ∈ p3.l, 0 ≤ x ∧ x ≤ 100) := ⟨G3.2.2.2⟩
              have HL0 : Keep (p0.l.length = p0.n) := ⟨L0⟩
              have HL1 : Keep (p1.l.length = p0.n) := ⟨by omega⟩
              have HL2 : Keep (p2.l.length = p0.n) := ⟨by omega⟩
              have HL3 : Keep (p3.l.length = p0.n) := ⟨by omega⟩
              have N1 := Keep.mk e1
              have N2 := Keep.mk e2
              have N3 := Keep.mk e3
              clear L0 L1 L2 L3 G0 G1 G2 G3 e1 e2 e3
              go_loopw [10] (fun i wr => Bx wr w.heap.size [.int .i64 p0.w, .int .i64 p0.h, .slice p0.a p0.n p0.c, .int .i64 p1.w, .int .i64 p1.h, .slice p1.a p1.n p1.c, .int .i64 p2.w, .int .i64 p2.h, .slice p2.a p2.n p2.c, .int .i64 p3.w, .int .i64 p3.h, .slice p3.a p3.n p3.c] ∧ Bx wr (w.heap.size + 1) [.int .i64 0, .int .i64 0, .slice none 0 0, .int .i64 0, .int .i64 0, .slice none 0 0, .int .i64 0, .int .i64 0, .slice none 0 0, .int .i64 0, .int .i64 0, .slice none 0 0] ∧ Below w.heap.size w wr ∧ ((i = .int .i64 0 ∧ Bx wr (w.heap.size + 2) [.int .i64 0, .int .i64 0, .slice none 0 0, .int .i64 0, .int .i64 0, .slice none 0 0, .int .i64 0, .int .i64 0, .slice none 0 0, .int .i64 0, .int .i64 0, .slice none 0 0]) ∨ (i = .int .i64 1 ∧ Bx wr (w.heap.size + 2) [.int .i64 p0.w, .int .i64 p0.h, .slice none 0 0, .int .i64 0, .int .i64 0, .slice none 0 0, .int .i64 0, .int .i64 0, .slice none 0 0, .int .i64 0, .int .i64 0, .slice none 0 0]) ∨ (i = .int .i64 2 ∧ Bx wr (w.heap.size + 2) [.int .i64 p0.w, .int .i64 p0.h, .slice none 0 0, .int .i64 p1.w, .int .i64 p1.h, .slice none 0 0, .int .i64 0, .int .i64 0, .slice none 0 0, .int .i64 0, .int .i64 0, .slice none 0 0]) ∨ (i = .int .i64 3 ∧ Bx wr (w.heap.size + 2) [.int .i64 p0.w, .int .i64 p0.h, .slice none 0 0, .int .i64 p1.w, .int .i64 p1.h, .slice none 0 0, .int .i64 p2.w, .int .i64 p2.h, .slice none 0 0, .int .i64 0, .int .i64 0, .slice none 0 0]) ∨ (i = .int .i64 4 ∧ Bx wr (w.heap.size + 2) [.int .i64 p0.w, .int .i64 p0.h, .slice none 0 0, .int .i64 p1.w, .int .i64 p1.h, .slice none 0 0, .int .i64 p2.w, .int .i64 p2.h, .slice none 0 0, .int .i64 p3.w, .int .i64 p3.h, .slice none 0 0]))) (fun i _ => 4 - (intOf i).toNat)
              case atStart => exact ⟨IX1.out, RX1.out, HB1.out, .inl ⟨rfl, OX1.out⟩⟩
              case round =>
                obtain ⟨hi, hr, hb, h⟩ := hrel
                clear IX1 OX1 RX1 HB1
                have IX1 := Keep.mk hi
                have RX1 := Keep.mk hr
                have HB1 := Lib.hid hb
                clear hi hr hb
                rcases h with ⟨rfl, ho⟩ | ⟨rfl, ho⟩ | ⟨rfl, ho⟩ | ⟨rfl, ho⟩ | ⟨rfl, ho⟩
                · have OX1 := Keep.mk ho
                  have oa := ho.cell 0 _ rfl
                  have oc := ho.cell 1 _ rfl
                  have of := ho.fz
                  clear ho
                  have hne : ¬ w.heap.size + 2 = w.heap.size := by omega
                  have hne1 : ¬ w.heap.size + 2 = w.heap.size + 1 := by omega
                  have KP : Hid (∀ X, Bx X w.heap.size [.int .i64 p0.w, .int .i64 p0.h, .slice p0.a p0.n p0.c, .int .i64 p1.w, .int .i64 p1.h, .slice p1.a p1.n p1.c, .int .i64 p2.w, .int .i64 p2.h, .slice p2.a p2.n p2.c, .int .i64 p3.w, .int .i64 p3.h, .slice p3.a p3.n p3.c] → X.cell? ⟨w.heap.size, 0, none⟩ = some (.int .i64 p0.w) ∧ X.cell? ⟨w.heap.size, 1, none⟩ = some (.int .i64 p0.h)) := fun X h => ⟨h.cell 0 _ rfl, h.cell 1 _ rfl⟩
                  go_wp2
                  go_region_held3 (fun X => X.cell? ⟨w.heap.size, 0, none⟩ = some (.int .i64 p0.w) ∧ X.cell? ⟨w.heap.size, 1, none⟩ = some (.int .i64 p0.h))
                    (first | exact KP.out _ (IX1.out.drewN 1) | exact KP.out _ ((IX1.out.other (p := ⟨_, _, none⟩) hne _).drewN 1) | exact KP.out _ (((IX1.out.other (p := ⟨_, _, none⟩) hne _).other (p := ⟨_, _, none⟩) hne _).drewN 1))
                    (fail)
                  go_wp2
                  go_roundw
                  case rel => exact ⟨((IX1.out.other (p := ⟨_, _, none⟩) hne _).other (p := ⟨_, _, none⟩) hne _).drewN 1, ((RX1.out.other (p := ⟨_, _, none⟩) hne1 _).other (p := ⟨_, _, none⟩) hne1 _).drewN 1, ((HB1.out.setCell (by simp only; omega) _).setCell (by simp only; omega) _).trans (below_draws _ _ 1), .inr (.inl ⟨rfl, ((OX1.out.set (j := 0) (by simp) _).set (j := 1) (by simp) _).drewN 1⟩)⟩
                  case measure => simp [intOf]
                · have OX1 := Keep.mk ho
                  have oa := ho.cell 3 _ rfl
                  have oc := ho.cell 4 _ rfl
                  have of := ho.fz
                  clear ho
                  have hne : ¬ w.heap.size + 2 = w.heap.size := by omega
                  have hne1 : ¬ w.heap.size + 2 = w.heap.size + 1 := by omega
                  have KP : Hid (∀ X, Bx X w.heap.size [.int .i64 p0.w, .int .i64 p0.h, .slice p0.a p0.n p0.c, .int .i64 p1.w, .int .i64 p1.h, .slice p1.a p1.n p1.c, .int .i64 p2.w, .int .i64 p2.h, .slice p2.a p2.n p2.c, .int .i64 p3.w, .int .i64 p3.h, .slice p3.a p3.n p3.c] → X.cell? ⟨w.heap.size, 3, none⟩ = some (.int .i64 p1.w) ∧ X.cell? ⟨w.heap.size, 4, none⟩ = some (.int .i64 p1.h)) := fun X h => ⟨h.cell 3 _ rfl, h.cell 4 _ rfl⟩
                  go_wp2
                  go_region_held3 (fun X => X.cell? ⟨w.heap.size, 3, none⟩ = some (.int .i64 p1.w) ∧ X.cell? ⟨w.heap.size, 4, none⟩ = some (.int .i64 p1.h))
                    (first | exact KP.out _ (IX1.out.drewN 1) | exact KP.out _ ((IX1.out.other (p := ⟨_, _, none⟩) hne _).drewN 1) | exact KP.out _ (((IX1.out.other (p := ⟨_, _, none⟩) hne _).other (p := ⟨_, _, none⟩) hne _).drewN 1))
                    (fail)
                  go_wp2
                  go_roundw
                  case rel => exact ⟨((IX1.out.other (p := ⟨_, _, none⟩) hne _).other (p := ⟨_, _, none⟩) hne _).drewN 1, ((RX1.out.other (p := ⟨_, _, none⟩) hne1 _).other (p := ⟨_, _, none⟩) hne1 _).drewN 1, ((HB1.out.setCell (by simp only; omega) _).setCell (by simp only; omega) _).trans (below_draws _ _ 1), .inr (.inr (.inl ⟨rfl, ((OX1.out.set (j := 3) (by simp) _).set (j := 4) (by simp) _).drewN 1⟩))⟩
                  case measure => simp [intOf]
                · have OX1 := Keep.mk ho
                  have oa := ho.cell 6 _ rfl
                  have oc := ho.cell 7 _ rfl
                  have of := ho.fz
                  clear ho
                  have hne : ¬ w.heap.size + 2 = w.heap.size := by omega
                  have hne1 : ¬ w.heap.size + 2 = w.heap.size + 1 := by omega
                  have KP : Hid (∀ X, Bx X w.heap.size [.int .i64 p0.w, .int .i64 p0.h, .slice p0.a p0.n p0.c, .int .i64 p1.w, .int .i64 p1.h, .slice p1.a p1.n p1.c, .int .i64 p2.w, .int .i64 p2.h, .slice p2.a p2.n p2.c, .int .i64 p3.w, .int .i64 p3.h, .slice p3.a p3.n p3.c] → X.cell? ⟨w.heap.size, 6, none⟩ = some (.int .i64 p2.w) ∧ X.cell? ⟨w.heap.size, 7, none⟩ = some (.int .i64 p2.h)) := fun X h => ⟨h.cell 6 _ rfl, h.cell 7 _ rfl⟩
                  go_wp2
                  go_region_held3 (fun X => X.cell? ⟨w.heap.size, 6, none⟩ = some (.int .i64 p2.w) ∧ X.cell? ⟨w.heap.size, 7, none⟩ = some (.int .i64 p2.h))
                    (first | exact KP.out _ (IX1.out.drewN 1) | exact KP.out _ ((IX1.out.other (p := ⟨_, _, none⟩) hne _).drewN 1) | exact KP.out _ (((IX1.out.other (p := ⟨_, _, none⟩) hne _).other (p := ⟨_, _, none⟩) hne _).drewN 1))
                    (fail)
                  go_wp2
                  go_roundw
                  case rel => exact ⟨((IX1.out.other (p := ⟨_, _, none⟩) hne _).other (p := ⟨_, _, none⟩) hne _).drewN 1, ((RX1.out.other (p := ⟨_, _, none⟩) hne1 _).other (p := ⟨_, _, none⟩) hne1 _).drewN 1, ((HB1.out.setCell (by simp only; omega) _).setCell (by simp only; omega) _).trans (below_draws _ _ 1), .inr (.inr (.inr (.inl ⟨rfl, ((OX1.out.set (j := 6) (by simp) _).set (j := 7) (by simp) _).drewN 1⟩)))⟩
                  case measure => simp [intOf]
                · have OX1 := Keep.mk ho
                  have oa := ho.cell 9 _ rfl
                  have oc := ho.cell 10 _ rfl
                  have of := ho.fz
                  clear ho
                  have hne : ¬ w.heap.size + 2 = w.heap.size := by omega
                  have hne1 : ¬ w.heap.size + 2 = w.heap.size + 1 := by omega
                  have KP : Hid (∀ X, Bx X w.heap.size [.int .i64 p0.w, .int .i64 p0.h, .slice p0.a p0.n p0.c, .int .i64 p1.w, .int .i64 p1.h, .slice p1.a p1.n p1.c, .int .i64 p2.w, .int .i64 p2.h, .slice p2.a p2.n p2.c, .int .i64 p3.w, .int .i64 p3.h, .slice p3.a p3.n p3.c] → X.cell? ⟨w.heap.size, 9, none⟩ = some (.int .i64 p3.w) ∧ X.cell? ⟨w.heap.size, 10, none⟩ = some (.int .i64 p3.h)) := fun X h => ⟨h.cell 9 _ rfl, h.cell 10 _ rfl⟩
                  go_wp2
                  go_region_held3 (fun X => X.cell? ⟨w.heap.size, 9, none⟩ = some (.int .i64 p3.w) ∧ X.cell? ⟨w.heap.size, 10, none⟩ = some (.int .i64 p3.h))
                    (first | exact KP.out _ (IX1.out.drewN 1) | exact KP.out _ ((IX1.out.other (p := ⟨_, _, none⟩) hne _).drewN 1) | exact KP.out _ (((IX1.out.other (p := ⟨_, _, none⟩) hne _).other (p := ⟨_, _, none⟩) hne _).drewN 1))
                    (fail)
                  go_wp2
                  go_roundw
                  case rel => exact ⟨((IX1.out.other (p := ⟨_, _, none⟩) hne _).other (p := ⟨_, _, none⟩) hne _).drewN 1, ((RX1.out.other (p := ⟨_, _, none⟩) hne1 _).other (p := ⟨_, _, none⟩) hne1 _).drewN 1, ((HB1.out.setCell (by simp only; omega) _).setCell (by simp only; omega) _).trans (below_draws _ _ 1), .inr (.inr (.inr (.inr (⟨rfl, ((OX1.out.set (j := 9) (by simp) _).set (j := 10) (by simp) _).drewN 1⟩))))⟩
                  case measure => simp [intOf]
                · have OX1 := Keep.mk ho
                  clear ho
                  go_wp2
                  have LR : Keep ((redAll p0 p1 p2 p3 m).length = p0.n) := ⟨redAll_len _ _ _ _ _⟩
                  have hw3 : w.heap.size + 3 ≤ wr.heap.size := OX1.out.lt
                  obtain ⟨wo, rfl⟩ : ∃ wo : World, wo = wr := ⟨_, rfl⟩
                  go_loopw [11] (fun i wr => ∃ (j : Nat) (v : Nat → Value), j ≤ p0.n ∧ i = .int .i64 j ∧ Bx wr w.heap.size [.int .i64 p0.w, .int .i64 p0.h, .slice p0.a p0.n p0.c, .int .i64 p1.w, .int .i64 p1.h, .slice p1.a p1.n p1.c, .int .i64 p2.w, .int .i64 p2.h, .slice p2.a p2.n p2.c, .int .i64 p3.w, .int .i64 p3.h, .slice p3.a p3.n p3.c] ∧ Bx wr (w.heap.size + 1) [.int .i64 0, .int .i64 0, .slice none 0 0, .int .i64 0, .int .i64 0, .slice none 0 0, .int .i64 0, .int .i64 0, .slice none 0 0, .int .i64 0, .int .i64 0, .slice none 0 0] ∧ Bx wr (w.heap.size + 2) [.int .i64 p0.w, .int .i64 p0.h, v 0, .int .i64 p1.w, .int .i64 p1.h, v 1, .int .i64 p2.w, .int .i64 p2.h, v 2, .int .i64 p3.w, .int .i64 p3.h, v 3] ∧ Rows4 wr (w.heap.size + 3) v (fun _ => j) (fun t => (redc p0 p1 p2 p3 m t).take j) ∧ Below w.heap.size w wr) (fun i _ => p0.n - (intOf i).toNat)
                  case atStart => exact ⟨0, (fun _ => .slice none 0 0), Nat.zero_le _, rfl, IX1.out, RX1.out, OX1.out, (Rows4.nil _ _).congr (fun _ _ => rfl) (fun _ _ => by simp), HB1.out⟩
                  case round =>
                    obtain ⟨j, v, hj, rfl, hi, hr, ho, hrw, hb⟩ := hrel
                    clear IX1 OX1 RX1 HB1
                    have IX1 := Keep.mk hi
                    have RX1 := Keep.mk hr
                    have OX1 := Keep.mk ho
                    have RW1 := Keep.mk hrw
                    have HB1 := Lib.hid hb
                    have i2 := hi.cell 2 _ rfl
                    have hw4 : w.heap.size + 3 ≤ wr.heap.size := ho.lt
                    clear hi hr ho hrw hb
                    by_cases hlt : j < p0.n
                    · have hj1 : j < p1.n := by have := N1.out; omega
                      have hj2 : j < p2.n := by have := N2.out; omega
                      have hj3 : j < p3.n := by have := N3.out; omega
                      obtain ⟨x0, hx0⟩ : ∃ x, p0.l[j]? = some x := ⟨_, List.getElem?_eq_getElem (by have := HL0.out; omega)⟩
                      have hB0 := HG0.out x0 (List.mem_of_getElem? hx0)
                      have X0 := Keep.mk hx0
                      obtain ⟨b0, u0x, e0, l0, c0⟩ := RI.at_ (Pd.Ok.below H0.out HB1.out) (k := j) (by have := HL0.out; omega)
                      have d0 : p0.l[j]'(by have := HL0.out; omega) = x0 := by have h := hx0; rw [List.getElem?_eq_getElem (by have := HL0.out; omega)] at h; exact Option.some.inj h
                      rw [d0] at c0
                      obtain ⟨x1, hx1⟩ : ∃ x, p1.l[j]? = some x := ⟨_, List.getElem?_eq_getElem (by have := HL1.out; omega)⟩
                      have hB1 := HG1.out x1 (List.mem_of_getElem? hx1)
                      have X1 := Keep.mk hx1
                      obtain ⟨b1, u1x, e1, l1, c1⟩ := RI.at_ (Pd.Ok.below H1.out HB1.out) (k := j) (by have := HL1.out; omega)
                      have d1 : p1.l[j]'(by have := HL1.out; omega) = x1 := by have h := hx1; rw [List.getElem?_eq_getElem (by have := HL1.out; omega)] at h; exact Option.some.inj h
                      rw [d1] at c1
                      obtain ⟨x2, hx2⟩ : ∃ x, p2.l[j]? = some x := ⟨_, List.getElem?_eq_getElem (by have := HL2.out; omega)⟩
                      have hB2 := HG2.out x2 (List.mem_of_getElem? hx2)
                      have X2 := Keep.mk hx2
                      obtain ⟨b2, u2x, e2, l2, c2⟩ := RI.at_ (Pd.Ok.below H2.out HB1.out) (k := j) (by have := HL2.out; omega)
                      have d2 : p2.l[j]'(by have := HL2.out; omega) = x2 := by have h := hx2; rw [List.getElem?_eq_getElem (by have := HL2.out; omega)] at h; exact Option.some.inj h
                      rw [d2] at c2
                      obtain ⟨x3, hx3⟩ : ∃ x, p3.l[j]? = some x := ⟨_, List.getElem?_eq_getElem (by have := HL3.out; omega)⟩
                      have hB3 := HG3.out x3 (List.mem_of_getElem? hx3)
                      have X3 := Keep.mk hx3
                      obtain ⟨b3, u3x, e3, l3, c3⟩ := RI.at_ (Pd.Ok.below H3.out HB1.out) (k := j) (by have := HL3.out; omega)
                      have d3 : p3.l[j]'(by have := HL3.out; omega) = x3 := by have h := hx3; rw [List.getElem?_eq_getElem (by have := HL3.out; omega)] at h; exact Option.some.inj h
                      rw [d3] at c3
                      clear hx0 hx1 hx2 hx3 d0 d1 d2 d3
                      obtain ⟨y0, y1, y2, y3, hy⟩ : ∃ y0 y1 y2 y3, Pl.reduce x0 x1 x2 x3 m = (y0, y1, y2, y3) := ⟨_, _, _, _, rfl⟩
                      have HY : Keep ((redAll p0 p1 p2 p3 m)[j]? = some (y0, y1, y2, y3)) := ⟨by rw [List.getElem?_eq_getElem (by rw [LR.out]; exact hlt), redAll_get _ _ _ _ _ _ hlt, List.getD, List.getD, List.getD, List.getD, X0.out, X1.out, X2.out, X3.out]; exact congrArg some hy⟩
                      have HLI : Hid (∀ X : World, Calls Tryd.prog 37 #[.agg #[.int .i64 x0, .int .i64 x1, .int .i64 x2, .int .i64 x3], .int .i64 m] X fun e w' => e = .returned (.agg #[.int .i64 y0, .int .i64 y1, .int .i64 y2, .int .i64 y3]) ∧ Below X.heap.size X w') := fun X => by have h := limited_any x0 x1 x2 x3 m X hB0 hB1 hB2 hB3 (by omega); rw [hy] at h; exact h
                      clear hy hB0 hB1 hB2 hB3
                      have KP : Hid (∀ X, Below wr.heap.size wr X → X.cell? ⟨w.heap.size, 2, none⟩ = some (.slice (some ⟨b0, u0x, none⟩) p0.n p0.c) ∧ X.cell? ⟨w.heap.size, 5, none⟩ = some (.slice (some ⟨b1, u1x, none⟩) p1.n p1.c) ∧ X.cell? ⟨w.heap.size, 8, none⟩ = some (.slice (some ⟨b2, u2x, none⟩) p2.n p2.c) ∧ X.cell? ⟨w.heap.size, 11, none⟩ = some (.slice (some ⟨b3, u3x, none⟩) p3.n p3.c) ∧ X.cell? ⟨b0, u0x + j, none⟩ = some (.int .i64 x0) ∧ X.cell? ⟨b1, u1x + j, none⟩ = some (.int .i64 x1) ∧ X.cell? ⟨b2, u2x + j, none⟩ = some (.int .i64 x2) ∧ X.cell? ⟨b3, u3x + j, none⟩ = some (.int .i64 x3)) := fun X h => ⟨by rw [← e0]; exact (IX1.out.below h).cell 2 _ rfl, by rw [← e1]; exact (IX1.out.below h).cell 5 _ rfl, by rw [← e2]; exact (IX1.out.below h).cell 8 _ rfl, by rw [← e3]; exact (IX1.out.below h).cell 11 _ rfl, (h.cell (p := ⟨_, _, none⟩) l0).trans c0, (h.cell (p := ⟨_, _, none⟩) l1).trans c1, (h.cell (p := ⟨_, _, none⟩) l2).trans c2, (h.cell (p := ⟨_, _, none⟩) l3).trans c3⟩
                      clear c0 c1 c2 c3 e0 e1 e2 e3
                      have z0 : (0 : Int) ≤ (j : Int) := by omega
                      have z1 : (j : Int) < (p0.n : Int) := by omega
                      have z2 : (j : Int) < (p1.n : Int) := by omega
                      have z3 : (j : Int) < (p2.n : Int) := by omega
                      have z4 : (j : Int) < (p3.n : Int) := by omega
                      have HC : Hid (Below wr.heap.size wr wr.drew) := below_draws _ _ 1
                      go_wp2
                      go_upto_region 22 with fail
                      go_cut [12] from 74 to 124 (fun s X => ∃ lb, s = .pointer (some ⟨lb, 0, none⟩) ∧ wr.heap.size ≤ lb ∧ Bx X lb [.int .i64 y0, .int .i64 y1, .int .i64 y2, .int .i64 y3] ∧ Below wr.heap.size wr X)
                      case first =>
                        go_region_held3 (fun X => X.cell? ⟨w.heap.size, 2, none⟩ = some (.slice (some ⟨b0, u0x, none⟩) p0.n p0.c) ∧ X.cell? ⟨w.heap.size, 5, none⟩ = some (.slice (some ⟨b1, u1x, none⟩) p1.n p1.c) ∧ X.cell? ⟨w.heap.size, 8, none⟩ = some (.slice (some ⟨b2, u2x, none⟩) p2.n p2.c) ∧ X.cell? ⟨w.heap.size, 11, none⟩ = some (.slice (some ⟨b3, u3x, none⟩) p3.n p3.c) ∧ X.cell? ⟨b0, u0x + j, none⟩ = some (.int .i64 x0) ∧ X.cell? ⟨b1, u1x + j, none⟩ = some (.int .i64 x1) ∧ X.cell? ⟨b2, u2x + j, none⟩ = some (.int .i64 x2) ∧ X.cell? ⟨b3, u3x + j, none⟩ = some (.int .i64 x3))
                          (first | exact KP.out _ HD.out | exact KP.out _ (HD.out.alloc HD.out.size _) | exact KP.out _ (below_draws _ _ 1) | exact KP.out _ ((below_alloc1 _ _).trans (below_draws _ _ 1)) | exact KP.out _ ((((HD.out.setCell (Nat.le_refl _) _).setCell (Nat.le_refl _) _).setCell (Nat.le_refl _) _).setCell (Nat.le_refl _) _))
                          (first | (go_at_call 37; ((refine (HLI.out _).mono ?_); rintro e wn ⟨rfl, hb⟩; first | (have HD : Hid (Below wr.heap.size wr wn) := below_next2 HC.out hb (Nat.le_refl _); clear hb) | (have HD : Hid (Below wr.heap.size wr wn) := below_next2 ((below_alloc1 _ _).trans (below_draws _ _ 1)) hb (Nat.le_refl _); have BN := Keep.mk (((Bx.new wr [.int .i64 0, .int .i64 0, .int .i64 0, .int .i64 0] 56).drewN 1).below hb); have n0 := BN.out.cell 0 _ rfl; have n1 := BN.out.cell 1 _ rfl; have n2 := BN.out.cell 2 _ rfl; have n3 := BN.out.cell 3 _ rfl; have nf := BN.out.fz; have nl := BN.out.lt; clear hb))))
                        all_goals go_wp2
                        · go_meet
                          exact ⟨_, rfl, HD.out.size, Bx.new wn [.int .i64 y0, .int .i64 y1, .int .i64 y2, .int .i64 y3] 56, HD.out.alloc HD.out.size _⟩
                        · go_meet
                          exact ⟨_, rfl, Nat.le_refl _, (((BN.out.set (j := 0) (by simp) _).set (j := 1) (by simp) _).set (j := 2) (by simp) _).set (j := 3) (by simp) _, (((HD.out.setCell (Nat.le_refl _) _).setCell (Nat.le_refl _) _).setCell (Nat.le_refl _) _).setCell (Nat.le_refl _) _⟩
                      case rest =>
                        obtain ⟨X1, hX1⟩ : ∃ X1, X1 = wc := ⟨_, rfl⟩
                        subst hX1
                        obtain ⟨lb, rfl, hlb, hlx, hbx⟩ := hcut
                        clear HC
                        have IX2 := Keep.mk (IX1.out.below hbx)
                        have RX2 := Keep.mk (RX1.out.below hbx)
                        have LX2 := Keep.mk hlx
                        have HB2 := Lib.hid (below_next2 HB1.out hbx (Nat.le_refl _))
                        have TN : Keep (Turn w.heap.size lb p0 p1 p2 p3 m j 0 X1 v) := ⟨Turn.start (OX1.out.below hbx) (RW1.out.below hbx) (fun t ht e => by have := ((RW1.out.own t ht).lt lb e.symm).2; omega)⟩
                        have hz2 := hbx.size
                        clear hbx hlx IX1 RX1 OX1 RW1 HB1
                        have hlb0 : w.heap.size + 3 ≤ lb := by omega
                        clear hz2 KP HLI
                        go_wp2
                        go_loopw [13] (fun i wr => Bx wr w.heap.size [.int .i64 p0.w, .int .i64 p0.h, .slice p0.a p0.n p0.c, .int .i64 p1.w, .int .i64 p1.h, .slice p1.a p1.n p1.c, .int .i64 p2.w, .int .i64 p2.h, .slice p2.a p2.n p2.c, .int .i64 p3.w, .int .i64 p3.h, .slice p3.a p3.n p3.c] ∧ Bx wr (w.heap.size + 1) [.int .i64 0, .int .i64 0, .slice none 0 0, .int .i64 0, .int .i64 0, .slice none 0 0, .int .i64 0, .int .i64 0, .slice none 0 0, .int .i64 0, .int .i64 0, .slice none 0 0] ∧ Bx wr lb [.int .i64 y0, .int .i64 y1, .int .i64 y2, .int .i64 y3] ∧ Below w.heap.size w wr ∧ ((i = .int .i64 0 ∧ ∃ v, Turn w.heap.size lb p0 p1 p2 p3 m j 0 wr v) ∨ (i = .int .i64 1 ∧ ∃ v, Turn w.heap.size lb p0 p1 p2 p3 m j 1 wr v) ∨ (i = .int .i64 2 ∧ ∃ v, Turn w.heap.size lb p0 p1 p2 p3 m j 2 wr v) ∨ (i = .int .i64 3 ∧ ∃ v, Turn w.heap.size lb p0 p1 p2 p3 m j 3 wr v) ∨ (i = .int .i64 4 ∧ ∃ v, Turn w.heap.size lb p0 p1 p2 p3 m j 4 wr v))) (fun i _ => 4 - (intOf i).toNat)
                        case atStart => exact ⟨IX2.out, RX2.out, LX2.out, HB2.out, .inl ⟨rfl, v, TN.out⟩⟩
                        case round =>
                          obtain ⟨hi, hr, hl, hb, h⟩ := hrel
                          clear IX2 RX2 LX2 HB2 TN
                          have IX3 := Keep.mk hi
                          have RX3 := Keep.mk hr
                          have LX3 := Keep.mk hl
                          have HB3 := Lib.hid hb
                          clear hi hr hl hb
                          rcases h with ⟨rfl, v5, ht⟩ | ⟨rfl, v5, ht⟩ | ⟨rfl, v5, ht⟩ | ⟨rfl, v5, ht⟩ | ⟨rfl, v5, ht⟩
                          · have TN5 := Keep.mk ht
                            have oc := ht.1.cell 2 _ rfl
                            have lc := LX3.out.cell 0 _ rfl
                            have hlx := LX3.out.lt
                            have hol := ht.1.lt
                            clear ht
                            have HBW : Hid (Below wr.heap.size wr (wr.alloc (.cells #[.int .i64 y0] 3)).drew) := (below_alloc1 _ _).trans (below_draws _ _ 1)
                            have HCY : Keep ((wr.alloc (.cells #[.int .i64 y0] 3)).drew.cell? ⟨wr.heap.size, 0, none⟩ = some (.int .i64 y0)) := ⟨((Bx.new wr [.int .i64 y0] 3).drewN 1).cell 0 _ rfl⟩
                            have HYK := Keep.mk (redc_at HY.out).1
                            go_wp2
                            go_region_law (refine step_append_turn _ (by rfl) (.tmp 117) (.tmp 121) (by rfl) TN5.out (by decide) 2 (by rfl) HBW.out (by rfl) wr.heap.size (by rfl) y0 HCY.out (by omega) (by omega) hlx hlb0 HYK.out ?_; intro g cap w9 hf9 hc9 H9)
                            all_goals
                              go_wp2
                              go_roundw
                              case rel => exact ⟨H9.out.2.1 _ _ IX3.out (.inl (by omega)), H9.out.2.1 _ _ RX3.out (.inl (by omega)), H9.out.2.1 _ _ LX3.out (.inr rfl), H9.out.2.2 w HB3.out, .inr (.inl ⟨rfl, _, H9.out.1⟩)⟩
                              case measure => simp [intOf]
                          · have TN5 := Keep.mk ht
                            have oc := ht.1.cell 5 _ rfl
                            have lc := LX3.out.cell 1 _ rfl
                            have hlx := LX3.out.lt
                            have hol := ht.1.lt
                            clear ht
                            have HBW : Hid (Below wr.heap.size wr (wr.alloc (.cells #[.int .i64 y1] 3)).drew) := (below_alloc1 _ _).trans (below_draws _ _ 1)
                            have HCY : Keep ((wr.alloc (.cells #[.int .i64 y1] 3)).drew.cell? ⟨wr.heap.size, 0, none⟩ = some (.int .i64 y1)) := ⟨((Bx.new wr [.int .i64 y1] 3).drewN 1).cell 0 _ rfl⟩
                            have HYK := Keep.mk (redc_at HY.out).2.1
                            go_wp2
                            go_region_law (refine step_append_turn _ (by rfl) (.tmp 117) (.tmp 121) (by rfl) TN5.out (by decide) 5 (by rfl) HBW.out (by rfl) wr.heap.size (by rfl) y1 HCY.out (by omega) (by omega) hlx hlb0 HYK.out ?_; intro g cap w9 hf9 hc9 H9)
                            all_goals
                              go_wp2
                              go_roundw
                              case rel => exact ⟨H9.out.2.1 _ _ IX3.out (.inl (by omega)), H9.out.2.1 _ _ RX3.out (.inl (by omega)), H9.out.2.1 _ _ LX3.out (.inr rfl), H9.out.2.2 w HB3.out, .inr (.inr (.inl ⟨rfl, _, H9.out.1⟩))⟩
                              case measure => simp [intOf]
                          · have TN5 := Keep.mk ht
                            have oc := ht.1.cell 8 _ rfl
                            have lc := LX3.out.cell 2 _ rfl
                            have hlx := LX3.out.lt
                            have hol := ht.1.lt
                            clear ht
                            have HBW : Hid (Below wr.heap.size wr (wr.alloc (.cells #[.int .i64 y2] 3)).drew) := (below_alloc1 _ _).trans (below_draws _ _ 1)
                            have HCY : Keep ((wr.alloc (.cells #[.int .i64 y2] 3)).drew.cell? ⟨wr.heap.size, 0, none⟩ = some (.int .i64 y2)) := ⟨((Bx.new wr [.int .i64 y2] 3).drewN 1).cell 0 _ rfl⟩
                            have HYK := Keep.mk (redc_at HY.out).2.2.1
                            go_wp2
                            go_region_law (refine step_append_turn _ (by rfl) (.tmp 117) (.tmp 121) (by rfl) TN5.out (by decide) 8 (by rfl) HBW.out (by rfl) wr.heap.size (by rfl) y2 HCY.out (by omega) (by omega) hlx hlb0 HYK.out ?_; intro g cap w9 hf9 hc9 H9)
                            all_goals
                              go_wp2
                              go_roundw
                              case rel => exact ⟨H9.out.2.1 _ _ IX3.out (.inl (by omega)), H9.out.2.1 _ _ RX3.out (.inl (by omega)), H9.out.2.1 _ _ LX3.out (.inr rfl), H9.out.2.2 w HB3.out, .inr (.inr (.inr (.inl ⟨rfl, _, H9.out.1⟩)))⟩
                              case measure => simp [intOf]
                          · have TN5 := Keep.mk ht
                            have oc := ht.1.cell 11 _ rfl
                            have lc := LX3.out.cell 3 _ rfl
                            have hlx := LX3.out.lt
                            have hol := ht.1.lt
                            clear ht
                            have HBW : Hid (Below wr.heap.size wr (wr.alloc (.cells #[.int .i64 y3] 3)).drew) := (below_alloc1 _ _).trans (below_draws _ _ 1)
                            have HCY : Keep ((wr.alloc (.cells #[.int .i64 y3] 3)).drew.cell? ⟨wr.heap.size, 0, none⟩ = some (.int .i64 y3)) := ⟨((Bx.new wr [.int .i64 y3] 3).drewN 1).cell 0 _ rfl⟩
                            have HYK := Keep.mk (redc_at HY.out).2.2.2
                            go_wp2
                            go_region_law (refine step_append_turn _ (by rfl) (.tmp 117) (.tmp 121) (by rfl) TN5.out (by decide) 11 (by rfl) HBW.out (by rfl) wr.heap.size (by rfl) y3 HCY.out (by omega) (by omega) hlx hlb0 HYK.out ?_; intro g cap w9 hf9 hc9 H9)
                            all_goals
                              go_wp2
                              go_roundw
                              case rel => exact ⟨H9.out.2.1 _ _ IX3.out (.inl (by omega)), H9.out.2.1 _ _ RX3.out (.inl (by omega)), H9.out.2.1 _ _ LX3.out (.inr rfl), H9.out.2.2 w HB3.out, .inr (.inr (.inr (.inr (⟨rfl, _, H9.out.1⟩))))⟩
                              case measure => simp [intOf]
                          · have TN5 := Keep.mk ht
                            clear ht
                            go_wp2
                            go_roundw
                            case rel => exact ⟨j + 1, v5, by omega, by go_num, IX3.out, RX3.out, TN5.out.1, TN5.out.finish, HB3.out⟩
                            case measure => simp [intOf]; omega
                    · obtain rfl : j = p0.n := by omega
                      have hcut : ∀ t, t < 4 → (redc p0 p1 p2 p3 m t).take p0.n = redc p0 p1 p2 p3 m t := fun t _ => List.take_of_length_le (by rw [redc_len]; exact Nat.le_refl _)
                      obtain ⟨A0, g0, hv0, _⟩ := Tgt.rd (.inr (RW1.out.own 0 (by decide)))
                      obtain ⟨A1, g1, hv1, _⟩ := Tgt.rd (.inr (RW1.out.own 1 (by decide)))
                      obtain ⟨A2, g2, hv2, _⟩ := Tgt.rd (.inr (RW1.out.own 2 (by decide)))
                      obtain ⟨A3, g3, hv3, _⟩ := Tgt.rd (.inr (RW1.out.own 3 (by decide)))
                      have RF : Keep (∀ u0 u1 u2 u3 u4 u5 u6 u7 u8 u9 u10 u11, Rows4 (((((((((((((wr.setCell ⟨(w.heap.size + 1), 0, none⟩ u0).setCell ⟨(w.heap.size + 1), 1, none⟩ u1).setCell ⟨(w.heap.size + 1), 2, none⟩ u2).setCell ⟨(w.heap.size + 1), 3, none⟩ u3).setCell ⟨(w.heap.size + 1), 4, none⟩ u4).setCell ⟨(w.heap.size + 1), 5, none⟩ u5).setCell ⟨(w.heap.size + 1), 6, none⟩ u6).setCell ⟨(w.heap.size + 1), 7, none⟩ u7).setCell ⟨(w.heap.size + 1), 8, none⟩ u8).setCell ⟨(w.heap.size + 1), 9, none⟩ u9).setCell ⟨(w.heap.size + 1), 10, none⟩ u10).setCell ⟨(w.heap.size + 1), 11, none⟩ u11)) (w.heap.size + 3) v (fun _ => p0.n) (fun t => (redc p0 p1 p2 p3 m t).take p0.n)) := ⟨fun u0 u1 u2 u3 u4 u5 u6 u7 u8 u9 u10 u11 => rows4_set12 RW1.out (by omega) _ _ _ _ _ _ _ _ _ _ _ _⟩
                      have HV : Keep (v 0 = .slice A0 p0.n g0 ∧ v 1 = .slice A1 p0.n g1 ∧ v 2 = .slice A2 p0.n g2 ∧ v 3 = .slice A3 p0.n g3) := ⟨hv0, hv1, hv2, hv3⟩
                      have HCT := Keep.mk hcut
                      have OX9 := OX1.out
                      rw [hv0, hv1, hv2, hv3] at OX9
                      have OXK := Keep.mk OX9
                      clear hcut hv0 hv1 hv2 hv3 OX9
                      have o0 := OXK.out.cell 0 _ rfl
                      have o1 := OXK.out.cell 1 _ rfl
                      have o2 := OXK.out.cell 2 _ rfl
                      have o3 := OXK.out.cell 3 _ rfl
                      have o4 := OXK.out.cell 4 _ rfl
                      have o5 := OXK.out.cell 5 _ rfl
                      have o6 := OXK.out.cell 6 _ rfl
                      have o7 := OXK.out.cell 7 _ rfl
                      have o8 := OXK.out.cell 8 _ rfl
                      have o9 := OXK.out.cell 9 _ rfl
                      have o10 := OXK.out.cell 10 _ rfl
                      have o11 := OXK.out.cell 11 _ rfl
                      have s0 := RX1.out.cell 0 _ rfl
                      have s1 := RX1.out.cell 1 _ rfl
                      have s2 := RX1.out.cell 2 _ rfl
                      have s3 := RX1.out.cell 3 _ rfl
                      have s4 := RX1.out.cell 4 _ rfl
                      have s5 := RX1.out.cell 5 _ rfl
                      have s6 := RX1.out.cell 6 _ rfl
                      have s7 := RX1.out.cell 7 _ rfl
                      have s8 := RX1.out.cell 8 _ rfl
                      have s9 := RX1.out.cell 9 _ rfl
                      have s10 := RX1.out.cell 10 _ rfl
                      have s11 := RX1.out.cell 11 _ rfl
                      have sf := RX1.out.fz
                      have sl := RX1.out.lt
                      clear hlt
                      go_wp2
                      refine bodyPost_ret (v := .tuple #[arr4 ⟨p0.w, p0.h, A0, p0.n, g0, (redAll p0 p1 p2 p3 m).map (·.1)⟩ ⟨p1.w, p1.h, A1, p0.n, g1, (redAll p0 p1 p2 p3 m).map (·.2.1)⟩ ⟨p2.w, p2.h, A2, p0.n, g2, (redAll p0 p1 p2 p3 m).map (·.2.2.1)⟩ ⟨p3.w, p3.h, A3, p0.n, g3, (redAll p0 p1 p2 p3 m).map (·.2.2.2)⟩, .int .i64 0]) (by simp [results, Tryd.results23, go_sem, arr4, s0, s1, s2, s3, s4, s5, s6, s7, s8, s9, s10, s11]) rfl ?_
                      refine ⟨⟨p0.w, p0.h, A0, p0.n, g0, (redAll p0 p1 p2 p3 m).map (·.1)⟩, ⟨p1.w, p1.h, A1, p0.n, g1, (redAll p0 p1 p2 p3 m).map (·.2.1)⟩, ⟨p2.w, p2.h, A2, p0.n, g2, (redAll p0 p1 p2 p3 m).map (·.2.2.1)⟩, ⟨p3.w, p3.h, A3, p0.n, g3, (redAll p0 p1 p2 p3 m).map (·.2.2.2)⟩, by rw [HER.out], ?_, ?_, ?_, ?_, below_set12 HB1.out (Nat.le_succ _) _ _ _ _ _ _ _ _ _ _ _ _, .inr ⟨HER.out, rfl, rfl, rfl, rfl, rfl, rfl, rfl, rfl, rfl, rfl, rfl, rfl⟩⟩
                      · have h := fun u0 u1 u2 u3 u4 u5 u6 u7 u8 u9 u10 u11 => rows4_ri (RF.out u0 u1 u2 u3 u4 u5 u6 u7 u8 u9 u10 u11) (t := 0) (by decide) HV.out.1
                        simp only [HCT.out 0 (by decide)] at h
                        exact h _ _ _ _ _ _ _ _ _ _ _ _
                      · have h := fun u0 u1 u2 u3 u4 u5 u6 u7 u8 u9 u10 u11 => rows4_ri (RF.out u0 u1 u2 u3 u4 u5 u6 u7 u8 u9 u10 u11) (t := 1) (by decide) HV.out.2.1
                        simp only [HCT.out 1 (by decide)] at h
                        exact h _ _ _ _ _ _ _ _ _ _ _ _
                      · have h := fun u0 u1 u2 u3 u4 u5 u6 u7 u8 u9 u10 u11 => rows4_ri (RF.out u0 u1 u2 u3 u4 u5 u6 u7 u8 u9 u10 u11) (t := 2) (by decide) HV.out.2.2.1
                        simp only [HCT.out 2 (by decide)] at h
                        exact h _ _ _ _ _ _ _ _ _ _ _ _
                      · have h := fun u0 u1 u2 u3 u4 u5 u6 u7 u8 u9 u10 u11 => rows4_ri (RF.out u0 u1 u2 u3 u4 u5 u6 u7 u8 u9 u10 u11) (t := 3) (by decide) HV.out.2.2.2
                        simp only [HCT.out 3 (by decide)] at h
                        exact h _ _ _ _ _ _ _ _ _ _ _ _
end Go.Proofs.YtpppgceccikodaaDoor
