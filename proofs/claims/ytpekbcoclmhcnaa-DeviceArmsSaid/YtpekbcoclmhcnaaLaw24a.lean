/- DeviceCalls. -/
import Derived.Test.YtpekbcoclmhcnaaAw24
import Derived.Test.YtpekbcoclmhcnaaSameL
namespace Go.Proofs.Ytpekbcoclmhcnaa
open Go.RowKit Go.Joins

theorem few100 (d : Dk) (w : World) (h : d.Ok w) : Calls Try.prog 11 #[.agg #[.slice d.a d.n d.c, .slice d.pa d.pn d.pc, .int .i64 d.left, .bool d.down], .int .i64 100] w fun e w' => e = .returned (.bool (Dv.few d.m 100)) ∧ Below w.heap.size w w' := few_any d 100 w h

set_option maxHeartbeats 2000000 in
set_option maxRecDepth 100000 in
theorem law_calls (d : Dk) (num s : Int) (A : Option Addr) (n c : Nat) (l : List UInt8) (w : World) (h : d.Ok w) (hl : RB w A n c l) (hLo : -9223372036854775808 ≤ d.left) (hHi : d.left ≤ 9223372036854775807) :
    Calls Try.prog 3 #[.agg #[.slice d.a d.n d.c, .slice d.pa d.pn d.pc, .int .i64 d.left, .bool d.down], .int .i64 num, .int .i64 s, .slice A n c] w fun e w' => e = .returned (.bool true) ∧ Below w.heap.size w w' := by
  have HD := Keep.mk h
  have HL := Keep.mk hl
  have HX0 : Hid (Below w.heap.size w (w.alloc (.cells #[.slice d.a d.n d.c, .slice d.pa d.pn d.pc, .int .i64 d.left, .bool d.down] 25))) := below_alloc1 _ _
  have HBX := Keep.mk (BxD.new h rfl)
  clear h hl
  cases hf : Dv.few d.m 100
  · have HF := Keep.mk hf
    clear hf
    go_enter Try.func3, Try.ntmps3
    go_wp2_with fail
    refine (few100 d _ HBX.out.ok).mono ?_
    rw [HF.out]
    rintro e w1 ⟨rfl, hb⟩
    have HB1 := Lib.hid (below_next HX0.out hb (Nat.le_refl _))
    clear hb
    go_wp2_with fail
    refine (awake_any w1).mono ?_
    rintro e w2 ⟨rfl, hb⟩
    have HB2 := Lib.hid (below_next HB1.out hb (Nat.le_refl _))
    clear hb
    go_wp2
    go_ret
    exact ⟨rfl, HB2.out⟩
  · have HF := Keep.mk hf
    have hfit := (Dv.few_fits hf (by omega)).1
    have HFT := Keep.mk hfit
    have CW := Keep.mk (fun (X : World) (hX : Below w.heap.size w X) => retXE (write_any d s A n c l 100 X (HD.out.below hX) (HL.out.below hX) HFT.out (by omega) hLo hHi))
    have CV := Keep.mk (fun (X : World) (hX : Below w.heap.size w X) => retXE (rwrite_any d s A n c l 100 X (HD.out.below hX) (HL.out.below hX) HFT.out (by omega) hLo hHi))
    have CR := Keep.mk (fun (X : World) (hX : Below w.heap.size w X) => read_any d s 100 X (HD.out.below hX) HFT.out)
    have CS := Keep.mk (fun (X : World) (hX : Below w.heap.size w X) => rread_any d s 100 X (HD.out.below hX) HFT.out)
    have CN := Keep.mk (fun (X : World) => retXE (new_any num X))
    have CO := Keep.mk (fun (X : World) => retXE (rnew_any num X))
    generalize Dv.write d.m s l = rw1 at *
    generalize Dv.read d.m s = rd1 at *
    generalize Dv.new num = rn1 at *
    obtain ⟨m1, q1⟩ := rw1
    obtain ⟨m2, q2⟩ := rd1
    obtain ⟨m3, q3⟩ := rn1
    simp only at CW CV CR CS CN CO
    clear hf hfit
    go_enter Try.func3, Try.ntmps3
    go_wp2_with fail
    refine (few100 d _ HBX.out.ok).mono ?_
    rw [HF.out]
    rintro e w1 ⟨rfl, hb⟩
    have HB1 := Lib.hid (below_next HX0.out hb (Nat.le_refl _))
    have H1 := Keep.mk (HBX.out.below hb)
    clear hb HF HBX HX0
    obtain ⟨c0, c1, c2, c3⟩ := H1.out.cs
    go_wp2_with fail
    refine (CW.out w1 HB1.out).mono ?_
    rintro e w2 ⟨D1, rfl, hok, hm, hb, hav⟩
    simp only at hm
    have hal := below_alloc1 w2 (.cells #[.slice D1.a D1.n D1.c, .slice D1.pa D1.pn D1.pc, .int .i64 D1.left, .bool D1.down] 25)
    have H2 := Keep.mk ((H1.out.below hb).below hal)
    have HB2 := Lib.hid (below_next (below_next HB1.out hb (Nat.le_refl _)) hal (Nat.le_refl _))
    have HW := Keep.mk (BxD.new hok hm)
    have HB2s := Keep.mk (Nat.le_trans HB1.out.size hb.size)
    clear hok hm hb hav hal c0 c1 c2 c3 H1 HB1
    go_upto_region 4 with (fail)
    generalize hw3 : w2.alloc (.cells #[.slice D1.a D1.n D1.c, .slice D1.pa D1.pn D1.pc, .int .i64 D1.left, .bool D1.down] 25) = w3 at *
    clear hw3
    obtain ⟨c0, c1, c2, c3⟩ := H2.out.cs
    go_wp2_with fail
    have hlt1 := HW.out.bx.lt
    refine (CV.out w3 HB2.out).mono ?_
    rintro e w4 ⟨D2, rfl, hok, hm, hb, hav⟩
    have hlt2 := hb.size
    simp only at hm
    have hal := below_alloc1 w4 (.cells #[.slice D2.a D2.n D2.c, .slice D2.pa D2.pn D2.pc, .int .i64 D2.left, .bool D2.down] 25)
    have H3 := Keep.mk ((H2.out.below hb).below hal)
    have HW2 := Keep.mk ((HW.out.below hb).below hal)
    have HB3 := Lib.hid (below_next (below_next HB2.out hb (Nat.le_refl _)) hal (Nat.le_refl _))
    have HV := Keep.mk (BxD.new hok hm)
    clear hok hm hb hav hal c0 c1 c2 c3 H2 HB2 HW
    go_upto_region 5 with (fail)
    generalize hw5 : w4.alloc (.cells #[.slice D2.a D2.n D2.c, .slice D2.pa D2.pn D2.pc, .int .i64 D2.left, .bool D2.down] 25) = w5 at *
    clear hw5
    obtain ⟨c0, c1, c2, c3⟩ := H3.out.cs
    go_wp2_with fail
    refine (CR.out w5 HB3.out).mono ?_
    rintro e w6 ⟨A1, n1, k1, rfl, hr, hb⟩
    have HR1 := Keep.mk hr
    have H4 := Keep.mk (H3.out.below hb)
    have HW3 := Keep.mk (HW2.out.below hb)
    have HV2 := Keep.mk (HV.out.below hb)
    have HB4 := Lib.hid (below_next HB3.out hb (Nat.le_refl _))
    clear hr hb c0 c1 c2 c3 H3 HB3 HW2 HV
    obtain ⟨c0, c1, c2, c3⟩ := H4.out.cs
    go_wp2_with fail
    refine (CS.out w6 HB4.out).mono ?_
    rintro e w7 ⟨A2, n2, k2, rfl, hr, hb⟩
    have HR2 := Keep.mk hr
    have HR1b := Keep.mk (HR1.out.below hb)
    have HW4 := Keep.mk (HW3.out.below hb)
    have HV3 := Keep.mk (HV2.out.below hb)
    have HB5 := Lib.hid (below_next HB4.out hb (Nat.le_refl _))
    clear hr hb c0 c1 c2 c3 H4 HB4 HW3 HV2 HR1
    have e1 : (q1 != q1) = false := by simp
    have e2 : (q2 != q2) = false := by simp
    obtain ⟨c0, c1, c2, c3⟩ := HW4.out.cs
    obtain ⟨b0, b1, b2, b3⟩ := HV3.out.cs
    go_wp2_with fail
    refine (same_true D1 D2 w7 HW4.out.ok HV3.out.ok (HW4.out.m_.trans HV3.out.m_.symm)).mono ?_
    rintro e w8 ⟨rfl, hb⟩
    have HR2b := Keep.mk (HR2.out.below hb)
    have HR1c := Keep.mk (HR1b.out.below hb)
    have HW5 := Keep.mk (HW4.out.below hb)
    have HV4 := Keep.mk (HV3.out.below hb)
    have HB6 := Lib.hid (below_next HB5.out hb (Nat.le_refl _))
    clear hb c0 c1 c2 c3 b0 b1 b2 b3 HB5 HW4 HV3 HR1b HR2
    go_wp2_with fail
    refine (sb_true A1 n1 k1 A2 n2 k2 m2 w8 HR1c.out HR2b.out).mono ?_
    rintro e w9 ⟨rfl, k9, hw9⟩
    have hb : Below w8.heap.size w8 w9 := by rw [hw9]; exact below_draws _ _ _
    have HW6 := Keep.mk (HW5.out.below hb)
    have HV5 := Keep.mk (HV4.out.below hb)
    have HB7 := Lib.hid (below_next HB6.out hb (Nat.le_refl _))
    clear hb hw9 HB6 HW5 HV4 HR1c HR2b
    go_wp2_with fail
    refine (CN.out w9).mono ?_
    rintro e w10 ⟨D3, rfl, hok, hm, hb, hav⟩
    simp only at hm
    have HW7 := Keep.mk (HW6.out.below hb)
    have HV6 := Keep.mk (HV5.out.below hb)
    have HB8 := Lib.hid (below_next HB7.out hb (Nat.le_refl _))
    have HN := Keep.mk (show BxD _ w2.heap.size D3 m3 from BxD.set HW7.out.bx hok hm (hav _ HW6.out.bx.lt trivial))
    have HAV3 := Keep.mk (fun b (hlt : b < w9.heap.size) => hav b hlt trivial)
    have hlt4 := HV5.out.bx.lt
    clear hb hok hm
    have hwl := HW7.out.bx.lt
    have z0 := HW7.out.bx.cell 0 _ rfl
    have z1 := HW7.out.bx.cell 1 _ rfl
    have z2 := HW7.out.bx.cell 2 _ rfl
    have z3 := HW7.out.bx.cell 3 _ rfl
    have zf := HW7.out.bx.fz
    go_upto_region 10 with (fail)
    have HO11 := Keep.mk (off_set4 w10 w2.heap.size (.slice D3.a D3.n D3.c) (.slice D3.pa D3.pn D3.pc) (.int .i64 D3.left) (.bool D3.down))
    generalize hw11 : (((w10.setCell ⟨w2.heap.size, 0, none⟩ (.slice D3.a D3.n D3.c)).setCell ⟨w2.heap.size, 1, none⟩ (.slice D3.pa D3.pn D3.pc)).setCell ⟨w2.heap.size, 2, none⟩ (.int .i64 D3.left)).setCell ⟨w2.heap.size, 3, none⟩ (.bool D3.down) = w11 at *
    clear hw11 z0 z1 z2 z3 zf
    have hne : w4.heap.size ≠ w2.heap.size := by omega
    have VB := Keep.mk (HV6.out.bx.off HO11.out (by simpa using hne))
    have hz8 := HB8.out.size
    have HB9 := Lib.hid (HB8.out.trans (HO11.out.below (B := w.heap.size) hz8 (by have := HB2s.out; simp; omega)))
    clear HW7 HV6 HB8 HO11 hav HW6 HV5 HB7
    go_wp2_with fail
    refine (CO.out w11).mono ?_
    rintro e w12 ⟨D4, rfl, hok, hm, hb, hav⟩
    simp only at hm
    have HN2 := Keep.mk (HN.out.below hb)
    have VB2 := Keep.mk (VB.out.below hb)
    have HB10 := Lib.hid (below_next HB9.out hb (Nat.le_refl _))
    have hz10 := HB10.out.size
    have hlt3 := VB.out.lt
    have HN3 := Keep.mk (HN2.out.off (off_set4 w12 w4.heap.size (.slice D4.a D4.n D4.c) (.slice D4.pa D4.pn D4.pc) (.int .i64 D4.left) (.bool D4.down)) (by simp; omega) (fun t ht => by simp only [List.mem_singleton] at ht; rw [ht]; exact HAV3.out _ hlt4))
    have HP := Keep.mk (show BxD _ w4.heap.size D4 m3 from BxD.set VB2.out hok hm (hav _ hlt3 trivial))
    have HB11 := Lib.hid (HB10.out.trans ((off_set4 w12 w4.heap.size (.slice D4.a D4.n D4.c) (.slice D4.pa D4.pn D4.pc) (.int .i64 D4.left) (.bool D4.down)).below (B := w.heap.size) hz10 (by have := HB2s.out; simp; omega)))
    clear hok hm hb hav
    have z0 := VB2.out.cell 0 _ rfl
    have z1 := VB2.out.cell 1 _ rfl
    have z2 := VB2.out.cell 2 _ rfl
    have z3 := VB2.out.cell 3 _ rfl
    have zf := VB2.out.fz
    go_upto_region 11 with (fail)
    generalize hw13 : (((w12.setCell ⟨w4.heap.size, 0, none⟩ (.slice D4.a D4.n D4.c)).setCell ⟨w4.heap.size, 1, none⟩ (.slice D4.pa D4.pn D4.pc)).setCell ⟨w4.heap.size, 2, none⟩ (.int .i64 D4.left)).setCell ⟨w4.heap.size, 3, none⟩ (.bool D4.down) = w13 at *
    clear hw13 z0 z1 z2 z3 zf HN HN2 VB VB2 HB9 HB10
    have e3 : (q3 == q3) = true := by simp
    obtain ⟨c0, c1, c2, c3⟩ := HN3.out.cs
    obtain ⟨b0, b1, b2, b3⟩ := HP.out.cs
    go_wp2_with fail
    refine (same_true D3 D4 w13 HN3.out.ok HP.out.ok (HN3.out.m_.trans HP.out.m_.symm)).mono ?_
    rintro e w14 ⟨rfl, hb⟩
    have HB12 := Lib.hid (below_next HB11.out hb (Nat.le_refl _))
    clear hb c0 c1 c2 c3 b0 b1 b2 b3 HN3 HP HB11
    go_wp2_with fail
    refine (awake_any w14).mono ?_
    rintro e w15 ⟨rfl, hb⟩
    have HB13 := Lib.hid (below_next HB12.out hb (Nat.le_refl _))
    clear hb
    go_wp2
    go_ret
    exact ⟨rfl, HB13.out⟩
end Go.Proofs.Ytpekbcoclmhcnaa
