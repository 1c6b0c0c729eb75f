/- DeviceReadsBack, DeviceFlushes. -/
import Derived.Test.YtpekbcoclmhcnaaLaw24a
namespace Go.Proofs.Ytpekbcoclmhcnaa
open Go.RowKit Go.Joins

/-- Write's ways as numbers. -/
theorem write_num (m : Dv.Disk) (s : Int) (b : List UInt8) : ((Dv.write m s b).2 = 23 ∧ (Dv.write m s b).1.down = true ∧ (Dv.write m s b).1.sectors = m.sectors) ∨ (((Dv.write m s b).2 = 1 ∨ (Dv.write m s b).2 = 2) ∧ (Dv.write m s b).1 = Dv.Disk.zero) ∨
    ((Dv.write m s b).2 = 0 ∧ m.down = false ∧ Dv.has m.sectors.length s = true ∧ (Dv.write m s b).1.down = false ∧ (Dv.write m s b).1.sectors = m.sectors ∧ (Dv.write m s b).1.pending = m.pending ++ [(s, b)]) := by
  rcases Dv.write_cases m s b with ⟨h0, h⟩ | ⟨h0, h1, h⟩ | ⟨h0, h1, h2, h⟩ | ⟨h0, h1, h2, h3, h⟩ | ⟨h0, h1, h2, h3, h⟩
  · exact .inl (by rw [h]; exact ⟨rfl, h0, rfl⟩)
  · exact .inr (.inl (by rw [h]; exact ⟨.inr rfl, rfl⟩))
  · exact .inr (.inl (by rw [h]; exact ⟨.inl rfl, rfl⟩))
  · exact .inl (by rw [h]; exact ⟨rfl, rfl, rfl⟩)
  · exact .inr (.inr (by rw [h]; exact ⟨rfl, h0, h1, rfl, rfl, rfl⟩))
/-- What was written is read; the others are as they were. -/
theorem read_written {m m' : Dv.Disk} {s : Int} {b : List UInt8} (h0 : m.down = false) (h1 : Dv.has m.sectors.length s = true) (h2 : m'.down = false) (h3 : m'.sectors = m.sectors) (h4 : m'.pending = m.pending ++ [(s, b)]) :
    Dv.read m' s = (b, 0) ∧ ∀ i : Nat, i < m.sectors.length → (i : Int) ≠ s → Dv.read m (i : Int) = Dv.read m' (i : Int) := by
  refine ⟨?_, fun i hi hne => ?_⟩
  · rw [Dv.read, h2, h3, h1, h4, Dv.content_append]
    simp
  · simp [Dv.read, h0, h2, h3, h4, Dv.content_append, Ne.symm hne]

set_option maxHeartbeats 4000000 in
set_option maxRecDepth 100000 in
theorem law_back (d : Dk) (s : Int) (A : Option Addr) (n c : Nat) (l : List UInt8) (w : World) (h : d.Ok w) (hl : RB w A n c l) (hLo : -9223372036854775808 ≤ d.left) (hHi : d.left ≤ 9223372036854775807) :
    Calls Try.prog 5 #[.agg #[.slice d.a d.n d.c, .slice d.pa d.pn d.pc, .int .i64 d.left, .bool d.down], .int .i64 s, .slice A n c] w fun e w' => e = .returned (.bool true) ∧ Below w.heap.size w w' := by
  have HD := Keep.mk h
  have HL := Keep.mk hl
  have HX0 : Hid (Below w.heap.size w (w.alloc (.cells #[.slice d.a d.n d.c, .slice d.pa d.pn d.pc, .int .i64 d.left, .bool d.down] 25))) := below_alloc1 _ _
  have HBX := Keep.mk (BxD.new h rfl)
  clear h hl
  cases hf : Dv.few d.m 100
  · skip
    have HF := Keep.mk hf
    clear hf
    go_enter Try.func5, Try.ntmps5
    go_wp2_with fail
    refine (few100 d _ HBX.out.ok).mono ?_
    rw [HF.out]
    rintro e w2 ⟨rfl, hb⟩
    have B3 := Lib.hid (below_next HX0.out hb (Nat.le_refl _))
    clear HX0
    clear hb
    go_wp2_with fail
    refine (awake_any w2).mono ?_
    rintro e w4 ⟨rfl, hb⟩
    have B5 := Lib.hid (below_next B3.out hb (Nat.le_refl _))
    clear B3
    clear hb
    go_wp2
    go_ret
    exact ⟨rfl, B5.out⟩
  · have HF := Keep.mk hf
    have hfit := (Dv.few_fits hf (by omega)).1
    have HFT := Keep.mk hfit
    have HFW := Keep.mk (Dv.write_fits hfit s l)
    have CW := Keep.mk (fun (X : World) (hX : Below w.heap.size w X) => retXE (write_any d s A n c l 100 X (HD.out.below hX) (HL.out.below hX) HFT.out (by omega) hLo hHi))
    rcases write_num d.m s l with ⟨h1, h2, h3⟩ | ⟨h1, h2⟩ | ⟨h1, h2, h3, h4, h5, h6⟩
    · have HX := Keep.mk h2
      have HS := Keep.mk h3
      have HL0 := Keep.mk (HL.out.below HX0.out)
      generalize Dv.write d.m s l = r at *
      obtain ⟨m1, q⟩ := r
      simp only at h1 HX HS CW
      subst h1
      clear h2 h3 hf hfit
      go_enter Try.func5, Try.ntmps5
      go_wp2_with fail
      refine (few100 d _ HBX.out.ok).mono ?_
      rw [HF.out]
      rintro e w2 ⟨rfl, hb⟩
      have H3 := Keep.mk (HBX.out.below hb)
      have H4 := Keep.mk (HL0.out.below hb)
      have B5 := Lib.hid (below_next HX0.out hb (Nat.le_refl _))
      clear HBX HL0 HX0
      clear hb
      clear HF
      obtain ⟨c6, c7, c8, c9⟩ := H3.out.cs
      go_wp2_with fail
      refine (CW.out w2 B5.out).mono ?_
      rintro e w10 ⟨D1, rfl, hok, hm, hb, hav⟩
      simp only at hm
      have hal := below_alloc1 w10 (.cells #[.slice D1.a D1.n D1.c, .slice D1.pa D1.pn D1.pc, .int .i64 D1.left, .bool D1.down] 25)
      have N11 := Keep.mk (BxD.new hok hm)
      have H12 := Keep.mk ((H3.out.below hb).below hal)
      have H13 := Keep.mk ((H4.out.below hb).below hal)
      have B14 := Lib.hid (below_next (below_next B5.out hb (Nat.le_refl _)) hal (Nat.le_refl _))
      clear c6 c7 c8 c9
      clear H3 H4 B5
      clear hb hal hok hm hav
      go_upto_region 4 with (fail)
      generalize e16 : w10.alloc (.cells #[.slice D1.a D1.n D1.c, .slice D1.pa D1.pn D1.pc, .int .i64 D1.left, .bool D1.down] 25) = w15 at *
      clear e16
      have hdn : D1.down = true := (congrArg Dv.Disk.down N11.out.m_).trans HX.out
      obtain ⟨c17, c18, c19, c20⟩ := H12.out.cs
      obtain ⟨c21, c22, c23, c24⟩ := N11.out.cs
      rw [hdn] at c24
      have hss := ss_any D1.a D1.n D1.c D1.S d.a d.n d.c d.S w15 N11.out.ok.sec H12.out.ok.sec
      have hse : D1.S.map (·.l) = d.S.map (·.l) := (congrArg Dv.Disk.sectors N11.out.m_).trans HS.out
      rw [decide_eq_true hse] at hss
      have HSS := Keep.mk hss
      clear hss hse
      go_wp2_with fail
      refine (HSS.out).mono ?_
      rintro e w25 ⟨rfl, kq, hw⟩
      have hb : Below w15.heap.size w15 w25 := by rw [hw]; exact below_draws _ _ _
      clear hw
      have H26 := Keep.mk (H12.out.below hb)
      have H27 := Keep.mk (H13.out.below hb)
      have H28 := Keep.mk (N11.out.below hb)
      have B29 := Lib.hid (below_next B14.out hb (Nat.le_refl _))
      clear c17 c18 c19 c20 c21 c22 c23 c24
      clear H12 H13 N11 B14
      clear hb
      go_wp2_with fail
      refine (awake_any w25).mono ?_
      rintro e w30 ⟨rfl, hb⟩
      have H31 := Keep.mk (H26.out.below hb)
      have H32 := Keep.mk (H27.out.below hb)
      have H33 := Keep.mk (H28.out.below hb)
      have B34 := Lib.hid (below_next B29.out hb (Nat.le_refl _))
      clear H26 H27 H28 B29
      clear hb
      go_wp2
      go_ret
      exact ⟨rfl, B34.out⟩
    · have HX := Keep.mk h2
      have e1 : ((Dv.write d.m s l).2 != 0) = true := by rcases h1 with h1 | h1 <;> rw [h1] <;> rfl
      have e2 : ((Dv.write d.m s l).2 == 23) = false := by rcases h1 with h1 | h1 <;> rw [h1] <;> rfl
      generalize Dv.write d.m s l = r at *
      obtain ⟨m1, q⟩ := r
      simp only at h1 HX CW e1 e2
      clear h1 h2 hf hfit
      go_enter Try.func5, Try.ntmps5
      go_wp2_with fail
      refine (few100 d _ HBX.out.ok).mono ?_
      rw [HF.out]
      rintro e w2 ⟨rfl, hb⟩
      have H3 := Keep.mk (HBX.out.below hb)
      have B4 := Lib.hid (below_next HX0.out hb (Nat.le_refl _))
      clear HBX HX0
      clear hb
      clear HF
      obtain ⟨c5, c6, c7, c8⟩ := H3.out.cs
      go_wp2_with fail
      refine (CW.out w2 B4.out).mono ?_
      rintro e w9 ⟨D1, rfl, hok, hm, hb, hav⟩
      simp only at hm
      have hal := below_alloc1 w9 (.cells #[.slice D1.a D1.n D1.c, .slice D1.pa D1.pn D1.pc, .int .i64 D1.left, .bool D1.down] 25)
      have N10 := Keep.mk (BxD.new hok hm)
      have H11 := Keep.mk ((H3.out.below hb).below hal)
      have B12 := Lib.hid (below_next (below_next B4.out hb (Nat.le_refl _)) hal (Nat.le_refl _))
      clear c5 c6 c7 c8
      clear H3 B4
      clear hb hal hok hm hav
      go_upto_region 4 with (fail)
      generalize e14 : w9.alloc (.cells #[.slice D1.a D1.n D1.c, .slice D1.pa D1.pn D1.pc, .int .i64 D1.left, .bool D1.down] 25) = w13 at *
      clear e14
      obtain ⟨c15, c16, c17, c18⟩ := N10.out.cs
      have hzz := same_true D1 Dk.zero w13 N10.out.ok (Dk.zero_ok _) (N10.out.m_.trans HX.out)
      simp only [Dk.zero] at hzz
      have HZZ := Keep.mk hzz
      clear hzz
      go_wp2_with fail
      refine (HZZ.out).mono ?_
      rintro e w19 ⟨rfl, hb⟩
      have H20 := Keep.mk (H11.out.below hb)
      have H21 := Keep.mk (N10.out.below hb)
      have B22 := Lib.hid (below_next B12.out hb (Nat.le_refl _))
      clear c15 c16 c17 c18
      clear H11 N10 B12
      clear hb
      go_wp2_with fail
      refine (awake_any w19).mono ?_
      rintro e w23 ⟨rfl, hb⟩
      have H24 := Keep.mk (H20.out.below hb)
      have H25 := Keep.mk (H21.out.below hb)
      have B26 := Lib.hid (below_next B22.out hb (Nat.le_refl _))
      clear H20 H21 B22
      clear hb
      go_wp2
      go_ret
      exact ⟨rfl, B26.out⟩
    · have HL0 := Keep.mk (HL.out.below HX0.out)
      have hrd := read_written h2 h3 h4 h5 h6
      have HRD := Keep.mk hrd
      have hpl : (Dv.write d.m s l).1.pending.length = d.m.pending.length + 1 := by rw [h6]; simp
      have HPL := Keep.mk hpl
      have hsl : (Dv.write d.m s l).1.sectors.length = d.m.sectors.length := by rw [h5]
      have HSL := Keep.mk hsl
      generalize Dv.write d.m s l = r at *
      obtain ⟨m1, q⟩ := r
      simp only at h1 HRD HPL HSL CW HFW
      subst h1
      clear h2 h3 h4 h5 h6 hrd hpl hsl hf hfit
      go_enter Try.func5, Try.ntmps5
      go_wp2_with fail
      refine (few100 d _ HBX.out.ok).mono ?_
      rw [HF.out]
      rintro e w2 ⟨rfl, hb⟩
      have H3 := Keep.mk (HBX.out.below hb)
      have H4 := Keep.mk (HL0.out.below hb)
      have B5 := Lib.hid (below_next HX0.out hb (Nat.le_refl _))
      clear HBX HL0 HX0
      clear hb
      clear HF
      obtain ⟨c6, c7, c8, c9⟩ := H3.out.cs
      go_wp2_with fail
      refine (CW.out w2 B5.out).mono ?_
      rintro e w10 ⟨D1, rfl, hok, hm, hb, hav⟩
      simp only at hm
      have hal := below_alloc1 w10 (.cells #[.slice D1.a D1.n D1.c, .slice D1.pa D1.pn D1.pc, .int .i64 D1.left, .bool D1.down] 25)
      have N11 := Keep.mk (BxD.new hok hm)
      have H12 := Keep.mk ((H3.out.below hb).below hal)
      have H13 := Keep.mk ((H4.out.below hb).below hal)
      have B14 := Lib.hid (below_next (below_next B5.out hb (Nat.le_refl _)) hal (Nat.le_refl _))
      clear c6 c7 c8 c9
      clear H3 H4 B5
      clear hb hal hok hm hav
      go_upto_region 4 with (fail)
      generalize e16 : w10.alloc (.cells #[.slice D1.a D1.n D1.c, .slice D1.pa D1.pn D1.pc, .int .i64 D1.left, .bool D1.down] 25) = w15 at *
      clear e16
      obtain ⟨c17, c18, c19, c20⟩ := N11.out.cs
      have hfx : Dv.Fits 101 D1.m := by rw [N11.out.m_]; exact HFW.out
      have HFX := Keep.mk hfx
      have hrx := read_any D1 s 101 w15 N11.out.ok hfx
      rw [N11.out.m_, HRD.out.1] at hrx
      have HRX := Keep.mk hrx
      clear hrx hfx
      go_wp2_with fail
      refine (HRX.out).mono ?_
      rintro e w21 ⟨Ar, nr, cr, rfl, hr, hb⟩
      have N22 := Keep.mk (hr)
      have H23 := Keep.mk (H12.out.below hb)
      have H24 := Keep.mk (H13.out.below hb)
      have H25 := Keep.mk (N11.out.below hb)
      have B26 := Lib.hid (below_next B14.out hb (Nat.le_refl _))
      clear c17 c18 c19 c20
      clear H12 H13 N11 B14
      clear hb hr
      have HSB := Keep.mk (sb_true Ar nr cr A n c l w21 N22.out H24.out)
      go_wp2_with fail
      refine (HSB.out).mono ?_
      rintro e w27 ⟨rfl, kq, hw⟩
      have hb : Below w21.heap.size w21 w27 := by rw [hw]; exact below_draws _ _ _
      clear hw
      have H28 := Keep.mk (H23.out.below hb)
      have H29 := Keep.mk (H24.out.below hb)
      have H30 := Keep.mk (H25.out.below hb)
      have H31 := Keep.mk (N22.out.below hb)
      have B32 := Lib.hid (below_next B26.out hb (Nat.le_refl _))
      clear H23 H24 H25 N22 B26
      clear hb
      clear H31
      clear H29
      obtain ⟨c33, c34, c35, c36⟩ := H28.out.cs
      obtain ⟨c37, c38, c39, c40⟩ := H30.out.cs
      have hdn : d.n = D1.n := by
        have h1 := H28.out.ok.sec.len
        have h2 := H30.out.ok.sec.len
        have h3 := HSL.out
        rw [← H30.out.m_] at h3
        simp [Dk.m] at h3
        omega
      have HSM := Keep.mk (lsame_true d D1 s 100 101 w27 H28.out.ok H30.out.ok HFT.out HFX.out hdn (fun i hi hne => by rw [H30.out.m_]; exact HRD.out.2 i (by have h1 := H28.out.ok.sec.len; simp [Dk.m]; omega) hne))
      clear hdn
      go_wp2_with fail
      refine (HSM.out).mono ?_
      rintro e w41 ⟨rfl, hb⟩
      have H42 := Keep.mk (H28.out.below hb)
      have H43 := Keep.mk (H30.out.below hb)
      have B44 := Lib.hid (below_next B32.out hb (Nat.le_refl _))
      clear c33 c34 c35 c36 c37 c38 c39 c40
      clear H28 H30 B32
      clear hb
      have hpn : D1.pn = d.pn + 1 := by
        have h1 := H42.out.ok.pen.len
        have h2 := H43.out.ok.pen.len
        have h3 := HPL.out
        rw [← H43.out.m_] at h3
        simp [Dk.m] at h3
        omega
      have hbig := H43.out.ok.pen.cap
      have hbig2 := H43.out.ok.pen.big
      unfold maxLen at hbig2
      have hpe : ((D1.pn : Int) == (d.pn : Int) + 1) = true := by rw [hpn]; simp
      have hle : d.pn + 1 ≤ D1.pn := by omega
      clear hpn
      have c45 := H43.out.bx.cell 1 _ rfl
      have c46 := H42.out.bx.cell 1 _ rfl
      go_wp2_with fail
      refine (awake_any w41).mono ?_
      rintro e w47 ⟨rfl, hb⟩
      have H48 := Keep.mk (H42.out.below hb)
      have H49 := Keep.mk (H43.out.below hb)
      have B50 := Lib.hid (below_next B44.out hb (Nat.le_refl _))
      clear c45 c46
      clear H42 H43 B44
      clear hb
      go_wp2
      go_ret
      exact ⟨rfl, B50.out⟩
end Go.Proofs.Ytpekbcoclmhcnaa
