/- PlatesUnpacks, PlatesDamage. -/
import Derived.Test.YtpppgceccikodaaDoorLaw54
namespace Go.Proofs.YtpppgceccikodaaDoor
open Go.RowKit Go.Joins
/-- Exclusive or, kept folded. -/
def x8 (a b : UInt8) : UInt8 := a ^^^ b
theorem xor8 (a b : UInt8) : bits .xor .u8 (a.toNat : Int) (b.toNat : Int) = ((x8 a b).toNat : Int) := by
  unfold x8
  rw [u8_xor_nat _ _ a.toNat_lt b.toNat_lt, UInt8.toNat_xor]


/-- A changed byte of sealed bytes: the checksum does not fit. -/
theorem detect (l : List UInt8) (i : Nat) (hi : i < (M.sealed l).length) (y : UInt8) (hy : y ≠ (M.sealed l)[i]) :
    ¬ M.be4 (M.crc (((M.sealed l).set i y).take l.length)) = ((M.sealed l).set i y).drop l.length := by
  rw [M.length_sealed] at hi
  by_cases h : i < l.length
  · have e1 : ((M.sealed l).set i y).take l.length = l.set i y := by
      unfold M.sealed
      rw [List.set_append_left _ _ h, List.take_append_of_le_length (by simp), List.take_of_length_le (by simp)]
    have e2 : ((M.sealed l).set i y).drop l.length = M.be4 (M.crc l) := by
      unfold M.sealed
      rw [List.set_append_left _ _ h, List.drop_append_of_le_length (by simp), List.drop_of_length_le (by simp)]
      simp
    rw [e1, e2]
    intro hh
    have := M.be4_inj hh
    refine M.crc_set l i h y ?_ this
    have : (M.sealed l)[i]'(by rw [M.length_sealed]; omega) = l[i] := by simp [M.sealed, List.getElem_append_left h]
    rwa [this] at hy
  · have e1 : ((M.sealed l).set i y).take l.length = l := by
      unfold M.sealed
      rw [List.set_append_right _ _ (by omega)]
      simp
    have e2 : ((M.sealed l).set i y).drop l.length = (M.be4 (M.crc l)).set (i - l.length) y := by
      unfold M.sealed
      rw [List.set_append_right _ _ (by omega)]
      simp
    rw [e1, e2]
    intro hh
    have hl : i - l.length < (M.be4 (M.crc l)).length := by rw [M.length_be4]; omega
    have h3 : ((M.be4 (M.crc l)).set (i - l.length) y)[i - l.length]? = some y := by rw [List.getElem?_set_self hl]
    rw [← hh] at h3
    have h4 : (M.sealed l)[i]? = some y := by
      unfold M.sealed
      rw [List.getElem?_append_right (by omega)]
      exact h3
    have h5 := List.getElem?_eq_some_iff.1 h4
    exact hy h5.2.symm

theorem xor_ne (a c : UInt8) (h : c ≠ 0) : x8 a c ≠ a := by
  unfold x8
  intro hh
  apply h
  have h2 : a ^^^ c ^^^ a = a ^^^ a := by rw [hh]
  have : a ^^^ c ^^^ a = c := by
    rw [UInt8.xor_comm a c, UInt8.xor_assoc]
    simp
  rw [this] at h2
  simpa using h2


theorem damaged (l : List UInt8) (i : Nat) (hi : i < (M.sealed l).length) (y : UInt8) (hy : y ≠ (M.sealed l)[i]) : Pl.opened ((M.sealed l).set i y) = ([], 6) := by
  have h := detect l i hi y hy
  have hl := M.length_sealed l
  unfold Pl.opened
  rw [List.length_set, if_neg (by omega), show (M.sealed l).length - 4 = l.length by omega, if_neg h]

set_option maxHeartbeats 2000000 in
theorem law_unpacks (A : Option Addr) (n c : Nat) (l : List UInt8) (w : World) (hl : RB w A n c l) (ht : Tab w) : Calls Tryd.prog 5 #[.slice A n c] w fun e w' => e = .returned (.bool true) ∧ Below w.heap.size w w' := by
  have HT := Keep.mk ht
  have HL := Lib.hid hl
  have hlen := hl.len
  clear hl ht
  by_cases hn : n ≤ 5000
  · have d1 : decide ((5000 : Int) < (n : Int)) = false := by simp; omega
    obtain ⟨W, H, z, q, hu⟩ : ∃ W H z q, Pl.unpack l = (W, H, z, q) := ⟨_, _, _, _, rfl⟩
    have K1 := Lib.hid (fun X h ht => unpack_any A n c l X h ht)
    have K2 := Lib.hid (fun X h => runpack_any A n c l X h)
    rw [hu] at K1 K2
    have b1 : (q != q) = false := by simp
    have HU := Keep.mk hu
    clear hu
    go_enter Tryd.func5, Tryd.ntmps5
    go_wp2_with fail
    refine (K1.out w HL.out HT.out).mono ?_
    rintro e w1 ⟨A1, n1, c1, rfl, hr, hb⟩
    unfold plv
    have PX1 := Keep.mk (Bx.new w1 [.int .i64 W, .int .i64 H, .slice A1 n1 c1] 24)
    have HB1 : Hid (Below w.heap.size w (w1.alloc (.cells #[.int .i64 W, .int .i64 H, .slice A1 n1 c1] 24))) := hb.alloc hb.size _
    have HR1 := Lib.hid (hr.below (below_alloc1 w1 (.cells #[.int .i64 W, .int .i64 H, .slice A1 n1 c1] 24)))
    clear hr hb
    go_wp2_with fail
    generalize w1.alloc (.cells #[.int .i64 W, .int .i64 H, .slice A1 n1 c1] 24) = w2 at *
    refine (K2.out w2 (HL.out.below HB1.out)).mono ?_
    rintro e w3 ⟨A3, n3, c3, rfl, hr, hb⟩
    unfold plv
    have QX := Keep.mk (Bx.new w3 [.int .i64 W, .int .i64 H, .slice A3 n3 c3] 24)
    have hb' := hb.alloc hb.size (.cells #[.int .i64 W, .int .i64 H, .slice A3 n3 c3] 24)
    have HB4 : Hid (Below w.heap.size w (w3.alloc (.cells #[.int .i64 W, .int .i64 H, .slice A3 n3 c3] 24))) := HB1.out.trans (hb'.mono HB1.out.size)
    have PX4 := Keep.mk (PX1.out.below hb')
    have HR4 := Lib.hid (hr.below (below_alloc1 w3 (.cells #[.int .i64 W, .int .i64 H, .slice A3 n3 c3] 24)))
    have HR14 := Lib.hid (HR1.out.below hb')
    clear hr hb hb'
    have c0 := PX4.out.cell 0 _ rfl
    have c1' := PX4.out.cell 1 _ rfl
    have c2 := PX4.out.cell 2 _ rfl
    go_wp2_with fail
    generalize w3.alloc (.cells #[.int .i64 W, .int .i64 H, .slice A3 n3 c3] 24) = w4 at *
    have hs : Calls Tryd.prog 19 #[.agg #[.int .i64 W, .int .i64 H, .slice A1 n1 c1], .agg #[.int .i64 W, .int .i64 H, .slice A3 n3 c3]] w4 _ := psame_true W H A1 n1 c1 A3 n3 c3 z w4 HR14.out HR4.out
    refine hs.mono ?_
    clear hs
    rintro e w5 ⟨rfl, hb⟩
    have HBW : Hid (Below w.heap.size w w5) := HB4.out.trans (hb.mono HB4.out.size)
    have PX5 := Keep.mk (PX4.out.below hb)
    have HR5 := Lib.hid (HR14.out.below hb)
    clear hb c0 c1' c2
    by_cases hq : q = 0
    · subst hq
      have HK := Keep.mk (Pl.unpack_ok HU.out)
      have c0 := PX5.out.cell 0 _ rfl
      have c1' := PX5.out.cell 1 _ rfl
      have c2 := PX5.out.cell 2 _ rfl
      go_wp2_with fail
      refine (pack_ok W H A1 n1 c1 z w5 HR5.out (HT.out.below HBW.out) HK.out.1).mono ?_
      rw [HK.out.2]
      rintro e w6 ⟨A6, n6, c6, rfl, hr, hb⟩
      have HR6 := Lib.hid hr
      have HB6 : Hid (Below w.heap.size w w6) := HBW.out.trans (hb.mono HBW.out.size)
      clear hr hb c0 c1' c2
      go_wp2_with fail
      refine (same_true A n c A6 n6 c6 l w6 (HL.out.below HB6.out) HR6.out).mono ?_
      rintro e w7 ⟨rfl, kq, hw7⟩
      clear HBW
      have HBW : Hid (Below w.heap.size w w7) := by rw [hw7]; exact HB6.out.trans (below_draws _ _ _)
      clear hw7
      go_wp2_with fail
      refine (awake_any _ (HT.out.below HBW.out)).mono ?_
      rintro e w9 ⟨rfl, hb⟩
      have HB9 : Hid (Below w.heap.size w w9) := HBW.out.trans (hb.mono HBW.out.size)
      clear hb
      go_wp2
      go_ret
      exact ⟨rfl, HB9.out⟩
    · have b2 : (q != 0) = true := by simp [hq]
      clear hq
      go_wp2_with fail
      refine (awake_any _ (HT.out.below HBW.out)).mono ?_
      rintro e w9 ⟨rfl, hb⟩
      have HB9 : Hid (Below w.heap.size w w9) := HBW.out.trans (hb.mono HBW.out.size)
      clear hb
      go_wp2
      go_ret
      exact ⟨rfl, HB9.out⟩
  · have d1 : decide ((5000 : Int) < (n : Int)) = true := by simp; omega
    have HBW : Hid (Below w.heap.size w w) := Below.refl _ _
    go_enter Tryd.func5, Tryd.ntmps5
    go_wp2_with fail
    refine (awake_any _ (HT.out.below HBW.out)).mono ?_
    rintro e w9 ⟨rfl, hb⟩
    have HB9 : Hid (Below w.heap.size w w9) := HBW.out.trans (hb.mono HBW.out.size)
    clear hb
    go_wp2
    go_ret
    exact ⟨rfl, HB9.out⟩

section
attribute [local go_sem] xor8
set_option maxHeartbeats 2000000 in
theorem law_damage (p : Pd) (i : Int) (ch : UInt8) (w : World) (h : p.Ok w) (ht : Tab w) : Calls Tryd.prog 6 #[.agg #[.int .i64 p.w, .int .i64 p.h, .slice p.a p.n p.c], .int .i64 i, .int .u8 (ch.toNat : Int)] w fun e w' => e = .returned (.bool true) ∧ Below w.heap.size w w' := by
  have HT := Keep.mk ht
  have HO := Lib.hid h
  have hlen := RI.len h
  clear h ht
  by_cases hn : p.n ≤ 5000
  · have d1 : decide ((p.n : Int) ≤ 5000) = true := by simp; omega
    by_cases hch : ch = 0
    · have hc0 : ((ch.toNat : Int) == 0) = true := by rw [hch]; rfl
      clear hch
      go_enter Tryd.func6, Tryd.ntmps6
      go_wp2_with fail
      refine (fair_any p _).mono ?_
      rintro e w1 ⟨rfl, hb⟩
      have HBW : Hid (Below w.heap.size w w1) := (below_alloc1 _ _).trans (hb.mono (by simp))
      have PX := Keep.mk ((Bx.new w [.int .i64 p.w, .int .i64 p.h, .slice p.a p.n p.c] 24).below hb)
      clear hb
      have c0 := PX.out.cell 0 _ rfl
      have c1 := PX.out.cell 1 _ rfl
      have c2 := PX.out.cell 2 _ rfl
      clear c0 c1 c2
      go_wp2_with fail
      refine (awake_any _ (HT.out.below HBW.out)).mono ?_
      rintro e w9 ⟨rfl, hb⟩
      have HB9 : Hid (Below w.heap.size w w9) := HBW.out.trans (hb.mono HBW.out.size)
      clear hb
      go_wp2
      go_ret
      exact ⟨rfl, HB9.out⟩
    · have hc0 : ((ch.toNat : Int) == 0) = false := by
        have : ch.toNat ≠ 0 := fun h => hch (UInt8.toNat_inj.1 h)
        simp
        omega
      have HCH := Keep.mk hch
      clear hch
      by_cases hi : i < 0
      · go_enter Tryd.func6, Tryd.ntmps6
        go_wp2_with fail
        refine (fair_any p _).mono ?_
        rintro e w1 ⟨rfl, hb⟩
        have HBW : Hid (Below w.heap.size w w1) := (below_alloc1 _ _).trans (hb.mono (by simp))
        have PX := Keep.mk ((Bx.new w [.int .i64 p.w, .int .i64 p.h, .slice p.a p.n p.c] 24).below hb)
        clear hb
        have c0 := PX.out.cell 0 _ rfl
        have c1 := PX.out.cell 1 _ rfl
        have c2 := PX.out.cell 2 _ rfl
        clear c0 c1 c2
        go_wp2_with fail
        refine (awake_any _ (HT.out.below HBW.out)).mono ?_
        rintro e w9 ⟨rfl, hb⟩
        have HB9 : Hid (Below w.heap.size w w9) := HBW.out.trans (hb.mono HBW.out.size)
        clear hb
        go_wp2
        go_ret
        exact ⟨rfl, HB9.out⟩
      · obtain ⟨k, rfl⟩ := Int.eq_ofNat_of_zero_le (show 0 ≤ i by omega)
        by_cases hc : Pl.check p.w p.h p.l = 0
        · have HCK := Keep.mk hc
          have hbl := Pl.body_length hc
          clear hc
          go_enter Tryd.func6, Tryd.ntmps6
          go_wp2_with fail
          refine (fair_any p _).mono ?_
          rintro e w1 ⟨rfl, hb⟩
          have HBW : Hid (Below w.heap.size w w1) := (below_alloc1 _ _).trans (hb.mono (by simp))
          have PX := Keep.mk ((Bx.new w [.int .i64 p.w, .int .i64 p.h, .slice p.a p.n p.c] 24).below hb)
          clear hb
          have c0 := PX.out.cell 0 _ rfl
          have c1 := PX.out.cell 1 _ rfl
          have c2 := PX.out.cell 2 _ rfl
          go_wp2_with fail
          refine (pack_ok p.w p.h p.a p.n p.c p.l w1 (HO.out.below HBW.out) (HT.out.below HBW.out) HCK.out).mono ?_
          rintro e w2 ⟨A2, n2, q2, rfl, hr, hb⟩
          have HR2 := Lib.hid hr
          have hn2 : (Pl.body p.w p.h p.l).length + 4 = n2 := by rw [← hr.len]; exact (M.length_sealed _).symm
          have HBW0 := HBW
          clear HBW
          have HBW : Hid (Below w.heap.size w w2) := HBW0.out.trans (hb.mono HBW0.out.size)
          clear hr hb c0 c1 c2
          by_cases hk : k < n2
          · have HR2s : Hid (RB w2 A2 n2 q2 (M.sealed (Pl.body p.w p.h p.l))) := HR2.out
            clear HR2 HCK
            generalize Pl.body p.w p.h p.l = bd at *
            have hn2b : n2 ≤ 200000 := by omega
            have d2 : decide ((n2 : Int) ≤ (k : Int)) = false := by simp; omega
            go_wp2_with (at_builtin; refine append_ob _ rfl (.tmp 38) (.tmp 39) rfl w.heap.size none 0 0 [] rfl (OB.nil _ _) A2 n2 q2 _ rfl HR2s.out (by omega) HBW.out.size ?_; intro A3 n3 q3 w3 ht3 hb3; have HT3 := Lib.hid ht3; have HB3 : Hid (Below w.heap.size w w3) := HBW.out.trans hb3; clear ht3 hb3)
            have hn3 : n2 = n3 := by
              have := HT3.out.rb.len
              simp [M.length_sealed] at this
              omega
            subst hn3
            have hkl : k < (M.sealed bd).length := by rw [M.length_sealed]; omega
            obtain ⟨g, rfl, hbg, hg, hcell, hfz, hst⟩ := HT3.out.at_ (by omega)
            have hck := hcell k hkl
            have hfk := hfz k
            have HG := Lib.hid hbg
            simp only [List.nil_append] at hck hst
            have HST := Lib.hid (hst k (x8 (M.sealed bd)[k] ch))
            have HDM : Keep (Pl.unpack ((M.sealed bd).set k (x8 (M.sealed bd)[k] ch)) = (0, 0, [], 6)) := ⟨Pl.unpack_sum (by rw [List.length_set, M.length_sealed]; omega) (damaged bd k hkl _ (xor_ne _ _ HCH.out))⟩
            clear hcell hfz hst hg hbg
            go_simp
            go_wp2_with fail
            have hb4 : Below w.heap.size w (w3.setCell ⟨g, k, none⟩ (.int .u8 ((x8 (M.sealed bd)[k] ch).toNat : Int))) := HB3.out.setCell HG.out _
            have ho := unpack_any _ n2 q3 ((M.sealed bd).set k (x8 (M.sealed bd)[k] ch)) _ HST.out.rb (HT.out.below hb4)
            rw [HDM.out] at ho
            have HB4 := Lib.hid hb4
            refine ho.mono ?_
            clear ho hb4 hck hfk
            rintro e w5 ⟨A5, n5, q5, rfl, hr, hb⟩
            unfold plv
            clear HBW
            have HBW : Hid (Below w.heap.size w (w5.alloc (.cells #[.int .i64 0, .int .i64 0, .slice A5 n5 q5] 24))) := (HB4.out.trans (hb.mono HB4.out.size)).alloc (HB4.out.trans (hb.mono HB4.out.size)).size _
            clear hr hb
            go_wp2_with fail
            refine (awake_any _ (HT.out.below HBW.out)).mono ?_
            rintro e w9 ⟨rfl, hb⟩
            have HB9 : Hid (Below w.heap.size w w9) := HBW.out.trans (hb.mono HBW.out.size)
            clear hb
            go_wp2
            go_ret
            exact ⟨rfl, HB9.out⟩
          · have d2 : decide ((n2 : Int) ≤ (k : Int)) = true := by simp; omega
            go_wp2_with fail
            refine (awake_any _ (HT.out.below HBW.out)).mono ?_
            rintro e w9 ⟨rfl, hb⟩
            have HB9 : Hid (Below w.heap.size w w9) := HBW.out.trans (hb.mono HBW.out.size)
            clear hb
            go_wp2
            go_ret
            exact ⟨rfl, HB9.out⟩
        · have b0 : (Pl.check p.w p.h p.l != 0) = true := by simp [hc]
          have KE := Lib.hid (fun X h => pack_err p.w p.h p.a p.n p.c p.l X h hc)
          generalize Pl.check p.w p.h p.l = q at *
          clear hc
          unfold plv at KE
          go_enter Tryd.func6, Tryd.ntmps6
          go_wp2_with fail
          refine (fair_any p _).mono ?_
          rintro e w1 ⟨rfl, hb⟩
          have HBW : Hid (Below w.heap.size w w1) := (below_alloc1 _ _).trans (hb.mono (by simp))
          have PX := Keep.mk ((Bx.new w [.int .i64 p.w, .int .i64 p.h, .slice p.a p.n p.c] 24).below hb)
          clear hb
          have c0 := PX.out.cell 0 _ rfl
          have c1 := PX.out.cell 1 _ rfl
          have c2 := PX.out.cell 2 _ rfl
          go_wp2_with fail
          refine (KE.out w1 (HO.out.below HBW.out)).mono ?_
          rintro e w2 ⟨A2, n2, q2, rfl, hr, hb⟩
          have HB2 : Hid (Below w.heap.size w w2) := HBW.out.trans (hb.mono HBW.out.size)
          clear hr hb c0 c1 c2 HBW
          have HBW := HB2
          go_wp2_with fail
          refine (awake_any _ (HT.out.below HBW.out)).mono ?_
          rintro e w9 ⟨rfl, hb⟩
          have HB9 : Hid (Below w.heap.size w w9) := HBW.out.trans (hb.mono HBW.out.size)
          clear hb
          go_wp2
          go_ret
          exact ⟨rfl, HB9.out⟩
  · have d1 : decide ((p.n : Int) ≤ 5000) = false := by simp; omega
    go_enter Tryd.func6, Tryd.ntmps6
    go_wp2_with fail
    refine (fair_any p _).mono ?_
    rintro e w1 ⟨rfl, hb⟩
    have HBW : Hid (Below w.heap.size w w1) := (below_alloc1 _ _).trans (hb.mono (by simp))
    have PX := Keep.mk ((Bx.new w [.int .i64 p.w, .int .i64 p.h, .slice p.a p.n p.c] 24).below hb)
    clear hb
    have c0 := PX.out.cell 0 _ rfl
    have c1 := PX.out.cell 1 _ rfl
    have c2 := PX.out.cell 2 _ rfl
    clear c0 c1 c2
    go_wp2_with fail
    refine (awake_any _ (HT.out.below HBW.out)).mono ?_
    rintro e w9 ⟨rfl, hb⟩
    have HB9 : Hid (Below w.heap.size w w9) := HBW.out.trans (hb.mono HBW.out.size)
    clear hb
    go_wp2
    go_ret
    exact ⟨rfl, HB9.out⟩
end
end Go.Proofs.YtpppgceccikodaaDoor
