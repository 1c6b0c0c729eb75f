/- DeviceSurvives. -/
import Derived.Test.YtpekbcoclmhcnaaLaw24c
namespace Go.Proofs.Ytpekbcoclmhcnaa
open Go.RowKit Go.Joins

/-- What is read behind a crash. -/
theorem read_crashed (d : Dk) (keep : List Int) (m : Dv.Disk) (hm : m = Dv.crash d.m keep) (i : Nat) (hi : i < d.S.length) : Dv.read m (i : Int) = (Dv.content d.S[i].l (i : Int) ((keptPe keep 0 d.P).map Pe.m), 0) := by
  subst hm
  have hl : i < d.m.sectors.length := by simpa [Dk.m] using hi
  have h := Dv.settle_getD d.m.sectors (Dv.kept keep 0 d.m.pending) i hl
  rw [keptPe_m]
  have h1 : d.m.sectors.getD i [] = d.S[i].l := by simp [Dk.m, List.getD, hi]
  rw [h1] at h
  rw [Dv.crash, Dv.read_mk _ _ _ _ (by rw [Dv.settle_length]; exact Dv.has_nat hl), Int.toNat_natCast, h]
  rfl

set_option maxHeartbeats 4000000 in
set_option maxRecDepth 100000 in
theorem law_survives (d : Dk) (A : Option Addr) (n c : Nat) (keep : List Int) (w : World) (h : d.Ok w) (hl : RI w A n c keep) (hw : ∀ z ∈ keep, (Lit.int .i64 z).wf = true) :
    Calls Try.prog 8 #[.agg #[.slice d.a d.n d.c, .slice d.pa d.pn d.pc, .int .i64 d.left, .bool d.down], .slice A n c] w fun e w' => e = .returned (.bool true) ∧ Below w.heap.size w w' := by
  have HD := Keep.mk h
  have HL := Keep.mk hl
  have HWF := Keep.mk hw
  have HX0 : Hid (Below w.heap.size w (w.alloc (.cells #[.slice d.a d.n d.c, .slice d.pa d.pn d.pc, .int .i64 d.left, .bool d.down] 25))) := below_alloc1 _ _
  have HBX := Keep.mk (BxD.new h rfl)
  clear h hl hw
  cases hf : Dv.few d.m 100
  · skip
    have HF := Keep.mk hf
    clear hf
    go_enter Try.func8, Try.ntmps8
    go_wp2_with fail
    refine (few100 d _ HBX.out.ok).mono ?_
    rw [HF.out]
    rintro e w2 ⟨rfl, hb⟩
    have B3 := Lib.hid (below_next HX0.out hb (Nat.le_refl _))
    clear HX0
    clear hb
    go_wp2_with fail
    refine (awake_any w2).mono ?_
    rintro e w4 ⟨rfl, hb⟩
    have B5 := Lib.hid (below_next B3.out hb (Nat.le_refl _))
    clear B3
    clear hb
    go_wp2
    go_ret
    exact ⟨rfl, B5.out⟩
  · have HF := Keep.mk hf
    have hfit := (Dv.few_fits hf (by omega)).1
    have HFT := Keep.mk hfit
    clear hf hfit
    by_cases hk : 200 < n
    · have e1 : decide ((200 : Int) < (n : Int)) = true := decide_eq_true (by omega)
      go_enter Try.func8, Try.ntmps8
      go_wp2_with fail
      refine (few100 d _ HBX.out.ok).mono ?_
      rw [HF.out]
      rintro e w2 ⟨rfl, hb⟩
      have B3 := Lib.hid (below_next HX0.out hb (Nat.le_refl _))
      clear HX0
      clear hb
      go_wp2_with fail
      refine (awake_any w2).mono ?_
      rintro e w4 ⟨rfl, hb⟩
      have B5 := Lib.hid (below_next B3.out hb (Nat.le_refl _))
      clear B3
      clear hb
      go_wp2
      go_ret
      exact ⟨rfl, B5.out⟩
    · have e1 : decide ((200 : Int) < (n : Int)) = false := decide_eq_false (by omega)
      have CC := Keep.mk (fun (X : World) (hX : Below w.heap.size w X) => retX (crash_any d A n c keep 100 X (HD.out.below hX) (HL.out.below hX) HWF.out HFT.out (by omega)))
      have CK := Keep.mk (fun (X : World) (hX : Below w.heap.size w X) => kept_any d.pa d.pn d.pc d.P A n c keep X (HD.out.below hX).pen (HL.out.below hX) (by have h1 := HFT.out.np; have h2 := HD.out.pen.len; simp [Dk.m] at h1; omega))
      go_enter Try.func8, Try.ntmps8
      go_wp2_with fail
      refine (few100 d _ HBX.out.ok).mono ?_
      rw [HF.out]
      rintro e w2 ⟨rfl, hb⟩
      have H3 := Keep.mk (HBX.out.below hb)
      have B4 := Lib.hid (below_next HX0.out hb (Nat.le_refl _))
      clear HBX HX0
      clear hb
      clear HF
      obtain ⟨c5, c6, c7, c8⟩ := H3.out.cs
      go_wp2_with fail
      refine (CC.out w2 B4.out).mono ?_
      rintro e w9 ⟨D1, rfl, hok, hm, hb, hav⟩
      have hal := below_alloc1 w9 (.cells #[.slice D1.a D1.n D1.c, .slice D1.pa D1.pn D1.pc, .int .i64 D1.left, .bool D1.down] 25)
      have N10 := Keep.mk (BxD.new hok hm)
      have H11 := Keep.mk ((H3.out.below hb).below hal)
      have B12 := Lib.hid (below_next (below_next B4.out hb (Nat.le_refl _)) hal (Nat.le_refl _))
      clear c5 c6 c7 c8
      clear H3 B4
      clear hb hal hok hm hav
      go_upto_region 4 with (fail)
      generalize e14 : w9.alloc (.cells #[.slice D1.a D1.n D1.c, .slice D1.pa D1.pn D1.pc, .int .i64 D1.left, .bool D1.down] 25) = w13 at *
      clear e14
      have c15 := H11.out.bx.cell 1 _ rfl
      go_wp2_with fail
      refine (CK.out w13 B12.out).mono ?_
      rintro e w16 ⟨A1, n1, c1, rfl, qrp, hb⟩
      have N17 := Keep.mk (qrp)
      have H18 := Keep.mk (H11.out.below hb)
      have H19 := Keep.mk (N10.out.below hb)
      have B20 := Lib.hid (below_next B12.out hb (Nat.le_refl _))
      clear c15
      clear H11 N10 B12
      clear hb
      clear qrp
      have hn1 : d.n = D1.n := by
        have h1 := H18.out.ok.sec.len
        have h2 := H19.out.ok.sec.len
        have h3 := congrArg (fun m => m.sectors.length) H19.out.m_
        simp only [Dv.crash, Dv.settle_length, Dk.m, List.length_map] at h3
        omega
      have hp0 : D1.pn = 0 := by
        have h2 := H19.out.ok.pen.len
        have h3 := congrArg (fun m => m.pending.length) H19.out.m_
        simp only [Dv.crash, Dk.m, List.length_map, List.length_nil] at h3
        omega
      have hdn : D1.down = false := congrArg Dv.Disk.down H19.out.m_
      have hlf : D1.left = -1 := congrArg Dv.Disk.left H19.out.m_
      have e2 : ((D1.n : Int) != (d.n : Int)) = false := by rw [hn1]; simp
      have e3 : decide ((0 : Int) < (D1.pn : Int)) = false := decide_eq_false (by omega)
      have hbig := Nat.le_trans H18.out.ok.sec.cap H18.out.ok.sec.big
      have hbig1 := Nat.le_trans H19.out.ok.sec.cap H19.out.ok.sec.big
      have hbig2 := Nat.le_trans H19.out.ok.pen.cap H19.out.ok.pen.big
      have hbig3 := Nat.le_trans N17.out.cap N17.out.big
      unfold maxLen at hbig hbig1 hbig2 hbig3
      have HPN := Keep.mk N17.out.len
      have HDN := Keep.mk hdn
      have HLF := Keep.mk hlf
      have HFX : Keep (Dv.Fits 0 D1.m) := ⟨by rw [H19.out.m_]; exact Dv.crash_fits HFT.out keep⟩
      have CR := Keep.mk (fun (X : World) (hX : Below w16.heap.size w16 X) (i : Int) => read_any D1 i 0 X (H19.out.ok.below hX) HFX.out)
      clear hn1 hdn hlf
      have c21 := H18.out.bx.cell 0 _ rfl
      obtain ⟨c22, c23, c24, c25⟩ := H19.out.cs
      rw [HDN.out] at c25
      rw [HLF.out] at c24
      go_wp2
      clear c21 c22 c23 c24 c25
      clear hp0
      go_loopw [7] (fun i wr => ∃ k : Nat, k ≤ d.n ∧ i = .int .i64 k ∧ Below w16.heap.size w16 wr) (fun i _ => d.n - (intOf i).toNat)
      case atStart => exact ⟨0, Nat.zero_le _, rfl, Below.refl _ _⟩
      case round =>
        obtain ⟨k, hk, rfl, hb⟩ := hrel
        have HBW := Lib.hid (below_next B20.out hb (Nat.le_refl _))
        have HC := Lib.hid hb
        have IX1 := Keep.mk (H18.out.below hb)
        have OX1 := Keep.mk (H19.out.below hb)
        have HP1 := Keep.mk (N17.out.below hb)
        clear hb
        have i0 := IX1.out.bx.cell 0 _ rfl
        by_cases hlt : k < d.n
        · have hkS : k < d.S.length := by have := IX1.out.ok.sec.len; omega
          obtain ⟨b, o, hb, hbl, hck, hr⟩ := IX1.out.ok.sec.at_ (k := k) hkS
          have hin : (0 : Int) ≤ (k : Int) := by omega
          have hin1 : (k : Int) < (d.n : Int) := by omega
          have HSI := Keep.mk (IX1.out.ok.sec.ok _ (List.getElem_mem hkS))
          have HRD := Keep.mk (read_crashed d keep D1.m H19.out.m_ k hkS)
          generalize d.S[k] = si at *
          have HBO := Keep.mk hb
          rw [hb] at i0
          clear hb hr hkS
          go_wp2
          clear i0 hck
          obtain ⟨wo, rfl⟩ : ∃ wo : World, wo = wr := ⟨_, rfl⟩
          go_loop [8, 9] (fun v i' => ∃ (j : Nat) (s : Sl), j ≤ n1 ∧ i' = .int .i64 j ∧ v = .slice s.a s.n s.c ∧ Keep (s.Ok wo ∧ s.l = Dv.content si.l (k : Int) (((keptPe keep 0 d.P).map Pe.m).take j))) (fun _ i' => n1 - (intOf i').toNat)
          case atStart => exact ⟨0, si, Nat.zero_le _, rfl, rfl, ⟨HSI.out, rfl⟩⟩
          case round =>
            obtain ⟨j, s, hj, rfl, rfl, hq⟩ := hrel
            by_cases hjt : j < n1
            · have hkP : j < (keptPe keep 0 d.P).length := by have := HPN.out; omega
              obtain ⟨b2, o2, hb2, hbl2, hck, hck1, hr⟩ := HP1.out.at_ (k := j) hkP
              have HCT := Keep.mk (content_take si.l (k : Int) (keptPe keep 0 d.P) j hkP)
              have HPK := Keep.mk (HP1.out.ok _ (List.getElem_mem hkP))
              generalize (keptPe keep 0 d.P)[j] = pk at *
              subst hb2
              clear hr
              by_cases hx : pk.k = (k : Int)
              · have e4 : (pk.k == (k : Int)) = true := by simpa using hx
                have HX := Keep.mk hx
                clear hx
                go_wp2
                go_round
                case rel => exact ⟨j + 1, pk.s, by omega, by go_num, rfl, ⟨HPK.out, by rw [HCT.out, if_pos HX.out]⟩⟩
                case measure => simp [intOf]; omega
              · have e4 : (pk.k == (k : Int)) = false := by simpa using hx
                have HX := Keep.mk hx
                clear hx
                go_wp2
                go_round
                case rel => exact ⟨j + 1, s, by omega, by go_num, rfl, ⟨hq.out.1, by rw [HCT.out, if_neg HX.out]; exact hq.out.2⟩⟩
                case measure => simp [intOf]; omega
            · obtain rfl : n1 = j := by omega
              have hfin : s.l = Dv.content si.l (k : Int) ((keptPe keep 0 d.P).map Pe.m) := by
                have := hq.out.2
                rwa [List.take_of_length_le (by have := HPN.out; simp; omega)] at this
              have HRX := CR.out wo HC.out (k : Int)
              rw [HRD.out, ← hfin] at HRX
              have HRX := Keep.mk HRX
              have HOK := Keep.mk hq.out.1
              clear hfin
              obtain ⟨o0, o1, o2, o3⟩ := OX1.out.cs
              rw [HDN.out] at o3 HRX
              go_wp2_with fail
              refine HRX.out.mono ?_
              rintro e w2 ⟨Ar, nr, cr, rfl, hr, hb⟩
              have HR := Keep.mk hr
              have HS2 := Keep.mk (HOK.out.below hb)
              have HC2 := Lib.hid (below_next HC.out hb (Nat.le_refl _))
              clear hr hb o0 o1 o2 o3
              have SB := Keep.mk (sb_true Ar nr cr s.a s.n s.c s.l w2 HR.out HS2.out)
              go_wp2_with (go_at_call 18; refine SB.out.mono ?_; rintro e w4 ⟨rfl, k4, hw4⟩; have hb4 : Below w2.heap.size w2 w4 := (by rw [hw4]; exact below_draws _ _ _); have HC4 := Lib.hid (below_next HC2.out hb4 (Nat.le_refl _)); clear hw4 hb4)
              go_roundw
              case rel => exact ⟨k + 1, by omega, by go_num, HC4.out⟩
              case measure => simp [intOf]; omega
        · obtain rfl : d.n = k := by omega
          go_wp2_with (go_at_call 12; refine (awake_any wr).mono ?_; rintro e w5 ⟨rfl, hb⟩; have HB5 := Lib.hid (below_next HBW.out hb (Nat.le_refl _)); clear hb)
          go_ret
          exact ⟨rfl, HB5.out⟩
end Go.Proofs.Ytpekbcoclmhcnaa
