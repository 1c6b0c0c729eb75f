/- DeviceAll. -/
import Derived.Test.YtpekbcoclmhcnaaLaw24c
import Derived.Test.YtpekbcoclmhcnaaInts
namespace Go.Proofs.Ytpekbcoclmhcnaa
open Go.RowKit Go.Joins

/-- The indices, each twice, from above down to i. -/
def downs (n : Nat) : Nat → List Int
  | 0 => []
  | k + 1 => downs n k ++ [((n - 1 - k : Nat) : Int), ((n - 1 - k : Nat) : Int)]
theorem downs_mem (n : Nat) : ∀ (k j : Nat), k ≤ n → n - k ≤ j → j < n → (downs n k).contains (j : Int) = true
  | 0, j, _, h1, h2 => by omega
  | k + 1, j, hk, h1, h2 => by
    simp only [downs]
    by_cases h : n - k ≤ j
    · have := downs_mem n k j (by omega) h h2
      simp at this ⊢
      exact .inl this
    · have : j = n - 1 - k := by omega
      subst this
      simp
theorem downs_len (n : Nat) : ∀ k, (downs n k).length = k * 2
  | 0 => rfl
  | k + 1 => by simp [downs, downs_len n k]; omega
theorem downs_wf (n : Nat) (hn : n ≤ 1000) : ∀ k, ∀ z ∈ downs n k, (Lit.int .i64 z).wf = true
  | 0, z, h => by simp [downs] at h
  | k + 1, z, h => by
    simp only [downs, List.mem_append, List.mem_cons, List.not_mem_nil, or_false, or_self] at h
    rcases h with h | h
    · exact downs_wf n hn k z h
    · subst h
      exact WalkArith.wf_i64 (by omega)
theorem crash_all (m : Dv.Disk) : Dv.crash m (downs m.pending.length m.pending.length) = ⟨Dv.settle m.sectors m.pending, [], -1, false⟩ := by
  unfold Dv.crash
  rw [Dv.kept_all _ _ _ (fun j h1 h2 => downs_mem _ _ j (Nat.le_refl _) (by omega) (by omega))]
set_option maxHeartbeats 4000000 in
set_option maxRecDepth 100000 in
theorem law_all (d : Dk) (w : World) (h : d.Ok w) :
    Calls Try.prog 10 #[.agg #[.slice d.a d.n d.c, .slice d.pa d.pn d.pc, .int .i64 d.left, .bool d.down]] w fun e w' => e = .returned (.bool true) ∧ Below w.heap.size w w' := by
  have HD := Keep.mk h
  have HX0 : Hid (Below w.heap.size w (w.alloc (.cells #[.slice d.a d.n d.c, .slice d.pa d.pn d.pc, .int .i64 d.left, .bool d.down] 25))) := below_alloc1 _ _
  have HBX := Keep.mk (BxD.new h rfl)
  clear h
  cases hf : Dv.few d.m 100
  · skip
    have HF := Keep.mk hf
    clear hf
    go_enter Try.func10, Try.ntmps10
    go_wp2_with fail
    refine (few100 d _ HBX.out.ok).mono ?_
    rw [HF.out]
    rintro e w2 ⟨rfl, hb⟩
    have B3 := Lib.hid (below_next HX0.out hb (Nat.le_refl _))
    clear HX0
    clear hb
    go_wp2_with fail
    refine (awake_any w2).mono ?_
    rintro e w4 ⟨rfl, hb⟩
    have B5 := Lib.hid (below_next B3.out hb (Nat.le_refl _))
    clear B3
    clear hb
    go_wp2
    go_ret
    exact ⟨rfl, B5.out⟩
  · have HF := Keep.mk hf
    have hfit := (Dv.few_fits hf (by omega)).1
    have HFT := Keep.mk hfit
    have hpn := HD.out.pen.len
    have hpl : d.m.pending.length = d.pn := by simp [Dk.m, hpn]
    have hp100 : d.pn ≤ 100 := by have := hfit.np; omega
    have HPL := Keep.mk hpl
    clear hf hfit hpn hpl
    by_cases hdn : d.down = false
    · have hm : d.m.down = false := hdn
      have HDN := Keep.mk hdn
      have HM := Keep.mk hm
      have hfl := flush_any d 100
      rw [flush_up hm] at hfl
      have CF := Keep.mk (fun (X : World) (hX : Below w.heap.size w X) => retXE (hfl X (HD.out.below hX) HFT.out (by omega)))
      rw [hdn] at CF
      clear hm hfl hdn
      go_enter Try.func10, Try.ntmps10
      go_wp2_with fail
      refine (few100 d _ HBX.out.ok).mono ?_
      rw [HF.out]
      rintro e w2 ⟨rfl, hb⟩
      have H3 := Keep.mk (HBX.out.below hb)
      have B4 := Lib.hid (below_next HX0.out hb (Nat.le_refl _))
      clear HBX HX0
      clear hb
      clear HF
      have c5 := H3.out.bx.cell 1 _ rfl
      have c6 := H3.out.bx.cell 3 _ rfl
      rw [HDN.out] at c6
      go_wp2
      clear c5 c6
      go_loopw [3, 4] (fun v i wr => ∃ (x : Int) (k n' : Nat) (A' : Option Addr) (c' : Nat), x + 1 + (k : Int) = (d.pn : Int) ∧ -1 ≤ x ∧ x ≤ 1000 ∧ i = .int .i64 x ∧ v = .slice A' n' c' ∧ n' ≤ k * 2 ∧ OI wr w2.heap.size A' n' c' (downs d.pn k) ∧ Below w2.heap.size w2 wr) (fun _ i _ => (intOf i + 1).toNat)
      case atStart => exact ⟨(d.pn : Int) - 1, 0, 0, none, 0, by omega, by omega, by omega, rfl, rfl, Nat.le_refl _, OI.nil _ _, Below.refl _ _⟩
      case round =>
        obtain ⟨x, k, n', A', c', hk, hx0, hx1, rfl, rfl, hn', ho, hb⟩ := hrel
        have HO := Keep.mk ho
        have HBL := Lib.hid hb
        have HK := Keep.mk hk
        clear ho hb hk
        by_cases hlt : 0 ≤ x
        · have HX : Keep (x = ((d.pn - 1 - k : Nat) : Int)) := ⟨by have := HK.out; omega⟩
          have HRI : Keep (RI (wr.alloc (.cells #[.int .i64 x, .int .i64 x] 3)) (some ⟨wr.heap.size, 0, none⟩) 2 2 [x, x]) := ⟨(Wh.new wr 3 [.int .i64 x, .int .i64 x]).rd rfl (Nat.le_refl _) (by simp [maxLen]) (fun j u hu => by rw [Nat.zero_add]; exact hu)⟩
          go_wp2_with (at_builtin; refine append_oi _ rfl (.tmp 24) (.tmp 27) rfl w2.heap.size A' n' c' (downs d.pn k) rfl (HO.out.below (below_alloc1 _ _)) (some ⟨wr.heap.size, 0, none⟩) 2 2 [x, x] rfl HRI.out (by have := HK.out; omega) (by have := HBL.out.size; simp; omega) ?_; intro A3 n3 c3 w3 ho hb; have HO3 := Keep.mk ho; have HB3 := Lib.hid hb; have hl3 := (OI.ri ho).len; clear ho hb)
          have hn3 : n3 ≤ (k + 1) * 2 := by rw [List.length_append, downs_len] at hl3; simp at hl3; omega
          go_roundw
          case rel => exact ⟨x - 1, k + 1, n3, A3, c3, by have := HK.out; omega, by omega, by omega, rfl, rfl, hn3, by simp only [downs]; rw [← HX.out]; exact HO3.out, HBL.out.trans (((below_alloc1 _ _).mono HBL.out.size).trans HB3.out)⟩
          case measure => simp [intOf]; omega
        · obtain rfl : x = -1 := by omega
          have hri := OI.ri HO.out
          rw [show k = d.pn by have := HK.out; omega] at hri
          have HRI := Keep.mk hri
          have HD9 := Keep.mk (H3.out.below HBL.out)
          have HB9 := Lib.hid (below_next B4.out HBL.out (Nat.le_refl _))
          clear hri HO hlt hx0 hx1 hn'
          obtain ⟨c51, c52, c53, c54⟩ := HD9.out.cs
          rw [HDN.out] at c54
          go_wp2_with fail
          refine (CF.out wr HB9.out).mono ?_
          rintro e w55 ⟨D1, rfl, hok, hm, hb, hav⟩
          simp only at hm
          have hal := below_alloc1 w55 (.cells #[.slice D1.a D1.n D1.c, .slice D1.pa D1.pn D1.pc, .int .i64 D1.left, .bool D1.down] 25)
          have N56 := Keep.mk (BxD.new hok hm)
          have H57 := Keep.mk ((HD9.out.below hb).below hal)
          have H58 := Keep.mk ((HRI.out.below hb).below hal)
          have B59 := Lib.hid (below_next (below_next HB9.out hb (Nat.le_refl _)) hal (Nat.le_refl _))
          clear c51 c52 c53 c54
          clear HD9 HRI HB9
          clear hb hal hok hm hav
          go_upto_region 9 with (fail)
          generalize e61 : w55.alloc (.cells #[.slice D1.a D1.n D1.c, .slice D1.pa D1.pn D1.pc, .int .i64 D1.left, .bool D1.down] 25) = w60 at *
          clear e61
          have CC := retX (crash_any d A' n' c' (downs d.pn d.pn) 100 w60 H57.out.ok H58.out (downs_wf d.pn (by omega) d.pn) HFT.out (by omega))
          have hcr := crash_all d.m
          rw [HPL.out] at hcr
          rw [hcr, HDN.out] at CC
          clear hcr
          have CK := Keep.mk CC
          clear CC
          obtain ⟨c62, c63, c64, c65⟩ := H57.out.cs
          rw [HDN.out] at c65
          go_wp2_with fail
          refine (CK.out).mono ?_
          rintro e w66 ⟨D2, rfl, hok, hm, hb, hav⟩
          have hal := below_alloc1 w66 (.cells #[.slice D2.a D2.n D2.c, .slice D2.pa D2.pn D2.pc, .int .i64 D2.left, .bool D2.down] 25)
          have N67 := Keep.mk (BxD.new hok hm)
          have H68 := Keep.mk ((H57.out.below hb).below hal)
          have H69 := Keep.mk ((H58.out.below hb).below hal)
          have H70 := Keep.mk ((N56.out.below hb).below hal)
          have B71 := Lib.hid (below_next (below_next B59.out hb (Nat.le_refl _)) hal (Nat.le_refl _))
          clear c62 c63 c64 c65
          clear H57 H58 N56 B59
          clear hb hal hok hm hav
          go_upto_region 10 with (fail)
          generalize e73 : w66.alloc (.cells #[.slice D2.a D2.n D2.c, .slice D2.pa D2.pn D2.pc, .int .i64 D2.left, .bool D2.down] 25) = w72 at *
          clear e73
          have hfx : Dv.Fits 0 D2.m := by
            have := Dv.crash_fits HFT.out (downs d.m.pending.length d.m.pending.length)
            rw [crash_all] at this
            rw [N67.out.m_]
            exact this
          have HFX := Keep.mk hfx
          have hn1 : d.n = D2.n := by
            have h1 := H68.out.ok.sec.len
            have h2 := N67.out.ok.sec.len
            have h3 := congrArg (fun m => m.sectors.length) N67.out.m_
            simp only [Dv.settle_length, Dk.m, List.length_map] at h3
            omega
          have HN1 := Keep.mk hn1
          have hp0 : D2.pn = 0 := by
            have h2 := N67.out.ok.pen.len
            have h3 := congrArg (fun m => m.pending.length) N67.out.m_
            simp only [Dk.m, List.length_map, List.length_nil] at h3
            omega
          have e1 : ((D2.pn : Int) == 0) = true := by rw [hp0]; rfl
          have hse : D1.S.map (·.l) = D2.S.map (·.l) := (congrArg Dv.Disk.sectors H70.out.m_).trans (congrArg Dv.Disk.sectors N67.out.m_).symm
          have hdec := decide_eq_true hse
          have HSE := Keep.mk hse
          clear hfx hn1 hp0 hse
          have c74 := H70.out.bx.cell 0 _ rfl
          have c75 := N67.out.bx.cell 0 _ rfl
          have C2 := ss_any D1.a D1.n D1.c D1.S D2.a D2.n D2.c D2.S w72 H70.out.ok.sec N67.out.ok.sec
          rw [decide_eq_true HSE.out] at C2
          have CS := Keep.mk C2
          clear C2
          go_wp2_with fail
          refine (CS.out).mono ?_
          rintro e w76 ⟨rfl, kq, hw⟩
          have hb : Below w72.heap.size w72 w76 := by rw [hw]; exact below_draws _ _ _
          clear hw
          have H77 := Keep.mk (H68.out.below hb)
          have H78 := Keep.mk (H69.out.below hb)
          have H79 := Keep.mk (H70.out.below hb)
          have H80 := Keep.mk (N67.out.below hb)
          have B81 := Lib.hid (below_next B71.out hb (Nat.le_refl _))
          clear c74 c75
          clear H68 H69 H70 N67 B71
          clear hb
          have C1 := lsame_true d D2 (-1) 100 0 w76 H77.out.ok H80.out.ok HFT.out HFX.out HN1.out (fun i hi _ => read_flushed HM.out (by rw [H80.out.m_]) (by rw [H80.out.m_]) (by rw [H80.out.m_]) i (by have := H77.out.ok.sec.len; simp [Dk.m]; omega))
          rw [HDN.out] at C1
          have CE := Keep.mk C1
          clear C1
          have c82 := H80.out.bx.cell 1 _ rfl
          obtain ⟨c83, c84, c85, c86⟩ := H77.out.cs
          rw [HDN.out] at c86
          have c87 := H80.out.bx.cell 0 _ rfl
          have c88 := H80.out.bx.cell 2 _ rfl
          have c89 := H80.out.bx.cell 3 _ rfl
          go_wp2_with fail
          refine (CE.out).mono ?_
          rintro e w90 ⟨rfl, hb⟩
          have H91 := Keep.mk (H77.out.below hb)
          have H92 := Keep.mk (H78.out.below hb)
          have H93 := Keep.mk (H79.out.below hb)
          have H94 := Keep.mk (H80.out.below hb)
          have B95 := Lib.hid (below_next B81.out hb (Nat.le_refl _))
          clear c82 c83 c84 c85 c86 c87 c88 c89
          clear H77 H78 H79 H80 B81
          clear hb
          go_wp2_with fail
          refine (awake_any w90).mono ?_
          rintro e w96 ⟨rfl, hb⟩
          have H97 := Keep.mk (H91.out.below hb)
          have H98 := Keep.mk (H92.out.below hb)
          have H99 := Keep.mk (H93.out.below hb)
          have H100 := Keep.mk (H94.out.below hb)
          have B101 := Lib.hid (below_next B95.out hb (Nat.le_refl _))
          clear H91 H92 H93 H94 B95
          clear hb
          go_wp2
          go_ret
          exact ⟨rfl, B101.out⟩
    · skip
      have hdt : d.down = true := by simpa using hdn
      have HDN := Keep.mk hdt
      clear hdn hdt
      go_enter Try.func10, Try.ntmps10
      go_wp2_with fail
      refine (few100 d _ HBX.out.ok).mono ?_
      rw [HF.out]
      rintro e w2 ⟨rfl, hb⟩
      have H3 := Keep.mk (HBX.out.below hb)
      have B4 := Lib.hid (below_next HX0.out hb (Nat.le_refl _))
      clear HBX HX0
      clear hb
      clear HF
      have c5 := H3.out.bx.cell 3 _ rfl
      rw [HDN.out] at c5
      go_wp2_with fail
      refine (awake_any w2).mono ?_
      rintro e w6 ⟨rfl, hb⟩
      have H7 := Keep.mk (H3.out.below hb)
      have B8 := Lib.hid (below_next B4.out hb (Nat.le_refl _))
      clear c5
      clear H3 B4
      clear hb
      go_wp2
      go_ret
      exact ⟨rfl, B8.out⟩
end Go.Proofs.Ytpekbcoclmhcnaa
