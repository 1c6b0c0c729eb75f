/- DeviceFlushes. -/
import Derived.Test.YtpekbcoclmhcnaaLaw24b
import Derived.Deep.RegionHeld3
namespace Go.Proofs.Ytpekbcoclmhcnaa
open Go.RowKit Go.Joins

/-- What Flush makes durable reads as it did. -/
theorem read_flushed {m m' : Dv.Disk} (h0 : m.down = false) (h1 : m'.down = false) (h2 : m'.sectors = Dv.settle m.sectors m.pending) (h3 : m'.pending = []) (i : Nat) (hi : i < m.sectors.length) : Dv.read m (i : Int) = Dv.read m' (i : Int) := by
  have hl : m'.sectors.length = m.sectors.length := by rw [h2, Dv.settle_length]
  have e := Dv.settle_getD m.sectors m.pending i hi
  rw [Dv.read, Dv.read, h0, h1, hl, Dv.has_nat hi, h2, h3]
  simp only [Int.toNat_natCast, e]
  rfl
theorem flush_up {m : Dv.Disk} (h : m.down = false) : Dv.flush m = (⟨Dv.settle m.sectors m.pending, [], m.left, false⟩, 0) := by simp [Dv.flush, h]
theorem crash_bare {m : Dv.Disk} (h : m.pending = []) (keep : List Int) : Dv.crash m keep = ⟨m.sectors, [], -1, false⟩ := by simp [Dv.crash, h, Dv.kept, Dv.settle]
theorem read_same {m m' : Dv.Disk} (h0 : m.down = m'.down) (h1 : m.sectors = m'.sectors) (h2 : m.pending = m'.pending) (i : Int) : Dv.read m i = Dv.read m' i := by rw [Dv.read, Dv.read, h0, h1, h2]

set_option maxHeartbeats 4000000 in
set_option maxRecDepth 100000 in
theorem law_flushes (d : Dk) (A : Option Addr) (n c : Nat) (keep : List Int) (w : World) (h : d.Ok w) (hl : RI w A n c keep) (hw : ∀ z ∈ keep, (Lit.int .i64 z).wf = true) :
    Calls Try.prog 6 #[.agg #[.slice d.a d.n d.c, .slice d.pa d.pn d.pc, .int .i64 d.left, .bool d.down], .slice A n c] w fun e w' => e = .returned (.bool true) ∧ Below w.heap.size w w' := by
  have HD := Keep.mk h
  have HL := Keep.mk hl
  have HWF := Keep.mk hw
  have HX0 : Hid (Below w.heap.size w (w.alloc (.cells #[.slice d.a d.n d.c, .slice d.pa d.pn d.pc, .int .i64 d.left, .bool d.down] 25))) := below_alloc1 _ _
  have HBX := Keep.mk (BxD.new h rfl)
  clear h hl hw
  cases hf : Dv.few d.m 100
  · skip
    have HF := Keep.mk hf
    clear hf
    go_enter Try.func6, Try.ntmps6
    go_wp2_with fail
    refine (few100 d _ HBX.out.ok).mono ?_
    rw [HF.out]
    rintro e w2 ⟨rfl, hb⟩
    have B3 := Lib.hid (below_next HX0.out hb (Nat.le_refl _))
    clear HX0
    clear hb
    go_wp2_with fail
    refine (awake_any w2).mono ?_
    rintro e w4 ⟨rfl, hb⟩
    have B5 := Lib.hid (below_next B3.out hb (Nat.le_refl _))
    clear B3
    clear hb
    go_wp2
    go_ret
    exact ⟨rfl, B5.out⟩
  · have HF := Keep.mk hf
    have hfit := (Dv.few_fits hf (by omega)).1
    have HFT := Keep.mk hfit
    by_cases hdn : d.down = false
    · have hm : d.m.down = false := hdn
      have HDN := Keep.mk hdn
      have HM := Keep.mk hm
      have hfl := flush_any d 100
      rw [flush_up hm] at hfl
      have CF := Keep.mk (fun (X : World) (hX : Below w.heap.size w X) => retXE (hfl X (HD.out.below hX) HFT.out (by omega)))
      have hff := Dv.flush_fits hfit
      rw [flush_up hm] at hff
      have HFF := Keep.mk hff
      rw [hdn] at CF
      clear hf hfit hm hfl hff hdn
      go_enter Try.func6, Try.ntmps6
      go_wp2_with fail
      refine (few100 d _ HBX.out.ok).mono ?_
      rw [HF.out]
      rintro e w2 ⟨rfl, hb⟩
      have H3 := Keep.mk (HBX.out.below hb)
      have B4 := Lib.hid (below_next HX0.out hb (Nat.le_refl _))
      clear HBX HX0
      clear hb
      clear HF
      obtain ⟨c5, c6, c7, c8⟩ := H3.out.cs
      rw [HDN.out] at c8
      go_wp2_with fail
      refine (CF.out w2 B4.out).mono ?_
      rintro e w9 ⟨D1, rfl, hok, hm, hb, hav⟩
      simp only at hm
      have hal := below_alloc1 w9 (.cells #[.slice D1.a D1.n D1.c, .slice D1.pa D1.pn D1.pc, .int .i64 D1.left, .bool D1.down] 25)
      have N10 := Keep.mk (BxD.new hok hm)
      have H11 := Keep.mk ((H3.out.below hb).below hal)
      have B12 := Lib.hid (below_next (below_next B4.out hb (Nat.le_refl _)) hal (Nat.le_refl _))
      clear c5 c6 c7 c8
      clear H3 B4
      clear hb hal hok hm hav
      go_upto_region 4 with (fail)
      generalize e14 : w9.alloc (.cells #[.slice D1.a D1.n D1.c, .slice D1.pa D1.pn D1.pc, .int .i64 D1.left, .bool D1.down] 25) = w13 at *
      clear e14
      have hfx : Dv.Fits 0 D1.m := by rw [N10.out.m_]; exact HFF.out
      have HFX := Keep.mk hfx
      have hn1 : d.n = D1.n := by
        have h1 := H11.out.ok.sec.len
        have h2 := N10.out.ok.sec.len
        have h3 := congrArg (fun m => m.sectors.length) N10.out.m_
        simp only [Dv.settle_length, Dk.m, List.length_map] at h3
        omega
      have HN1 := Keep.mk hn1
      have hp0 : D1.pn = 0 := by
        have h2 := N10.out.ok.pen.len
        have h3 := congrArg (fun m => m.pending.length) N10.out.m_
        simp only [Dk.m, List.length_map, List.length_nil] at h3
        omega
      have e1 : ((D1.pn : Int) == 0) = true := by rw [hp0]; rfl
      have C1 := Keep.mk (fun (X : World) (hX : Below w13.heap.size w13 X) => lsame_true d D1 (-1) 100 0 X (H11.out.ok.below hX) (N10.out.ok.below hX) HFT.out HFX.out HN1.out (fun i hi _ => read_flushed HM.out (by rw [N10.out.m_]) (by rw [N10.out.m_]) (by rw [N10.out.m_]) i (by have := H11.out.ok.sec.len; simp [Dk.m]; omega)))
      have C2 := Keep.mk (fun (X : World) (hX : Below w13.heap.size w13 X) => retX (crash_any D1 A n c keep 0 X (N10.out.ok.below hX) ((HL.out.below B12.out).below hX) HWF.out HFX.out (by omega)))
      have C3 := Keep.mk (fun (X : World) (hX : Below w13.heap.size w13 X) (D2 : Dk) (h2 : D2.Ok X) (hm2 : D2.m = Dv.crash D1.m keep) => lsame_true D1 D2 (-1) 0 0 X (N10.out.ok.below hX) h2 HFX.out (by rw [hm2]; exact Dv.crash_fits HFX.out keep) (by
        have h1 := N10.out.ok.sec.len
        have h3 := h2.sec.len
        have h4 := congrArg (fun m => m.sectors.length) hm2
        simp only [Dv.crash, Dv.settle_length, Dk.m, List.length_map] at h4
        omega) (fun i hi _ => by
        rw [hm2, crash_bare (show D1.m.pending = [] by rw [N10.out.m_]) keep]
        have hq1 : D1.m.down = false := congrArg Dv.Disk.down N10.out.m_
        have hq2 : D1.m.pending = [] := congrArg Dv.Disk.pending N10.out.m_
        exact read_same (m := D1.m) (m' := ⟨D1.m.sectors, [], -1, false⟩) hq1 rfl hq2 _))
      have KP := Keep.mk (fun (X : World) (hX : Below w13.heap.size w13 X) => And.intro (H11.out.below hX).cs (N10.out.below hX).cs)
      rw [HDN.out] at C1 KP
      clear hfx hn1 hp0
      have HC : Hid (Below w13.heap.size w13 w13.drew) := below_draws _ _ 1
      go_region_held3 (fun X => (X.cell? ⟨w.heap.size, 0, none⟩ = some (.slice d.a d.n d.c) ∧ X.cell? ⟨w.heap.size, 1, none⟩ = some (.slice d.pa d.pn d.pc) ∧ X.cell? ⟨w.heap.size, 2, none⟩ = some (.int .i64 d.left) ∧ X.cell? ⟨w.heap.size, 3, none⟩ = some (.bool false)) ∧ X.cell? ⟨w9.heap.size, 0, none⟩ = some (.slice D1.a D1.n D1.c) ∧ X.cell? ⟨w9.heap.size, 1, none⟩ = some (.slice D1.pa D1.pn D1.pc) ∧ X.cell? ⟨w9.heap.size, 2, none⟩ = some (.int .i64 D1.left) ∧ X.cell? ⟨w9.heap.size, 3, none⟩ = some (.bool D1.down))
        (first | exact KP.out _ HC.out | exact KP.out _ (below_draws _ _ 1))
        (first
          | (go_at_call 25; ((refine (C2.out _ HC.out).mono ?_); rintro e wn ⟨D2, rfl, hok, hm, hb, hav⟩; have HOK := Keep.mk hok; have HM2 := Keep.mk hm; have HC := Lib.hid (below_next HC.out hb (Nat.le_refl _)); clear hok hm hb hav))
          | (go_at_call 28; (first | ((with_reducible refine (C1.out _ HC.out).mono ?_); rintro e wn ⟨rfl, hb⟩; have HC := Lib.hid (below_next HC.out hb (Nat.le_refl _)); clear hb) | ((refine (C3.out _ HC.out D2 HOK.out HM2.out).mono ?_); rintro e wn ⟨rfl, hb⟩; have HC := Lib.hid (below_next HC.out hb (Nat.le_refl _)); clear hb)))
          | (go_at_call 12; ((refine (awake_any _).mono ?_); rintro e wn ⟨rfl, hb⟩; have HC := Lib.hid (below_next HC.out hb (Nat.le_refl _)); clear hb)))
      go_wp2
      go_ret
      exact ⟨rfl, B12.out.trans (HC.out.mono B12.out.size)⟩
    · skip
      have hdt : d.down = true := by simpa using hdn
      have HDN := Keep.mk hdt
      clear hf hfit hdn hdt
      go_enter Try.func6, Try.ntmps6
      go_wp2_with fail
      refine (few100 d _ HBX.out.ok).mono ?_
      rw [HF.out]
      rintro e w2 ⟨rfl, hb⟩
      have H3 := Keep.mk (HBX.out.below hb)
      have B4 := Lib.hid (below_next HX0.out hb (Nat.le_refl _))
      clear HBX HX0
      clear hb
      clear HF
      have c5 := H3.out.bx.cell 3 _ rfl
      rw [HDN.out] at c5
      go_wp2_with fail
      refine (awake_any w2).mono ?_
      rintro e w6 ⟨rfl, hb⟩
      have H7 := Keep.mk (H3.out.below hb)
      have B8 := Lib.hid (below_next B4.out hb (Nat.le_refl _))
      clear c5
      clear H3 B4
      clear hb
      go_wp2
      go_ret
      exact ⟨rfl, B8.out⟩
end Go.Proofs.Ytpekbcoclmhcnaa
