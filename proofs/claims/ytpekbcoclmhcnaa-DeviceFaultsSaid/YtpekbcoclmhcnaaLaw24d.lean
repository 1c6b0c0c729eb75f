/- DeviceFaults. -/
import Derived.Test.YtpekbcoclmhcnaaLaw24c
namespace Go.Proofs.Ytpekbcoclmhcnaa
open Go.RowKit Go.Joins

set_option maxHeartbeats 4000000 in
set_option maxRecDepth 100000 in
theorem law_faults (d : Dk) (left : Int) (A : Option Addr) (n c : Nat) (keep : List Int) (w : World) (h : d.Ok w) (hl : RI w A n c keep) (hw : ∀ z ∈ keep, (Lit.int .i64 z).wf = true) :
    Calls Try.prog 4 #[.agg #[.slice d.a d.n d.c, .slice d.pa d.pn d.pc, .int .i64 d.left, .bool d.down], .int .i64 left, .slice A n c] w fun e w' => e = .returned (.bool true) ∧ Below w.heap.size w w' := by
  have HD := Keep.mk h
  have HL := Keep.mk hl
  have HWF := Keep.mk hw
  have HX0 : Hid (Below w.heap.size w (w.alloc (.cells #[.slice d.a d.n d.c, .slice d.pa d.pn d.pc, .int .i64 d.left, .bool d.down] 25))) := below_alloc1 _ _
  have HBX := Keep.mk (BxD.new h rfl)
  clear h hl hw
  cases hf : Dv.few d.m 100
  · skip
    have HF := Keep.mk hf
    clear hf
    go_enter Try.func4, Try.ntmps4
    go_wp2_with fail
    refine (few100 d _ HBX.out.ok).mono ?_
    rw [HF.out]
    rintro e w2 ⟨rfl, hb⟩
    have B3 := Lib.hid (below_next HX0.out hb (Nat.le_refl _))
    clear HX0
    clear hb
    go_wp2_with fail
    refine (awake_any w2).mono ?_
    rintro e w4 ⟨rfl, hb⟩
    have B5 := Lib.hid (below_next B3.out hb (Nat.le_refl _))
    clear B3
    clear hb
    go_wp2
    go_ret
    exact ⟨rfl, B5.out⟩
  · have HF := Keep.mk hf
    have hfit := (Dv.few_fits hf (by omega)).1
    have HFT := Keep.mk hfit
    clear hf hfit
    by_cases hk : 200 < n
    · have e1 : decide ((200 : Int) < (n : Int)) = true := decide_eq_true (by omega)
      go_enter Try.func4, Try.ntmps4
      go_wp2_with fail
      refine (few100 d _ HBX.out.ok).mono ?_
      rw [HF.out]
      rintro e w2 ⟨rfl, hb⟩
      have B3 := Lib.hid (below_next HX0.out hb (Nat.le_refl _))
      clear HX0
      clear hb
      go_wp2_with fail
      refine (awake_any w2).mono ?_
      rintro e w4 ⟨rfl, hb⟩
      have B5 := Lib.hid (below_next B3.out hb (Nat.le_refl _))
      clear B3
      clear hb
      go_wp2
      go_ret
      exact ⟨rfl, B5.out⟩
    · have e1 : decide ((200 : Int) < (n : Int)) = false := decide_eq_false (by omega)
      have CF := Keep.mk (fun (X : World) (hX : Below w.heap.size w X) => retXE (flush_any d 100 X (HD.out.below hX) HFT.out (by omega)))
      have CG := Keep.mk (fun (X : World) (hX : Below w.heap.size w X) => retXE (rflush_any d 100 X (HD.out.below hX) HFT.out))
      generalize Dv.flush d.m = r at *
      obtain ⟨m1, q1⟩ := r
      have hpair : True := trivial
      go_enter Try.func4, Try.ntmps4
      go_wp2_with fail
      refine (few100 d _ HBX.out.ok).mono ?_
      rw [HF.out]
      rintro e w2 ⟨rfl, hb⟩
      have H3 := Keep.mk (HBX.out.below hb)
      have B4 := Lib.hid (below_next HX0.out hb (Nat.le_refl _))
      clear HBX HX0
      clear hb
      clear HF
      obtain ⟨c5, c6, c7, c8⟩ := H3.out.cs
      go_wp2_with fail
      refine (CF.out w2 B4.out).mono ?_
      rintro e w9 ⟨D1, rfl, hok, hm, hb, hav⟩
      simp only at hm
      have hal := below_alloc1 w9 (.cells #[.slice D1.a D1.n D1.c, .slice D1.pa D1.pn D1.pc, .int .i64 D1.left, .bool D1.down] 25)
      have N10 := Keep.mk (BxD.new hok hm)
      have H11 := Keep.mk ((H3.out.below hb).below hal)
      have B12 := Lib.hid (below_next (below_next B4.out hb (Nat.le_refl _)) hal (Nat.le_refl _))
      clear c5 c6 c7 c8
      clear H3 B4
      clear hb hal hok hm hav
      go_upto_region 4 with (fail)
      generalize e14 : w9.alloc (.cells #[.slice D1.a D1.n D1.c, .slice D1.pa D1.pn D1.pc, .int .i64 D1.left, .bool D1.down] 25) = w13 at *
      clear e14
      obtain ⟨c15, c16, c17, c18⟩ := H11.out.cs
      go_wp2_with fail
      refine (CG.out w13 B12.out).mono ?_
      rintro e w19 ⟨D2, rfl, hok, hm, hb, hav⟩
      simp only at hm
      have hal := below_alloc1 w19 (.cells #[.slice D2.a D2.n D2.c, .slice D2.pa D2.pn D2.pc, .int .i64 D2.left, .bool D2.down] 25)
      have N20 := Keep.mk (BxD.new hok hm)
      have H21 := Keep.mk ((H11.out.below hb).below hal)
      have H22 := Keep.mk ((N10.out.below hb).below hal)
      have B23 := Lib.hid (below_next (below_next B12.out hb (Nat.le_refl _)) hal (Nat.le_refl _))
      clear c15 c16 c17 c18
      clear H11 N10 B12
      clear hb hal hok hm hav
      go_upto_region 5 with (fail)
      generalize e25 : w19.alloc (.cells #[.slice D2.a D2.n D2.c, .slice D2.pa D2.pn D2.pc, .int .i64 D2.left, .bool D2.down] 25) = w24 at *
      clear e25
      have e2 : (q1 == q1) = true := by simp
      have C1 := Keep.mk (fun (X : World) (hX : Below w24.heap.size w24 X) => same_true D1 D2 X (H22.out.ok.below hX) (N20.out.ok.below hX) (H22.out.m_.trans N20.out.m_.symm))
      have C2 := Keep.mk (fun (X : World) (hX : Below w24.heap.size w24 X) => retX (arm_any d left 100 X (H21.out.ok.below hX) HFT.out (by omega)))
      have C3 := Keep.mk (fun (X : World) (hX : Below w24.heap.size w24 X) => retX (rarm_any d left X (H21.out.ok.below hX)))
      have C4 := Keep.mk (fun (X : World) (hX : Below w24.heap.size w24 X) => retX (crash_any d A n c keep 100 X (H21.out.ok.below hX) ((HL.out.below B23.out).below hX) HWF.out HFT.out (by omega)))
      have C5 := Keep.mk (fun (X : World) (hX : Below w24.heap.size w24 X) => retX (rcrash_any d A n c keep 100 X (H21.out.ok.below hX) ((HL.out.below B23.out).below hX) HFT.out (by omega)))
      have KP := Keep.mk (fun (X : World) (hX : Below w24.heap.size w24 X) => And.intro (H21.out.below hX).cs (And.intro (H22.out.below hX).cs (N20.out.below hX).cs))
      have HC : Hid (Below w24.heap.size w24 w24.drew) := below_draws _ _ 1
      go_region_held3 (fun X => (X.cell? ⟨w.heap.size, 0, none⟩ = some (.slice d.a d.n d.c) ∧ X.cell? ⟨w.heap.size, 1, none⟩ = some (.slice d.pa d.pn d.pc) ∧ X.cell? ⟨w.heap.size, 2, none⟩ = some (.int .i64 d.left) ∧ X.cell? ⟨w.heap.size, 3, none⟩ = some (.bool d.down)) ∧ (X.cell? ⟨w9.heap.size, 0, none⟩ = some (.slice D1.a D1.n D1.c) ∧ X.cell? ⟨w9.heap.size, 1, none⟩ = some (.slice D1.pa D1.pn D1.pc) ∧ X.cell? ⟨w9.heap.size, 2, none⟩ = some (.int .i64 D1.left) ∧ X.cell? ⟨w9.heap.size, 3, none⟩ = some (.bool D1.down)) ∧ X.cell? ⟨w19.heap.size, 0, none⟩ = some (.slice D2.a D2.n D2.c) ∧ X.cell? ⟨w19.heap.size, 1, none⟩ = some (.slice D2.pa D2.pn D2.pc) ∧ X.cell? ⟨w19.heap.size, 2, none⟩ = some (.int .i64 D2.left) ∧ X.cell? ⟨w19.heap.size, 3, none⟩ = some (.bool D2.down))
        (first | exact KP.out _ HC.out | exact KP.out _ (below_draws _ _ 1))
        (first
          | (go_at_call 23; ((refine (C2.out _ HC.out).mono ?_); rintro e wn ⟨D3, rfl, hok, hm, hb, hav⟩; have O3 := Keep.mk hok; have MD3 := Keep.mk hm; (first | (have PO4 := Keep.mk (O4.out.below hb)) | skip); have HC := Lib.hid (below_next HC.out hb (Nat.le_refl _)); clear hok hm hb hav))
          | (go_at_call 24; ((refine (C3.out _ HC.out).mono ?_); rintro e wn ⟨D4, rfl, hok, hm, hb, hav⟩; have O4 := Keep.mk hok; have MD4 := Keep.mk hm; (first | (have PO3 := Keep.mk (O3.out.below hb)) | skip); have HC := Lib.hid (below_next HC.out hb (Nat.le_refl _)); clear hok hm hb hav))
          | (go_at_call 25; ((refine (C4.out _ HC.out).mono ?_); rintro e wn ⟨D5, rfl, hok, hm, hb, hav⟩; have O5 := Keep.mk hok; have MD5 := Keep.mk hm; (first | (have PO6 := Keep.mk (O6.out.below hb)) | skip); have HC := Lib.hid (below_next HC.out hb (Nat.le_refl _)); clear hok hm hb hav))
          | (go_at_call 26; ((refine (C5.out _ HC.out).mono ?_); rintro e wn ⟨D6, rfl, hok, hm, hb, hav⟩; have O6 := Keep.mk hok; have MD6 := Keep.mk hm; (first | (have PO5 := Keep.mk (O5.out.below hb)) | skip); have HC := Lib.hid (below_next HC.out hb (Nat.le_refl _)); clear hok hm hb hav))
          | (go_at_call 17; (first | ((with_reducible refine (C1.out _ HC.out).mono ?_); rintro e wn ⟨rfl, hb⟩; have HC := Lib.hid (below_next HC.out hb (Nat.le_refl _)); clear hb) | ((with_reducible refine (same_true D3 D4 _ PO3.out O4.out (MD3.out.trans MD4.out.symm)).mono ?_); rintro e wn ⟨rfl, hb⟩; have HC := Lib.hid (below_next HC.out hb (Nat.le_refl _)); clear hb) | ((with_reducible refine (same_true D3 D4 _ O3.out PO4.out (MD3.out.trans MD4.out.symm)).mono ?_); rintro e wn ⟨rfl, hb⟩; have HC := Lib.hid (below_next HC.out hb (Nat.le_refl _)); clear hb) | ((with_reducible refine (same_true D5 D6 _ PO5.out O6.out (MD5.out.trans MD6.out.symm)).mono ?_); rintro e wn ⟨rfl, hb⟩; have HC := Lib.hid (below_next HC.out hb (Nat.le_refl _)); clear hb) | ((with_reducible refine (same_true D5 D6 _ O5.out PO6.out (MD5.out.trans MD6.out.symm)).mono ?_); rintro e wn ⟨rfl, hb⟩; have HC := Lib.hid (below_next HC.out hb (Nat.le_refl _)); clear hb)))
          | (go_at_call 12; ((refine (awake_any _).mono ?_); rintro e wn ⟨rfl, hb⟩; have HC := Lib.hid (below_next HC.out hb (Nat.le_refl _)); clear hb)))
      all_goals go_wp2
      all_goals go_ret
      all_goals exact ⟨rfl, B23.out.trans (HC.out.mono B23.out.size)⟩
end Go.Proofs.Ytpekbcoclmhcnaa
