/- DeviceLoses. -/
import Derived.Test.YtpekbcoclmhcnaaWritten
namespace Go.Proofs.Ytpekbcoclmhcnaa
open Go.RowKit Go.Joins

theorem new_ok {s : Int} (h1 : 1 ≤ s) (h2 : s ≤ 30) : Dv.new s = (⟨List.replicate s.toNat (List.replicate 64 0), [], -1, false⟩, 0) := by
  unfold Dv.new
  rw [if_neg (by omega)]
theorem new_no {s : Int} (h1 : s < 1) : Dv.new s = (Dv.Disk.zero, 2) := by
  unfold Dv.new
  rw [if_pos (.inl h1)]
/-- What the law of the lost writes leans on. -/
theorem loses_math {s : Int} (h1 : 1 ≤ s) (h2 : s ≤ 30) (L1 : List (Int × UInt8)) :
    (Dv.written (Dv.new s).1 0 L1).2.2 = 0 ∧ (Dv.written (Dv.new s).1 0 L1).1.down = false := by
  rw [new_ok h1 h2]
  obtain ⟨a, b, c⟩ := Dv.written_safe L1 ⟨List.replicate s.toNat (List.replicate 64 0), [], -1, false⟩ 0 rfl rfl
  exact ⟨by rw [a], b⟩
/-- A device avoids a block that it came in beside. -/
theorem BxD.av {w : World} {b : Nat} {d : Dk} {m : Dv.Disk} (h : BxD w b d m) {x : Nat} (hx : w.heap.size ≤ x) : d.Av x := h.ok.av hx
/-- What remains of a slice behind a store into a younger block. -/
theorem Rd.younger {w w' w0 : World} {T : List Nat} {s n c : Nat} {A : Option Addr} {xs : List Value} (h : Rd w s A n c xs) (h0 : Rd w0 s A n c xs) (ho : Off T w w') (hT : ∀ t ∈ T, w0.heap.size ≤ t) : Rd w' s A n c xs :=
  h.off ho fun hn a ha hm => by
    have h1 := Rd.lt h0 hn ha
    have h2 := hT _ hm
    omega

set_option maxHeartbeats 4000000 in
set_option maxRecDepth 100000 in
theorem law_loses (s : Int) (A : Option Addr) (n c : Nat) (L1 : List Ow) (B : Option Addr) (m e : Nat) (L2 : List Ow) (left : Int) (w : World) (hl1 : Rd w 2 A n c (L1.flatMap Ow.cells)) (hl2 : Rd w 2 B m e (L2.flatMap Ow.cells))
    (hLo : -9223372036854775808 ≤ left) (hHi : left ≤ 9223372036854775807) :
    Calls Try.prog 7 #[.int .i64 s, .slice A n c, .slice B m e, .int .i64 left] w fun e w' => e = .returned (.bool true) ∧ Below w.heap.size w w' := by
  have H1 := Keep.mk hl1
  have H2 := Keep.mk hl2
  have HN1 := Keep.mk (hl1.rows ow_two (by decide))
  have HN2 := Keep.mk (hl2.rows ow_two (by decide))
  have HLH : Keep (-9223372036854775808 ≤ max left (-1) ∧ max left (-1) ≤ 9223372036854775807) := ⟨by omega⟩
  clear hl1 hl2 hLo hHi
  by_cases h1 : 30 < s
  · have e1 : decide ((30 : Int) < s) = true := decide_eq_true h1
    go_enter Try.func7, Try.ntmps7
    go_wp2_with (go_at_call 12; refine (awake_any w).mono ?_; rintro e w1 ⟨rfl, hb⟩)
    go_ret
    exact ⟨rfl, hb⟩
  · have e1 : decide ((30 : Int) < s) = false := decide_eq_false h1
    by_cases h2 : 30 < n
    · have e2 : decide ((30 : Int) < (n : Int)) = true := decide_eq_true (by omega)
      go_enter Try.func7, Try.ntmps7
      go_wp2_with (go_at_call 12; refine (awake_any w).mono ?_; rintro e w1 ⟨rfl, hb⟩)
      go_ret
      exact ⟨rfl, hb⟩
    · have e2 : decide ((30 : Int) < (n : Int)) = false := decide_eq_false (by omega)
      by_cases h3 : 30 < m
      · have e3 : decide ((30 : Int) < (m : Int)) = true := decide_eq_true (by omega)
        go_enter Try.func7, Try.ntmps7
        go_wp2_with (go_at_call 12; refine (awake_any w).mono ?_; rintro e w1 ⟨rfl, hb⟩)
        go_ret
        exact ⟨rfl, hb⟩
      · have e3 : decide ((30 : Int) < (m : Int)) = false := decide_eq_false (by omega)
        by_cases h4 : s < 1
        · have hnw := retXE (new_any s w)
          rw [new_no h4] at hnw
          have HNW := Keep.mk hnw
          clear hnw
          go_enter Try.func7, Try.ntmps7
          go_wp2_with fail
          refine HNW.out.mono ?_
          rintro e w1 ⟨D0, rfl, hok, hm, hb, hav⟩
          have HB1 := Lib.hid hb
          clear hok hm hb hav
          go_wp2_with fail
          refine (awake_any _).mono ?_
          rintro e w2 ⟨rfl, hb⟩
          have HB2 := Lib.hid (below_next (HB1.out.alloc HB1.out.size (.cells #[.slice D0.a D0.n D0.c, .slice D0.pa D0.pn D0.pc, .int .i64 D0.left, .bool D0.down] 25)) hb (Nat.le_refl _))
          clear hb
          go_wp2
          go_ret
          exact ⟨rfl, HB2.out⟩
        · have hmath := loses_math (s := s) (by omega) (by omega) (L1.map Ow.m)
          have hq : (Dv.new s).2 = 0 := by rw [new_ok (by omega) (by omega)]
          have hnl : (Dv.new s).1.left = -1 := by rw [new_ok (by omega) (by omega)]
          have HFN := Keep.mk (Dv.new_fits s)
          have hnw := retXE (new_any s w)
          have HW1F := Keep.mk (Dv.written_fits (L1.map Ow.m) 0 (Dv.new s).1 0 HFN.out)
          have hlen1 : (L1.map Ow.m).length ≤ 30 := by have := HN1.out; simp; omega
          generalize hr1 : Dv.written (Dv.new s).1 0 (L1.map Ow.m) = r1 at *
          have HR1 := Keep.mk hr1
          generalize Dv.new s = r0 at *
          obtain ⟨m0, q0⟩ := r0
          simp only at hq hnl HR1 HFN
          subst hq
          have HNW := Keep.mk hnw
          have HNL := Keep.mk hnl
          obtain ⟨m1, k1, q1⟩ := r1
          obtain ⟨hm1, hm2⟩ := hmath
          simp only at hm1 hm2 HW1F
          subst hm1
          have HF1 : Keep (Dv.Fits 30 m1) := ⟨HW1F.out.mono (by omega)⟩
          have HFF := Keep.mk (Dv.flush_fits HF1.out)
          have HFL := Keep.mk (flush_up hm2)
          have hfl2 : (Dv.flush m1).1 = ⟨Dv.settle m1.sectors m1.pending, [], m1.left, false⟩ := by rw [flush_up hm2]
          rw [hfl2] at HFF
          obtain ⟨m2, hm2e⟩ : ∃ m2, m2 = (⟨Dv.settle m1.sectors m1.pending, [], m1.left, false⟩ : Dv.Disk) := ⟨_, rfl⟩
          have HM2 : Keep (m2.down = false ∧ m2.pending = []) := ⟨by rw [hm2e]; exact ⟨rfl, rfl⟩⟩
          rw [← hm2e] at HFF HFL
          clear hnw hnl hr1 hm2 hfl2 hm2e hlen1
          go_enter Try.func7, Try.ntmps7
          go_wp2_with fail
          refine HNW.out.mono ?_
          rintro e w1 ⟨D0, rfl, hok, hm, hb, hav⟩
          have HB1 := Lib.hid hb
          have HD0 := Keep.mk (BxD.new hok hm)
          have HAV0 := Keep.mk (hok.av (Nat.le_refl _))
          have HB2 := Lib.hid (HB1.out.alloc HB1.out.size (.cells #[.slice D0.a D0.n D0.c, .slice D0.pa D0.pn D0.pc, .int .i64 D0.left, .bool D0.down] 25))
          clear hok hm hb hav HNW
          go_upto_region 6 with (fail)
          generalize e4 : w1.alloc (.cells #[.slice D0.a D0.n D0.c, .slice D0.pa D0.pn D0.pc, .int .i64 D0.left, .bool D0.down] 25) = w2 at *
          clear e4
          have CW := written_any D0 A n c L1 0 w2 HD0.out.ok (H1.out.below HB2.out) (by rw [HD0.out.m_]; exact HFN.out) (by omega) (by have h := HNL.out; rw [← HD0.out.m_] at h; have h' : D0.m.left = D0.left := rfl; omega) (by have h := HNL.out; rw [← HD0.out.m_] at h; have h' : D0.m.left = D0.left := rfl; omega)
          rw [HD0.out.m_, HR1.out] at CW
          have CWK := Keep.mk CW
          clear CW
          obtain ⟨c0, c1, c2, c3⟩ := HD0.out.cs
          go_wp2_with fail
          refine CWK.out.mono ?_
          rintro e w3 ⟨D1, rfl, hok, hm, hb, hav⟩
          simp only at hm
          have HAV1 := Keep.mk (hav w1.heap.size HD0.out.bx.lt HAV0.out)
          have HDa := Keep.mk (HD0.out.below hb)
          have HB3 := Lib.hid (below_next HB2.out hb (Nat.le_refl _))
          have OF1 := Keep.mk (off_set4 w3 w1.heap.size (.slice D1.a D1.n D1.c) (.slice D1.pa D1.pn D1.pc) (.int .i64 D1.left) (.bool D1.down))
          have HD1 := Keep.mk (BxD.set HDa.out.bx hok hm HAV1.out)
          have HB4 := Lib.hid (HB3.out.trans (OF1.out.below HB3.out.size (fun t ht => by simp only [List.mem_singleton] at ht; have := HB1.out.size; omega)))
          have o0 := HDa.out.bx.cell 0 _ rfl
          have o1 := HDa.out.bx.cell 1 _ rfl
          have o2 := HDa.out.bx.cell 2 _ rfl
          have o3 := HDa.out.bx.cell 3 _ rfl
          have of := HDa.out.bx.fz
          clear hok hm hb hav c0 c1 c2 c3 HAV0 CWK
          go_upto_region 7 with (fail)
          generalize e5 : ((((w3.setCell ⟨w1.heap.size, 0, none⟩ (.slice D1.a D1.n D1.c)).setCell ⟨w1.heap.size, 1, none⟩ (.slice D1.pa D1.pn D1.pc)).setCell ⟨w1.heap.size, 2, none⟩ (.int .i64 D1.left)).setCell ⟨w1.heap.size, 3, none⟩ (.bool D1.down)) = w4 at *
          clear e5 o0 o1 o2 o3 of HD0 HB2 HDa HB3 OF1 HAV1
          have CF := retXE (flush_any D1 30 w4 HD1.out.ok (by rw [HD1.out.m_]; exact HF1.out) (by omega))
          rw [HD1.out.m_, HFL.out] at CF
          have CFK := Keep.mk CF
          clear CF
          obtain ⟨c0, c1, c2, c3⟩ := HD1.out.cs
          go_wp2_with fail
          refine CFK.out.mono ?_
          rintro e w5 ⟨D2, rfl, hok, hm, hb, hav⟩
          simp only at hm
          have HAV2 := Keep.mk (hav w1.heap.size HD1.out.bx.lt trivial)
          have HDa := Keep.mk (HD1.out.below hb)
          have HB5 := Lib.hid (below_next HB4.out hb (Nat.le_refl _))
          have OF2 := Keep.mk (off_set4 w5 w1.heap.size (.slice D2.a D2.n D2.c) (.slice D2.pa D2.pn D2.pc) (.int .i64 D2.left) (.bool D2.down))
          have HD2 := Keep.mk (BxD.set HDa.out.bx hok hm HAV2.out)
          have HB6 := Lib.hid (HB5.out.trans (OF2.out.below HB5.out.size (fun t ht => by simp only [List.mem_singleton] at ht; have := HB1.out.size; omega)))
          have o0 := HDa.out.bx.cell 0 _ rfl
          have o1 := HDa.out.bx.cell 1 _ rfl
          have o2 := HDa.out.bx.cell 2 _ rfl
          have o3 := HDa.out.bx.cell 3 _ rfl
          have of := HDa.out.bx.fz
          clear hok hm hb hav c0 c1 c2 c3 CFK
          go_upto_region 8 with (fail)
          generalize e6 : ((((w5.setCell ⟨w1.heap.size, 0, none⟩ (.slice D2.a D2.n D2.c)).setCell ⟨w1.heap.size, 1, none⟩ (.slice D2.pa D2.pn D2.pc)).setCell ⟨w1.heap.size, 2, none⟩ (.int .i64 D2.left)).setCell ⟨w1.heap.size, 3, none⟩ (.bool D2.down)) = w6 at *
          clear e6 o0 o1 o2 o3 of HD1 HB4 HDa HB5 OF2 HAV2
          have CA := retX (arm_any D2 left 0 w6 HD2.out.ok (by rw [HD2.out.m_]; exact HFF.out) (by omega))
          rw [HD2.out.m_] at CA
          have CAK := Keep.mk CA
          clear CA
          obtain ⟨c0, c1, c2, c3⟩ := HD2.out.cs
          go_wp2_with fail
          refine CAK.out.mono ?_
          rintro e w7 ⟨D3, rfl, hok, hm, hb, hav⟩
          have HD2b := Keep.mk (HD2.out.below hb)
          have HB7 := Lib.hid (below_next HB6.out hb (Nat.le_refl _))
          have hl3 : D3.left = max left (-1) := congrArg Dv.Disk.left hm
          have CW := written_any D3 B m e L2 0 w7 hok (H2.out.below HB7.out) (by rw [hm]; exact Dv.arm_fits HFF.out left) (by omega) (by rw [hl3]; exact HLH.out.1) (by rw [hl3]; exact HLH.out.2)
          rw [hm] at CW
          have CWK := Keep.mk CW
          have HW2F := Keep.mk (Dv.written_fits (L2.map Ow.m) 0 (Dv.arm m2 left) 0 (Dv.arm_fits HFF.out left))
          have HW2S := Keep.mk (Dv.written_sectors (L2.map Ow.m) (Dv.arm m2 left) 0)
          clear CW hl3 hok hm hb hav c0 c1 c2 c3 CAK HD2 HB6
          generalize Dv.written (Dv.arm m2 left) 0 (L2.map Ow.m) = r2 at *
          obtain ⟨m4, k4, q4⟩ := r2
          simp only at HW2F HW2S
          go_wp2_with fail
          refine CWK.out.mono ?_
          rintro e w8 ⟨D4, rfl, hok, hm, hb, hav⟩
          simp only at hm
          have HD4 := Keep.mk (BxD.new hok hm)
          have hal := below_alloc1 w8 (.cells #[.slice D4.a D4.n D4.c, .slice D4.pa D4.pn D4.pc, .int .i64 D4.left, .bool D4.down] 25)
          have HD2c := Keep.mk ((HD2b.out.below hb).below hal)
          have HB8 := Lib.hid (below_next (below_next HB7.out hb (Nat.le_refl _)) hal (Nat.le_refl _))
          clear hok hm hb hav hal HD2b HB7 CWK
          go_upto_region 9 with (fail)
          generalize e7 : w8.alloc (.cells #[.slice D4.a D4.n D4.c, .slice D4.pa D4.pn D4.pc, .int .i64 D4.left, .bool D4.down] 25) = w9 at *
          clear e7
          have hlen2 : (L2.map Ow.m).length ≤ 30 := by have := HN2.out; simp; omega
          have HF4 : Keep (Dv.Fits 30 m4) := ⟨HW2F.out.mono (by omega)⟩
          have HS4 : Keep (m4.sectors = m2.sectors) := ⟨HW2S.out⟩
          have C1 := Keep.mk (fun (X : World) (hX : Below w9.heap.size w9 X) => retX (crash_any D4 none 0 0 [] 30 X (HD4.out.ok.below hX) (RI.none_ _) (fun z hz => by cases hz) (by rw [HD4.out.m_]; exact HF4.out) (by omega)))
          rw [HD4.out.m_, Dv.crash_nil, HS4.out] at C1
          have C2 := Keep.mk (fun (X : World) (hX : Below w9.heap.size w9 X) (D5 : Dk) (h5 : D5.Ok X) (hm5 : D5.m = ⟨m2.sectors, [], -1, false⟩) => lsame_true D2 D5 (-1) 0 0 X (HD2c.out.ok.below hX) h5 (by rw [HD2c.out.m_]; exact HFF.out) (by rw [hm5]; exact ⟨HFF.out.ns, by simp, HFF.out.ss, by simp⟩) (by
            have h1 := HD2c.out.ok.sec.len
            have h3 := h5.sec.len
            have h4 := congrArg (fun m => m.sectors.length) hm5
            have h5' := congrArg (fun m => m.sectors.length) HD2c.out.m_
            simp only [Dk.m, List.length_map] at h4 h5'
            omega) (fun i hi _ => by
            rw [hm5, HD2c.out.m_]
            exact read_same (m := m2) (m' := ⟨m2.sectors, [], -1, false⟩) HM2.out.1 rfl HM2.out.2 _))
          have KP := Keep.mk (fun (X : World) (hX : Below w9.heap.size w9 X) => And.intro (HD2c.out.below hX).cs (HD4.out.below hX).cs)
          have HC : Hid (Below w9.heap.size w9 w9.drew) := below_draws _ _ 1
          clear hlen2
          go_region_held3 (fun X => (X.cell? ⟨w1.heap.size, 0, none⟩ = some (.slice D2.a D2.n D2.c) ∧ X.cell? ⟨w1.heap.size, 1, none⟩ = some (.slice D2.pa D2.pn D2.pc) ∧ X.cell? ⟨w1.heap.size, 2, none⟩ = some (.int .i64 D2.left) ∧ X.cell? ⟨w1.heap.size, 3, none⟩ = some (.bool D2.down)) ∧ X.cell? ⟨w8.heap.size, 0, none⟩ = some (.slice D4.a D4.n D4.c) ∧ X.cell? ⟨w8.heap.size, 1, none⟩ = some (.slice D4.pa D4.pn D4.pc) ∧ X.cell? ⟨w8.heap.size, 2, none⟩ = some (.int .i64 D4.left) ∧ X.cell? ⟨w8.heap.size, 3, none⟩ = some (.bool D4.down))
            (first | exact KP.out _ HC.out | exact KP.out _ (below_draws _ _ 1))
            (first
              | (go_at_call 25; ((refine (C1.out _ HC.out).mono ?_); rintro e wn ⟨D5, rfl, hok, hm, hb, hav⟩; have HOK := Keep.mk hok; have HM5 := Keep.mk hm; have HC := Lib.hid (below_next HC.out hb (Nat.le_refl _)); clear hok hm hb hav))
              | (go_at_call 28; ((refine (C2.out _ HC.out D5 HOK.out HM5.out).mono ?_); rintro e wn ⟨rfl, hb⟩; have HC := Lib.hid (below_next HC.out hb (Nat.le_refl _)); clear hb))
              | (go_at_call 12; ((refine (awake_any _).mono ?_); rintro e wn ⟨rfl, hb⟩; have HC := Lib.hid (below_next HC.out hb (Nat.le_refl _)); clear hb)))
          go_wp2
          go_ret
          exact ⟨rfl, HB8.out.trans (HC.out.mono HB8.out.size)⟩
end Go.Proofs.Ytpekbcoclmhcnaa
