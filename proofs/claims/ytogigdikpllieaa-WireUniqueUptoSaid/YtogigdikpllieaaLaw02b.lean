/- WireCut. -/
import Derived.Test.YtogigdikpllieaaLaw02
namespace Go.Proofs.Ytogigdikpllieaa
open Go.RowKit Go.Joins

/-- 's[:j]' of bytes. -/
theorem run_to_b (A : Option Addr) (n c j : Nat) (J : Int) (hJ : J = (j : Int)) (hjc : j ≤ c) (w : World) :
    (Instr.slice 22 (.slice A n c) none (some (.int .i64 J)) none).run Try.prog w = .ok (.slice A j c) w := by
  subst hJ
  rw [run_slice_h w 22 A n c (by rw [elem_bytes]; exact Try.underlying22) .i64 _ (by omega) (by omega), elem_bytes, size_u8]
  rcases A with _ | a
  · simp [sliced]
  · simp [sliced]
    intro _
    show a.add 0 = a
    simp [Addr.add]
theorem RB.to {w : World} {A : Option Addr} {n c : Nat} {l : List UInt8} (h : RB w A n c l) {j : Nat} (hj : j ≤ n) : RB w A j c (l.take j) := by
  have := h.cut (i := 0) (j := j) (m := c) (by omega) hj (Nat.le_trans hj h.cap) (Nat.le_refl _)
  simpa [cutA_zero] using this

set_option maxHeartbeats 4000000 in
theorem law_cut (x : Int) (s : ByteArray) (A : Option Addr) (n c : Nat) (l : List Int) (y : UInt8) (w : World) (hx : V.In x) (hr : RI w A n c l) (hl : V.Ins l) :
    Calls Try.prog 8 #[.int .i64 x, .string s, .slice A n c, .int .u8 (y.toNat : Int)] w fun e w' => e = .returned (.bool true) ∧ Below w.heap.size w w' := by
  have HX : Keep (V.In x) := ⟨hx⟩
  have HL : Keep (V.Ins l) := ⟨hl⟩
  have HR := Lib.hid hr
  have hln := hr.len
  clear hx hl hr
  by_cases hs : s.size ≤ 1000
  · have d1 : decide ((1000 : Int) < (s.size : Int)) = false := by simp; omega
    by_cases hn : n ≤ 200
    · have d2 : decide ((200 : Int) < (n : Int)) = false := by simp; omega
      go_enter Try.func8, Try.ntmps8
      go_wp2_with fail
      refine (putInt_any none 0 0 [] x w (RB.none_ _) HX.out (by omega)).mono ?_
      rintro e w1 ⟨A1, n1, c1, rfl, hr, hb⟩
      have hl1 : (V.enc x).length = n1 := hr.rb.len
      have hp1 : 1 ≤ n1 := by have := V.enc_length HX.out; omega
      have hp1' : n1 ≤ 10 := by have := V.enc_length HX.out; omega
      have HR1 : Hid (RB w1 A1 n1 c1 (V.enc x)) := hr.rb
      have HB1 := Lib.hid hb
      have HL1 : Keep ((V.enc x).length = n1) := ⟨hl1⟩
      clear hr hb hl1
      go_wp2_with fail
      refine (putText_any none 0 0 [] s w1 (RB.none_ _) (by omega)).mono ?_
      rintro e w2 ⟨A2, n2, c2, rfl, hr, hb⟩
      have hl2 : (V.encText s.data.toList).length = n2 := hr.rb.len
      have HIS : Keep (V.In (s.data.toList.length : Int)) := ⟨by unfold V.In; rw [show s.data.toList.length = s.size from rfl]; omega⟩
      have hp2 : 1 ≤ n2 := by
        have := (V.enc_length HIS.out).1
        unfold V.encText at hl2
        rw [List.length_append] at hl2
        omega
      have hp2' : n2 ≤ 2000 := by
        have := (V.enc_length HIS.out).2
        unfold V.encText at hl2
        rw [List.length_append, show s.data.toList.length = s.size from rfl] at hl2
        rw [show s.data.toList.length = s.size from rfl] at this
        omega
      have HR2 : Hid (RB w2 A2 n2 c2 (V.encText s.data.toList)) := hr.rb
      have HR1' : Hid (RB w2 A1 n1 c1 (V.enc x)) := HR1.out.below hb
      have HB2 : Hid (Below w.heap.size w w2) := HB1.out.trans (hb.mono HB1.out.size)
      have HL2 : Keep ((V.encText s.data.toList).length = n2) := ⟨hl2⟩
      clear hr hb hl2 HR1 HB1
      go_wp2_with fail
      refine (putList_any none 0 0 [] A n c l w2 (RB.none_ _) (HR.out.below HB2.out) HL.out (by omega)).mono ?_
      rintro e w3 ⟨A3, n3, c3, rfl, hr, hb⟩
      have hl3 : (V.encList l).length = n3 := hr.rb.len
      have HIL : Keep (V.In (l.length : Int)) := ⟨by unfold V.In; omega⟩
      have hp3 : 1 ≤ n3 := by
        have := (V.enc_length HIL.out).1
        unfold V.encList at hl3
        rw [List.length_append] at hl3
        omega
      have hp3' : n3 ≤ 4000 := by
        have := (V.enc_length HIL.out).2
        have h2 := V.flat_length HL.out
        unfold V.encList at hl3
        rw [List.length_append] at hl3
        omega
      have HR3 : Hid (RB w3 A3 n3 c3 (V.encList l)) := hr.rb
      have HR2' : Hid (RB w3 A2 n2 c2 (V.encText s.data.toList)) := HR2.out.below hb
      have HR1 : Hid (RB w3 A1 n1 c1 (V.enc x)) := HR1'.out.below hb
      have HB3 : Hid (Below w.heap.size w w3) := HB2.out.trans (hb.mono HB2.out.size)
      have HL3 : Keep ((V.encList l).length = n3) := ⟨hl3⟩
      clear hr hb hl3 HR1' HB2 HR2
      have hy : wrap64 (y.toNat : Int) = (y.toNat : Int) := IntWalk.wrap64_in _ (by have := y.toNat_lt; omega)
      have z1 : ((n1 : Int) == 0) = false := by simp; omega
      have z2 : ((n2 : Int) == 0) = false := by simp; omega
      have z3 : ((n3 : Int) == 0) = false := by simp; omega
      have q1 := Nat.mod_lt y.toNat (show 0 < n1 by omega)
      have q2 := Nat.mod_lt y.toNat (show 0 < n2 by omega)
      have q3 := Nat.mod_lt y.toNat (show 0 < n3 by omega)
      have m1 : Int.tmod (y.toNat : Int) (n1 : Int) = ((y.toNat % n1 : Nat) : Int) := by rw [Int.tmod_eq_emod_of_nonneg (by omega)]; simp
      have m2 : Int.tmod (y.toNat : Int) (n2 : Int) = ((y.toNat % n2 : Nat) : Int) := by rw [Int.tmod_eq_emod_of_nonneg (by omega)]; simp
      have m3 : Int.tmod (y.toNat : Int) (n3 : Int) = ((y.toNat % n3 : Nat) : Int) := by rw [Int.tmod_eq_emod_of_nonneg (by omega)]; simp
      have k1 := HR1.out.cap
      have k2 := HR2'.out.cap
      have k3 := HR3.out.cap
      have s1 := run_to_b A1 n1 c1 (y.toNat % n1) ((y.toNat : Int) % n1) (by simp) (by omega) w3
      have s2 := run_to_b A2 n2 c2 (y.toNat % n2) ((y.toNat : Int) % n2) (by simp) (by omega) w3
      have s3 := run_to_b A3 n3 c3 (y.toNat % n3) ((y.toNat : Int) % n3) (by simp) (by omega) w3
      have g1 := int_any A1 (y.toNat % n1) c1 ((V.enc x).take (y.toNat % n1)) w3 (HR1.out.to (by omega))
      have g2 := text_any A2 (y.toNat % n2) c2 ((V.encText s.data.toList).take (y.toNat % n2)) (s.size : Int) w3 (HR2'.out.to (by omega))
      have g3 := list_any A3 (y.toNat % n3) c3 ((V.encList l).take (y.toNat % n3)) (n : Int) w3 (HR3.out.to (by omega)) (by omega)
      rw [V.dec_cut HX.out (by rw [HL1.out]; exact q1)] at g1
      rw [V.decText_cut HIS.out (by rw [show s.data.toList.length = s.size from rfl]; omega) (by rw [HL2.out]; exact q2)] at g2
      rw [V.decList_cut HL.out HIL.out (by omega) (by rw [HL3.out]; exact q3)] at g3
      have G1 := Lib.hid g1
      have G2 := Lib.hid g2
      have G3 := Lib.hid g3
      clear g1 g2 g3 q1 q2 q3 m1 m2 m3
      go_wp2_with fail
      refine G1.out.mono ?_
      rintro e w' ⟨rfl, rfl⟩
      go_wp2_with fail
      refine G2.out.mono ?_
      rintro e w' ⟨rfl, rfl⟩
      go_wp2_with fail
      refine G3.out.mono ?_
      rintro e w4 ⟨A4, n4, c4, rfl, hr, hb⟩
      have HB4 : Hid (Below w.heap.size w w4) := HB3.out.trans (hb.mono HB3.out.size)
      clear hr hb s1 s2 s3
      go_wp2_with fail
      refine (awake_any _).mono ?_
      rintro e w5 ⟨rfl, hb⟩
      have HB5 : Hid (Below w.heap.size w w5) := HB4.out.trans (hb.mono HB4.out.size)
      clear hb
      go_wp2
      go_ret
      exact ⟨rfl, HB5.out⟩
    · have d2 : decide ((200 : Int) < (n : Int)) = true := by simp; omega
      go_enter Try.func8, Try.ntmps8
      go_wp2_with fail
      refine (awake_any _).mono ?_
      rintro e w2 ⟨rfl, hb⟩
      have HB := Lib.hid hb
      clear hb
      go_wp2
      go_ret
      exact ⟨rfl, HB.out⟩
  · have d1 : decide ((1000 : Int) < (s.size : Int)) = true := by simp; omega
    go_enter Try.func8, Try.ntmps8
    go_wp2_with fail
    refine (awake_any _).mono ?_
    rintro e w2 ⟨rfl, hb⟩
    have HB := Lib.hid hb
    clear hb
    go_wp2
    go_ret
    exact ⟨rfl, HB.out⟩
end Go.Proofs.Ytogigdikpllieaa
