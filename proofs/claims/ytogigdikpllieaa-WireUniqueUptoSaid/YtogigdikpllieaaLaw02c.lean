/- WireKeeps. -/
import Derived.Test.YtogigdikpllieaaLaw02b
namespace Go.Proofs.Ytogigdikpllieaa
open Go.RowKit Go.Joins

theorem keep_case (y : UInt8) (n : Nat) : ∃ (q : Nat) (K : Int), K = (q : Int) ∧ q ≤ n ∧ ((K = 0 ∧ n = 0) ∨ (K = (q : Int) ∧ 0 < n ∧ (y.toNat : Int) % (n : Int) = (q : Int) ∧ q < n)) := by
  rcases Nat.eq_zero_or_pos n with h | h
  · exact ⟨0, 0, rfl, by omega, .inl ⟨rfl, h⟩⟩
  · exact ⟨y.toNat % n, _, rfl, Nat.le_of_lt (Nat.mod_lt _ h), .inr ⟨rfl, h, by simp, Nat.mod_lt _ h⟩⟩

set_option maxHeartbeats 4000000 in
theorem law_keeps (B : Option Addr) (n c : Nat) (l : List UInt8) (x : Int) (s : ByteArray) (A : Option Addr) (m d : Nat) (z : List Int) (y : UInt8) (w : World) (hl : RB w B n c l) (hx : V.In x) (hr : RI w A m d z) (hz : V.Ins z) :
    Calls Try.prog 10 #[.slice B n c, .int .i64 x, .string s, .slice A m d, .int .u8 (y.toNat : Int)] w fun e w' => e = .returned (.bool true) ∧ Below w.heap.size w w' := by
  have HX : Keep (V.In x) := ⟨hx⟩
  have HZ : Keep (V.Ins z) := ⟨hz⟩
  have HR := Lib.hid hr
  have HL := Lib.hid hl
  have hzm := hr.len
  have hln := hl.len
  have hnc := hl.cap
  clear hx hz hr hl
  by_cases hbig : n ≤ 1000 ∧ s.size ≤ 1000 ∧ m ≤ 200
  · obtain ⟨h1, h2, h3⟩ := hbig
    have d1 : decide ((1000 : Int) < (n : Int)) = false := by simp; omega
    have d2 : decide ((1000 : Int) < (s.size : Int)) = false := by simp; omega
    have d3 : decide ((200 : Int) < (m : Int)) = false := by simp; omega
    have hy : wrap64 (y.toNat : Int) = (y.toNat : Int) := IntWalk.wrap64_in _ (by have := y.toNat_lt; omega)
    have HIS : Keep (V.In (s.data.toList.length : Int)) := ⟨by unfold V.In; rw [show s.data.toList.length = s.size from rfl]; omega⟩
    have HIL : Keep (V.In (z.length : Int)) := ⟨by unfold V.In; omega⟩
    obtain ⟨q, K, hKq, hqn, hc⟩ := keep_case y n
    rcases hc with ⟨rfl, h0⟩ | ⟨rfl, hn0, hm, hqlt⟩
    all_goals
      have HK := Keep.mk hKq
      clear hKq
      first
      | (have g0 : ¬ 0 < n := by omega)
        have H0 := Keep.mk h0
        clear h0
      | have g0 : 0 < n := hn0
      go_enter Try.func10, Try.ntmps10
      go_wp2_with (at_builtin; refine append_b _ rfl (.tmp 30) (.tmp 31) rfl w.heap.size _ 0 0 [] rfl (tb_empty _ _) B n c l rfl (HL.out.below (below_alloc1 _ _)) (by omega) (by simp) ?_; intro A2 n2 c2 w2 ht hb; have hn2 : l.length = n2 := ht.len; have hc2 := ht.rb.cap; have HO := Lib.hid ht.rb; have HB2 : Hid (Below w.heap.size w w2) := (below_alloc1 _ _).trans hb; obtain rfl : n = n2 := (by omega); clear ht hb hn2)
      have s0 := run_to_b A2 n c2 q _ (by first | exact HK.out | exact rfl) (by omega)
      have u0 := run_to_b B n c q _ (by first | exact HK.out | exact rfl) (by omega)
      have HR2 : Hid (RI w2 A m d z) := HR.out.below HB2.out
      have HL2 : Hid (RB w2 B n c l) := HL.out.below HB2.out
      have HOq : Hid (RB w2 A2 q c2 (l.take q)) := HO.out.to hqn
      have HLq : Hid (RB w2 B q c (l.take q)) := HL2.out.to hqn
      have HQL : Keep ((l.take q).length = q) := ⟨by rw [List.length_take]; omega⟩
      go_region_held3 (fun W => True)
        (first | trivial)
        (first
          | (go_at_call 14; refine (putInt_any A2 q c2 _ x _ (HOq.out.below (below_draws _ _ 1)) HX.out (by omega)).mono ?_; rintro e w3 ⟨A3, n3, c3, rfl, hr, hb⟩; have HB3 : Hid (Below w2.heap.size w2 w3) := (below_draws _ _ 1).trans hb; have HR3 := Lib.hid hr.rb; clear hr hb)
          | (go_at_call 19; refine (putText_any A2 q c2 _ s _ (HOq.out.below HB3.out) (by omega)).mono ?_; rintro e w4 ⟨A4, n4, c4, rfl, hr, hb⟩; have HB4 : Hid (Below w2.heap.size w2 w4) := HB3.out.trans (hb.mono HB3.out.size); have HR4 := Lib.hid hr.rb; have HR34 := Lib.hid (HR3.out.below hb); clear hr hb)
          | (go_at_call 23; refine (putList_any A2 q c2 _ A m d z _ (HOq.out.below HB4.out) (HR2.out.below HB4.out) HZ.out (by omega)).mono ?_; rintro e w5 ⟨A5, n5, c5, rfl, hr, hb⟩; have HB5 : Hid (Below w2.heap.size w2 w5) := HB4.out.trans (hb.mono HB4.out.size); have HR5 := Lib.hid hr.rb; have HR35 := Lib.hid (HR34.out.below hb); have HR45 := Lib.hid (HR4.out.below hb); clear hr hb))
      have L3 : Keep ((l.take q ++ V.enc x).take q = l.take q ∧ q < n3) := ⟨by
        have h1 := HR35.out.len
        have h2 := HQL.out
        rw [List.length_append, h2] at h1
        refine ⟨by rw [List.take_append_of_le_length (by omega)]; exact List.take_of_length_le (by omega), ?_⟩
        have := (V.enc_length HX.out).1
        omega⟩
      have L4 : Keep ((l.take q ++ V.encText s.data.toList).take q = l.take q ∧ q < n4) := ⟨by
        have h1 := HR45.out.len
        have h2 := HQL.out
        rw [List.length_append, h2] at h1
        refine ⟨by rw [List.take_append_of_le_length (by omega)]; exact List.take_of_length_le (by omega), ?_⟩
        have := (V.enc_length HIS.out).1
        unfold V.encText at h1
        rw [List.length_append] at h1
        omega⟩
      have L5 : Keep ((l.take q ++ V.encList z).take q = l.take q ∧ q < n5) := ⟨by
        have h1 := HR5.out.len
        have h2 := HQL.out
        rw [List.length_append, h2] at h1
        refine ⟨by rw [List.take_append_of_le_length (by omega)]; exact List.take_of_length_le (by omega), ?_⟩
        have := (V.enc_length HIL.out).1
        unfold V.encList at h1
        rw [List.length_append] at h1
        omega⟩
      have l3 := L3.out.2
      have l4 := L4.out.2
      have l5 := L5.out.2
      have k3 := HR35.out.cap
      have k4 := HR45.out.cap
      have k5 := HR5.out.cap
      have Q3 : Hid (RB w5 A3 q c3 (l.take q)) := by have := HR35.out.to (j := q) (by omega); rwa [L3.out.1] at this
      have Q4 : Hid (RB w5 A4 q c4 (l.take q)) := by have := HR45.out.to (j := q) (by omega); rwa [L4.out.1] at this
      have Q5 : Hid (RB w5 A5 q c5 (l.take q)) := by have := HR5.out.to (j := q) (by omega); rwa [L5.out.1] at this
      have QB : Hid (RB w5 B q c (l.take q)) := HLq.out.below HB5.out
      have s3 := run_to_b A3 n3 c3 q _ (by first | exact HK.out | exact rfl) (by omega)
      have s4 := run_to_b A4 n4 c4 q _ (by first | exact HK.out | exact rfl) (by omega)
      have s5 := run_to_b A5 n5 c5 q _ (by first | exact HK.out | exact rfl) (by omega)
      have e3 : ¬ n3 ≤ q := by omega
      have e4 : ¬ n4 ≤ q := by omega
      have e5 : ¬ n5 ≤ q := by omega
      have e3' : ¬ n3 = 0 := by omega
      have e4' : ¬ n4 = 0 := by omega
      have e5' : ¬ n5 = 0 := by omega
      go_wp2
      go_region_held3 (fun W => True)
        (first | trivial)
        (first
          | (go_at_call 13; refine (same2_true _ _ _ _ _ _ (l.take q) _ ?_ ?_).mono ?_; (first | exact Q3.out.below (below_draws _ _ 1) | exact Q4.out.below HB8.out | exact Q5.out.below HB8.out); (first | exact QB.out.below HB8.out | exact QB.out.below (below_draws _ _ 1)); rintro e w8 ⟨rfl, hk⟩; have HB8 : Hid (Below w5.heap.size w5 w8) := (by obtain ⟨k, rfl⟩ := hk; first | exact HB8.out.trans (below_draws _ _ _) | exact (below_draws _ _ 1).trans (below_draws _ _ _)); clear hk))
      have HB28 : Hid (Below w2.heap.size w2 w8) := HB5.out.trans (HB8.out.mono HB5.out.size)
      clear HB8 HB5 HB3 HB4 Q3 Q4 Q5 QB s3 s4 s5 e3 e4 e5 e3' e4' e5'
      go_wp2_with fail
      refine (same2_true A2 n c2 B n c l _ (HO.out.below HB28.out) (HL2.out.below HB28.out)).mono ?_
      rintro e w9 ⟨rfl, hk⟩
      have HB9 : Hid (Below w.heap.size w w9) := by
        obtain ⟨k, rfl⟩ := hk
        exact (HB2.out.trans (HB28.out.mono HB2.out.size)).trans (below_draws _ _ _)
      clear hk
      go_wp2_with fail
      refine (awake_any _).mono ?_
      rintro e w10 ⟨rfl, hb⟩
      have HB10 : Hid (Below w.heap.size w w10) := HB9.out.trans (hb.mono HB9.out.size)
      clear hb
      go_wp2
      go_ret
      exact ⟨rfl, HB10.out⟩
  · by_cases h1 : n ≤ 1000
    · by_cases h2 : s.size ≤ 1000
      · have h3 : ¬ m ≤ 200 := by omega
        have d1 : decide ((1000 : Int) < (n : Int)) = false := by simp; omega
        have d2 : decide ((1000 : Int) < (s.size : Int)) = false := by simp; omega
        have d3 : decide ((200 : Int) < (m : Int)) = true := by simp; omega
        go_enter Try.func10, Try.ntmps10
        go_wp2_with fail
        refine (awake_any _).mono ?_
        rintro e w2 ⟨rfl, hb⟩
        have HB := Lib.hid hb
        clear hb
        go_wp2
        go_ret
        exact ⟨rfl, HB.out⟩
      · have d1 : decide ((1000 : Int) < (n : Int)) = false := by simp; omega
        have d2 : decide ((1000 : Int) < (s.size : Int)) = true := by simp; omega
        go_enter Try.func10, Try.ntmps10
        go_wp2_with fail
        refine (awake_any _).mono ?_
        rintro e w2 ⟨rfl, hb⟩
        have HB := Lib.hid hb
        clear hb
        go_wp2
        go_ret
        exact ⟨rfl, HB.out⟩
    · have d1 : decide ((1000 : Int) < (n : Int)) = true := by simp; omega
      go_enter Try.func10, Try.ntmps10
      go_wp2_with fail
      refine (awake_any _).mono ?_
      rintro e w2 ⟨rfl, hb⟩
      have HB := Lib.hid hb
      clear hb
      go_wp2
      go_ret
      exact ⟨rfl, HB.out⟩
end Go.Proofs.Ytogigdikpllieaa
