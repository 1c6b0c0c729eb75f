/- DeviceArms. -/
import Derived.Test.YtpekbcoclmhcnaaLaw24g
namespace Go.Proofs.Ytpekbcoclmhcnaa
open Go.RowKit Go.Joins

theorem has_of {s : Nat} {i : Int} (h1 : 0 ≤ i) (h2 : i < (s : Int)) : Dv.has s i = true := by simp [Dv.has]; omega
theorem written_left (os : List (Int × UInt8)) : ∀ (d : Dv.Disk) (i : Nat), -1000 ≤ d.left → d.left ≤ 1000 → -1000 ≤ (Dv.written d i os).1.left ∧ (Dv.written d i os).1.left ≤ 1000 := by
  induction os with
  | nil => intro d i h1 h2; exact ⟨h1, h2⟩
  | cons o os ih =>
    intro d i h1 h2
    unfold Dv.written
    rcases Dv.write_cases d o.1 (List.replicate 64 o.2) with ⟨_, h⟩ | ⟨_, _, h⟩ | ⟨_, _, _, h⟩ | ⟨_, _, _, _, h⟩ | ⟨_, _, _, _, h⟩ <;> rw [h]
    · exact ⟨h1, h2⟩
    · exact ih d _ h1 h2
    · exact ih d _ h1 h2
    · exact ⟨by simp, by simp⟩
    · refine ih _ _ ?_ ?_
      · simp only; split <;> omega
      · simp only; split <;> omega
/-- What the law of the armed device leans on. -/
theorem arms_math {s : Int} (h1 : 1 ≤ s) (h2 : s ≤ 30) (L : List Ow) (left : UInt8) (hs : ∀ o ∈ L, 0 ≤ o.k ∧ o.k < s) :
    (L.length ≤ left.toNat → ∃ m, Dv.written (Dv.arm (Dv.new s).1 (left.toNat : Int)) 0 (L.map Ow.m) = (m, L.length, 0) ∧ m.down = false ∧ m.pending.length = L.length ∧ m.left = (left.toNat : Int) - (L.length : Int)) ∧
    (left.toNat < L.length → ∃ m, Dv.written (Dv.arm (Dv.new s).1 (left.toNat : Int)) 0 (L.map Ow.m) = (m, left.toNat, 23) ∧ m.down = true ∧ m.pending.length = left.toNat + 1 ∧ m.sectors.length = s.toNat) := by
  have ha : Dv.arm (Dv.new s).1 (left.toNat : Int) = ⟨List.replicate s.toNat (List.replicate 64 0), [], (left.toNat : Int), false⟩ := by
    rw [new_ok h1 h2, Dv.arm]
    simp
    omega
  have hf := Dv.written_fuse (L.map Ow.m) (Dv.arm (Dv.new s).1 (left.toNat : Int)) 0 left.toNat (by rw [ha]) (by rw [ha]) (fun o ho => by
    obtain ⟨q, hq, rfl⟩ := List.mem_map.1 ho
    rw [ha]
    simp only [List.length_replicate]
    exact has_of (hs q hq).1 (by have := (hs q hq).2; simp only [Ow.m]; omega))
  have hsec := Dv.written_sectors (L.map Ow.m) (Dv.arm (Dv.new s).1 (left.toNat : Int)) 0
  rw [List.length_map] at hf
  constructor
  · intro hle
    rw [if_pos hle] at hf
    obtain ⟨a, b, c, e⟩ := hf
    refine ⟨_, Prod.ext rfl (by rw [a, Nat.zero_add]), b, ?_, ?_⟩
    · rw [e, ha]
      simp
    · rw [c]
      omega
  · intro hlt
    rw [if_neg (by omega)] at hf
    obtain ⟨a, b, e⟩ := hf
    refine ⟨_, Prod.ext rfl (by rw [a, Nat.zero_add]), b, ?_, ?_⟩
    · rw [e, ha]
      simp
    · rw [hsec, ha]
      simp

set_option maxHeartbeats 4000000 in
set_option maxRecDepth 100000 in
theorem law_arms (s : Int) (A : Option Addr) (n c : Nat) (L : List Ow) (left : UInt8) (w : World) (hl : Rd w 2 A n c (L.flatMap Ow.cells)) :
    Calls Try.prog 9 #[.int .i64 s, .slice A n c, .int .u8 (left.toNat : Int)] w fun e w' => e = .returned (.bool true) ∧ Below w.heap.size w w' := by
  have HL := Keep.mk hl
  have HN := Keep.mk (hl.rows ow_two (by decide))
  clear hl
  by_cases h1 : 30 < s
  · have e1 : decide ((30 : Int) < s) = true := decide_eq_true h1
    go_enter Try.func9, Try.ntmps9
    go_wp2_with (go_at_call 12; refine (awake_any w).mono ?_; rintro e w1 ⟨rfl, hb⟩)
    go_ret
    exact ⟨rfl, hb⟩
  · have e1 : decide ((30 : Int) < s) = false := decide_eq_false h1
    by_cases h2 : 40 < n
    · have e2 : decide ((40 : Int) < (n : Int)) = true := decide_eq_true (by omega)
      go_enter Try.func9, Try.ntmps9
      go_wp2_with (go_at_call 12; refine (awake_any w).mono ?_; rintro e w1 ⟨rfl, hb⟩)
      go_ret
      exact ⟨rfl, hb⟩
    · have e2 : decide ((40 : Int) < (n : Int)) = false := decide_eq_false (by omega)
      by_cases h4 : s < 1
      · have hnw := retXE (new_any s w)
        rw [new_no h4] at hnw
        have HNW := Keep.mk hnw
        clear hnw
        go_enter Try.func9, Try.ntmps9
        go_wp2_with fail
        refine HNW.out.mono ?_
        rintro e w1 ⟨D0, rfl, hok, hm, hb, hav⟩
        have HB1 := Lib.hid hb
        clear hok hm hb hav
        go_wp2_with fail
        refine (awake_any _).mono ?_
        rintro e w2 ⟨rfl, hb⟩
        have HB2 := Lib.hid (below_next (HB1.out.alloc HB1.out.size (.cells #[.slice D0.a D0.n D0.c, .slice D0.pa D0.pn D0.pc, .int .i64 D0.left, .bool D0.down] 25)) hb (Nat.le_refl _))
        clear hb
        go_wp2
        go_ret
        exact ⟨rfl, HB2.out⟩
      · have HMATH := Keep.mk (arms_math (s := s) (by omega) (by omega) L left)
        have hq : (Dv.new s).2 = 0 := by rw [new_ok (by omega) (by omega)]
        have HFN := Keep.mk (Dv.new_fits s)
        have hnw := retXE (new_any s w)
        have hlr : left.toNat ≤ 255 := by have := left.toNat_lt; omega
        generalize Dv.new s = r0 at *
        obtain ⟨m0, q0⟩ := r0
        simp only at hq HMATH HFN
        subst hq
        have HNW := Keep.mk hnw
        clear hnw
        go_enter Try.func9, Try.ntmps9
        go_wp2_with fail
        refine HNW.out.mono ?_
        rintro e w1 ⟨D0, rfl, hok, hm, hb, hav⟩
        have HB1 := Lib.hid hb
        have HD0 := Keep.mk (BxD.new hok hm)
        have HB2 := Lib.hid (HB1.out.alloc HB1.out.size (.cells #[.slice D0.a D0.n D0.c, .slice D0.pa D0.pn D0.pc, .int .i64 D0.left, .bool D0.down] 25))
        clear hok hm hb hav HNW
        go_upto_region 6 with (fail)
        generalize e4 : w1.alloc (.cells #[.slice D0.a D0.n D0.c, .slice D0.pa D0.pn D0.pc, .int .i64 D0.left, .bool D0.down] 25) = w2 at *
        clear e4
        go_wp2
        go_loop [9] (fun i => ∃ k : Nat, k ≤ n ∧ i = .int .i64 k ∧ Keep (∀ j (h : j < L.length), j < k → 0 ≤ L[j].k ∧ L[j].k < s)) (fun i => n - (intOf i).toNat)
        case atStart => exact ⟨0, Nat.zero_le _, rfl, ⟨fun j h hj => by omega⟩⟩
        case round =>
          obtain ⟨k, hk, rfl, HQ⟩ := hrel
          by_cases hlt : k < n
          · have hkL : k < L.length := by have := HN.out; omega
            obtain ⟨b, o, hbo, hbl, hc0, hc1⟩ := ow_at (HL.out.below HB2.out) hkL
            have HNX := Keep.mk (fun (h : 0 ≤ L[k].k ∧ L[k].k < s) j (hj : j < L.length) (hjk : j < k + 1) => show 0 ≤ L[j].k ∧ L[j].k < s by
              by_cases hjk' : j < k
              · exact HQ.out j hj hjk'
              · obtain rfl : j = k := by omega
                exact h)
            generalize L[k] = ow at *
            subst hbo
            have hk0 : (0 : Int) ≤ (k : Int) := by omega
            have hk1 : (k : Int) < (n : Int) := by omega
            clear hc1
            by_cases hx : ow.k < 0
            · have e5 : decide (ow.k < 0) = true := decide_eq_true hx
              go_wp2_with (go_at_call 12; refine (awake_any _).mono ?_; rintro e w3 ⟨rfl, hb⟩; have HB3 := Lib.hid (below_next HB2.out hb (Nat.le_refl _)); clear hb)
              go_ret
              exact ⟨rfl, HB3.out⟩
            · have e5 : decide (ow.k < 0) = false := decide_eq_false hx
              by_cases hy : s ≤ ow.k
              · have e6 : decide (s ≤ ow.k) = true := decide_eq_true hy
                go_wp2_with (go_at_call 12; refine (awake_any _).mono ?_; rintro e w3 ⟨rfl, hb⟩; have HB3 := Lib.hid (below_next HB2.out hb (Nat.le_refl _)); clear hb)
                go_ret
                exact ⟨rfl, HB3.out⟩
              · have e6 : decide (s ≤ ow.k) = false := decide_eq_false hy
                have HQN := Keep.mk (HNX.out ⟨by omega, by omega⟩)
                clear hx hy
                go_wp2
                go_round
                case rel => exact ⟨k + 1, by omega, by go_num, HQN⟩
                case measure => simp [intOf]; omega
          · obtain rfl : n = k := by omega
            have HALL : Keep (∀ o ∈ L, 0 ≤ o.k ∧ o.k < s) := ⟨fun o ho => by
              obtain ⟨j, hj, rfl⟩ := List.getElem_of_mem ho
              exact HQ.out j hj (by have := HN.out; omega)⟩
            have CA := retX (arm_any D0 (left.toNat : Int) 0 w2 HD0.out.ok (by rw [HD0.out.m_]; exact HFN.out) (by omega))
            rw [HD0.out.m_] at CA
            have CAK := Keep.mk CA
            clear CA HQ
            obtain ⟨c0, c1, c2, c3⟩ := HD0.out.cs
            go_wp2_with fail
            refine CAK.out.mono ?_
            rintro e w7 ⟨D3, rfl, hok, hm, hb, hav⟩
            have HB7 := Lib.hid (below_next HB2.out hb (Nat.le_refl _))
            have hl3 : D3.left = max (left.toNat : Int) (-1) := congrArg Dv.Disk.left hm
            have CW := written_any D3 A n c L 0 w7 hok (HL.out.below HB7.out) (by rw [hm]; exact Dv.arm_fits HFN.out _) (by omega) (by rw [hl3]; omega) (by rw [hl3]; omega)
            rw [hm] at CW
            have CWK := Keep.mk CW
            have HWF := Keep.mk (Dv.written_fits (L.map Ow.m) 0 (Dv.arm m0 (left.toNat : Int)) 0 (Dv.arm_fits HFN.out _))
            clear CW hl3 hok hm hb hav c0 c1 c2 c3 CAK HD0 HB2
            by_cases hle : L.length ≤ left.toNat
            · obtain ⟨m1, hw1, hw2, hw3, hw4⟩ := (HMATH.out HALL.out).1 hle
              rw [hw1] at CWK HWF
              have HW2 := Keep.mk hw2
              have HW3 := Keep.mk hw3
              have HW4 := Keep.mk hw4
              have hln := HN.out
              have HLE : Keep (n ≤ left.toNat) := ⟨by omega⟩
              have hle2 : decide ((n : Int) ≤ (left.toNat : Int)) = true := decide_eq_true (by omega)
              have hle3 : decide (n ≤ left.toNat) = true := decide_eq_true (by omega)
              have hle4 : n ≤ left.toNat := by omega
              clear hw1 hw2 hw3 hw4 hle hln
              go_wp2_with fail
              refine CWK.out.mono ?_
              rintro e w8 ⟨D4, rfl, hok, hm, hb, hav⟩
              simp only at hm
              have HD4 := Keep.mk (BxD.new hok hm)
              have HB8 := Lib.hid (below_next (below_next HB7.out hb (Nat.le_refl _)) (below_alloc1 w8 (.cells #[.slice D4.a D4.n D4.c, .slice D4.pa D4.pn D4.pc, .int .i64 D4.left, .bool D4.down] 25)) (Nat.le_refl _))
              have q1 : D4.down = false := by have h := HW2.out; rw [← hm] at h; exact h
              have q2 : (D4.pn : Int) = (n : Int) := by have h := HW3.out; rw [← hm] at h; have h2 := hok.pen.len; have h3 := HN.out; simp [Dk.m] at h; omega
              have q3 : D4.left = (left.toNat : Int) - (n : Int) := by have h := HW4.out; rw [← hm] at h; have h3 := HN.out; rw [h3] at h; exact h
              have e7 : ((L.length : Int) == (n : Int)) = true := by rw [HN.out]; simp
              have e8 : ((D4.pn : Int) == (L.length : Int)) = true := by rw [q2, HN.out]; simp
              have e9 : (D4.left == (left.toNat : Int) - (L.length : Int)) = true := by rw [q3, HN.out]; simp
              have hbig := hok.pen.cap
              have hbig2 := hok.pen.big
              unfold maxLen at hbig2
              have hnl := HN.out
              have hll : L.length ≤ 40 := by omega
              have Q1 := Keep.mk q1
              have HLE2 : L.length ≤ left.toNat := by have := HLE.out; omega
              clear hok hm hb hav HB7 CWK q1 q2 q3 hnl
              go_upto_region 12 with (fail)
              generalize e7x : w8.alloc (.cells #[.slice D4.a D4.n D4.c, .slice D4.pa D4.pn D4.pc, .int .i64 D4.left, .bool D4.down] 25) = w9 at *
              clear e7x
              obtain ⟨c0, c1, c2, c3⟩ := HD4.out.cs
              rw [Q1.out] at c3
              go_wp2_with (go_at_call 12; refine (awake_any _).mono ?_; rintro e w10 ⟨rfl, hb⟩; have HB10 := Lib.hid (below_next HB8.out hb (Nat.le_refl _)); clear hb)
              go_ret
              exact ⟨rfl, HB10.out⟩
            · obtain ⟨m1, hw1, hw2, hw3, hw4⟩ := (HMATH.out HALL.out).2 (by omega)
              have hwl := written_left (L.map Ow.m) (Dv.arm m0 (left.toNat : Int)) 0 (by simp only [Dv.arm]; omega) (by simp only [Dv.arm]; omega)
              rw [hw1] at CWK HWF hwl
              have HWL := Keep.mk hwl
              clear hwl
              have HW2 := Keep.mk hw2
              have HW3 := Keep.mk hw3
              have HW4 := Keep.mk hw4
              have hln := HN.out
              have hle2 : decide ((n : Int) ≤ (left.toNat : Int)) = false := decide_eq_false (by omega)
              have hle3 : decide (n ≤ left.toNat) = false := decide_eq_false (by omega)
              have hle4 : left.toNat < n := by omega
              have hlen : (L.map Ow.m).length ≤ 40 := by simp; omega
              have HF1 : Keep (Dv.Fits 40 m1) := ⟨HWF.out.mono (by omega)⟩
              clear hw1 hw2 hw3 hw4 hle hln hlen HWF
              go_wp2_with fail
              refine CWK.out.mono ?_
              rintro e w8 ⟨D4, rfl, hok, hm, hb, hav⟩
              simp only at hm
              have HD4 := Keep.mk (BxD.new hok hm)
              have HB8 := Lib.hid (below_next (below_next HB7.out hb (Nat.le_refl _)) (below_alloc1 w8 (.cells #[.slice D4.a D4.n D4.c, .slice D4.pa D4.pn D4.pc, .int .i64 D4.left, .bool D4.down] 25)) (Nat.le_refl _))
              have q1 : D4.down = true := by have h := HW2.out; rw [← hm] at h; exact h
              have e8 : ((D4.pn : Int) == (left.toNat : Int) + 1) = true := by have h := HW3.out; rw [← hm] at h; have h2 := hok.pen.len; simp [Dk.m] at h; rw [show D4.pn = left.toNat + 1 by omega]; simp
              have hbig := hok.pen.cap
              have hbig2 := hok.pen.big
              unfold maxLen at hbig2
              have Q1 := Keep.mk q1
              clear hok hm hb hav HB7 CWK q1
              go_upto_region 12 with (fail)
              generalize e7x : w8.alloc (.cells #[.slice D4.a D4.n D4.c, .slice D4.pa D4.pn D4.pc, .int .i64 D4.left, .bool D4.down] 25) = w9 at *
              clear e7x
              have hdm : m1.down = true := HW2.out
              have hwr : Dv.write m1 0 (List.replicate 64 1) = (m1, 23) := by simp [Dv.write, hdm]
              have hfl : Dv.flush m1 = (Dv.Disk.zero, 23) := by simp [Dv.flush, hdm]
              have hrd : Dv.read m1 0 = ([], 23) := by simp [Dv.read, hdm]
              have hcr : (Dv.read ⟨m1.sectors, [], -1, false⟩ 0).2 = 0 := by rw [Dv.read_mk _ _ _ _ (by rw [HW4.out]; simp [Dv.has]; omega)]
              have HCR := Keep.mk hcr
              have hlf : -9223372036854775808 ≤ D4.left ∧ D4.left ≤ 9223372036854775807 := by
                have h := HWL.out
                rw [← HD4.out.m_] at h
                have h' : D4.m.left = D4.left := rfl
                simp only [h'] at h
                omega
              have CW := Keep.mk (fun (X : World) (hX : Below w9.heap.size w9 X) (Ab : Option Addr) (nb cb : Nat) (hr : RB X Ab nb cb (List.replicate 64 1)) => by
                have h := retXE (write_any D4 0 Ab nb cb (List.replicate 64 1) 40 X (HD4.out.ok.below hX) hr (by rw [HD4.out.m_]; exact HF1.out) (by omega) hlf.1 hlf.2)
                rw [HD4.out.m_, hwr] at h
                exact h)
              have CF := Keep.mk (fun (X : World) (hX : Below w9.heap.size w9 X) => by
                have h := retXE (flush_any D4 40 X (HD4.out.ok.below hX) (by rw [HD4.out.m_]; exact HF1.out) (by omega))
                rw [HD4.out.m_, hfl] at h
                exact h)
              have CR := Keep.mk (fun (X : World) (hX : Below w9.heap.size w9 X) => by
                have h := read_any D4 0 40 X (HD4.out.ok.below hX) (by rw [HD4.out.m_]; exact HF1.out)
                rw [HD4.out.m_, hrd] at h
                exact h)
              have CC := Keep.mk (fun (X : World) (hX : Below w9.heap.size w9 X) => by
                have h := retX (crash_any D4 none 0 0 [] 40 X (HD4.out.ok.below hX) (RI.none_ _) (fun z hz => by cases hz) (by rw [HD4.out.m_]; exact HF1.out) (by omega))
                rw [HD4.out.m_, Dv.crash_nil] at h
                exact h)
              have HBLK := Keep.mk (fun (X : World) => block_any 1 1 rfl X)
              clear hdm hwr hfl hrd hcr hlf
              go_upto_region 14 with (fail)
              have KS : Keep (∀ X, Below w9.heap.size w9 X → (X.cell? ⟨w8.heap.size, 0, none⟩ = some (.slice D4.a D4.n D4.c) ∧ X.cell? ⟨w8.heap.size, 1, none⟩ = some (.slice D4.pa D4.pn D4.pc) ∧ X.cell? ⟨w8.heap.size, 2, none⟩ = some (.int .i64 D4.left) ∧ X.cell? ⟨w8.heap.size, 3, none⟩ = some (.bool D4.down))) := ⟨fun X hX => (HD4.out.below hX).cs⟩
              go_cut [13, 14] from 106 to 111 (fun s5 s6 X => ∃ b5 : Nat, s5 = .pointer (some ⟨b5, 0, none⟩) ∧ s6 = .int .i64 23 ∧ Below w9.heap.size w9 X)
              case first =>
                go_region_held3 (fun X => X.cell? ⟨w8.heap.size, 0, none⟩ = some (.slice D4.a D4.n D4.c) ∧ X.cell? ⟨w8.heap.size, 1, none⟩ = some (.slice D4.pa D4.pn D4.pc) ∧ X.cell? ⟨w8.heap.size, 2, none⟩ = some (.int .i64 D4.left) ∧ X.cell? ⟨w8.heap.size, 3, none⟩ = some (.bool D4.down))
                  (first | exact KS.out _ HDN.out | exact KS.out _ (HDN.out.alloc HDN.out.size _) | exact KS.out _ HDB.out | exact KS.out _ (HDB.out.alloc HDB.out.size _) | exact KS.out _ (below_draws _ _ 1) | exact KS.out _ ((below_alloc1 _ _).trans (below_draws _ _ 1)) | exact KS.out _ ((((HDN.out.setCell (by have := HDB.out.size; first | exact Nat.le_refl _ | (simp; done) | omega) _).setCell (by have := HDB.out.size; first | exact Nat.le_refl _ | (simp; done) | omega) _).setCell (by have := HDB.out.size; first | exact Nat.le_refl _ | (simp; done) | omega) _).setCell (by have := HDB.out.size; first | exact Nat.le_refl _ | (simp; done) | omega) _))
                  (first
                    | (go_at_call 31; ((refine (HBLK.out _).mono ?_); rintro e wb ⟨Ab, nb, cb, rfl, hr, ha, hb⟩; have HR := Keep.mk hr; first | (have HDB : Hid (Below w9.heap.size w9 wb) := below_next (below_draws _ _ 1) hb (Nat.le_refl _); have BN := True.intro) | (have HDB : Hid (Below w9.heap.size w9 wb) := below_next ((below_alloc1 _ _).trans (below_draws _ _ 1)) hb (Nat.le_refl _); have BN := Keep.mk (((Bx.new w9 [.slice none 0 0, .slice none 0 0, .int .i64 0, .bool false] 25).drewN 1).below hb)); clear hr ha hb))
                    | (go_at_call 13; (first
                        | ((refine (CW.out _ HDB.out Ab nb cb HR.out).mono ?_); rintro e wn ⟨D5, rfl, hok, hm, hb, hav⟩; (first | (have BM := Keep.mk (BN.out.below hb); have m0 := BM.out.cell 0 _ rfl; have m1' := BM.out.cell 1 _ rfl; have m2 := BM.out.cell 2 _ rfl; have m3 := BM.out.cell 3 _ rfl; have mf := BM.out.fz) | (have BM := True.intro)); have HDN : Hid (Below w9.heap.size w9 wn) := below_next HDB.out hb (Nat.le_refl _); clear hok hm hb hav)
                        | ((refine (CW.out _ (HDB.out.alloc HDB.out.size _) Ab nb cb (RB.below HR.out (below_alloc1 _ _))).mono ?_); rintro e wn ⟨D5, rfl, hok, hm, hb, hav⟩; have BM := Keep.mk ((Bx.new wb [.slice none 0 0, .slice none 0 0, .int .i64 0, .bool false] 25).below hb); have m0 := BM.out.cell 0 _ rfl; have m1' := BM.out.cell 1 _ rfl; have m2 := BM.out.cell 2 _ rfl; have m3 := BM.out.cell 3 _ rfl; have mf := BM.out.fz; have HDN : Hid (Below w9.heap.size w9 wn) := below_next (HDB.out.alloc HDB.out.size _) hb (Nat.le_refl _); clear hok hm hb hav))))
                all_goals go_wp2
                all_goals go_meet
                all_goals
                  have hzb := HDB.out.size
                  have hzn := HDN.out.size
                  first
                    | exact ⟨_, rfl, rfl, (((HDN.out.setCell (Nat.le_refl _) _).setCell (Nat.le_refl _) _).setCell (Nat.le_refl _) _).setCell (Nat.le_refl _) _⟩
                    | exact ⟨_, rfl, rfl, (((HDN.out.setCell hzb _).setCell hzb _).setCell hzb _).setCell hzb _⟩
                    | exact ⟨_, rfl, rfl, HDN.out.alloc hzn _⟩
              case rest =>
                obtain ⟨X1, hX1⟩ : ∃ X1, X1 = wc := ⟨_, rfl⟩
                subst hX1
                obtain ⟨b5, rfl, rfl, hb5⟩ := hcut
                have H5 := Lib.hid hb5
                clear hb5 KS
                obtain ⟨c0, c1, c2, c3⟩ := (HD4.out.below H5.out).cs
                go_wp2_with fail
                refine (CF.out _ H5.out).mono ?_
                rintro e w10 ⟨D6, rfl, hok, hm, hb, hav⟩
                have H6 := Lib.hid (below_next (below_next H5.out hb (Nat.le_refl _)) (below_alloc1 w10 (.cells #[.slice D6.a D6.n D6.c, .slice D6.pa D6.pn D6.pc, .int .i64 D6.left, .bool D6.down] 25)) (Nat.le_refl _))
                clear hok hm hb hav H5 c0 c1 c2 c3
                go_upto_region 16 with (fail)
                generalize e7y : w10.alloc (.cells #[.slice D6.a D6.n D6.c, .slice D6.pa D6.pn D6.pc, .int .i64 D6.left, .bool D6.down] 25) = w11 at *
                clear e7y
                obtain ⟨c0, c1, c2, c3⟩ := (HD4.out.below H6.out).cs
                go_wp2_with fail
                refine (CR.out _ H6.out).mono ?_
                rintro e w12 ⟨Ar, nr, cr, rfl, hr, hb⟩
                have H7 := Lib.hid (below_next H6.out hb (Nat.le_refl _))
                clear hr hb H6 c0 c1 c2 c3
                go_upto_region 17 with (fail)
                obtain ⟨c0, c1, c2, c3⟩ := (HD4.out.below H7.out).cs
                go_wp2_with fail
                refine (CC.out _ H7.out).mono ?_
                rintro e w13 ⟨D7, rfl, hok, hm, hb, hav⟩
                have H8 := Lib.hid (below_next H7.out hb (Nat.le_refl _))
                have CR7 := read_any D7 0 0 w13 hok (by rw [hm]; exact ⟨HF1.out.ns, by simp, HF1.out.ss, by simp⟩)
                rw [hm, HCR.out] at CR7
                have CRK := Keep.mk CR7
                clear CR7 hok hm hb hav H7 c0 c1 c2 c3
                go_wp2_with fail
                refine CRK.out.mono ?_
                rintro e w14 ⟨Aq, nq, cq, rfl, hr, hb⟩
                have H9 := Lib.hid (below_next H8.out hb (Nat.le_refl _))
                clear hr hb H8
                go_upto_region 18 with (fail)
                obtain ⟨c0, c1, c2, c3⟩ := (HD4.out.below H9.out).cs
                rw [Q1.out] at c3
                go_wp2_with (go_at_call 12; refine (awake_any _).mono ?_; rintro e w15 ⟨rfl, hb⟩; have H10 := Lib.hid (below_next H9.out hb (Nat.le_refl _)); clear hb)
                go_ret
                exact ⟨rfl, HB8.out.trans (H10.out.mono HB8.out.size)⟩
end Go.Proofs.Ytpekbcoclmhcnaa
