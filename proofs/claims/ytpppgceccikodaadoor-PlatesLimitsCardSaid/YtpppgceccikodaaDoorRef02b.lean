/- mapsheetsref02.Int. -/
import Derived.Test.YtpppgceccikodaaDoorRef02
namespace Go.Proofs.YtpppgceccikodaaDoor
open Go.RowKit Go.Joins

theorem val_drop_le (l : List UInt8) (j : Nat) : V.val (l.drop j) ≤ V.val l := by
  have h := V.val_append (l.take j) (l.drop j)
  rw [List.take_append_drop] at h
  have : 1 * V.val (l.drop j) ≤ 128 ^ (l.take j).length * V.val (l.drop j) := Nat.mul_le_mul_right _ (Nat.pos_of_ne_zero (by simp))
  omega
theorem val_drop_step (l : List UInt8) (j : Nat) (h : j < l.length) : V.val (l.drop j) = V.val (l.drop (j + 1)) * 128 + l[j].toNat % 128 := by
  rw [List.drop_eq_getElem_cons h]
  show l[j].toNat % 128 + 128 * V.val (l.drop (j + 1)) = _
  omega

theorem ret_d {l : List UInt8} {a : Int} {k : Nat} {w : World} (h : V.dec l = (a, k + 1, 0)) : RetD w (V.dec l) (.returned (.tuple #[.int .i64 a, .int .i64 ((k : Int) + 1), .int .i64 0])) w := by
  rw [h]
  exact ⟨rfl, rfl⟩

set_option maxHeartbeats 4000000 in
theorem rint_any (A : Option Addr) (n c : Nat) (l : List UInt8) (w : World) (hl : RB w A n c l) : Calls Tryd.prog 44 #[.slice A n c] w (RetD w (V.dec l)) := by
  have hlen := hl.len
  have hbig := Nat.le_trans hl.cap hl.big
  unfold maxLen at hbig
  have HL := Lib.hid hl
  clear hl
  go_enter Tryd.func44, Tryd.ntmps44
  go_wp2
  go_loop [5] (fun i => ∃ k : Nat, k ≤ n ∧ k ≤ 10 ∧ i = .int .i64 k ∧ V.Up (l.take k)) (fun i => 10 - (intOf i).toNat)
  case atStart => exact ⟨0, Nat.zero_le _, by omega, rfl, (fun y hy => by cases hy)⟩
  case round =>
    obtain ⟨k, hkn, hk10, rfl, hup⟩ := hrel
    have HU : Keep (V.Up (l.take k)) := ⟨hup⟩
    clear hup
    by_cases h10 : k = 10
    · subst h10
      have HF : Keep (V.dec l = (0, 0, 4)) := ⟨by
        have hle : 10 ≤ V.lead l := by
          have h := V.lead_mono HU.out (l.drop 10)
          rw [List.take_append_drop, List.length_take] at h
          omega
        unfold V.dec
        rw [if_pos hle]⟩
      go_wp2
      all_goals (go_ret3; exact ⟨by rw [HF.out]; rfl, rfl⟩)
    · have hk9 : k < 10 := by omega
      have b10 : ((k : Int) == 10) = false := by simp; omega
      by_cases hk : k = n
      · have HF : Keep (V.dec l = (0, 0, 5)) := ⟨by
          have h := HU.out
          rw [List.take_of_length_le (by omega)] at h
          rw [V.dec_up h, if_neg (by omega)]⟩
        clear h10
        subst hk
        go_wp2
        all_goals (go_ret3; exact ⟨by rw [HF.out]; rfl, rfl⟩)
      · have h1 : k < n := by omega
        have bn : ((k : Int) == (n : Int)) = false := by simp; omega
        obtain ⟨b, o, rfl, _, hck⟩ := HL.out.at_ (k := k) (by omega)
        have HY : Keep (l = l.take k ++ l[k] :: l.drop (k + 1)) := ⟨by simp⟩
        have HP : Keep ((l.take k).length = k) := ⟨by rw [List.length_take]; omega⟩
        have HN : Keep (l.take (k + 1) = l.take k ++ [l[k]]) := ⟨List.take_succ_eq_append_getElem (by omega)⟩
        generalize l[k] = y at *
        clear h10 hk
        by_cases hy : 128 ≤ y.toNat
        · have d1 : decide ((128 : Int) ≤ (y.toNat : Int)) = true := by simp; omega
          have HUP : Keep (V.Up (l.take (k + 1))) := ⟨by
            rw [HN.out]
            intro x hx
            rcases List.mem_append.1 hx with hx | hx
            · exact HU.out x hx
            · simp at hx; subst hx; exact hy⟩
          clear hy
          go_wp2
          go_round
          case rel => exact ⟨k + 1, by omega, by omega, by go_num, HUP.out⟩
          case measure => simp [intOf]; omega
        · have d1 : decide ((128 : Int) ≤ (y.toNat : Int)) = false := by simp; omega
          have HD : Keep (V.dec l = if 10 ≤ k then (0, 0, 4) else if (0 < k ∧ y.toNat = 0) ∨ (k = 9 ∧ 1 < y.toNat) then (0, 0, 4) else (V.unzig (V.val (l.take k ++ [y])), k + 1, 0)) := ⟨by
            have h := V.dec_at HU.out (show y.toNat < 128 by omega) (l.drop (k + 1))
            rw [HP.out, ← HY.out] at h
            exact h⟩
          by_cases hbad1 : 0 < k ∧ y.toNat = 0
          · obtain ⟨hk0, hy0⟩ := hbad1
            have d2 : decide ((0 : Int) < (k : Int)) = true := by simp; omega
            have d3 : ((y.toNat : Int) == 0) = true := by simp; omega
            have HE : Keep (V.dec l = (0, 0, 4)) := ⟨by rw [HD.out, if_neg (by omega), if_pos (.inl ⟨hk0, hy0⟩)]⟩
            clear hy0 hy
            go_wp2
            go_ret3
            exact ⟨by rw [HE.out]; rfl, rfl⟩
          · by_cases hbad2 : k = 9 ∧ 1 < y.toNat
            · obtain ⟨h9, hy1⟩ := hbad2
              have d3 : ((y.toNat : Int) == 0) = false := by simp; omega
              have d4 : decide ((1 : Int) < (y.toNat : Int)) = true := by simp; omega
              have d5 : ((k : Int) == 9) = true := by simp; omega
              have hk0 : 0 < k := by omega
              have HE : Keep (V.dec l = (0, 0, 4)) := ⟨by rw [HD.out, if_neg (by omega), if_pos (.inr ⟨h9, hy1⟩)]⟩
              clear h9 hbad1 hy
              go_wp2
              go_ret3
              exact ⟨by rw [HE.out]; rfl, rfl⟩
            · have HE : Keep (V.dec l = (V.unzig (V.val (l.take (k + 1))), k + 1, 0) ∧ V.val (l.take (k + 1)) < 18446744073709551616) := ⟨by
                have hd := HD.out
                rw [if_neg (by omega), if_neg (by rintro (h | h) <;> contradiction)] at hd
                have hval : V.val (l.take k ++ [y]) < 18446744073709551616 := by
                  have hok := V.dec_ok hd
                  have hin := V.zig_lt hok.2.2.2
                  rwa [V.zig_unzig] at hin
                rw [HN.out]
                exact ⟨hd, hval⟩⟩
              have HK1 : Keep ((l.take (k + 1)).length = k + 1) := ⟨by rw [List.length_take]; omega⟩
              have hL1 : k + 1 ≤ l.length := by omega
              have HZ0 : Keep (0 = V.val ((l.take (k + 1)).drop (k + 1))) := ⟨by rw [List.drop_of_length_le (by rw [HK1.out]; omega)]; rfl⟩
              have HN' := HN
              have hcase : (((y.toNat : Int) == 0) = false ∧ decide ((1 : Int) < (y.toNat : Int)) = false ∧ ((k : Int) == 9) = true ∧ 0 < k) ∨ (((y.toNat : Int) == 0) = false ∧ ((k : Int) == 9) = false ∧ 0 < k) ∨ (((k : Int) == 9) = false ∧ ¬ 0 < k) := by
                simp
                omega
              clear hbad1 hbad2
              rcases hcase with ⟨d3, d4, d5, hk0⟩ | ⟨d3, d5, hk0⟩ | ⟨d5, hk0⟩
              all_goals
                go_wp2
                go_loop [6, 7] (fun u i => ∃ (j z : Nat) (q : Int), j ≤ k + 1 ∧ q + 1 = (j : Int) ∧ i = .int .i64 q ∧ u = .int .u64 (z : Int) ∧ z = V.val ((l.take (k + 1)).drop j)) (fun _ i => (intOf i + 1).toNat)
                case atStart => exact ⟨k + 1, 0, k, by omega, by omega, rfl, rfl, HZ0.out⟩
                case round =>
                  obtain ⟨j, z, q, hj, hq, rfl, rfl, hz⟩ := hrel
                  have HZ : Keep (z = V.val ((l.take (k + 1)).drop j)) := ⟨hz⟩
                  clear hz
                  rcases Nat.eq_zero_or_pos j with hj0 | hj0
                  · subst hj0
                    obtain rfl : q = -1 := by omega
                    clear hq
                    have hzl : z < 18446744073709551616 := by have h1 := HZ.out; have h2 := HE.out.2; rw [List.drop_zero] at h1; omega
                    have HF : Keep (V.dec l = (V.unzig z, k + 1, 0)) := ⟨by have h1 := HZ.out; rw [List.drop_zero] at h1; rw [h1]; exact HE.out.1⟩
                    rcases Nat.mod_two_eq_zero_or_one z with hpar | hpar
                    · have f5 : ((z : Int) % 2 == 0) = true := by simp; omega
                      have HG : Keep (V.dec l = ((z : Int) / 2, k + 1, 0)) := ⟨by rw [HF.out, unzig_even z (z / 2) hpar rfl]; simp⟩
                      clear hpar
                      go_wp2
                      go_ret3
                      exact ret_d HG.out
                    · have f5 : ((z : Int) % 2 == 0) = false := by simp; omega
                      have HG : Keep (V.dec l = (-((z : Int) / 2) - 1, k + 1, 0)) := ⟨by rw [HF.out, unzig_odd z (z / 2) hpar rfl]; simp⟩
                      clear hpar
                      go_wp2
                      go_ret3
                      exact ret_d HG.out
                  · obtain ⟨m, rfl⟩ : ∃ m, j = m + 1 := ⟨j - 1, by omega⟩
                    obtain rfl : q = (m : Int) := by omega
                    clear hq hj0
                    obtain ⟨b', o', he, _, hcm⟩ := HL.out.at_ (k := m) (by omega)
                    obtain ⟨rfl, rfl⟩ : b = b' ∧ o = o' := by injection he with he; injection he with h1 h2; exact ⟨h1, h2⟩
                    clear he
                    have hst := val_drop_step (l.take (k + 1)) m (by rw [HK1.out]; omega)
                    rw [← HZ.out, List.getElem_take] at hst
                    have hle := val_drop_le (l.take (k + 1)) m
                    generalize l[m] = y' at *
                    have HS : Keep (z * 128 + y'.toNat % 128 = V.val ((l.take (k + 1)).drop m)) := ⟨hst.symm⟩
                    have hlt : z * 128 + y'.toNat % 128 < 18446744073709551616 := by have := HE.out.2; omega
                    have hy8 := y'.toNat_lt
                    clear hst hle
                    go_wp2
                    go_round
                    case rel => exact ⟨m, z * 128 + y'.toNat % 128, (m : Int) - 1, by omega, by omega, by go_num, by go_num, HS.out⟩
                    case measure => (simp [intOf] <;> omega)
end Go.Proofs.YtpppgceccikodaaDoor
