/- wire.Int. -/
import Derived.Test.YtpppgceccikodaaDoorWire
namespace Go.Proofs.YtpppgceccikodaaDoor
open Go.RowKit Go.Joins

/-- What a decoder of an integer leaves: the integer, how many bytes it used, the error; nothing has turned. -/
def RetD (w : World) (d : Int × Nat × Int) (e : Ending) (w' : World) : Prop := e = .returned (.tuple #[.int .i64 d.1, .int .i64 (d.2.1 : Int), .int .i64 d.2.2]) ∧ w = w'

/-- A digit more. -/
theorem or_digit (p : List UInt8) (y : UInt8) (z k : Nat) (hk : k < 10) (hp : p.length = k) (hz : z = V.val p % 18446744073709551616) :
    bits .or .u64 (z : Int) (IntKind.u64.wrap (IntKind.u64.wrap (bits .and .u8 (y.toNat : Int) 127) * 2 ^ (7 * k))) = ((V.val (p ++ [y]) % 18446744073709551616 : Nat) : Int) := by
  have hy := y.toNat_lt
  have hvp : V.val p < 2 ^ (7 * k) := by
    have := V.val_lt p
    rw [hp, show (128 : Nat) = 2 ^ 7 from rfl, ← Nat.pow_mul] at this
    exact this
  have hpow : (2 : Nat) ^ (7 * k) ≤ 2 ^ 63 := Nat.pow_le_pow_right (by decide) (by omega)
  have h63 : (2 : Nat) ^ 63 = 9223372036854775808 := by decide
  have hzp : z = V.val p := by rw [hz]; exact Nat.mod_eq_of_lt (by omega)
  have e1 : bits .and .u8 (y.toNat : Int) 127 = ((y.toNat % 128 : Nat) : Int) := by
    have := u8_and_nat y.toNat 127 hy (by decide)
    rw [nat_mask7] at this
    exact this
  have e2 : IntKind.u64.wrap ((y.toNat % 128 : Nat) : Int) = ((y.toNat % 128 : Nat) : Int) := by rw [IntKind.wrap_u64]; omega
  have e3 : IntKind.u64.wrap (((y.toNat % 128 : Nat) : Int) * 2 ^ (7 * k)) = (((y.toNat % 128) * 2 ^ (7 * k) % 18446744073709551616 : Nat) : Int) := by
    rw [IntKind.wrap_u64]
    simp
  rw [e1, e2, e3, u64_or_nat z _ (by omega) (Nat.mod_lt _ (by decide))]
  have h64 : (18446744073709551616 : Nat) = 2 ^ (7 * k) * 2 ^ (64 - 7 * k) := by
    rw [← Nat.pow_add, show 7 * k + (64 - 7 * k) = 64 by omega]
  have hdvd : (y.toNat % 128 * 2 ^ (7 * k) % 18446744073709551616) % 2 ^ (7 * k) = 0 := by
    rw [Nat.mod_mod_of_dvd _ ⟨_, h64⟩]
    exact Nat.mul_mod_left _ _
  have hor : z ||| (y.toNat % 128 * 2 ^ (7 * k) % 18446744073709551616) = z + (y.toNat % 128 * 2 ^ (7 * k) % 18446744073709551616) := by
    rw [Nat.or_comm, nat_join (7 * k) _ z hdvd (by omega), Nat.add_comm]
  rw [hor, V.val_snoc, hp, show (128 : Nat) ^ k = 2 ^ (7 * k) by rw [Nat.pow_mul], hzp, Nat.mul_comm (2 ^ (7 * k)) (y.toNat % 128)]
  congr 1
  -- both are below the modulus, or congruent
  have hlt : V.val p + y.toNat % 128 * 2 ^ (7 * k) % 18446744073709551616 < 18446744073709551616 := by
    have hm : y.toNat % 128 * 2 ^ (7 * k) % 18446744073709551616 ≤ 18446744073709551616 - 2 ^ (7 * k) := by
      have h1 : y.toNat % 128 * 2 ^ (7 * k) % 18446744073709551616 < 18446744073709551616 := Nat.mod_lt _ (by decide)
      have h2 : ∃ a, y.toNat % 128 * 2 ^ (7 * k) % 18446744073709551616 = 2 ^ (7 * k) * a := ⟨_, (Nat.mul_div_cancel' (Nat.dvd_of_mod_eq_zero hdvd)).symm⟩
      obtain ⟨a, ha⟩ := h2
      rw [ha] at h1 ⊢
      have h3 : a < 2 ^ (64 - 7 * k) := by
        rcases Nat.lt_or_ge a (2 ^ (64 - 7 * k)) with h | h
        · exact h
        · have := Nat.mul_le_mul_left (2 ^ (7 * k)) h
          rw [← h64] at this
          omega
      have h4 : 2 ^ (7 * k) * (a + 1) ≤ 2 ^ (7 * k) * 2 ^ (64 - 7 * k) := Nat.mul_le_mul_left _ h3
      rw [← h64, Nat.mul_add, Nat.mul_one] at h4
      omega
    omega
  rw [Nat.add_mod, Nat.mod_eq_of_lt (a := V.val p) (by omega), Nat.mod_eq_of_lt hlt]
theorem par_odd (z : Nat) (hz : z < 18446744073709551616) (h : z % 2 = 1) : (bits .and .u64 (z : Int) 1 == 1) = true := by
  have := u64_and_nat z 1 hz (by decide)
  rw [nat_mask1, h] at this
  have e : bits .and .u64 (z : Int) 1 = 1 := this
  rw [e]; rfl
theorem par_even (z : Nat) (hz : z < 18446744073709551616) (h : z % 2 = 0) : (bits .and .u64 (z : Int) 1 == 1) = false := by
  have := u64_and_nat z 1 hz (by decide)
  rw [nat_mask1, h] at this
  have e : bits .and .u64 (z : Int) 1 = 0 := this
  rw [e]; rfl
theorem not_half (q : Nat) (hq : q < 9223372036854775808) : bits .xor .i64 (-1) (q : Int) = -(q : Int) - 1 := by
  have e1 : (BitVec.ofInt 64 (q : Int)).toNat = q := by
    rw [BitVec.ofInt_natCast, BitVec.toNat_ofNat]; exact Nat.mod_eq_of_lt (by omega)
  have e2 : (BitVec.ofInt 64 (-1)).toNat = 18446744073709551615 := by decide
  show IntKind.i64.wrap ((BitVec.ofInt 64 (-1) ^^^ BitVec.ofInt 64 (q : Int)).toNat : Int) = _
  rw [BitVec.toNat_xor, e1, e2, ones_xor q (by omega), IntKind.wrap_i64]
  omega

theorem unzig_even (z q : Nat) (h : z % 2 = 0) (hq : q = z / 2) : V.unzig z = (q : Int) := by unfold V.unzig; rw [if_pos h, hq]
theorem unzig_odd (z q : Nat) (h : z % 2 = 1) (hq : q = z / 2) : V.unzig z = -(q : Int) - 1 := by unfold V.unzig; rw [if_neg (by omega), hq]

set_option maxHeartbeats 4000000 in
/-- wire.Int -/
theorem int_any (A : Option Addr) (n c : Nat) (l : List UInt8) (w : World) (hl : RB w A n c l) : Calls Tryd.prog 43 #[.slice A n c] w (RetD w (V.dec l)) := by
  have hlen := hl.len
  have hbig := Nat.le_trans hl.cap hl.big
  unfold maxLen at hbig
  have HL := Lib.hid hl
  clear hl
  by_cases hn10 : n ≤ 10
  all_goals
    go_enter Tryd.func43, Tryd.ntmps43
    go_wp2
    go_loop [5, 10] (fun u i => ∃ k z : Nat, k ≤ n ∧ k ≤ 10 ∧ i = .int .i64 k ∧ u = .int .u64 (z : Int) ∧ V.Up (l.take k) ∧ z = V.val (l.take k) % 18446744073709551616) (fun _ i => 10 - (intOf i).toNat)
    case atStart => exact ⟨0, 0, Nat.zero_le _, by omega, rfl, rfl, (fun y hy => by cases hy), rfl⟩
    case round =>
      obtain ⟨k, z, hkn, hk10, rfl, rfl, hup, hz⟩ := hrel
      have HU : Keep (V.Up (l.take k)) := ⟨hup⟩
      have HZ : Keep (z = V.val (l.take k) % 18446744073709551616) := ⟨hz⟩
      clear hup hz
      by_cases hlt : k < n ∧ k < 10
      · obtain ⟨h1, h2⟩ := hlt
        obtain ⟨b, o, rfl, _, hck⟩ := HL.out.at_ (k := k) (by omega)
        have HY : Keep (l = l.take k ++ l[k] :: l.drop (k + 1)) := ⟨by simp⟩
        have HP : Keep ((l.take k).length = k) := ⟨by rw [List.length_take]; omega⟩
        have HN : Keep (l.take (k + 1) = l.take k ++ [l[k]]) := ⟨List.take_succ_eq_append_getElem (by omega)⟩
        generalize l[k] = y at *
        obtain ⟨z', hz'⟩ : ∃ z', z' = V.val (l.take k ++ [y]) % 18446744073709551616 := ⟨_, rfl⟩
        have hv : bits .or .u64 (z : Int) (IntKind.u64.wrap (IntKind.u64.wrap (bits .and .u8 (y.toNat : Int) 127) * 2 ^ (7 * k))) = (z' : Int) := by
          rw [hz']
          exact or_digit (l.take k) y z k h2 HP.out HZ.out
        have HZ' : Keep (z' = V.val (l.take k ++ [y]) % 18446744073709551616) := ⟨hz'⟩
        have HLT : Keep (z' < 18446744073709551616) := ⟨by rw [hz']; exact Nat.mod_lt _ (by decide)⟩
        clear hz'
        by_cases hy : 128 ≤ y.toNat
        · have d1 : decide ((128 : Int) ≤ (y.toNat : Int)) = true := by simp; omega
          have HUP : Keep (V.Up (l.take (k + 1))) := ⟨by
            rw [HN.out]
            intro x hx
            rcases List.mem_append.1 hx with hx | hx
            · exact HU.out x hx
            · simp at hx; subst hx; exact hy⟩
          go_wp2
          go_round
          case rel => exact ⟨k + 1, z', by omega, by omega, by go_num, rfl, HUP.out, by rw [HN.out]; exact HZ'.out⟩
          case measure => simp [intOf]; omega
        · have d1 : decide ((128 : Int) ≤ (y.toNat : Int)) = false := by simp; omega
          have HD : Keep (V.dec l = if 10 ≤ k then (0, 0, 4) else if (0 < k ∧ y.toNat = 0) ∨ (k = 9 ∧ 1 < y.toNat) then (0, 0, 4) else (V.unzig (V.val (l.take k ++ [y])), k + 1, 0)) := ⟨by
            have h := V.dec_at HU.out (show y.toNat < 128 by omega) (l.drop (k + 1))
            rw [HP.out, ← HY.out] at h
            exact h⟩
          by_cases hbad1 : 0 < k ∧ y.toNat = 0
          · obtain ⟨hk0, hy0⟩ := hbad1
            have d2 : decide ((0 : Int) < (k : Int)) = true := by simp; omega
            have d3 : ((y.toNat : Int) == 0) = true := by simp; omega
            have HE : Keep (V.dec l = (0, 0, 4)) := ⟨by rw [HD.out, if_neg (by omega), if_pos (.inl ⟨hk0, hy0⟩)]⟩
            clear hy0
            go_wp2
            go_ret3
            exact ⟨by rw [HE.out]; rfl, rfl⟩
          · by_cases hbad2 : k = 9 ∧ 1 < y.toNat
            · obtain ⟨h9, hy1⟩ := hbad2
              have d3 : ((y.toNat : Int) == 0) = false := by simp; omega
              have d4 : decide ((1 : Int) < (y.toNat : Int)) = true := by simp; omega
              have d5 : ((k : Int) == 9) = true := by simp; omega
              have hk0 : 0 < k := by omega
              have HE : Keep (V.dec l = (0, 0, 4)) := ⟨by rw [HD.out, if_neg (by omega), if_pos (.inr ⟨h9, hy1⟩)]⟩
              clear h9 hbad1
              go_wp2
              go_ret3
              exact ⟨by rw [HE.out]; rfl, rfl⟩
            · have HE : Keep (V.dec l = (V.unzig z', k + 1, 0)) := ⟨by
                have hd := HD.out
                rw [if_neg (by omega), if_neg (by rintro (h | h) <;> contradiction)] at hd
                have hval : V.val (l.take k ++ [y]) < 18446744073709551616 := by
                  have hok := V.dec_ok hd
                  have hin := V.zig_lt hok.2.2.2
                  rwa [V.zig_unzig] at hin
                rw [hd, HZ'.out, Nat.mod_eq_of_lt hval]⟩
              obtain ⟨q, hq⟩ : ∃ q, q = z' / 2 := ⟨_, rfl⟩
              have hq1 : (z' : Int) / 2 = (q : Int) := by omega
              have hql : q < 9223372036854775808 := by have := HLT.out; omega
              have hq2 : wrap64 (q : Int) = (q : Int) := IntWalk.wrap64_in _ (by omega)
              have hq3 := not_half q hql
              have HQ : Keep (q = z' / 2) := ⟨hq⟩
              have dk : decide ((0 : Int) < (k : Int)) = decide (0 < k) := by simp
              clear hq hql
              rcases Nat.mod_two_eq_zero_or_one z' with hpar | hpar
              all_goals
                first
                | (have hp1 := par_even z' HLT.out hpar
                   have HF : Keep (V.dec l = ((q : Int), k + 1, 0)) := ⟨by rw [HE.out, unzig_even z' q hpar HQ.out]⟩)
                | (have hp1 := par_odd z' HLT.out hpar
                   have HF : Keep (V.dec l = (-(q : Int) - 1, k + 1, 0)) := ⟨by rw [HE.out, unzig_odd z' q hpar HQ.out]⟩)
                clear hpar dk
                by_cases h9 : k = 9
                · have d3 : ((y.toNat : Int) == 0) = false := by simp; omega
                  have d4 : decide ((1 : Int) < (y.toNat : Int)) = false := by simp; omega
                  have d5 : ((k : Int) == 9) = true := by simp; omega
                  have hk0 : 0 < k := by omega
                  clear h9 hbad1 hbad2
                  go_wp2
                  go_ret3
                  exact ⟨by rw [HF.out]; rfl, rfl⟩
                · have d5 : ((k : Int) == 9) = false := by simp; omega
                  clear h9 hbad2
                  by_cases hk0 : 0 < k
                  · have d3 : ((y.toNat : Int) == 0) = false := by simp; omega
                    clear hbad1
                    go_wp2
                    go_ret3
                    exact ⟨by rw [HF.out]; rfl, rfl⟩
                  · clear hbad1
                    go_wp2
                    go_ret3
                    exact ⟨by rw [HF.out]; rfl, rfl⟩
      · have HUL : Keep (V.Up (l.take k)) := HU
        by_cases hk : k = n
        · have HE : Keep (V.dec l = if 10 ≤ n then (0, 0, 4) else (0, 0, 5)) := ⟨by
            have h := HU.out
            rw [List.take_of_length_le (by omega)] at h
            rw [V.dec_up h, hlen]⟩
          by_cases h10 : 10 ≤ n
          · have HF : Keep (V.dec l = (0, 0, 4)) := ⟨by rw [HE.out, if_pos h10]⟩
            go_wp2
            all_goals (go_ret3; exact ⟨by rw [HF.out]; rfl, rfl⟩)
          · have HF : Keep (V.dec l = (0, 0, 5)) := ⟨by rw [HE.out, if_neg h10]⟩
            go_wp2
            all_goals (go_ret3; exact ⟨by rw [HF.out]; rfl, rfl⟩)
        · have HF : Keep (V.dec l = (0, 0, 4)) := ⟨by
            obtain rfl : k = 10 := by omega
            have hle : 10 ≤ V.lead l := by
              have h := V.lead_mono HU.out (l.drop 10)
              rw [List.take_append_drop, List.length_take] at h
              omega
            unfold V.dec
            rw [if_pos hle]⟩
          go_wp2
          all_goals (go_ret3; exact ⟨by rw [HF.out]; rfl, rfl⟩)
end Go.Proofs.YtpppgceccikodaaDoor
