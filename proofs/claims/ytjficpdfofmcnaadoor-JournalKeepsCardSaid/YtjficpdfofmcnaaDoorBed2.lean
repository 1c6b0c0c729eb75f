/- Chapter 2 (wire) and its reference. -/
import Derived.Test.YtjficpdfofmcnaaDoorRows
import Derived.Test.YtjficpdfofmcnaaDoorBed1
import Derived.Deep.RegionHeld3
import Derived.Deep.QuietTactic
import Derived.BigQuiet
/- The contracts of package wire's functions, as the plain mathematics of YtjficpdfofmcnaaDoorVar has them. -/
namespace Go.Proofs.YtjficpdfofmcnaaDoor
open Go.RowKit Go.Joins

/-- What wire.put leaves: the bytes, and behind them those of the encoding. -/
def RetT (w : World) (base : Nat) (l : List UInt8) (e : Ending) (w' : World) : Prop := ∃ A n c, e = .returned (.slice A n c) ∧ OB w' base A n c l ∧ Below base w w'

theorem ones_xor (y : Nat) (hy : y < 18446744073709551616) : 18446744073709551615 ^^^ y = 18446744073709551615 - y := by
  have hb : (18446744073709551615#64 ^^^ BitVec.ofNat 64 y) = ~~~ BitVec.ofNat 64 y := BitVec.allOnes_xor
  have := congrArg BitVec.toNat hb
  rw [BitVec.toNat_xor, BitVec.toNat_not, BitVec.toNat_ofNat, BitVec.toNat_ofNat, Nat.mod_eq_of_lt (a := y) (by omega)] at this
  simpa using this
theorem zig_neg {x : Int} (h : V.In x) (hn : x < 0) : bits .xor .u64 IntKind.u64.max (IntKind.u64.wrap (IntKind.u64.wrap x * 2)) = ((V.zig x : Nat) : Int) := by
  obtain ⟨h1, h2⟩ := h
  have e : IntKind.u64.wrap (IntKind.u64.wrap x * 2) = ((18446744073709551616 + 2 * x).toNat : Int) := by
    rw [IntKind.wrap_u64, IntKind.wrap_u64]
    omega
  have hlt : (18446744073709551616 + 2 * x).toNat < 18446744073709551616 := by omega
  have em : IntKind.u64.max = ((18446744073709551615 : Nat) : Int) := by decide
  rw [e, em, u64_xor_nat _ _ (by decide) hlt]
  rw [ones_xor _ hlt]
  unfold V.zig
  rw [if_pos hn]
  omega
theorem zig_pos {x : Int} (h : V.In x) (hn : ¬ x < 0) : IntKind.u64.wrap (IntKind.u64.wrap x * 2) = ((V.zig x : Nat) : Int) := by
  obtain ⟨h1, h2⟩ := h
  rw [IntKind.wrap_u64, IntKind.wrap_u64]
  unfold V.zig
  rw [if_neg hn]
  omega
/-- A raised digit. -/
def updig (z : Nat) : UInt8 := UInt8.ofNat (z % 128 + 128)
theorem or128 (z : Nat) : bits .or .u8 ((z : Int) % 256) 128 = ((updig z).toNat : Int) := by
  have e : ((z : Int) % 256) = ((z % 256 : Nat) : Int) := by omega
  have hlt : z % 256 < 256 := Nat.mod_lt _ (by decide)
  have h := u8_or_nat (z % 256) 128 hlt (by decide)
  rw [e]
  refine h.trans ?_
  unfold updig
  rw [UInt8.toNat_ofNat']
  have h2 : z % 256 ||| 128 = z % 128 + 128 := by
    have : ∀ y : Fin 256, y.1 ||| 128 = y.1 % 128 + 128 := by decide +kernel
    have h3 := this ⟨z % 256, hlt⟩
    simp only at h3
    rw [h3]
    omega
  rw [h2]
  omega

set_option maxHeartbeats 400000 in
/-- wire.put: what is left to write is 'uvar f z'. -/
theorem put_any (A : Option Addr) (n c : Nat) (l : List UInt8) (x : Int) (base : Nat) (w : World) (hl : TB w base A n c l) (hx : V.In x) (hroom : n + 10 ≤ 140737488355328) (hbase : base ≤ w.heap.size) :
    Calls Tryd.prog 80 #[.slice A n c, .int .i64 x] w (RetT w base (l ++ V.enc x)) := by
  have HX : Keep (V.In x) := ⟨hx⟩
  have HL := Lib.hid hl
  have hlen := hl.len
  clear hx hl
  by_cases hneg : x < 0
  all_goals
    go_enter Tryd.func80, Tryd.ntmps80
    go_wp2
    first | rw [zig_neg HX.out hneg] | rw [zig_pos HX.out (by omega)]
    go_loopw [0, 5] (fun v u wr => ∃ (f z : Nat) (A' : Option Addr) (n' c' : Nat) (d : List UInt8), u = .int .u64 (z : Int) ∧ v = .slice A' n' c' ∧ TB wr base A' n' c' (l ++ d) ∧ V.enc x = d ++ V.uvar f z ∧ z < 128 ^ (f + 1) ∧ d.length + f = 9 ∧ Below base w wr) (fun _ u _ => (intOf u).toNat)
    case atStart => exact ⟨9, V.zig x, A, n, c, [], rfl, rfl, by simpa using HL.out, rfl, Nat.lt_of_lt_of_le (V.zig_lt HX.out) (by decide), rfl, Below.refl _ _⟩
    case round =>
      obtain ⟨f, z, A', n', c', d, rfl, rfl, ht, he, hz, hdf, hb⟩ := hrel
      have hn' : n' ≤ n + 9 := by
        have := ht.len
        rw [List.length_append] at this
        omega
      have hbs := Nat.le_trans hbase hb.size
      have HT := Lib.hid ht
      have HE : Keep (V.enc x = d ++ V.uvar f z) := ⟨he⟩
      have HZ : Keep (z < 128 ^ (f + 1)) := ⟨hz⟩
      have HD := Lib.hid hdf
      have HB := Lib.hid hb
      clear ht he hz hdf hb
      by_cases hlt : z < 128
      · obtain ⟨y, rfl⟩ : ∃ y : UInt8, z = y.toNat := ⟨UInt8.ofNat z, by rw [UInt8.toNat_ofNat']; omega⟩
        have hd : decide ((128 : Int) ≤ (y.toNat : Int)) = false := by simp; omega
        have HU : Keep (V.uvar f y.toNat = [y]) := ⟨by rw [V.uvar_small f _ hlt]; simp⟩
        go_wp2_with (at_builtin; refine append_b1 _ rfl (.tmp 23) (.tmp 26) rfl base A' n' c' _ rfl (HT.out.below (below_alloc1 _ _)) _ 1 1 [y] rfl (rb_one _ _) (by omega) (by omega) (by simp; omega) ?_; intro A2 n2 c2 w2 ht hb; have HT2 := Lib.hid ht; have HB2 := Lib.hid hb; clear ht hb)
        go_ret
        refine ⟨A2, n2, c2, rfl, ?_, (HB.out.alloc hbs _).trans HB2.out⟩
        rw [HE.out, HU.out, ← List.append_assoc]
        exact HT2.out
      · have h1 := or128 z
        have hd : decide ((128 : Int) ≤ (z : Int)) = true := by simp; omega
        have hf : ∃ g, f = g + 1 := by
          cases f with
          | zero => have := HZ.out; simp at this; omega
          | succ g => exact ⟨g, rfl⟩
        obtain ⟨g, rfl⟩ := hf
        have HU : Keep (V.uvar (g + 1) z = updig z :: V.uvar g (z / 128)) := ⟨V.uvar_big g z hlt⟩
        go_wp2_with (at_builtin; refine append_b _ rfl (.tmp 15) (.tmp 19) rfl base A' n' c' _ rfl (HT.out.below (below_alloc1 _ _)) _ 1 1 [updig z] rfl (rb_one _ _) (by omega) (by simp; omega) ?_; intro A2 n2 c2 w2 ht hb; have HT2 := Lib.hid ht; have HB2 := Lib.hid hb; clear ht hb)
        go_roundw
        case rel =>
          refine ⟨g, z / 128, A2, n2, c2, d ++ [updig z], ?_, rfl, ?_, ?_, ?_, ?_, (HB.out.alloc hbs _).trans HB2.out⟩
          · simp
          · rw [← List.append_assoc]; exact HT2.out
          · rw [HE.out, HU.out]; simp
          · have := HZ.out; rw [Nat.pow_succ] at this; omega
          · have := HD.out; simp; omega
        case measure => simp [intOf]; omega

/-- wire.PutInt -/
theorem putInt_any (A : Option Addr) (n c : Nat) (l : List UInt8) (x : Int) (w : World) (hl : RB w A n c l) (hx : V.In x) (hroom : n + 10 ≤ 140737488355328) :
    Calls Tryd.prog 62 #[.slice A n c, .int .i64 x] w (RetT w w.heap.size (l ++ V.enc x)) := by
  have hcap := hl.cap
  have hp := put_any A n n l x w.heap.size w (TB.full hl) hx hroom (Nat.le_refl _)
  have HP := Lib.hid hp
  clear hl hx hp
  go_enter Tryd.func62, Tryd.ntmps62
  go_wp2_with fail
  refine HP.out.mono ?_
  rintro e w1 ⟨A1, n1, c1, rfl, ht, hb⟩
  have HT := Lib.hid ht
  have HB := Lib.hid hb
  clear ht hb
  go_wp2
  go_ret
  exact ⟨A1, n1, c1, rfl, HT.out, HB.out⟩
end Go.Proofs.YtjficpdfofmcnaaDoor

/- wire.Int. -/
namespace Go.Proofs.YtjficpdfofmcnaaDoor
open Go.RowKit Go.Joins

/-- What a decoder of an integer leaves: the integer, how many bytes it used, the error; nothing has turned. -/
def RetD (w : World) (d : Int × Nat × Int) (e : Ending) (w' : World) : Prop := e = .returned (.tuple #[.int .i64 d.1, .int .i64 (d.2.1 : Int), .int .i64 d.2.2]) ∧ w = w'

/-- A digit more. -/
theorem or_digit (p : List UInt8) (y : UInt8) (z k : Nat) (hk : k < 10) (hp : p.length = k) (hz : z = V.val p % 18446744073709551616) :
    bits .or .u64 (z : Int) (IntKind.u64.wrap (IntKind.u64.wrap (bits .and .u8 (y.toNat : Int) 127) * 2 ^ (7 * k))) = ((V.val (p ++ [y]) % 18446744073709551616 : Nat) : Int) := by
  have hy := y.toNat_lt
  have hvp : V.val p < 2 ^ (7 * k) := by
    have := V.val_lt p
    rw [hp, show (128 : Nat) = 2 ^ 7 from rfl, ← Nat.pow_mul] at this
    exact this
  have hpow : (2 : Nat) ^ (7 * k) ≤ 2 ^ 63 := Nat.pow_le_pow_right (by decide) (by omega)
  have h63 : (2 : Nat) ^ 63 = 9223372036854775808 := by decide
  have hzp : z = V.val p := by rw [hz]; exact Nat.mod_eq_of_lt (by omega)
  have e1 : bits .and .u8 (y.toNat : Int) 127 = ((y.toNat % 128 : Nat) : Int) := by
    have := u8_and_nat y.toNat 127 hy (by decide)
    rw [nat_mask7] at this
    exact this
  have e2 : IntKind.u64.wrap ((y.toNat % 128 : Nat) : Int) = ((y.toNat % 128 : Nat) : Int) := by rw [IntKind.wrap_u64]; omega
  have e3 : IntKind.u64.wrap (((y.toNat % 128 : Nat) : Int) * 2 ^ (7 * k)) = (((y.toNat % 128) * 2 ^ (7 * k) % 18446744073709551616 : Nat) : Int) := by
    rw [IntKind.wrap_u64]
    simp
  rw [e1, e2, e3, u64_or_nat z _ (by omega) (Nat.mod_lt _ (by decide))]
  have h64 : (18446744073709551616 : Nat) = 2 ^ (7 * k) * 2 ^ (64 - 7 * k) := by
    rw [← Nat.pow_add, show 7 * k + (64 - 7 * k) = 64 by omega]
  have hdvd : (y.toNat % 128 * 2 ^ (7 * k) % 18446744073709551616) % 2 ^ (7 * k) = 0 := by
    rw [Nat.mod_mod_of_dvd _ ⟨_, h64⟩]
    exact Nat.mul_mod_left _ _
  have hor : z ||| (y.toNat % 128 * 2 ^ (7 * k) % 18446744073709551616) = z + (y.toNat % 128 * 2 ^ (7 * k) % 18446744073709551616) := by
    rw [Nat.or_comm, nat_join (7 * k) _ z hdvd (by omega), Nat.add_comm]
  rw [hor, V.val_snoc, hp, show (128 : Nat) ^ k = 2 ^ (7 * k) by rw [Nat.pow_mul], hzp, Nat.mul_comm (2 ^ (7 * k)) (y.toNat % 128)]
  congr 1
  -- both are below the modulus, or congruent
  have hlt : V.val p + y.toNat % 128 * 2 ^ (7 * k) % 18446744073709551616 < 18446744073709551616 := by
    have hm : y.toNat % 128 * 2 ^ (7 * k) % 18446744073709551616 ≤ 18446744073709551616 - 2 ^ (7 * k) := by
      have h1 : y.toNat % 128 * 2 ^ (7 * k) % 18446744073709551616 < 18446744073709551616 := Nat.mod_lt _ (by decide)
      have h2 : ∃ a, y.toNat % 128 * 2 ^ (7 * k) % 18446744073709551616 = 2 ^ (7 * k) * a := ⟨_, (Nat.mul_div_cancel' (Nat.dvd_of_mod_eq_zero hdvd)).symm⟩
      obtain ⟨a, ha⟩ := h2
      rw [ha] at h1 ⊢
      have h3 : a < 2 ^ (64 - 7 * k) := by
        rcases Nat.lt_or_ge a (2 ^ (64 - 7 * k)) with h | h
        · exact h
        · have := Nat.mul_le_mul_left (2 ^ (7 * k)) h
          rw [← h64] at this
          omega
      have h4 : 2 ^ (7 * k) * (a + 1) ≤ 2 ^ (7 * k) * 2 ^ (64 - 7 * k) := Nat.mul_le_mul_left _ h3
      rw [← h64, Nat.mul_add, Nat.mul_one] at h4
      omega
    omega
  rw [Nat.add_mod, Nat.mod_eq_of_lt (a := V.val p) (by omega), Nat.mod_eq_of_lt hlt]
theorem par_odd (z : Nat) (hz : z < 18446744073709551616) (h : z % 2 = 1) : (bits .and .u64 (z : Int) 1 == 1) = true := by
  have := u64_and_nat z 1 hz (by decide)
  rw [nat_mask1, h] at this
  have e : bits .and .u64 (z : Int) 1 = 1 := this
  rw [e]; rfl
theorem par_even (z : Nat) (hz : z < 18446744073709551616) (h : z % 2 = 0) : (bits .and .u64 (z : Int) 1 == 1) = false := by
  have := u64_and_nat z 1 hz (by decide)
  rw [nat_mask1, h] at this
  have e : bits .and .u64 (z : Int) 1 = 0 := this
  rw [e]; rfl
theorem not_half (q : Nat) (hq : q < 9223372036854775808) : bits .xor .i64 (-1) (q : Int) = -(q : Int) - 1 := by
  have e1 : (BitVec.ofInt 64 (q : Int)).toNat = q := by
    rw [BitVec.ofInt_natCast, BitVec.toNat_ofNat]; exact Nat.mod_eq_of_lt (by omega)
  have e2 : (BitVec.ofInt 64 (-1)).toNat = 18446744073709551615 := by decide
  show IntKind.i64.wrap ((BitVec.ofInt 64 (-1) ^^^ BitVec.ofInt 64 (q : Int)).toNat : Int) = _
  rw [BitVec.toNat_xor, e1, e2, ones_xor q (by omega), IntKind.wrap_i64]
  omega

theorem unzig_even (z q : Nat) (h : z % 2 = 0) (hq : q = z / 2) : V.unzig z = (q : Int) := by unfold V.unzig; rw [if_pos h, hq]
theorem unzig_odd (z q : Nat) (h : z % 2 = 1) (hq : q = z / 2) : V.unzig z = -(q : Int) - 1 := by unfold V.unzig; rw [if_neg (by omega), hq]

set_option maxHeartbeats 4000000 in
/-- wire.Int -/
theorem int_any (A : Option Addr) (n c : Nat) (l : List UInt8) (w : World) (hl : RB w A n c l) : Calls Tryd.prog 66 #[.slice A n c] w (RetD w (V.dec l)) := by
  have hlen := hl.len
  have hbig := Nat.le_trans hl.cap hl.big
  unfold maxLen at hbig
  have HL := Lib.hid hl
  clear hl
  by_cases hn10 : n ≤ 10
  all_goals
    go_enter Tryd.func66, Tryd.ntmps66
    go_wp2
    go_loop [5, 10] (fun u i => ∃ k z : Nat, k ≤ n ∧ k ≤ 10 ∧ i = .int .i64 k ∧ u = .int .u64 (z : Int) ∧ V.Up (l.take k) ∧ z = V.val (l.take k) % 18446744073709551616) (fun _ i => 10 - (intOf i).toNat)
    case atStart => exact ⟨0, 0, Nat.zero_le _, by omega, rfl, rfl, (fun y hy => by cases hy), rfl⟩
    case round =>
      obtain ⟨k, z, hkn, hk10, rfl, rfl, hup, hz⟩ := hrel
      have HU : Keep (V.Up (l.take k)) := ⟨hup⟩
      have HZ : Keep (z = V.val (l.take k) % 18446744073709551616) := ⟨hz⟩
      clear hup hz
      by_cases hlt : k < n ∧ k < 10
      · obtain ⟨h1, h2⟩ := hlt
        obtain ⟨b, o, rfl, _, hck⟩ := HL.out.at_ (k := k) (by omega)
        have HY : Keep (l = l.take k ++ l[k] :: l.drop (k + 1)) := ⟨by simp⟩
        have HP : Keep ((l.take k).length = k) := ⟨by rw [List.length_take]; omega⟩
        have HN : Keep (l.take (k + 1) = l.take k ++ [l[k]]) := ⟨List.take_succ_eq_append_getElem (by omega)⟩
        generalize l[k] = y at *
        obtain ⟨z', hz'⟩ : ∃ z', z' = V.val (l.take k ++ [y]) % 18446744073709551616 := ⟨_, rfl⟩
        have hv : bits .or .u64 (z : Int) (IntKind.u64.wrap (IntKind.u64.wrap (bits .and .u8 (y.toNat : Int) 127) * 2 ^ (7 * k))) = (z' : Int) := by
          rw [hz']
          exact or_digit (l.take k) y z k h2 HP.out HZ.out
        have HZ' : Keep (z' = V.val (l.take k ++ [y]) % 18446744073709551616) := ⟨hz'⟩
        have HLT : Keep (z' < 18446744073709551616) := ⟨by rw [hz']; exact Nat.mod_lt _ (by decide)⟩
        clear hz'
        by_cases hy : 128 ≤ y.toNat
        · have d1 : decide ((128 : Int) ≤ (y.toNat : Int)) = true := by simp; omega
          have HUP : Keep (V.Up (l.take (k + 1))) := ⟨by
            rw [HN.out]
            intro x hx
            rcases List.mem_append.1 hx with hx | hx
            · exact HU.out x hx
            · simp at hx; subst hx; exact hy⟩
          go_wp2
          go_round
          case rel => exact ⟨k + 1, z', by omega, by omega, by go_num, rfl, HUP.out, by rw [HN.out]; exact HZ'.out⟩
          case measure => simp [intOf]; omega
        · have d1 : decide ((128 : Int) ≤ (y.toNat : Int)) = false := by simp; omega
          have HD : Keep (V.dec l = if 10 ≤ k then (0, 0, 4) else if (0 < k ∧ y.toNat = 0) ∨ (k = 9 ∧ 1 < y.toNat) then (0, 0, 4) else (V.unzig (V.val (l.take k ++ [y])), k + 1, 0)) := ⟨by
            have h := V.dec_at HU.out (show y.toNat < 128 by omega) (l.drop (k + 1))
            rw [HP.out, ← HY.out] at h
            exact h⟩
          by_cases hbad1 : 0 < k ∧ y.toNat = 0
          · obtain ⟨hk0, hy0⟩ := hbad1
            have d2 : decide ((0 : Int) < (k : Int)) = true := by simp; omega
            have d3 : ((y.toNat : Int) == 0) = true := by simp; omega
            have HE : Keep (V.dec l = (0, 0, 4)) := ⟨by rw [HD.out, if_neg (by omega), if_pos (.inl ⟨hk0, hy0⟩)]⟩
            clear hy0
            go_wp2
            go_ret3
            exact ⟨by rw [HE.out]; rfl, rfl⟩
          · by_cases hbad2 : k = 9 ∧ 1 < y.toNat
            · obtain ⟨h9, hy1⟩ := hbad2
              have d3 : ((y.toNat : Int) == 0) = false := by simp; omega
              have d4 : decide ((1 : Int) < (y.toNat : Int)) = true := by simp; omega
              have d5 : ((k : Int) == 9) = true := by simp; omega
              have hk0 : 0 < k := by omega
              have HE : Keep (V.dec l = (0, 0, 4)) := ⟨by rw [HD.out, if_neg (by omega), if_pos (.inr ⟨h9, hy1⟩)]⟩
              clear h9 hbad1
              go_wp2
              go_ret3
              exact ⟨by rw [HE.out]; rfl, rfl⟩
            · have HE : Keep (V.dec l = (V.unzig z', k + 1, 0)) := ⟨by
                have hd := HD.out
                rw [if_neg (by omega), if_neg (by rintro (h | h) <;> contradiction)] at hd
                have hval : V.val (l.take k ++ [y]) < 18446744073709551616 := by
                  have hok := V.dec_ok hd
                  have hin := V.zig_lt hok.2.2.2
                  rwa [V.zig_unzig] at hin
                rw [hd, HZ'.out, Nat.mod_eq_of_lt hval]⟩
              obtain ⟨q, hq⟩ : ∃ q, q = z' / 2 := ⟨_, rfl⟩
              have hq1 : (z' : Int) / 2 = (q : Int) := by omega
              have hql : q < 9223372036854775808 := by have := HLT.out; omega
              have hq2 : wrap64 (q : Int) = (q : Int) := IntWalk.wrap64_in _ (by omega)
              have hq3 := not_half q hql
              have HQ : Keep (q = z' / 2) := ⟨hq⟩
              have dk : decide ((0 : Int) < (k : Int)) = decide (0 < k) := by simp
              clear hq hql
              rcases Nat.mod_two_eq_zero_or_one z' with hpar | hpar
              all_goals
                first
                | (have hp1 := par_even z' HLT.out hpar
                   have HF : Keep (V.dec l = ((q : Int), k + 1, 0)) := ⟨by rw [HE.out, unzig_even z' q hpar HQ.out]⟩)
                | (have hp1 := par_odd z' HLT.out hpar
                   have HF : Keep (V.dec l = (-(q : Int) - 1, k + 1, 0)) := ⟨by rw [HE.out, unzig_odd z' q hpar HQ.out]⟩)
                clear hpar dk
                by_cases h9 : k = 9
                · have d3 : ((y.toNat : Int) == 0) = false := by simp; omega
                  have d4 : decide ((1 : Int) < (y.toNat : Int)) = false := by simp; omega
                  have d5 : ((k : Int) == 9) = true := by simp; omega
                  have hk0 : 0 < k := by omega
                  clear h9 hbad1 hbad2
                  go_wp2
                  go_ret3
                  exact ⟨by rw [HF.out]; rfl, rfl⟩
                · have d5 : ((k : Int) == 9) = false := by simp; omega
                  clear h9 hbad2
                  by_cases hk0 : 0 < k
                  · have d3 : ((y.toNat : Int) == 0) = false := by simp; omega
                    clear hbad1
                    go_wp2
                    go_ret3
                    exact ⟨by rw [HF.out]; rfl, rfl⟩
                  · clear hbad1
                    go_wp2
                    go_ret3
                    exact ⟨by rw [HF.out]; rfl, rfl⟩
      · have HUL : Keep (V.Up (l.take k)) := HU
        by_cases hk : k = n
        · have HE : Keep (V.dec l = if 10 ≤ n then (0, 0, 4) else (0, 0, 5)) := ⟨by
            have h := HU.out
            rw [List.take_of_length_le (by omega)] at h
            rw [V.dec_up h, hlen]⟩
          by_cases h10 : 10 ≤ n
          · have HF : Keep (V.dec l = (0, 0, 4)) := ⟨by rw [HE.out, if_pos h10]⟩
            go_wp2
            all_goals (go_ret3; exact ⟨by rw [HF.out]; rfl, rfl⟩)
          · have HF : Keep (V.dec l = (0, 0, 5)) := ⟨by rw [HE.out, if_neg h10]⟩
            go_wp2
            all_goals (go_ret3; exact ⟨by rw [HF.out]; rfl, rfl⟩)
        · have HF : Keep (V.dec l = (0, 0, 4)) := ⟨by
            obtain rfl : k = 10 := by omega
            have hle : 10 ≤ V.lead l := by
              have h := V.lead_mono HU.out (l.drop 10)
              rw [List.take_append_drop, List.length_take] at h
              omega
            unfold V.dec
            rw [if_pos hle]⟩
          go_wp2
          all_goals (go_ret3; exact ⟨by rw [HF.out]; rfl, rfl⟩)
end Go.Proofs.YtjficpdfofmcnaaDoor

/- The contracts of the reference's functions of chapter 2. -/
namespace Go.Proofs.YtjficpdfofmcnaaDoor
open Go.RowKit Go.Joins

theorem rzig_neg {x : Int} (h : V.In x) (hn : x < 0) : IntKind.u64.wrap (IntKind.u64.wrap (2 * IntKind.u64.wrap (-(x + 1))) + 1) = ((V.zig x : Nat) : Int) := by
  obtain ⟨h1, h2⟩ := h
  rw [IntKind.wrap_u64, IntKind.wrap_u64, IntKind.wrap_u64]
  unfold V.zig
  rw [if_pos hn]
  omega
theorem rzig_pos {x : Int} (h : V.In x) (hn : ¬ x < 0) : IntKind.u64.wrap (2 * IntKind.u64.wrap x) = ((V.zig x : Nat) : Int) := by
  obtain ⟨h1, h2⟩ := h
  rw [IntKind.wrap_u64, IntKind.wrap_u64]
  unfold V.zig
  rw [if_neg hn]
  omega
theorem rdigit (z : Nat) : IntKind.u8.wrap (((z : Int) % 128) + 128) = ((updig z).toNat : Int) := by
  unfold updig
  rw [UInt8.toNat_ofNat', IntKind.wrap_u8]
  omega
set_option maxHeartbeats 4000000 in
/-- mapsheetsref02.PutInt, from the loop on: what is left to write is 'uvar f z'. -/
theorem rputInt_any (A : Option Addr) (n c : Nat) (l : List UInt8) (x : Int) (w : World) (hl : RB w A n c l) (hx : V.In x) (hroom : n + 10 ≤ 140737488355328) :
    Calls Tryd.prog 75 #[.slice A n c, .int .i64 x] w (RetT w w.heap.size (l ++ V.enc x)) := by
  have HX : Keep (V.In x) := ⟨hx⟩
  have HL := Lib.hid hl
  have hlen := hl.len
  clear hl
  by_cases hneg : x < 0
  · have e1 : wrap64 (x + 1) = x + 1 := IntWalk.wrap64_in _ (by unfold V.In at hx; omega)
    have e2 : wrap64 (-(x + 1)) = -(x + 1) := IntWalk.wrap64_in _ (by unfold V.In at hx; omega)
    clear hx
    go_enter Tryd.func75, Tryd.ntmps75
    go_wp2_with (at_builtin; refine append_b _ rfl (.tmp 18) (.tmp 19) rfl w.heap.size _ 0 0 [] rfl (tb_empty _ _) A n c l rfl (HL.out.below (below_alloc1 _ _)) (by omega) (by simp) ?_; intro A2 n2 c2 w2 ht hb; have hn2 : l.length = n2 := ht.len; have HO := Lib.hid ht; have HB2 : Hid (Below w.heap.size w w2) := (below_alloc1 _ _).trans hb; obtain rfl : n = n2 := (by omega); clear ht hb hn2)
    rw [rzig_neg HX.out hneg]
    go_loopw [5, 6] (fun u v wr => ∃ (f z : Nat) (A' : Option Addr) (n' c' : Nat) (d : List UInt8), u = .int .u64 (z : Int) ∧ v = .slice A' n' c' ∧ TB wr w.heap.size A' n' c' (l ++ d) ∧ V.enc x = d ++ V.uvar f z ∧ z < 128 ^ (f + 1) ∧ d.length + f = 9 ∧ z < 18446744073709551616 ∧ Below w.heap.size w wr) (fun u _ _ => (intOf u).toNat)
    case atStart => exact ⟨9, V.zig x, A2, n, c2, [], rfl, rfl, by simpa using HO.out, rfl, Nat.lt_of_lt_of_le (V.zig_lt HX.out) (by decide), rfl, V.zig_lt HX.out, HB2.out⟩
    case round =>
      obtain ⟨f, z, A', n', c', d, rfl, rfl, ht, he, hz, hdf, hz64, hb⟩ := hrel
      have hn' : n' ≤ n + 9 := by
        have := ht.len
        rw [List.length_append] at this
        omega
      have hbs := hb.size
      have HT := Lib.hid ht
      have HE : Keep (V.enc x = d ++ V.uvar f z) := ⟨he⟩
      have HZ : Keep (z < 128 ^ (f + 1)) := ⟨hz⟩
      have HD := Lib.hid hdf
      have HB := Lib.hid hb
      have H64 : Keep (z < 18446744073709551616) := ⟨hz64⟩
      clear ht he hz hdf hb hz64
      by_cases hlt : z < 128
      · obtain ⟨y, rfl⟩ : ∃ y : UInt8, z = y.toNat := ⟨UInt8.ofNat z, by rw [UInt8.toNat_ofNat']; omega⟩
        have hd : decide ((128 : Int) ≤ (y.toNat : Int)) = false := by simp; omega
        have HU : Keep (V.uvar f y.toNat = [y]) := ⟨by rw [V.uvar_small f _ hlt]; simp⟩
        go_wp2_with (at_builtin; refine append_b1 _ rfl (.tmp 32) (.tmp 35) rfl w.heap.size A' n' c' _ rfl (HT.out.below (below_alloc1 _ _)) _ 1 1 [y] rfl (rb_one _ _) (by omega) (by omega) (by simp; omega) ?_; intro A2 n2 c2 w2 ht hb; have HT2 := Lib.hid ht; have HB3 := Lib.hid hb; clear ht hb)
        go_ret
        refine ⟨A2, n2, c2, rfl, ?_, (HB.out.alloc hbs _).trans HB3.out⟩
        rw [HE.out, HU.out, ← List.append_assoc]
        exact HT2.out
      · have h1 := rdigit z
        have h2 : IntKind.u64.wrap ((z : Int) / 128) = ((z / 128 : Nat) : Int) := by have := H64.out; rw [IntKind.wrap_u64]; omega
        have hd : decide ((128 : Int) ≤ (z : Int)) = true := by simp; omega
        have hf : ∃ g, f = g + 1 := by
          cases f with
          | zero => have := HZ.out; simp at this; omega
          | succ g => exact ⟨g, rfl⟩
        obtain ⟨g, rfl⟩ := hf
        have HU : Keep (V.uvar (g + 1) z = updig z :: V.uvar g (z / 128)) := ⟨V.uvar_big g z hlt⟩
        go_wp2_with (at_builtin; refine append_b _ rfl (.tmp 23) (.tmp 28) rfl w.heap.size A' n' c' _ rfl (HT.out.below (below_alloc1 _ _)) _ 1 1 [updig z] rfl (rb_one _ _) (by omega) (by simp; omega) ?_; intro A2 n2 c2 w2 ht hb; have HT2 := Lib.hid ht; have HB3 := Lib.hid hb; clear ht hb)
        go_roundw
        case rel =>
          refine ⟨g, z / 128, A2, n2, c2, d ++ [updig z], ?_, rfl, ?_, ?_, ?_, ?_, (by have := H64.out; omega), (HB.out.alloc hbs _).trans HB3.out⟩
          · simp
          · rw [← List.append_assoc]; exact HT2.out
          · rw [HE.out, HU.out]; simp
          · have := HZ.out; rw [Nat.pow_succ] at this; omega
          · have := HD.out; simp; omega
        case measure => simp [intOf]; omega
  · clear hx
    go_enter Tryd.func75, Tryd.ntmps75
    go_wp2_with (at_builtin; refine append_b _ rfl (.tmp 18) (.tmp 19) rfl w.heap.size _ 0 0 [] rfl (tb_empty _ _) A n c l rfl (HL.out.below (below_alloc1 _ _)) (by omega) (by simp) ?_; intro A2 n2 c2 w2 ht hb; have hn2 : l.length = n2 := ht.len; have HO := Lib.hid ht; have HB2 : Hid (Below w.heap.size w w2) := (below_alloc1 _ _).trans hb; obtain rfl : n = n2 := (by omega); clear ht hb hn2)
    rw [rzig_pos HX.out (by omega)]
    go_loopw [5, 6] (fun u v wr => ∃ (f z : Nat) (A' : Option Addr) (n' c' : Nat) (d : List UInt8), u = .int .u64 (z : Int) ∧ v = .slice A' n' c' ∧ TB wr w.heap.size A' n' c' (l ++ d) ∧ V.enc x = d ++ V.uvar f z ∧ z < 128 ^ (f + 1) ∧ d.length + f = 9 ∧ z < 18446744073709551616 ∧ Below w.heap.size w wr) (fun u _ _ => (intOf u).toNat)
    case atStart => exact ⟨9, V.zig x, A2, n, c2, [], rfl, rfl, by simpa using HO.out, rfl, Nat.lt_of_lt_of_le (V.zig_lt HX.out) (by decide), rfl, V.zig_lt HX.out, HB2.out⟩
    case round =>
      obtain ⟨f, z, A', n', c', d, rfl, rfl, ht, he, hz, hdf, hz64, hb⟩ := hrel
      have hn' : n' ≤ n + 9 := by
        have := ht.len
        rw [List.length_append] at this
        omega
      have hbs := hb.size
      have HT := Lib.hid ht
      have HE : Keep (V.enc x = d ++ V.uvar f z) := ⟨he⟩
      have HZ : Keep (z < 128 ^ (f + 1)) := ⟨hz⟩
      have HD := Lib.hid hdf
      have HB := Lib.hid hb
      have H64 : Keep (z < 18446744073709551616) := ⟨hz64⟩
      clear ht he hz hdf hb hz64
      by_cases hlt : z < 128
      · obtain ⟨y, rfl⟩ : ∃ y : UInt8, z = y.toNat := ⟨UInt8.ofNat z, by rw [UInt8.toNat_ofNat']; omega⟩
        have hd : decide ((128 : Int) ≤ (y.toNat : Int)) = false := by simp; omega
        have HU : Keep (V.uvar f y.toNat = [y]) := ⟨by rw [V.uvar_small f _ hlt]; simp⟩
        go_wp2_with (at_builtin; refine append_b1 _ rfl (.tmp 32) (.tmp 35) rfl w.heap.size A' n' c' _ rfl (HT.out.below (below_alloc1 _ _)) _ 1 1 [y] rfl (rb_one _ _) (by omega) (by omega) (by simp; omega) ?_; intro A2 n2 c2 w2 ht hb; have HT2 := Lib.hid ht; have HB3 := Lib.hid hb; clear ht hb)
        go_ret
        refine ⟨A2, n2, c2, rfl, ?_, (HB.out.alloc hbs _).trans HB3.out⟩
        rw [HE.out, HU.out, ← List.append_assoc]
        exact HT2.out
      · have h1 := rdigit z
        have h2 : IntKind.u64.wrap ((z : Int) / 128) = ((z / 128 : Nat) : Int) := by have := H64.out; rw [IntKind.wrap_u64]; omega
        have hd : decide ((128 : Int) ≤ (z : Int)) = true := by simp; omega
        have hf : ∃ g, f = g + 1 := by
          cases f with
          | zero => have := HZ.out; simp at this; omega
          | succ g => exact ⟨g, rfl⟩
        obtain ⟨g, rfl⟩ := hf
        have HU : Keep (V.uvar (g + 1) z = updig z :: V.uvar g (z / 128)) := ⟨V.uvar_big g z hlt⟩
        go_wp2_with (at_builtin; refine append_b _ rfl (.tmp 23) (.tmp 28) rfl w.heap.size A' n' c' _ rfl (HT.out.below (below_alloc1 _ _)) _ 1 1 [updig z] rfl (rb_one _ _) (by omega) (by simp; omega) ?_; intro A2 n2 c2 w2 ht hb; have HT2 := Lib.hid ht; have HB3 := Lib.hid hb; clear ht hb)
        go_roundw
        case rel =>
          refine ⟨g, z / 128, A2, n2, c2, d ++ [updig z], ?_, rfl, ?_, ?_, ?_, ?_, (by have := H64.out; omega), (HB.out.alloc hbs _).trans HB3.out⟩
          · simp
          · rw [← List.append_assoc]; exact HT2.out
          · rw [HE.out, HU.out]; simp
          · have := HZ.out; rw [Nat.pow_succ] at this; omega
          · have := HD.out; simp; omega
        case measure => simp [intOf]; omega
end Go.Proofs.YtjficpdfofmcnaaDoor

/- mapsheetsref02.Int. -/
namespace Go.Proofs.YtjficpdfofmcnaaDoor
open Go.RowKit Go.Joins

theorem val_drop_le (l : List UInt8) (j : Nat) : V.val (l.drop j) ≤ V.val l := by
  have h := V.val_append (l.take j) (l.drop j)
  rw [List.take_append_drop] at h
  have : 1 * V.val (l.drop j) ≤ 128 ^ (l.take j).length * V.val (l.drop j) := Nat.mul_le_mul_right _ (Nat.pos_of_ne_zero (by simp))
  omega
theorem val_drop_step (l : List UInt8) (j : Nat) (h : j < l.length) : V.val (l.drop j) = V.val (l.drop (j + 1)) * 128 + l[j].toNat % 128 := by
  rw [List.drop_eq_getElem_cons h]
  show l[j].toNat % 128 + 128 * V.val (l.drop (j + 1)) = _
  omega

theorem ret_d {l : List UInt8} {a : Int} {k : Nat} {w : World} (h : V.dec l = (a, k + 1, 0)) : RetD w (V.dec l) (.returned (.tuple #[.int .i64 a, .int .i64 ((k : Int) + 1), .int .i64 0])) w := by
  rw [h]
  exact ⟨rfl, rfl⟩

set_option maxHeartbeats 4000000 in
theorem rint_any (A : Option Addr) (n c : Nat) (l : List UInt8) (w : World) (hl : RB w A n c l) : Calls Tryd.prog 71 #[.slice A n c] w (RetD w (V.dec l)) := by
  have hlen := hl.len
  have hbig := Nat.le_trans hl.cap hl.big
  unfold maxLen at hbig
  have HL := Lib.hid hl
  clear hl
  go_enter Tryd.func71, Tryd.ntmps71
  go_wp2
  go_loop [5] (fun i => ∃ k : Nat, k ≤ n ∧ k ≤ 10 ∧ i = .int .i64 k ∧ V.Up (l.take k)) (fun i => 10 - (intOf i).toNat)
  case atStart => exact ⟨0, Nat.zero_le _, by omega, rfl, (fun y hy => by cases hy)⟩
  case round =>
    obtain ⟨k, hkn, hk10, rfl, hup⟩ := hrel
    have HU : Keep (V.Up (l.take k)) := ⟨hup⟩
    clear hup
    by_cases h10 : k = 10
    · subst h10
      have HF : Keep (V.dec l = (0, 0, 4)) := ⟨by
        have hle : 10 ≤ V.lead l := by
          have h := V.lead_mono HU.out (l.drop 10)
          rw [List.take_append_drop, List.length_take] at h
          omega
        unfold V.dec
        rw [if_pos hle]⟩
      go_wp2
      all_goals (go_ret3; exact ⟨by rw [HF.out]; rfl, rfl⟩)
    · have hk9 : k < 10 := by omega
      have b10 : ((k : Int) == 10) = false := by simp; omega
      by_cases hk : k = n
      · have HF : Keep (V.dec l = (0, 0, 5)) := ⟨by
          have h := HU.out
          rw [List.take_of_length_le (by omega)] at h
          rw [V.dec_up h, if_neg (by omega)]⟩
        clear h10
        subst hk
        go_wp2
        all_goals (go_ret3; exact ⟨by rw [HF.out]; rfl, rfl⟩)
      · have h1 : k < n := by omega
        have bn : ((k : Int) == (n : Int)) = false := by simp; omega
        obtain ⟨b, o, rfl, _, hck⟩ := HL.out.at_ (k := k) (by omega)
        have HY : Keep (l = l.take k ++ l[k] :: l.drop (k + 1)) := ⟨by simp⟩
        have HP : Keep ((l.take k).length = k) := ⟨by rw [List.length_take]; omega⟩
        have HN : Keep (l.take (k + 1) = l.take k ++ [l[k]]) := ⟨List.take_succ_eq_append_getElem (by omega)⟩
        generalize l[k] = y at *
        clear h10 hk
        by_cases hy : 128 ≤ y.toNat
        · have d1 : decide ((128 : Int) ≤ (y.toNat : Int)) = true := by simp; omega
          have HUP : Keep (V.Up (l.take (k + 1))) := ⟨by
            rw [HN.out]
            intro x hx
            rcases List.mem_append.1 hx with hx | hx
            · exact HU.out x hx
            · simp at hx; subst hx; exact hy⟩
          clear hy
          go_wp2
          go_round
          case rel => exact ⟨k + 1, by omega, by omega, by go_num, HUP.out⟩
          case measure => simp [intOf]; omega
        · have d1 : decide ((128 : Int) ≤ (y.toNat : Int)) = false := by simp; omega
          have HD : Keep (V.dec l = if 10 ≤ k then (0, 0, 4) else if (0 < k ∧ y.toNat = 0) ∨ (k = 9 ∧ 1 < y.toNat) then (0, 0, 4) else (V.unzig (V.val (l.take k ++ [y])), k + 1, 0)) := ⟨by
            have h := V.dec_at HU.out (show y.toNat < 128 by omega) (l.drop (k + 1))
            rw [HP.out, ← HY.out] at h
            exact h⟩
          by_cases hbad1 : 0 < k ∧ y.toNat = 0
          · obtain ⟨hk0, hy0⟩ := hbad1
            have d2 : decide ((0 : Int) < (k : Int)) = true := by simp; omega
            have d3 : ((y.toNat : Int) == 0) = true := by simp; omega
            have HE : Keep (V.dec l = (0, 0, 4)) := ⟨by rw [HD.out, if_neg (by omega), if_pos (.inl ⟨hk0, hy0⟩)]⟩
            clear hy0 hy
            go_wp2
            go_ret3
            exact ⟨by rw [HE.out]; rfl, rfl⟩
          · by_cases hbad2 : k = 9 ∧ 1 < y.toNat
            · obtain ⟨h9, hy1⟩ := hbad2
              have d3 : ((y.toNat : Int) == 0) = false := by simp; omega
              have d4 : decide ((1 : Int) < (y.toNat : Int)) = true := by simp; omega
              have d5 : ((k : Int) == 9) = true := by simp; omega
              have hk0 : 0 < k := by omega
              have HE : Keep (V.dec l = (0, 0, 4)) := ⟨by rw [HD.out, if_neg (by omega), if_pos (.inr ⟨h9, hy1⟩)]⟩
              clear h9 hbad1 hy
              go_wp2
              go_ret3
              exact ⟨by rw [HE.out]; rfl, rfl⟩
            · have HE : Keep (V.dec l = (V.unzig (V.val (l.take (k + 1))), k + 1, 0) ∧ V.val (l.take (k + 1)) < 18446744073709551616) := ⟨by
                have hd := HD.out
                rw [if_neg (by omega), if_neg (by rintro (h | h) <;> contradiction)] at hd
                have hval : V.val (l.take k ++ [y]) < 18446744073709551616 := by
                  have hok := V.dec_ok hd
                  have hin := V.zig_lt hok.2.2.2
                  rwa [V.zig_unzig] at hin
                rw [HN.out]
                exact ⟨hd, hval⟩⟩
              have HK1 : Keep ((l.take (k + 1)).length = k + 1) := ⟨by rw [List.length_take]; omega⟩
              have hL1 : k + 1 ≤ l.length := by omega
              have HZ0 : Keep (0 = V.val ((l.take (k + 1)).drop (k + 1))) := ⟨by rw [List.drop_of_length_le (by rw [HK1.out]; omega)]; rfl⟩
              have HN' := HN
              have hcase : (((y.toNat : Int) == 0) = false ∧ decide ((1 : Int) < (y.toNat : Int)) = false ∧ ((k : Int) == 9) = true ∧ 0 < k) ∨ (((y.toNat : Int) == 0) = false ∧ ((k : Int) == 9) = false ∧ 0 < k) ∨ (((k : Int) == 9) = false ∧ ¬ 0 < k) := by
                simp
                omega
              clear hbad1 hbad2
              rcases hcase with ⟨d3, d4, d5, hk0⟩ | ⟨d3, d5, hk0⟩ | ⟨d5, hk0⟩
              all_goals
                go_wp2
                go_loop [6, 7] (fun u i => ∃ (j z : Nat) (q : Int), j ≤ k + 1 ∧ q + 1 = (j : Int) ∧ i = .int .i64 q ∧ u = .int .u64 (z : Int) ∧ z = V.val ((l.take (k + 1)).drop j)) (fun _ i => (intOf i + 1).toNat)
                case atStart => exact ⟨k + 1, 0, k, by omega, by omega, rfl, rfl, HZ0.out⟩
                case round =>
                  obtain ⟨j, z, q, hj, hq, rfl, rfl, hz⟩ := hrel
                  have HZ : Keep (z = V.val ((l.take (k + 1)).drop j)) := ⟨hz⟩
                  clear hz
                  rcases Nat.eq_zero_or_pos j with hj0 | hj0
                  · subst hj0
                    obtain rfl : q = -1 := by omega
                    clear hq
                    have hzl : z < 18446744073709551616 := by have h1 := HZ.out; have h2 := HE.out.2; rw [List.drop_zero] at h1; omega
                    have HF : Keep (V.dec l = (V.unzig z, k + 1, 0)) := ⟨by have h1 := HZ.out; rw [List.drop_zero] at h1; rw [h1]; exact HE.out.1⟩
                    rcases Nat.mod_two_eq_zero_or_one z with hpar | hpar
                    · have f5 : ((z : Int) % 2 == 0) = true := by simp; omega
                      have HG : Keep (V.dec l = ((z : Int) / 2, k + 1, 0)) := ⟨by rw [HF.out, unzig_even z (z / 2) hpar rfl]; simp⟩
                      clear hpar
                      go_wp2
                      go_ret3
                      exact ret_d HG.out
                    · have f5 : ((z : Int) % 2 == 0) = false := by simp; omega
                      have HG : Keep (V.dec l = (-((z : Int) / 2) - 1, k + 1, 0)) := ⟨by rw [HF.out, unzig_odd z (z / 2) hpar rfl]; simp⟩
                      clear hpar
                      go_wp2
                      go_ret3
                      exact ret_d HG.out
                  · obtain ⟨m, rfl⟩ : ∃ m, j = m + 1 := ⟨j - 1, by omega⟩
                    obtain rfl : q = (m : Int) := by omega
                    clear hq hj0
                    obtain ⟨b', o', he, _, hcm⟩ := HL.out.at_ (k := m) (by omega)
                    obtain ⟨rfl, rfl⟩ : b = b' ∧ o = o' := by injection he with he; injection he with h1 h2; exact ⟨h1, h2⟩
                    clear he
                    have hst := val_drop_step (l.take (k + 1)) m (by rw [HK1.out]; omega)
                    rw [← HZ.out, List.getElem_take] at hst
                    have hle := val_drop_le (l.take (k + 1)) m
                    generalize l[m] = y' at *
                    have HS : Keep (z * 128 + y'.toNat % 128 = V.val ((l.take (k + 1)).drop m)) := ⟨hst.symm⟩
                    have hlt : z * 128 + y'.toNat % 128 < 18446744073709551616 := by have := HE.out.2; omega
                    have hy8 := y'.toNat_lt
                    clear hst hle
                    go_wp2
                    go_round
                    case rel => exact ⟨m, z * 128 + y'.toNat % 128, (m : Int) - 1, by omega, by omega, by go_num, by go_num, HS.out⟩
                    case measure => (simp [intOf] <;> omega)
end Go.Proofs.YtjficpdfofmcnaaDoor
