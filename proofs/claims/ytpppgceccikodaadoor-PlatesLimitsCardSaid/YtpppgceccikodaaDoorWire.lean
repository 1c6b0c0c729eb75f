/- The contracts of package wire's functions, as the plain mathematics of YtpppgceccikodaaDoorVar has them. -/
import Derived.Test.YtpppgceccikodaaDoorRows
import Derived.Test.YtpppgceccikodaaDoorVar
import Derived.Test.YtpppgceccikodaaDoorBytes
import Derived.Deep.RegionHeld3
import Derived.Deep.QuietTactic
import Derived.BigQuiet
namespace Go.Proofs.YtpppgceccikodaaDoor
open Go.RowKit Go.Joins

/-- What wire.put leaves: the bytes, and behind them those of the encoding. -/
def RetT (w : World) (base : Nat) (l : List UInt8) (e : Ending) (w' : World) : Prop := ∃ A n c, e = .returned (.slice A n c) ∧ OB w' base A n c l ∧ Below base w w'

theorem ones_xor (y : Nat) (hy : y < 18446744073709551616) : 18446744073709551615 ^^^ y = 18446744073709551615 - y := by
  have hb : (18446744073709551615#64 ^^^ BitVec.ofNat 64 y) = ~~~ BitVec.ofNat 64 y := BitVec.allOnes_xor
  have := congrArg BitVec.toNat hb
  rw [BitVec.toNat_xor, BitVec.toNat_not, BitVec.toNat_ofNat, BitVec.toNat_ofNat, Nat.mod_eq_of_lt (a := y) (by omega)] at this
  simpa using this
theorem zig_neg {x : Int} (h : V.In x) (hn : x < 0) : bits .xor .u64 IntKind.u64.max (IntKind.u64.wrap (IntKind.u64.wrap x * 2)) = ((V.zig x : Nat) : Int) := by
  obtain ⟨h1, h2⟩ := h
  have e : IntKind.u64.wrap (IntKind.u64.wrap x * 2) = ((18446744073709551616 + 2 * x).toNat : Int) := by
    rw [IntKind.wrap_u64, IntKind.wrap_u64]
    omega
  have hlt : (18446744073709551616 + 2 * x).toNat < 18446744073709551616 := by omega
  have em : IntKind.u64.max = ((18446744073709551615 : Nat) : Int) := by decide
  rw [e, em, u64_xor_nat _ _ (by decide) hlt]
  rw [ones_xor _ hlt]
  unfold V.zig
  rw [if_pos hn]
  omega
theorem zig_pos {x : Int} (h : V.In x) (hn : ¬ x < 0) : IntKind.u64.wrap (IntKind.u64.wrap x * 2) = ((V.zig x : Nat) : Int) := by
  obtain ⟨h1, h2⟩ := h
  rw [IntKind.wrap_u64, IntKind.wrap_u64]
  unfold V.zig
  rw [if_neg hn]
  omega
/-- A raised digit. -/
def updig (z : Nat) : UInt8 := UInt8.ofNat (z % 128 + 128)
theorem or128 (z : Nat) : bits .or .u8 ((z : Int) % 256) 128 = ((updig z).toNat : Int) := by
  have e : ((z : Int) % 256) = ((z % 256 : Nat) : Int) := by omega
  have hlt : z % 256 < 256 := Nat.mod_lt _ (by decide)
  have h := u8_or_nat (z % 256) 128 hlt (by decide)
  rw [e]
  refine h.trans ?_
  unfold updig
  rw [UInt8.toNat_ofNat']
  have h2 : z % 256 ||| 128 = z % 128 + 128 := by
    have : ∀ y : Fin 256, y.1 ||| 128 = y.1 % 128 + 128 := by decide +kernel
    have h3 := this ⟨z % 256, hlt⟩
    simp only at h3
    rw [h3]
    omega
  rw [h2]
  omega

set_option maxHeartbeats 400000 in
/-- wire.put: what is left to write is 'uvar f z'. -/
theorem put_any (A : Option Addr) (n c : Nat) (l : List UInt8) (x : Int) (base : Nat) (w : World) (hl : TB w base A n c l) (hx : V.In x) (hroom : n + 10 ≤ 140737488355328) (hbase : base ≤ w.heap.size) :
    Calls Tryd.prog 40 #[.slice A n c, .int .i64 x] w (RetT w base (l ++ V.enc x)) := by
  have HX : Keep (V.In x) := ⟨hx⟩
  have HL := Lib.hid hl
  have hlen := hl.len
  clear hx hl
  by_cases hneg : x < 0
  all_goals
    go_enter Tryd.func40, Tryd.ntmps40
    go_wp2
    first | rw [zig_neg HX.out hneg] | rw [zig_pos HX.out (by omega)]
    go_loopw [0, 5] (fun v u wr => ∃ (f z : Nat) (A' : Option Addr) (n' c' : Nat) (d : List UInt8), u = .int .u64 (z : Int) ∧ v = .slice A' n' c' ∧ TB wr base A' n' c' (l ++ d) ∧ V.enc x = d ++ V.uvar f z ∧ z < 128 ^ (f + 1) ∧ d.length + f = 9 ∧ Below base w wr) (fun _ u _ => (intOf u).toNat)
    case atStart => exact ⟨9, V.zig x, A, n, c, [], rfl, rfl, by simpa using HL.out, rfl, Nat.lt_of_lt_of_le (V.zig_lt HX.out) (by decide), rfl, Below.refl _ _⟩
    case round =>
      obtain ⟨f, z, A', n', c', d, rfl, rfl, ht, he, hz, hdf, hb⟩ := hrel
      have hn' : n' ≤ n + 9 := by
        have := ht.len
        rw [List.length_append] at this
        omega
      have hbs := Nat.le_trans hbase hb.size
      have HT := Lib.hid ht
      have HE : Keep (V.enc x = d ++ V.uvar f z) := ⟨he⟩
      have HZ : Keep (z < 128 ^ (f + 1)) := ⟨hz⟩
      have HD := Lib.hid hdf
      have HB := Lib.hid hb
      clear ht he hz hdf hb
      by_cases hlt : z < 128
      · obtain ⟨y, rfl⟩ : ∃ y : UInt8, z = y.toNat := ⟨UInt8.ofNat z, by rw [UInt8.toNat_ofNat']; omega⟩
        have hd : decide ((128 : Int) ≤ (y.toNat : Int)) = false := by simp; omega
        have HU : Keep (V.uvar f y.toNat = [y]) := ⟨by rw [V.uvar_small f _ hlt]; simp⟩
        go_wp2_with (at_builtin; refine append_b1 _ rfl (.tmp 23) (.tmp 26) rfl base A' n' c' _ rfl (HT.out.below (below_alloc1 _ _)) _ 1 1 [y] rfl (rb_one _ _) (by omega) (by omega) (by simp; omega) ?_; intro A2 n2 c2 w2 ht hb; have HT2 := Lib.hid ht; have HB2 := Lib.hid hb; clear ht hb)
        go_ret
        refine ⟨A2, n2, c2, rfl, ?_, (HB.out.alloc hbs _).trans HB2.out⟩
        rw [HE.out, HU.out, ← List.append_assoc]
        exact HT2.out
      · have h1 := or128 z
        have hd : decide ((128 : Int) ≤ (z : Int)) = true := by simp; omega
        have hf : ∃ g, f = g + 1 := by
          cases f with
          | zero => have := HZ.out; simp at this; omega
          | succ g => exact ⟨g, rfl⟩
        obtain ⟨g, rfl⟩ := hf
        have HU : Keep (V.uvar (g + 1) z = updig z :: V.uvar g (z / 128)) := ⟨V.uvar_big g z hlt⟩
        go_wp2_with (at_builtin; refine append_b _ rfl (.tmp 15) (.tmp 19) rfl base A' n' c' _ rfl (HT.out.below (below_alloc1 _ _)) _ 1 1 [updig z] rfl (rb_one _ _) (by omega) (by simp; omega) ?_; intro A2 n2 c2 w2 ht hb; have HT2 := Lib.hid ht; have HB2 := Lib.hid hb; clear ht hb)
        go_roundw
        case rel =>
          refine ⟨g, z / 128, A2, n2, c2, d ++ [updig z], ?_, rfl, ?_, ?_, ?_, ?_, (HB.out.alloc hbs _).trans HB2.out⟩
          · simp
          · rw [← List.append_assoc]; exact HT2.out
          · rw [HE.out, HU.out]; simp
          · have := HZ.out; rw [Nat.pow_succ] at this; omega
          · have := HD.out; simp; omega
        case measure => simp [intOf]; omega

/-- wire.PutInt -/
theorem putInt_any (A : Option Addr) (n c : Nat) (l : List UInt8) (x : Int) (w : World) (hl : RB w A n c l) (hx : V.In x) (hroom : n + 10 ≤ 140737488355328) :
    Calls Tryd.prog 29 #[.slice A n c, .int .i64 x] w (RetT w w.heap.size (l ++ V.enc x)) := by
  have hcap := hl.cap
  have hp := put_any A n n l x w.heap.size w (TB.full hl) hx hroom (Nat.le_refl _)
  have HP := Lib.hid hp
  clear hl hx hp
  go_enter Tryd.func29, Tryd.ntmps29
  go_wp2_with fail
  refine HP.out.mono ?_
  rintro e w1 ⟨A1, n1, c1, rfl, ht, hb⟩
  have HT := Lib.hid ht
  have HB := Lib.hid hb
  clear ht hb
  go_wp2
  go_ret
  exact ⟨A1, n1, c1, rfl, HT.out, HB.out⟩
end Go.Proofs.YtpppgceccikodaaDoor
