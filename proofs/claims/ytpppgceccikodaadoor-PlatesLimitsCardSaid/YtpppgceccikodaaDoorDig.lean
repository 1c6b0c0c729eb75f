/- The contracts of package digest's functions and of the reference's: what each returns, as the plain mathematics of YtpppgceccikodaaDoorCrc has it. -/
import Derived.Test.YtpppgceccikodaaDoorRows
import Derived.Test.YtpppgceccikodaaDoorCrc
import Derived.Test.YtpppgceccikodaaDoorBytes
namespace Go.Proofs.YtpppgceccikodaaDoor
open Go.RowKit Go.Joins

/-- A number of 32 bits as the model's integer. -/
def w32 (x : BitVec 32) : Int := (x.toNat : Int)
def w64 (x : BitVec 64) : Int := (x.toNat : Int)
theorem u32_lt (x : BitVec 32) : w32 x < 4294967296 := by have := x.isLt; unfold w32; omega
theorem u32_nn (x : BitVec 32) : 0 ≤ w32 x := by unfold w32; omega
theorem x32 (a b : BitVec 32) : bits .xor .u32 (w32 a) (w32 b) = w32 (a ^^^ b) := by
  unfold w32
  rw [u32_xor_nat _ _ a.isLt b.isLt, BitVec.toNat_xor]
theorem n32 (a : BitVec 32) : bits .and .u32 (w32 a) 15 = w32 (a &&& 15#32) := by
  unfold w32
  have := u32_and_nat a.toNat 15 a.isLt (by decide)
  rw [BitVec.toNat_and]
  exact this
theorem s32 (a : BitVec 32) : w32 a / (16 : Int) = w32 (a >>> 4) := by
  unfold w32
  rw [BitVec.toNat_ushiftRight, Nat.shiftRight_eq_div_pow]
  omega
theorem sx32 (a b : BitVec 32) : bits .xor .u32 (w32 a / 16) (w32 b) = w32 ((a >>> 4) ^^^ b) := by rw [s32, x32]
theorem e32 (c : UInt8) : ((c.toNat : Int) % 4294967296) = w32 (M.ext c) := by
  unfold w32 M.ext
  have := c.toNat_lt
  rw [BitVec.toNat_ofNat]
  omega
theorem low_nn (a : BitVec 32) : (0 ≤ w32 (a &&& 15#32)) = True := by simp [u32_nn]
theorem low_lt (a : BitVec 32) : (w32 (a &&& 15#32) < 16) = True := by
  have : (a &&& 15#32).toNat ≤ 15 := by rw [BitVec.toNat_and]; exact Nat.and_le_right
  simp only [w32, eq_iff_iff, iff_true]; omega
theorem not32 (r : BitVec 32) : bits .xor .u32 IntKind.u32.max (w32 r) = w32 (~~~ r) := by
  have h : IntKind.u32.max = w32 0xffffffff#32 := by decide
  rw [h, x32]
  exact congrArg w32 BitVec.allOnes_xor
theorem fnv64 (r : BitVec 64) (c : UInt8) : IntKind.u64.wrap (bits .xor .u64 (w64 r) (IntKind.u64.wrap (c.toNat : Int)) * 1099511628211) = w64 (M.fnvStep r c) := by
  have hc := c.toNat_lt
  have hr := r.isLt
  have e : IntKind.u64.wrap (c.toNat : Int) = ((c.toNat : Nat) : Int) := by rw [IntKind.wrap_u64]; omega
  rw [e]
  unfold w64
  rw [u64_xor_nat _ _ hr (by omega), IntKind.wrap_u64]
  unfold M.fnvStep
  rw [BitVec.toNat_mul, BitVec.toNat_xor, BitVec.toNat_ofNat, Nat.mod_eq_of_lt (a := c.toNat) (by omega)]
  have : (0x100000001b3#64).toNat = 1099511628211 := by decide
  rw [this]
  omega
theorem byte64 (n : Int) (k : Nat) (hk : k < 8) : bits .and .u64 (IntKind.u64.wrap n / 2 ^ (56 - 8 * k)) 255 = IntKind.u64.wrap ((M.byteAt (n % 18446744073709551616).toNat (7 - k)).toNat : Int) := by
  obtain ⟨x, hx⟩ := Int.eq_ofNat_of_zero_le (show 0 ≤ n % 18446744073709551616 by omega)
  have hlt : x < 18446744073709551616 := by omega
  rw [IntKind.wrap_u64 n, hx, Int.toNat_natCast]
  have e1 : (x : Int) / 2 ^ (56 - 8 * k) = ((x / 2 ^ (56 - 8 * k) : Nat) : Int) := by simp
  have e2 : (2 : Nat) ^ (56 - 8 * k) = 256 ^ (7 - k) := by
    rw [show 56 - 8 * k = 8 * (7 - k) by omega, Nat.pow_mul]
  have h3 : x / 256 ^ (7 - k) < 18446744073709551616 := Nat.lt_of_le_of_lt (Nat.div_le_self _ _) hlt
  rw [e1, e2]
  have := u64_and_nat (x / 256 ^ (7 - k)) 255 h3 (by decide)
  refine (this.trans ?_)
  rw [nat_mask8, IntKind.wrap_u64]
  unfold M.byteAt
  rw [UInt8.toNat_ofNat']
  omega
theorem hex64 (d k : Nat) (hd : d < 18446744073709551616) (hk : k < 16) : bits .and .u64 ((d : Int) / 2 ^ (60 - 4 * k)) 15 = ((d / 16 ^ (15 - k) % 16 : Nat) : Int) := by
  have e1 : (d : Int) / 2 ^ (60 - 4 * k) = ((d / 2 ^ (60 - 4 * k) : Nat) : Int) := by simp
  have e2 : (2 : Nat) ^ (60 - 4 * k) = 16 ^ (15 - k) := by
    rw [show 60 - 4 * k = 4 * (15 - k) by omega, Nat.pow_mul]
  have h3 : d / 16 ^ (15 - k) < 18446744073709551616 := Nat.lt_of_le_of_lt (Nat.div_le_self _ _) hd
  rw [e1, e2]
  have := u64_and_nat (d / 16 ^ (15 - k)) 15 h3 (by decide)
  refine (this.trans ?_)
  rw [nat_mask4]
/-- The sixteen letters. -/
def letters : ByteArray := ⟨#[48, 49, 50, 51, 52, 53, 54, 55, 56, 57, 97, 98, 99, 100, 101, 102]⟩
theorem letter (j : Nat) (hj : j < 16) : (letters[j]'hj) = M.digit j := by
  have : ∀ i : Fin 16, (letters[i.1]'i.2) = M.digit i.1 := by decide
  exact this ⟨j, hj⟩
theorem be4_vals (x : BitVec 32) : [Value.int .u8 (w32 x / 16777216 % 256), Value.int .u8 (w32 x / 65536 % 256), Value.int .u8 (w32 x / 256 % 256), Value.int .u8 (w32 x % 256)] = (M.be4 x).map bv := by
  unfold w32 M.be4 bv
  simp only [List.map_cons, List.map_nil, List.cons.injEq, Value.int.injEq, true_and, and_true, UInt8.toNat_ofNat']
  omega
theorem one32 : (4294967295 : Int) = w32 0xffffffff#32 := by decide

/-- THE TABLE OF FOUR SHIFTS LIES IN MEMORY. -/
def Tab (w : World) : Prop := ∀ y : BitVec 32, w.cell? ⟨0, (w32 (y &&& 15#32)).toNat, none⟩ = some (.int .u32 (w32 (M.nib (y &&& 15#32))))
theorem Tab.lt {w : World} (h : Tab w) : 0 < w.heap.size := World.block_lt_of_cell? w _ (h 0#32)
theorem Tab.below {w w' : World} (h : Tab w) (hb : Below w.heap.size w w') : Tab w' := fun y => (hb.cell (p := ⟨_, _, none⟩) h.lt).trans (h y)

section
attribute [local go_sem] x32 n32 sx32 e32 low_nn low_lt
set_option maxHeartbeats 400000 in
/-- digest.sum -/
theorem sum_any (A : Option Addr) (n c : Nat) (l : List UInt8) (w : World) (hl : RB w A n c l) (ht : Tab w) :
    Calls Tryd.prog 45 #[.slice A n c] w fun e w' => e = .returned (.int .u32 (w32 (M.crc l))) ∧ w = w' := by
  have hlen := hl.len
  have hbig := Nat.le_trans hl.cap hl.big
  unfold maxLen at hbig
  go_enter Tryd.func45, Tryd.ntmps45
  go_wp2
  go_loop [3, 8] (fun r i => ∃ k : Nat, k ≤ n ∧ i = .int .i64 k ∧ r = .int .u32 (w32 (M.crcReg (l.take k)))) (fun _ i => n - (intOf i).toNat)
  case atStart => exact ⟨0, Nat.zero_le _, rfl, rfl⟩
  case round =>
    obtain ⟨k, hk, rfl, rfl⟩ := hrel
    by_cases hlt : k < n
    · obtain ⟨b, o, rfl, _, hck⟩ := hl.at_ (k := k) (by omega)
      have HS := Lib.hid (M.crcReg_take l k (by omega))
      generalize M.crcReg (l.take k) = r at *
      clear hl
      unfold Tab at ht
      go_wp2
      go_round
      case rel =>
        refine ⟨k + 1, by omega, by go_num, ?_⟩
        rw [HS.out]
        unfold M.crcStep M.oct
        rw [M.nib_eq (M.nib _), M.nib_eq (r ^^^ _)]
      case measure => simp [intOf]; omega
    · go_wp2
      go_ret
      refine ⟨?_, rfl⟩
      rw [List.take_of_length_le (by omega)]
      exact congrArg (fun z => Ending.returned (.int .u32 z)) (not32 _)


end




set_option maxRecDepth 100000 in
/-- digest.mark -/
theorem mark_any (A : Option Addr) (n c : Nat) (l : List UInt8) (w : World) (hl : RB w A n c l) (ht : Tab w) :
    Calls Tryd.prog 41 #[.slice A n c] w fun e w' => e = .returned (.agg ((M.be4 (M.crc l)).map bv).toArray) ∧ Below w.heap.size w w' := by
  have ht' := Lib.hid ht
  have hl' := Lib.hid hl
  clear ht hl
  go_enter Tryd.func41, Tryd.ntmps41
  go_wp2_with fail
  refine (sum_any A n c l _ (hl'.out.below (below_alloc1 _ _)) (ht'.out.below (below_alloc1 _ _))).mono ?_
  rintro e w' ⟨rfl, rfl⟩
  go_wp2
  refine bodyPost_ret (v := .agg ((M.be4 (M.crc l)).map bv).toArray) ?_ rfl ⟨rfl, ?_⟩
  · simp [results, Tryd.results41, go_sem]
    exact be4_vals _
  · exact below_alloc1 _ _


/-- Four bytes in a block of their own. -/
def four (a0 a1 a2 a3 : UInt8) : Array Value := #[Value.int .u8 (a0.toNat : Int), Value.int .u8 (a1.toNat : Int), Value.int .u8 (a2.toNat : Int), Value.int .u8 (a3.toNat : Int)]
theorem rb_four (w : World) (a0 a1 a2 a3 : UInt8) : RB (w.alloc (.cells (four a0 a1 a2 a3) 61)) (some ⟨w.heap.size, 0, none⟩) 4 4 [a0, a1, a2, a3] := by
  refine ⟨rfl, Nat.le_refl _, by simp [maxLen], (fun h => by cases h), fun _ => ⟨_, 0, rfl, by simp, fun j u hu => ?_⟩⟩
  match j, hu with
  | 0, hu | 1, hu | 2, hu | 3, hu => simp [bv] at hu; subst hu; simp [four]

set_option maxRecDepth 100000 in
/-- digest.Seal -/
theorem seal_any (A : Option Addr) (n c : Nat) (l : List UInt8) (w : World) (hl : RB w A n c l) (ht : Tab w) (hroom : n + 4 ≤ 140737488355328) :
    Calls Tryd.prog 30 #[.slice A n c] w (RetB w (M.sealed l)) := by
  have hcap := hl.cap
  have HT := Lib.hid ht
  have HL := Lib.hid hl
  clear ht hl
  go_enter Tryd.func30, Tryd.ntmps30
  go_wp2_with fail
  refine (mark_any A n c l _ HL.out HT.out).mono ?_
  rintro e w' ⟨rfl, hb⟩
  have HB := Lib.hid hb
  clear hb
  obtain ⟨a0, a1, a2, a3, h4⟩ : ∃ a0 a1 a2 a3, M.be4 (M.crc l) = [a0, a1, a2, a3] := ⟨_, _, _, _, rfl⟩
  rw [h4]
  have H4 := Lib.hid h4
  clear h4
  simp only [List.map_cons, List.map_nil, bv]
  go_wp2
  have f1 := rb_four w' a0 a1 a2 a3
  have f2 : Below w.heap.size w (w'.alloc (.cells (four a0 a1 a2 a3) 61)) := HB.out.trans ((below_alloc1 _ _).mono HB.out.size)
  unfold four at f1 f2
  generalize w'.alloc _ = W at *
  have F1 := Lib.hid f1
  have F2 := Lib.hid f2
  clear f1 f2
  go_still_tail 7, (by kernel_rfl)
  change wpList _ _ _ _ _ W.drew
  refine append_b _ rfl _ _ rfl w.heap.size A n n l rfl (.full (HL.out.below (F2.out.drew))) _ _ _ [a0, a1, a2, a3] rfl (F1.out.below (below_draws _ _ 1)) hroom F2.out.size ?_
  intro A' n' c' w2 ht hb
  have HT2 := Lib.hid ht
  have HB2 := Lib.hid hb
  clear ht hb
  go_wp2
  go_ret
  refine ⟨A', n', c', rfl, ?_, F2.out.drew.trans HB2.out⟩
  unfold M.sealed
  rw [H4.out]
  exact HT2.out.rb
end Go.Proofs.YtpppgceccikodaaDoor
