/- Chapter 3 (digest) and its reference. -/
import Derived.Test.YtjficpdfofmcnaaDoorRows
import Derived.Test.YtjficpdfofmcnaaDoorBed1
import Derived.Deep.RegionHeld3
import Derived.Deep.QuietTactic
import Derived.BigQuiet
import Derived.Test.YtjficpdfofmcnaaDoorCards
import Derived.Test.YtjficpdfofmcnaaDoorTie
import Derived.Deep.DeepHandedRow
import Derived.Lib.LaidTab
/- The contracts of package digest's functions and of the reference's: what each returns, as the plain mathematics of YtjficpdfofmcnaaDoorCrc has it. -/
namespace Go.Proofs.YtjficpdfofmcnaaDoor
open Go.RowKit Go.Joins

/-- A number of 32 bits as the model's integer. -/
def w32 (x : BitVec 32) : Int := (x.toNat : Int)
def w64 (x : BitVec 64) : Int := (x.toNat : Int)
theorem u32_lt (x : BitVec 32) : w32 x < 4294967296 := by have := x.isLt; unfold w32; omega
theorem u32_nn (x : BitVec 32) : 0 ≤ w32 x := by unfold w32; omega
theorem x32 (a b : BitVec 32) : bits .xor .u32 (w32 a) (w32 b) = w32 (a ^^^ b) := by
  unfold w32
  rw [u32_xor_nat _ _ a.isLt b.isLt, BitVec.toNat_xor]
theorem n32 (a : BitVec 32) : bits .and .u32 (w32 a) 15 = w32 (a &&& 15#32) := by
  unfold w32
  have := u32_and_nat a.toNat 15 a.isLt (by decide)
  rw [BitVec.toNat_and]
  exact this
theorem s32 (a : BitVec 32) : w32 a / (16 : Int) = w32 (a >>> 4) := by
  unfold w32
  rw [BitVec.toNat_ushiftRight, Nat.shiftRight_eq_div_pow]
  omega
theorem sx32 (a b : BitVec 32) : bits .xor .u32 (w32 a / 16) (w32 b) = w32 ((a >>> 4) ^^^ b) := by rw [s32, x32]
theorem e32 (c : UInt8) : ((c.toNat : Int) % 4294967296) = w32 (M.ext c) := by
  unfold w32 M.ext
  have := c.toNat_lt
  rw [BitVec.toNat_ofNat]
  omega
theorem low_nn (a : BitVec 32) : (0 ≤ w32 (a &&& 15#32)) = True := by simp [u32_nn]
theorem low_lt (a : BitVec 32) : (w32 (a &&& 15#32) < 16) = True := by
  have : (a &&& 15#32).toNat ≤ 15 := by rw [BitVec.toNat_and]; exact Nat.and_le_right
  simp only [w32, eq_iff_iff, iff_true]; omega
theorem not32 (r : BitVec 32) : bits .xor .u32 IntKind.u32.max (w32 r) = w32 (~~~ r) := by
  have h : IntKind.u32.max = w32 0xffffffff#32 := by decide
  rw [h, x32]
  exact congrArg w32 BitVec.allOnes_xor
theorem fnv64 (r : BitVec 64) (c : UInt8) : IntKind.u64.wrap (bits .xor .u64 (w64 r) (IntKind.u64.wrap (c.toNat : Int)) * 1099511628211) = w64 (M.fnvStep r c) := by
  have hc := c.toNat_lt
  have hr := r.isLt
  have e : IntKind.u64.wrap (c.toNat : Int) = ((c.toNat : Nat) : Int) := by rw [IntKind.wrap_u64]; omega
  rw [e]
  unfold w64
  rw [u64_xor_nat _ _ hr (by omega), IntKind.wrap_u64]
  unfold M.fnvStep
  rw [BitVec.toNat_mul, BitVec.toNat_xor, BitVec.toNat_ofNat, Nat.mod_eq_of_lt (a := c.toNat) (by omega)]
  have : (0x100000001b3#64).toNat = 1099511628211 := by decide
  rw [this]
  omega
theorem byte64 (n : Int) (k : Nat) (hk : k < 8) : bits .and .u64 (IntKind.u64.wrap n / 2 ^ (56 - 8 * k)) 255 = IntKind.u64.wrap ((M.byteAt (n % 18446744073709551616).toNat (7 - k)).toNat : Int) := by
  obtain ⟨x, hx⟩ := Int.eq_ofNat_of_zero_le (show 0 ≤ n % 18446744073709551616 by omega)
  have hlt : x < 18446744073709551616 := by omega
  rw [IntKind.wrap_u64 n, hx, Int.toNat_natCast]
  have e1 : (x : Int) / 2 ^ (56 - 8 * k) = ((x / 2 ^ (56 - 8 * k) : Nat) : Int) := by simp
  have e2 : (2 : Nat) ^ (56 - 8 * k) = 256 ^ (7 - k) := by
    rw [show 56 - 8 * k = 8 * (7 - k) by omega, Nat.pow_mul]
  have h3 : x / 256 ^ (7 - k) < 18446744073709551616 := Nat.lt_of_le_of_lt (Nat.div_le_self _ _) hlt
  rw [e1, e2]
  have := u64_and_nat (x / 256 ^ (7 - k)) 255 h3 (by decide)
  refine (this.trans ?_)
  rw [nat_mask8, IntKind.wrap_u64]
  unfold M.byteAt
  rw [UInt8.toNat_ofNat']
  omega
theorem hex64 (d k : Nat) (hd : d < 18446744073709551616) (hk : k < 16) : bits .and .u64 ((d : Int) / 2 ^ (60 - 4 * k)) 15 = ((d / 16 ^ (15 - k) % 16 : Nat) : Int) := by
  have e1 : (d : Int) / 2 ^ (60 - 4 * k) = ((d / 2 ^ (60 - 4 * k) : Nat) : Int) := by simp
  have e2 : (2 : Nat) ^ (60 - 4 * k) = 16 ^ (15 - k) := by
    rw [show 60 - 4 * k = 4 * (15 - k) by omega, Nat.pow_mul]
  have h3 : d / 16 ^ (15 - k) < 18446744073709551616 := Nat.lt_of_le_of_lt (Nat.div_le_self _ _) hd
  rw [e1, e2]
  have := u64_and_nat (d / 16 ^ (15 - k)) 15 h3 (by decide)
  refine (this.trans ?_)
  rw [nat_mask4]
/-- The sixteen letters. -/
def letters : ByteArray := ⟨#[48, 49, 50, 51, 52, 53, 54, 55, 56, 57, 97, 98, 99, 100, 101, 102]⟩
theorem letter (j : Nat) (hj : j < 16) : (letters[j]'hj) = M.digit j := by
  have : ∀ i : Fin 16, (letters[i.1]'i.2) = M.digit i.1 := by decide
  exact this ⟨j, hj⟩
theorem be4_vals (x : BitVec 32) : [Value.int .u8 (w32 x / 16777216 % 256), Value.int .u8 (w32 x / 65536 % 256), Value.int .u8 (w32 x / 256 % 256), Value.int .u8 (w32 x % 256)] = (M.be4 x).map bv := by
  unfold w32 M.be4 bv
  simp only [List.map_cons, List.map_nil, List.cons.injEq, Value.int.injEq, true_and, and_true, UInt8.toNat_ofNat']
  omega
theorem one32 : (4294967295 : Int) = w32 0xffffffff#32 := by decide

/-- THE TABLE OF FOUR SHIFTS LIES IN MEMORY. -/
def Tab (w : World) : Prop := ∀ y : BitVec 32, w.cell? ⟨0, (w32 (y &&& 15#32)).toNat, none⟩ = some (.int .u32 (w32 (M.nib (y &&& 15#32))))
theorem Tab.lt {w : World} (h : Tab w) : 0 < w.heap.size := World.block_lt_of_cell? w _ (h 0#32)
theorem Tab.below {w w' : World} (h : Tab w) (hb : Below w.heap.size w w') : Tab w' := fun y => (hb.cell (p := ⟨_, _, none⟩) h.lt).trans (h y)

section
attribute [local go_sem] x32 n32 sx32 e32 low_nn low_lt
set_option maxHeartbeats 400000 in
/-- digest.sum -/
theorem sum_any (A : Option Addr) (n c : Nat) (l : List UInt8) (w : World) (hl : RB w A n c l) (ht : Tab w) :
    Calls Tryd.prog 61 #[.slice A n c] w fun e w' => e = .returned (.int .u32 (w32 (M.crc l))) ∧ w = w' := by
  have hlen := hl.len
  have hbig := Nat.le_trans hl.cap hl.big
  unfold maxLen at hbig
  go_enter Tryd.func61, Tryd.ntmps61
  go_wp2
  go_loop [3, 8] (fun r i => ∃ k : Nat, k ≤ n ∧ i = .int .i64 k ∧ r = .int .u32 (w32 (M.crcReg (l.take k)))) (fun _ i => n - (intOf i).toNat)
  case atStart => exact ⟨0, Nat.zero_le _, rfl, rfl⟩
  case round =>
    obtain ⟨k, hk, rfl, rfl⟩ := hrel
    by_cases hlt : k < n
    · obtain ⟨b, o, rfl, _, hck⟩ := hl.at_ (k := k) (by omega)
      have HS := Lib.hid (M.crcReg_take l k (by omega))
      generalize M.crcReg (l.take k) = r at *
      clear hl
      unfold Tab at ht
      go_wp2
      go_round
      case rel =>
        refine ⟨k + 1, by omega, by go_num, ?_⟩
        rw [HS.out]
        unfold M.crcStep M.oct
        rw [M.nib_eq (M.nib _), M.nib_eq (r ^^^ _)]
      case measure => simp [intOf]; omega
    · go_wp2
      go_ret
      refine ⟨?_, rfl⟩
      rw [List.take_of_length_le (by omega)]
      exact congrArg (fun z => Ending.returned (.int .u32 z)) (not32 _)

/-- digest.Crc -/
theorem crc_any (A : Option Addr) (n c : Nat) (l : List UInt8) (w : World) (hl : RB w A n c l) (ht : Tab w) :
    Calls Tryd.prog 38 #[.slice A n c] w fun e w' => e = .returned (.int .i64 (w32 (M.crc l))) ∧ w = w' := by
  have h1 := u32_nn (M.crc l)
  have h2 := u32_lt (M.crc l)
  go_enter Tryd.func38, Tryd.ntmps38
  go_wp2_with (go_at_call 61; refine (sum_any A n c l _ hl ht).mono ?_; rintro e w' ⟨rfl, rfl⟩)
  go_ret
  exact ⟨rfl, rfl⟩

end




set_option maxRecDepth 100000 in
/-- digest.mark -/
theorem mark_any (A : Option Addr) (n c : Nat) (l : List UInt8) (w : World) (hl : RB w A n c l) (ht : Tab w) :
    Calls Tryd.prog 81 #[.slice A n c] w fun e w' => e = .returned (.agg ((M.be4 (M.crc l)).map bv).toArray) ∧ Below w.heap.size w w' := by
  have ht' := Lib.hid ht
  have hl' := Lib.hid hl
  clear ht hl
  go_enter Tryd.func81, Tryd.ntmps81
  go_wp2_with fail
  refine (sum_any A n c l _ (hl'.out.below (below_alloc1 _ _)) (ht'.out.below (below_alloc1 _ _))).mono ?_
  rintro e w' ⟨rfl, rfl⟩
  go_wp2
  refine bodyPost_ret (v := .agg ((M.be4 (M.crc l)).map bv).toArray) ?_ rfl ⟨rfl, ?_⟩
  · simp [results, Tryd.results81, go_sem]
    exact be4_vals _
  · exact below_alloc1 _ _


/-- Four bytes in a block of their own. -/
def four (a0 a1 a2 a3 : UInt8) : Array Value := #[Value.int .u8 (a0.toNat : Int), Value.int .u8 (a1.toNat : Int), Value.int .u8 (a2.toNat : Int), Value.int .u8 (a3.toNat : Int)]
theorem rb_four (w : World) (a0 a1 a2 a3 : UInt8) : RB (w.alloc (.cells (four a0 a1 a2 a3) 96)) (some ⟨w.heap.size, 0, none⟩) 4 4 [a0, a1, a2, a3] := by
  refine ⟨rfl, Nat.le_refl _, by simp [maxLen], (fun h => by cases h), fun _ => ⟨_, 0, rfl, by simp, fun j u hu => ?_⟩⟩
  match j, hu with
  | 0, hu | 1, hu | 2, hu | 3, hu => simp [bv] at hu; subst hu; simp [four]

set_option maxRecDepth 100000 in
/-- digest.Seal -/
theorem seal_any (A : Option Addr) (n c : Nat) (l : List UInt8) (w : World) (hl : RB w A n c l) (ht : Tab w) (hroom : n + 4 ≤ 140737488355328) :
    Calls Tryd.prog 63 #[.slice A n c] w (RetB w (M.sealed l)) := by
  have hcap := hl.cap
  have HT := Lib.hid ht
  have HL := Lib.hid hl
  clear ht hl
  go_enter Tryd.func63, Tryd.ntmps63
  go_wp2_with fail
  refine (mark_any A n c l _ HL.out HT.out).mono ?_
  rintro e w' ⟨rfl, hb⟩
  have HB := Lib.hid hb
  clear hb
  obtain ⟨a0, a1, a2, a3, h4⟩ : ∃ a0 a1 a2 a3, M.be4 (M.crc l) = [a0, a1, a2, a3] := ⟨_, _, _, _, rfl⟩
  rw [h4]
  have H4 := Lib.hid h4
  clear h4
  simp only [List.map_cons, List.map_nil, bv]
  go_wp2
  have f1 := rb_four w' a0 a1 a2 a3
  have f2 : Below w.heap.size w (w'.alloc (.cells (four a0 a1 a2 a3) 96)) := HB.out.trans ((below_alloc1 _ _).mono HB.out.size)
  unfold four at f1 f2
  generalize w'.alloc _ = W at *
  have F1 := Lib.hid f1
  have F2 := Lib.hid f2
  clear f1 f2
  go_still_tail 7, (by kernel_rfl)
  change wpList _ _ _ _ _ W.drew
  refine append_b _ rfl _ _ rfl w.heap.size A n n l rfl (.full (HL.out.below (F2.out.drew))) _ _ _ [a0, a1, a2, a3] rfl (F1.out.below (below_draws _ _ 1)) hroom F2.out.size ?_
  intro A' n' c' w2 ht hb
  have HT2 := Lib.hid ht
  have HB2 := Lib.hid hb
  clear ht hb
  go_wp2
  go_ret
  refine ⟨A', n', c', rfl, ?_, F2.out.drew.trans HB2.out⟩
  unfold M.sealed
  rw [H4.out]
  exact HT2.out.rb
end Go.Proofs.YtjficpdfofmcnaaDoor

/- The contracts of the reference's functions of chapter 3. -/
namespace Go.Proofs.YtjficpdfofmcnaaDoor
open Go.RowKit Go.Joins

/-- So many shifts. -/
def bitN : Nat → BitVec 32 → BitVec 32
  | 0, x => x
  | j + 1, x => M.bit (bitN j x)
theorem bitN_8 (x : BitVec 32) : bitN 8 x = M.oct x := rfl
theorem odd_true {y : BitVec 32} (h : y.getLsbD 0 = true) : w32 y % 2 = 1 := by
  have : y.toNat.testBit 0 = true := h
  rw [Nat.testBit_zero] at this
  unfold w32
  simp at this
  omega
theorem odd_false {y : BitVec 32} (h : y.getLsbD 0 = false) : w32 y % 2 = 0 := by
  have : y.toNat.testBit 0 = false := h
  rw [Nat.testBit_zero] at this
  unfold w32
  simp at this
  omega
theorem half32 (y : BitVec 32) : w32 y / (2 : Int) = w32 (y >>> 1) := by
  unfold w32
  rw [BitVec.toNat_ushiftRight, Nat.shiftRight_eq_div_pow]
  omega
theorem tdiv32 (y : BitVec 32) : (w32 y).tdiv (2 : Int) % (4294967296 : Int) = w32 (y >>> 1) := by
  have h0 := u32_nn y
  have h1 := u32_lt y
  rw [← half32, Int.tdiv_eq_ediv_of_nonneg h0]
  omega
theorem xp32 (y : BitVec 32) : bits .xor .u32 ((w32 y).tdiv (2 : Int) % (4294967296 : Int)) 3988292384 = w32 ((y >>> 1) ^^^ 0xedb88320#32) := by
  have := x32 (y >>> 1) 0xedb88320#32
  rw [tdiv32]
  exact this

section
attribute [local go_sem] x32 e32
set_option maxHeartbeats 400000 in
/-- mapsheetsref03.Crc -/
theorem rcrc_any (A : Option Addr) (n c : Nat) (l : List UInt8) (w : World) (hl : RB w A n c l) :
    Calls Tryd.prog 56 #[.slice A n c] w fun e w' => e = .returned (.int .i64 (w32 (M.crc l))) ∧ w = w' := by
  have hlen := hl.len
  have hbig := Nat.le_trans hl.cap hl.big
  unfold maxLen at hbig
  go_enter Tryd.func56, Tryd.ntmps56
  go_wp2
  go_loop [3, 4] (fun r i => ∃ k : Nat, k ≤ n ∧ i = .int .i64 k ∧ r = .int .u32 (w32 (M.crcReg (l.take k)))) (fun _ i => n - (intOf i).toNat)
  case atStart => exact ⟨0, Nat.zero_le _, rfl, rfl⟩
  case round =>
    obtain ⟨k, hk, rfl, rfl⟩ := hrel
    by_cases hlt : k < n
    · obtain ⟨b, o, rfl, _, hck⟩ := hl.at_ (k := k) (by omega)
      have HS := Lib.hid (M.crcReg_take l k (by omega))
      generalize M.crcReg (l.take k) = r at *
      have HL := Lib.hid hl
      clear hl
      go_wp2
      have HX : Hid (M.crcStep r l[k] = bitN 8 (r ^^^ M.ext l[k])) := rfl
      generalize r ^^^ M.ext l[k] = x at *
      go_loop [3, 5] (fun r i => ∃ j : Nat, j ≤ 8 ∧ i = .int .i64 j ∧ r = .int .u32 (w32 (bitN j x))) (fun _ i => 8 - (intOf i).toNat)
      case atStart => exact ⟨0, Nat.zero_le _, rfl, rfl⟩
      case round =>
        obtain ⟨j, hj, rfl, rfl⟩ := hrel
        by_cases hj8 : j < 8
        · have HB : Hid (bitN (j + 1) x = (bitN j x >>> 1) ^^^ (if (bitN j x).getLsbD 0 then 0xedb88320#32 else 0#32)) := rfl
          generalize bitN j x = y at *
          cases hy : y.getLsbD 0 with
          | true =>
            have h1 : ((w32 y).tmod 2 == 1) = true := by rw [Int.tmod_eq_emod_of_nonneg (u32_nn y), odd_true hy]; rfl
            have HY := Lib.hid hy
            clear hy
            go_wp2
            go_round
            case rel =>
              refine ⟨j + 1, by omega, by go_num, ?_⟩
              rw [HB.out, HY.out, xp32]
              rfl
            case measure => simp [intOf]; omega
          | false =>
            have h1 : ((w32 y).tmod 2 == 1) = false := by rw [Int.tmod_eq_emod_of_nonneg (u32_nn y), odd_false hy]; rfl
            have HY := Lib.hid hy
            clear hy
            go_wp2
            go_round
            case rel =>
              refine ⟨j + 1, by omega, by go_num, ?_⟩
              rw [HB.out, HY.out, tdiv32]
              simp
            case measure => simp [intOf]; omega
        · obtain rfl : j = 8 := by omega
          go_wp2
          go_round
          case rel => exact ⟨k + 1, by omega, by go_num, by rw [HS.out, HX.out]⟩
          case measure => simp [intOf]; omega
    · rw [List.take_of_length_le (by omega)]
      obtain ⟨y, hy⟩ : ∃ y, y = M.crc l := ⟨_, rfl⟩
      have h3 : bits .xor .u32 IntKind.u32.max (w32 (M.crcReg l)) = w32 y := by rw [hy]; exact not32 (M.crcReg l)
      have HY := Lib.hid hy
      clear hy
      have h4 : wrap64 (w32 y) = w32 y := IntWalk.wrap64_in _ (by have := u32_nn y; have := u32_lt y; omega)
      go_wp2
      go_ret
      exact ⟨by rw [← HY.out]; rfl, rfl⟩
end



/-- mapsheetsref03.Same -/
theorem same_any (A : Option Addr) (n c : Nat) (l : List UInt8) (B : Option Addr) (m d : Nat) (l' : List UInt8) (w : World) (hl : RB w A n c l) (hl' : RB w B m d l') :
    Calls Tryd.prog 72 #[.slice A n c, .slice B m d] w fun e w' => e = .returned (.bool (decide (l = l'))) ∧ ∃ k, w' = w.drewN k := by
  have hlen := hl.len
  have hlen' := hl'.len
  have hbig := Nat.le_trans hl.cap hl.big
  unfold maxLen at hbig
  by_cases hnm : n = m
  · subst hnm
    have h0 : ((n : Int) != (n : Int)) = false := by simp
    have HL := Lib.hid hl
    have HL' := Lib.hid hl'
    clear hl hl'
    go_enter Tryd.func72, Tryd.ntmps72
    go_wp2
    go_loopw [5] (fun i wr => ∃ k q : Nat, k ≤ n ∧ i = .int .i64 k ∧ l.take k = l'.take k ∧ wr = w.drewN q) (fun i _ => n - (intOf i).toNat)
    case atStart => exact ⟨0, 0, Nat.zero_le _, rfl, by simp, rfl⟩
    case round =>
      obtain ⟨k, q, hk, rfl, heq, rfl⟩ := hrel
      have HE := Lib.hid heq
      clear heq
      by_cases hlt : k < n
      · obtain ⟨b, o, rfl, _, hck⟩ := HL.out.at_ (k := k) (by omega)
        obtain ⟨b', o', rfl, _, hck'⟩ := HL'.out.at_ (k := k) (by omega)
        by_cases hx : l[k] = l'[k]
        · have h1 : ((l[k].toNat : Int) != (l'[k].toNat : Int)) = false := by simp [hx]
          have HX := Lib.hid hx
          clear hx
          go_wp2
          go_quiet (fail)
          go_wp2
          go_roundw
          case rel =>
            refine ⟨k + 1, _, by omega, by go_num, ?_, rfl⟩
            rw [List.take_succ_eq_append_getElem (by omega), List.take_succ_eq_append_getElem (by omega), HE.out, HX.out]
          case measure => simp [intOf]; omega
        · have h1 : ((l[k].toNat : Int) != (l'[k].toNat : Int)) = true := by
            simp only [bne_iff_ne, ne_eq]
            intro h
            exact hx (UInt8.toNat_inj.1 (by omega))
          have HX : Hid (decide (l = l') = false) := by
            refine decide_eq_false fun h => hx ?_
            subst h
            rfl
          clear hx
          go_wp2
          go_quiet (fail)
          go_wp2
          go_ret
          exact ⟨by rw [HX.out]; rfl, _, by rw [World.drewN_drewN]⟩
      · have HX : Hid (decide (l = l') = true) := by
          have heq := HE.out
          rw [List.take_of_length_le (by omega), List.take_of_length_le (by omega)] at heq
          exact decide_eq_true heq
        go_wp2
        go_ret
        exact ⟨by rw [HX.out]; rfl, _, rfl⟩
  · have h0 : ((n : Int) != (m : Int)) = true := by simp; omega
    have HX : Hid (decide (l = l') = false) := by
      refine decide_eq_false fun h => hnm ?_
      rw [← hlen, ← hlen', h]
    go_enter Tryd.func72, Tryd.ntmps72
    go_wp2
    go_ret
    exact ⟨by rw [HX.out]; rfl, 0, rfl⟩

/-- The same, where the two are known to be equal. -/
theorem same_true (A : Option Addr) (n c : Nat) (B : Option Addr) (m d : Nat) (l : List UInt8) (w : World) (hl : RB w A n c l) (hl' : RB w B m d l) :
    Calls Tryd.prog 72 #[.slice A n c, .slice B m d] w fun e w' => e = .returned (.bool true) ∧ ∃ k, w' = w.drewN k :=
  (same_any A n c l B m d l w hl hl').mono fun _ _ ⟨he, hw⟩ => ⟨by simpa using he, hw⟩

theorem byteShr (x j : Nat) : ((x : Int) / 2 ^ (8 * j)) % 256 = ((M.byteAt x j).toNat : Int) := by
  have e1 : (x : Int) / 2 ^ (8 * j) = ((x / 2 ^ (8 * j) : Nat) : Int) := by simp
  rw [e1, Nat.pow_mul, show (2 : Nat) ^ 8 = 256 from rfl]
  unfold M.byteAt
  rw [UInt8.toNat_ofNat']
  omega

/-- mapsheetsref03.Bytes -/
theorem bytes_any (x k : Nat) (w : World) (hk : k ≤ 8) (_hx : x < 18446744073709551616) :
    Calls Tryd.prog 83 #[.int .u64 x, .int .i64 k] w (RetB w (M.beN x k)) := by
  go_enter Tryd.func83, Tryd.ntmps83
  go_wp2
  go_loopw [5, 6] (fun v i wr => ∃ (j : Nat) (A : Option Addr) (n c : Nat), j ≤ k ∧ i = .int .i64 ((j : Int) - 1) ∧ v = .slice A n c ∧ TB wr w.heap.size A n c ((M.beN x k).take (k - j)) ∧ Below w.heap.size w wr) (fun _ i _ => (intOf i + 1).toNat)
  case atStart => exact ⟨k, none, 0, 0, Nat.le_refl _, rfl, rfl, by simpa using TB.nil _ _, Below.refl _ _⟩
  case round =>
    obtain ⟨j, A, n, c, hj, rfl, rfl, ht, hb⟩ := hrel
    have hn : n = k - j := by have := ht.len; rw [List.length_take, M.length_beN] at this; omega
    have HN := Lib.hid hn
    have hn8 : n ≤ 8 := by omega
    have HT := Lib.hid ht
    have HB := Lib.hid hb
    clear ht hb hn
    by_cases hj0 : 1 ≤ j
    · have HS : Hid ((M.beN x k).take (k - (j - 1)) = (M.beN x k).take (k - j) ++ [M.byteAt x (j - 1)]) := by
        have h1 : k - j < (M.beN x k).length := by rw [M.length_beN]; omega
        have := List.take_succ_eq_append_getElem h1
        rw [M.get_beN, show k - 1 - (k - j) = j - 1 by omega] at this
        rw [show k - (j - 1) = k - j + 1 by omega]
        exact this
      obtain ⟨i, hi⟩ : ∃ i, j = i + 1 := ⟨j - 1, by omega⟩
      subst hi
      have e1 : ((i + 1 : Nat) : Int) - 1 = (i : Int) := by omega
      rw [e1]
      simp only [Nat.add_sub_cancel] at HS
      have hv := byteShr x i
      go_wp2_with (at_builtin; refine append_b _ rfl (.tmp 13) (.tmp 19) rfl w.heap.size A n c _ rfl (HT.out.below (below_alloc1 _ _)) _ 1 1 [M.byteAt x i] rfl (rb_one _ _) (by omega) (by have := HB.out.size; simp; omega) ?_; intro A' n' c' w2 ht hb; have HT2 := Lib.hid ht; have HB2 := Lib.hid hb; clear ht hb)
      go_roundw
      case rel =>
        exact ⟨i, A', n', c', by omega, rfl, rfl, by rw [HS.out]; exact HT2.out, (HB.out.alloc HB.out.size _).trans HB2.out⟩
      case measure => simp [intOf]
    · obtain rfl : j = 0 := by omega
      go_wp2
      go_ret
      refine ⟨A, n, c, rfl, ?_, HB.out⟩
      have := HT.out.rb
      rwa [List.take_of_length_le (by rw [M.length_beN]; omega)] at this


/-- mapsheetsref03.Seal -/
theorem rseal_any (A : Option Addr) (n c : Nat) (l : List UInt8) (w : World) (hl : RB w A n c l) (hroom : n + 4 ≤ 140737488355328) :
    Calls Tryd.prog 74 #[.slice A n c] w (RetB w (M.sealed l)) := by
  have HL := Lib.hid hl
  clear hl
  have e1 : IntKind.u64.wrap (w32 (M.crc l)) = ((M.crc l).toNat : Int) := by
    have := (M.crc l).isLt
    unfold w32
    rw [IntKind.wrap_u64]
    omega
  have hx : (M.crc l).toNat < 18446744073709551616 := by have := (M.crc l).isLt; omega
  have HX := Lib.hid hx
  clear hx
  go_enter Tryd.func74, Tryd.ntmps74
  go_wp2_with (first
    | (at_builtin; refine append_b _ rfl (.tmp 4) (.tmp 5) rfl w.heap.size none 0 0 [] rfl (TB.nil _ _) A n c l rfl HL.out (by omega) (Nat.le_refl _) ?_; intro A1 n1 c1 w1 ht hb; have HT1 := Lib.hid ht; have HB1 := Lib.hid hb; clear ht hb)
    | (go_at_call 56; refine (rcrc_any A n c l _ (HL.out.below HB1.out)).mono ?_; rintro e w' ⟨rfl, rfl⟩)
    | (go_at_call 83; refine (bytes_any _ 4 _ (by omega) HX.out).mono ?_; rintro e w2 ⟨A2, n2, c2, rfl, hr, hb⟩; have HR2 := Lib.hid hr; have HB2 := Lib.hid hb; clear hr hb)
    | (at_builtin; refine append_b _ rfl (.tmp 7) (.tmp 11) rfl w.heap.size A1 n1 c1 _ rfl (HT1.out.below HB2.out) A2 n2 c2 _ rfl HR2.out (by have := HT1.out.len; have := HR2.out.len; have := HL.out.len; simp [M.length_beN] at *; omega) (by have := HB1.out.size; have := HB2.out.size; omega) ?_; intro A3 n3 c3 w3 ht hb; have HT3 := Lib.hid ht; have HB3 := Lib.hid hb; clear ht hb))
  go_ret
  refine ⟨A3, n3, c3, rfl, ?_, HB1.out.trans ((HB2.out.mono HB1.out.size).trans HB3.out)⟩
  unfold M.sealed
  rw [M.be4_beN]
  exact HT3.out.rb


end Go.Proofs.YtjficpdfofmcnaaDoor

/- The table of package digest, as the row lists it. -/
namespace Go.Proofs.YtjficpdfofmcnaaDoor
open Go.ChangeShapes Go.WideShapes Go.ChangeAt Go.RowKit Go.Joins

theorem gTab : Tryd.prog.globalNamed "mapsheets/digest.steps" = some 0 := by kernel_rfl
theorem gTabType : (Tryd.prog.globals[0]?).map (·.type) = some 95 := by kernel_rfl
theorem cellsTab : Tryd.prog.cellsOf 95 = 16 := by kernel_rfl
theorem cellsU32 : Tryd.prog.cellsOf 83 = 1 := by kernel_rfl
theorem cellsU8 : Tryd.prog.cellsOf 5 = 1 := by kernel_rfl
theorem bytesU8 : Tryd.prog.bytesOf 5 = 1 := by kernel_rfl

/-- The table's numbers. -/
def steps : List Int := [0, 498536548, 997073096, 651767980, 1994146192, 1802195444, 1303535960, 1342533948, 3988292384, 4027552580, 3604390888, 3412177804, 2607071920, 2262029012, 2685067896, 3183342108]
theorem steps_nib : ∀ i : Fin 16, steps[i.1]? = some (w32 (M.nib (BitVec.ofNat 32 i.1))) := by decide +kernel

/-- WHAT THE ROW's LIST GIVES: the table lies in memory. -/
theorem tab_of {W : World} (h : laidMetH Tryd.prog [("mapsheets/digest.steps", Rows.laid_mapsheets_digest_steps)] W) : Tab W := by
  have ht : Lib.TabIs Tryd.prog W "mapsheets/digest.steps" .u32 steps := Lib.tabIs_of_head (rest := []) gTab gTabType Tryd.underlying95 Tryd.underlying83 cellsU32 cellsTab h
  intro y
  have hlt : (y &&& 15#32).toNat < 16 := by
    have : (y &&& 15#32).toNat ≤ 15 := by rw [BitVec.toNat_and]; exact Nat.and_le_right
    omega
  have hs := steps_nib ⟨(y &&& 15#32).toNat, hlt⟩
  have hcell := ht.cell gTab (y &&& 15#32).toNat (by simpa [steps] using hlt)
  have e : (w32 (y &&& 15#32)).toNat = (y &&& 15#32).toNat := by unfold w32; omega
  rw [e, hcell]
  have hs' : steps[(y &&& 15#32).toNat]? = some (w32 (M.nib (y &&& 15#32))) := by
    rw [hs]
    simp
  simp only [List.getD, hs', Option.getD_some]

/-- A WORLD FOR THE WITNESS: the settled one, the table holding what its initialiser lays. -/
noncomputable def laidWorld (os : Os) : World :=
  { World.holding Tryd.prog os ⟨#[], #[], []⟩ with heap := (World.holding Tryd.prog os ⟨#[], #[], []⟩).heap.modify 0 fun
      | .cells _ t frozen => .cells (steps.map (Value.int .u32)).toArray t frozen
      | o => o }
end Go.Proofs.YtjficpdfofmcnaaDoor
