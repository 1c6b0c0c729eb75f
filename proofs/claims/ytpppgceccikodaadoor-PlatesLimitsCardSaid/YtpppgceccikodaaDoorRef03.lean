/- The contracts of the reference's functions of chapter 3. -/
import Derived.Test.YtpppgceccikodaaDoorDig
import Derived.Deep.RegionHeld3
import Derived.Deep.QuietTactic
import Derived.BigQuiet
namespace Go.Proofs.YtpppgceccikodaaDoor
open Go.RowKit Go.Joins

/-- So many shifts. -/
def bitN : Nat → BitVec 32 → BitVec 32
  | 0, x => x
  | j + 1, x => M.bit (bitN j x)
theorem bitN_8 (x : BitVec 32) : bitN 8 x = M.oct x := rfl
theorem odd_true {y : BitVec 32} (h : y.getLsbD 0 = true) : w32 y % 2 = 1 := by
  have : y.toNat.testBit 0 = true := h
  rw [Nat.testBit_zero] at this
  unfold w32
  simp at this
  omega
theorem odd_false {y : BitVec 32} (h : y.getLsbD 0 = false) : w32 y % 2 = 0 := by
  have : y.toNat.testBit 0 = false := h
  rw [Nat.testBit_zero] at this
  unfold w32
  simp at this
  omega
theorem half32 (y : BitVec 32) : w32 y / (2 : Int) = w32 (y >>> 1) := by
  unfold w32
  rw [BitVec.toNat_ushiftRight, Nat.shiftRight_eq_div_pow]
  omega
theorem tdiv32 (y : BitVec 32) : (w32 y).tdiv (2 : Int) % (4294967296 : Int) = w32 (y >>> 1) := by
  have h0 := u32_nn y
  have h1 := u32_lt y
  rw [← half32, Int.tdiv_eq_ediv_of_nonneg h0]
  omega
theorem xp32 (y : BitVec 32) : bits .xor .u32 ((w32 y).tdiv (2 : Int) % (4294967296 : Int)) 3988292384 = w32 ((y >>> 1) ^^^ 0xedb88320#32) := by
  have := x32 (y >>> 1) 0xedb88320#32
  rw [tdiv32]
  exact this

section
attribute [local go_sem] x32 e32
set_option maxHeartbeats 400000 in
/-- mapsheetsref03.Crc -/
theorem rcrc_any (A : Option Addr) (n c : Nat) (l : List UInt8) (w : World) (hl : RB w A n c l) :
    Calls Tryd.prog 39 #[.slice A n c] w fun e w' => e = .returned (.int .i64 (w32 (M.crc l))) ∧ w = w' := by
  have hlen := hl.len
  have hbig := Nat.le_trans hl.cap hl.big
  unfold maxLen at hbig
  go_enter Tryd.func39, Tryd.ntmps39
  go_wp2
  go_loop [3, 4] (fun r i => ∃ k : Nat, k ≤ n ∧ i = .int .i64 k ∧ r = .int .u32 (w32 (M.crcReg (l.take k)))) (fun _ i => n - (intOf i).toNat)
  case atStart => exact ⟨0, Nat.zero_le _, rfl, rfl⟩
  case round =>
    obtain ⟨k, hk, rfl, rfl⟩ := hrel
    by_cases hlt : k < n
    · obtain ⟨b, o, rfl, _, hck⟩ := hl.at_ (k := k) (by omega)
      have HS := Lib.hid (M.crcReg_take l k (by omega))
      generalize M.crcReg (l.take k) = r at *
      have HL := Lib.hid hl
      clear hl
      go_wp2
      have HX : Hid (M.crcStep r l[k] = bitN 8 (r ^^^ M.ext l[k])) := rfl
      generalize r ^^^ M.ext l[k] = x at *
      go_loop [3, 5] (fun r i => ∃ j : Nat, j ≤ 8 ∧ i = .int .i64 j ∧ r = .int .u32 (w32 (bitN j x))) (fun _ i => 8 - (intOf i).toNat)
      case atStart => exact ⟨0, Nat.zero_le _, rfl, rfl⟩
      case round =>
        obtain ⟨j, hj, rfl, rfl⟩ := hrel
        by_cases hj8 : j < 8
        · have HB : Hid (bitN (j + 1) x = (bitN j x >>> 1) ^^^ (if (bitN j x).getLsbD 0 then 0xedb88320#32 else 0#32)) := rfl
          generalize bitN j x = y at *
          cases hy : y.getLsbD 0 with
          | true =>
            have h1 : ((w32 y).tmod 2 == 1) = true := by rw [Int.tmod_eq_emod_of_nonneg (u32_nn y), odd_true hy]; rfl
            have HY := Lib.hid hy
            clear hy
            go_wp2
            go_round
            case rel =>
              refine ⟨j + 1, by omega, by go_num, ?_⟩
              rw [HB.out, HY.out, xp32]
              rfl
            case measure => simp [intOf]; omega
          | false =>
            have h1 : ((w32 y).tmod 2 == 1) = false := by rw [Int.tmod_eq_emod_of_nonneg (u32_nn y), odd_false hy]; rfl
            have HY := Lib.hid hy
            clear hy
            go_wp2
            go_round
            case rel =>
              refine ⟨j + 1, by omega, by go_num, ?_⟩
              rw [HB.out, HY.out, tdiv32]
              simp
            case measure => simp [intOf]; omega
        · obtain rfl : j = 8 := by omega
          go_wp2
          go_round
          case rel => exact ⟨k + 1, by omega, by go_num, by rw [HS.out, HX.out]⟩
          case measure => simp [intOf]; omega
    · rw [List.take_of_length_le (by omega)]
      obtain ⟨y, hy⟩ : ∃ y, y = M.crc l := ⟨_, rfl⟩
      have h3 : bits .xor .u32 IntKind.u32.max (w32 (M.crcReg l)) = w32 y := by rw [hy]; exact not32 (M.crcReg l)
      have HY := Lib.hid hy
      clear hy
      have h4 : wrap64 (w32 y) = w32 y := IntWalk.wrap64_in _ (by have := u32_nn y; have := u32_lt y; omega)
      go_wp2
      go_ret
      exact ⟨by rw [← HY.out]; rfl, rfl⟩
end



/-- mapsheetsref03.Same -/
theorem same_any (A : Option Addr) (n c : Nat) (l : List UInt8) (B : Option Addr) (m d : Nat) (l' : List UInt8) (w : World) (hl : RB w A n c l) (hl' : RB w B m d l') :
    Calls Tryd.prog 17 #[.slice A n c, .slice B m d] w fun e w' => e = .returned (.bool (decide (l = l'))) ∧ ∃ k, w' = w.drewN k := by
  have hlen := hl.len
  have hlen' := hl'.len
  have hbig := Nat.le_trans hl.cap hl.big
  unfold maxLen at hbig
  by_cases hnm : n = m
  · subst hnm
    have h0 : ((n : Int) != (n : Int)) = false := by simp
    have HL := Lib.hid hl
    have HL' := Lib.hid hl'
    clear hl hl'
    go_enter Tryd.func17, Tryd.ntmps17
    go_wp2
    go_loopw [5] (fun i wr => ∃ k q : Nat, k ≤ n ∧ i = .int .i64 k ∧ l.take k = l'.take k ∧ wr = w.drewN q) (fun i _ => n - (intOf i).toNat)
    case atStart => exact ⟨0, 0, Nat.zero_le _, rfl, by simp, rfl⟩
    case round =>
      obtain ⟨k, q, hk, rfl, heq, rfl⟩ := hrel
      have HE := Lib.hid heq
      clear heq
      by_cases hlt : k < n
      · obtain ⟨b, o, rfl, _, hck⟩ := HL.out.at_ (k := k) (by omega)
        obtain ⟨b', o', rfl, _, hck'⟩ := HL'.out.at_ (k := k) (by omega)
        by_cases hx : l[k] = l'[k]
        · have h1 : ((l[k].toNat : Int) != (l'[k].toNat : Int)) = false := by simp [hx]
          have HX := Lib.hid hx
          clear hx
          go_wp2
          go_quiet (fail)
          go_wp2
          go_roundw
          case rel =>
            refine ⟨k + 1, _, by omega, by go_num, ?_, rfl⟩
            rw [List.take_succ_eq_append_getElem (by omega), List.take_succ_eq_append_getElem (by omega), HE.out, HX.out]
          case measure => simp [intOf]; omega
        · have h1 : ((l[k].toNat : Int) != (l'[k].toNat : Int)) = true := by
            simp only [bne_iff_ne, ne_eq]
            intro h
            exact hx (UInt8.toNat_inj.1 (by omega))
          have HX : Hid (decide (l = l') = false) := by
            refine decide_eq_false fun h => hx ?_
            subst h
            rfl
          clear hx
          go_wp2
          go_quiet (fail)
          go_wp2
          go_ret
          exact ⟨by rw [HX.out]; rfl, _, by rw [World.drewN_drewN]⟩
      · have HX : Hid (decide (l = l') = true) := by
          have heq := HE.out
          rw [List.take_of_length_le (by omega), List.take_of_length_le (by omega)] at heq
          exact decide_eq_true heq
        go_wp2
        go_ret
        exact ⟨by rw [HX.out]; rfl, _, rfl⟩
  · have h0 : ((n : Int) != (m : Int)) = true := by simp; omega
    have HX : Hid (decide (l = l') = false) := by
      refine decide_eq_false fun h => hnm ?_
      rw [← hlen, ← hlen', h]
    go_enter Tryd.func17, Tryd.ntmps17
    go_wp2
    go_ret
    exact ⟨by rw [HX.out]; rfl, 0, rfl⟩

/-- The same, where the two are known to be equal. -/
theorem same_true (A : Option Addr) (n c : Nat) (B : Option Addr) (m d : Nat) (l : List UInt8) (w : World) (hl : RB w A n c l) (hl' : RB w B m d l) :
    Calls Tryd.prog 17 #[.slice A n c, .slice B m d] w fun e w' => e = .returned (.bool true) ∧ ∃ k, w' = w.drewN k :=
  (same_any A n c l B m d l w hl hl').mono fun _ _ ⟨he, hw⟩ => ⟨by simpa using he, hw⟩

theorem byteShr (x j : Nat) : ((x : Int) / 2 ^ (8 * j)) % 256 = ((M.byteAt x j).toNat : Int) := by
  have e1 : (x : Int) / 2 ^ (8 * j) = ((x / 2 ^ (8 * j) : Nat) : Int) := by simp
  rw [e1, Nat.pow_mul, show (2 : Nat) ^ 8 = 256 from rfl]
  unfold M.byteAt
  rw [UInt8.toNat_ofNat']
  omega

/-- mapsheetsref03.Bytes -/
theorem bytes_any (x k : Nat) (w : World) (hk : k ≤ 8) (_hx : x < 18446744073709551616) :
    Calls Tryd.prog 38 #[.int .u64 x, .int .i64 k] w (RetB w (M.beN x k)) := by
  go_enter Tryd.func38, Tryd.ntmps38
  go_wp2
  go_loopw [5, 6] (fun v i wr => ∃ (j : Nat) (A : Option Addr) (n c : Nat), j ≤ k ∧ i = .int .i64 ((j : Int) - 1) ∧ v = .slice A n c ∧ TB wr w.heap.size A n c ((M.beN x k).take (k - j)) ∧ Below w.heap.size w wr) (fun _ i _ => (intOf i + 1).toNat)
  case atStart => exact ⟨k, none, 0, 0, Nat.le_refl _, rfl, rfl, by simpa using TB.nil _ _, Below.refl _ _⟩
  case round =>
    obtain ⟨j, A, n, c, hj, rfl, rfl, ht, hb⟩ := hrel
    have hn : n = k - j := by have := ht.len; rw [List.length_take, M.length_beN] at this; omega
    have HN := Lib.hid hn
    have hn8 : n ≤ 8 := by omega
    have HT := Lib.hid ht
    have HB := Lib.hid hb
    clear ht hb hn
    by_cases hj0 : 1 ≤ j
    · have HS : Hid ((M.beN x k).take (k - (j - 1)) = (M.beN x k).take (k - j) ++ [M.byteAt x (j - 1)]) := by
        have h1 : k - j < (M.beN x k).length := by rw [M.length_beN]; omega
        have := List.take_succ_eq_append_getElem h1
        rw [M.get_beN, show k - 1 - (k - j) = j - 1 by omega] at this
        rw [show k - (j - 1) = k - j + 1 by omega]
        exact this
      obtain ⟨i, hi⟩ : ∃ i, j = i + 1 := ⟨j - 1, by omega⟩
      subst hi
      have e1 : ((i + 1 : Nat) : Int) - 1 = (i : Int) := by omega
      rw [e1]
      simp only [Nat.add_sub_cancel] at HS
      have hv := byteShr x i
      go_wp2_with (at_builtin; refine append_b _ rfl (.tmp 13) (.tmp 19) rfl w.heap.size A n c _ rfl (HT.out.below (below_alloc1 _ _)) _ 1 1 [M.byteAt x i] rfl (rb_one _ _) (by omega) (by have := HB.out.size; simp; omega) ?_; intro A' n' c' w2 ht hb; have HT2 := Lib.hid ht; have HB2 := Lib.hid hb; clear ht hb)
      go_roundw
      case rel =>
        exact ⟨i, A', n', c', by omega, rfl, rfl, by rw [HS.out]; exact HT2.out, (HB.out.alloc HB.out.size _).trans HB2.out⟩
      case measure => simp [intOf]
    · obtain rfl : j = 0 := by omega
      go_wp2
      go_ret
      refine ⟨A, n, c, rfl, ?_, HB.out⟩
      have := HT.out.rb
      rwa [List.take_of_length_le (by rw [M.length_beN]; omega)] at this


/-- mapsheetsref03.Seal -/
theorem rseal_any (A : Option Addr) (n c : Nat) (l : List UInt8) (w : World) (hl : RB w A n c l) (hroom : n + 4 ≤ 140737488355328) :
    Calls Tryd.prog 25 #[.slice A n c] w (RetB w (M.sealed l)) := by
  have HL := Lib.hid hl
  clear hl
  have e1 : IntKind.u64.wrap (w32 (M.crc l)) = ((M.crc l).toNat : Int) := by
    have := (M.crc l).isLt
    unfold w32
    rw [IntKind.wrap_u64]
    omega
  have hx : (M.crc l).toNat < 18446744073709551616 := by have := (M.crc l).isLt; omega
  have HX := Lib.hid hx
  clear hx
  go_enter Tryd.func25, Tryd.ntmps25
  go_wp2_with (first
    | (at_builtin; refine append_b _ rfl (.tmp 4) (.tmp 5) rfl w.heap.size none 0 0 [] rfl (TB.nil _ _) A n c l rfl HL.out (by omega) (Nat.le_refl _) ?_; intro A1 n1 c1 w1 ht hb; have HT1 := Lib.hid ht; have HB1 := Lib.hid hb; clear ht hb)
    | (go_at_call 39; refine (rcrc_any A n c l _ (HL.out.below HB1.out)).mono ?_; rintro e w' ⟨rfl, rfl⟩)
    | (go_at_call 38; refine (bytes_any _ 4 _ (by omega) HX.out).mono ?_; rintro e w2 ⟨A2, n2, c2, rfl, hr, hb⟩; have HR2 := Lib.hid hr; have HB2 := Lib.hid hb; clear hr hb)
    | (at_builtin; refine append_b _ rfl (.tmp 7) (.tmp 11) rfl w.heap.size A1 n1 c1 _ rfl (HT1.out.below HB2.out) A2 n2 c2 _ rfl HR2.out (by have := HT1.out.len; have := HR2.out.len; have := HL.out.len; simp [M.length_beN] at *; omega) (by have := HB1.out.size; have := HB2.out.size; omega) ?_; intro A3 n3 c3 w3 ht hb; have HT3 := Lib.hid ht; have HB3 := Lib.hid hb; clear ht hb))
  go_ret
  refine ⟨A3, n3, c3, rfl, ?_, HB1.out.trans ((HB2.out.mono HB1.out.size).trans HB3.out)⟩
  unfold M.sealed
  rw [M.be4_beN]
  exact HT3.out.rb

/-- mapsheetsref03.Open of fewer than four bytes. -/
theorem ropen_short (A : Option Addr) (n c : Nat) (w : World) (hn : n < 4) : Calls Tryd.prog 34 #[.slice A n c] w (RetBE w [] 5) := by
  go_enter Tryd.func34, Tryd.ntmps34
  go_wp2
  go_ret2
  exact ⟨none, 0, 0, rfl, RB.none_ _, Below.refl _ _⟩

/-- mapsheetsref03.Open of at least four bytes. -/
theorem ropen_long (A : Option Addr) (n c : Nat) (l : List UInt8) (w : World) (hl : RB w A n c l) (hn : 4 ≤ n) (hroom : n ≤ 140737488355328) :
    Calls Tryd.prog 34 #[.slice A n c] w
      (if M.be4 (M.crc (l.take (n - 4))) = l.drop (n - 4) then RetBE w (l.take (n - 4)) 0 else RetBE w [] 6) := by
  have hlen := hl.len
  have hcap := hl.cap
  have hbig := hl.big
  unfold maxLen at hbig
  obtain ⟨b, o, rfl, _, _⟩ := Rd.mem hl (by omega)
  have hm : RB w (some ⟨b, o, none⟩) (n - 4) c (l.take (n - 4)) := by
    have := hl.cut (i := 0) (j := n - 4) (m := c) (by omega) (by omega) (by omega) (by omega)
    simpa [cutA_zero] using this
  have hd : RB w (some ⟨b, o + (n - 4), none⟩) 4 (c - (n - 4)) (l.drop (n - 4)) := by
    have := hl.cut (i := n - 4) (j := n) (m := c) (by omega) (by omega) (by omega) (by omega)
    rw [List.take_of_length_le (by omega), show n - (n - 4) = 4 by omega] at this
    unfold cutA at this
    rw [if_neg (by omega)] at this
    simpa [Addr.add_lit] using this
  have hx : (M.crc (l.take (n - 4))).toNat < 18446744073709551616 := by have := (M.crc (l.take (n - 4))).isLt; omega
  have w1 : IntKind.u64.wrap (w32 (M.crc (l.take (n - 4)))) = ((M.crc (l.take (n - 4))).toNat : Int) := by
    have := (M.crc (l.take (n - 4))).isLt
    unfold w32
    rw [IntKind.wrap_u64]
    omega
  have sm := fun W B m d h => same_any B m d (M.beN (M.crc (l.take (n - 4))).toNat 4) (some ⟨b, o + (n - 4), none⟩) 4 (c - (n - 4)) (l.drop (n - 4)) W h
  rw [M.be4_beN]
  have HX := Lib.hid hx
  have HM := Lib.hid hm
  have HD := Lib.hid hd
  clear hm hd hx hl hlen
  by_cases heq : M.beN (M.crc (l.take (n - 4))).toNat 4 = l.drop (n - 4)
  all_goals
    simp only [heq, if_true, if_false, decide_true, decide_false] at sm ⊢
    have HE := Lib.hid heq
    have SM := Lib.hid sm
    clear heq sm
    go_enter Tryd.func34, Tryd.ntmps34
    go_wp2
    have e2 : (0 : Int) ≤ (n : Int) - 4 := by omega
    have e2' : (4 : Int) ≤ (n : Int) := by omega
    have e3 : (n : Int) - 4 ≤ (n : Int) := by omega
    have e3' : (n : Int) - 4 ≤ (c : Int) := by omega
    have e4 : ((n : Int) - 4).toNat = n - 4 := by omega
    have e5 : ¬ c = n - 4 := by omega
    have e6 : n - (n - 4) = 4 := by omega
    go_region_held3 (fun W => True)
      (first | trivial)
      (first
        | (go_at_call 39; refine (rcrc_any _ _ _ _ _ (HM.out.below (below_draws _ _ 1))).mono ?_; rintro e w' ⟨rfl, rfl⟩)
        | (go_at_call 38; refine (bytes_any _ 4 _ (by omega) HX.out).mono ?_; rintro e w2 ⟨A2, n2, c2, rfl, hr, hb⟩; have HR2 := Lib.hid hr; have HB2 : Hid (Below w.heap.size w w2) := (below_draws _ _ 1).trans hb; clear hr hb)
        | (go_at_call 17; refine (SM.out _ _ _ _ ?_ (HD.out.below HB2.out)).mono ?_; (first | exact HR2.out | exact HE.out ▸ HR2.out); rintro e w' ⟨rfl, k3, rfl⟩))
    clear e2 e2' e3 e3' e4 e5 e6
  · go_wp2_with (at_builtin; refine append_b _ rfl (.tmp 22) (.tmp 25) rfl w.heap.size none 0 0 [] rfl (TB.nil _ _) _ (n - 4) c _ rfl (HM.out.below (HB2.out.trans (below_draws _ _ _))) (by omega) (by have := HB2.out.size; simp; omega) ?_; intro A1 n1 c1 w1 ht hb; have HT1 := Lib.hid ht; have HB1 := Lib.hid hb; clear ht hb)
    go_ret2
    exact ⟨A1, n1, c1, rfl, HT1.out.rb, (HB2.out.trans (below_draws _ _ _)).trans HB1.out⟩
  · go_wp2
    go_ret2
    exact ⟨none, 0, 0, rfl, RB.none_ _, HB2.out.trans (below_draws _ _ _)⟩
end Go.Proofs.YtpppgceccikodaaDoor
