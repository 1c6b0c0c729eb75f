/- The laws of chapter 3 with a loop of their own, walked. -/
import Derived.Test.YtediklpfgadncaaDoorLaw03
namespace Go.Proofs.YtediklpfgadncaaDoor
open Go.RowKit Go.Joins

theorem digit_lo (j : Nat) (h : j < 10) : (M.digit j).toNat = 48 + j := by
  have : ∀ i : Fin 10, (M.digit i.1).toNat = 48 + i.1 := by decide
  exact this ⟨j, h⟩
theorem digit_hi (j : Nat) (h : 10 ≤ j) (h' : j < 16) : (M.digit j).toNat = 87 + j := by
  have : ∀ i : Fin 6, (M.digit (i.1 + 10)).toNat = 87 + (i.1 + 10) := by decide
  have := this ⟨j - 10, by omega⟩
  simpa [show j - 10 + 10 = j by omega] using this

/-- The number that the first k digits of d are. -/
def lead (d k : Nat) : Nat := d / 16 ^ (16 - k)
theorem lead_step (d k : Nat) (hk : k < 16) : lead d (k + 1) = lead d k * 16 + d / 16 ^ (15 - k) % 16 := by
  unfold lead
  rw [show 16 - (k + 1) = 15 - k by omega, show 16 - k = 15 - k + 1 by omega, Nat.pow_succ, ← Nat.div_div_eq_div_mul]
  omega
theorem lead_le (d k : Nat) : lead d k ≤ d := Nat.div_le_self _ _

theorem law_hex (d : Nat) (w : World) (hd : d < 18446744073709551616) (ht : Tab w) :
    Calls Tryd.prog 4 #[.int .u64 (d : Int)] w (Yes w) := by
  have HT := Lib.hid ht
  clear ht
  have c1 := fun W => hex_any d W hd
  have c2 := fun W => rhex_any d W hd
  obtain ⟨t, htt⟩ : ∃ t : ByteArray, t = ⟨(M.hexL d).toArray⟩ := ⟨_, rfl⟩
  rw [← htt] at c1 c2
  have hsz : t.size = 16 := by rw [htt]; simp [M.hexL, ByteArray.size]
  have C1 := Lib.hid c1
  have C2 := Lib.hid c2
  have HTT := Lib.hid htt
  have HD := Lib.hid hd
  clear c1 c2 htt hd
  go_enter Tryd.func4, Tryd.ntmps4
  go_wp2_with fail
  refine (C1.out _).mono ?_
  rintro e w1 ⟨rfl, hb1⟩
  have HB1 := Lib.hid hb1
  clear hb1
  go_wp2_with fail
  refine (C2.out _).mono ?_
  rintro e w' ⟨rfl, rfl⟩
  go_wp2
  go_loop [4, 5] (fun r i => ∃ k : Nat, k ≤ 16 ∧ i = .int .i64 k ∧ r = .int .u64 (lead d k : Int)) (fun _ i => 16 - (intOf i).toNat)
  case atStart => exact ⟨0, Nat.zero_le _, rfl, by simp [lead, Nat.div_eq_of_lt HD.out]⟩
  case round =>
    obtain ⟨k, hk, rfl, rfl⟩ := hrel
    by_cases hlt : k < 16
    · have hby : (t[k]'(by omega)).toNat = (M.digit (d / 16 ^ (15 - k) % 16)).toNat := by
        have h2 : t[k]'(by omega) = t.data[k]'(by show k < t.size; omega) := rfl
        have h3 := HTT.out
        rw [h2]
        congr 1
        subst h3
        simp [M.hexL, M.hexAt]
      have hst := lead_step d k hlt
      have hj : d / 16 ^ (15 - k) % 16 < 16 := Nat.mod_lt _ (by decide)
      generalize d / 16 ^ (15 - k) % 16 = j at *
      generalize lead d k = r at *
      have HST := Lib.hid hst
      clear hst
      have HLE : Hid (lead d (k + 1) ≤ d) := lead_le d (k + 1)
      by_cases h10 : j < 10
      · rw [digit_lo j h10] at hby
        go_wp2
        go_round
        case rel =>
          refine ⟨k + 1, by omega, by go_num, ?_⟩
          have h1 := HST.out
          have h2 := HLE.out
          have h3 := HD.out
          rw [h1] at h2 ⊢
          congr 1
          rw [IntKind.wrap_u64, IntKind.wrap_u64]
          omega
        case measure => simp [intOf]; omega
      · rw [digit_hi j (by omega) hj] at hby
        go_wp2
        go_round
        case rel =>
          refine ⟨k + 1, by omega, by go_num, ?_⟩
          have h1 := HST.out
          have h2 := HLE.out
          have h3 := HD.out
          rw [h1] at h2 ⊢
          congr 1
          rw [IntKind.wrap_u64, IntKind.wrap_u64]
          omega
        case measure => simp [intOf]; omega
    · obtain rfl : k = 16 := by omega
      rw [show lead d 16 = d by simp [lead]]
      go_wp2_with fail
      refine (awake_any _ (HT.out.below HB1.out)).mono ?_
      rintro e w5 ⟨rfl, hb5⟩
      have HB5 : Hid (Below w.heap.size w w5) := HB1.out.trans (hb5.mono HB1.out.size)
      clear hb5
      go_wp2
      go_ret
      exact ⟨rfl, HB5.out⟩

/-! ### the exclusive or of checksums -/
/-- Exclusive or, kept folded. -/
def x8 (a b : UInt8) : UInt8 := a ^^^ b
theorem xor8 (a b : UInt8) : bits .xor .u8 (a.toNat : Int) (b.toNat : Int) = ((x8 a b).toNat : Int) := by
  unfold x8
  rw [u8_xor_nat _ _ a.toNat_lt b.toNat_lt, UInt8.toNat_xor]
theorem get_xorL : ∀ (l m : List UInt8) (k : Nat) (h1 : k < l.length) (h2 : k < m.length) (h3 : k < (M.xorL l m).length), (M.xorL l m)[k] = l[k] ^^^ m[k]
  | a :: l, b :: m, 0, _, _, _ => rfl
  | a :: l, b :: m, k + 1, h1, h2, h3 => by
    simp only [M.xorL, List.getElem_cons_succ]
    exact get_xorL l m k (by simpa using h1) (by simpa using h2) (by simpa [M.xorL] using h3)
theorem xor64_32 (a b : BitVec 32) : bits .xor .i64 (w32 a) (w32 b) = w32 (a ^^^ b) := by
  have ha := a.isLt
  have hb := b.isLt
  unfold w32
  have e1 : (BitVec.ofInt 64 (a.toNat : Int)).toNat = a.toNat := by
    rw [BitVec.ofInt_natCast, BitVec.toNat_ofNat]; exact Nat.mod_eq_of_lt (by omega)
  have e2 : (BitVec.ofInt 64 (b.toNat : Int)).toNat = b.toNat := by
    rw [BitVec.ofInt_natCast, BitVec.toNat_ofNat]; exact Nat.mod_eq_of_lt (by omega)
  have hx : a.toNat ^^^ b.toNat < 2 ^ 32 := Nat.xor_lt_two_pow ha hb
  show IntKind.i64.wrap ((BitVec.ofInt 64 (a.toNat : Int) ^^^ BitVec.ofInt 64 (b.toNat : Int)).toNat : Int) = _
  rw [BitVec.toNat_xor, e1, e2, IntKind.wrap_i64, BitVec.toNat_xor]
  omega

section
attribute [local go_sem] xor8
theorem law_linear_same (A B C : Option Addr) (n c1 c2 c3 : Nat) (l1 l2 l3 : List UInt8) (w : World) (h1 : RB w A n c1 l1) (h2 : RB w B n c2 l2) (h3 : RB w C n c3 l3) (ht : Tab w) (hroom : n ≤ 140737488355328) :
    Calls Tryd.prog 7 #[.slice A n c1, .slice B n c2, .slice C n c3] w (Yes w) := by
  have hlen := h1.len
  have hlen2 := h2.len
  have hlen3 := h3.len
  have H1 := Lib.hid h1
  have H2 := Lib.hid h2
  have H3 := Lib.hid h3
  have HT := Lib.hid ht
  have hlx : (M.xorL (M.xorL l1 l2) l3).length = n := by rw [M.length_xorL _ _ (by rw [M.length_xorL _ _ (by omega)]; omega), M.length_xorL _ _ (by omega), hlen]
  have HLX := Lib.hid hlx
  have hnn : ((n : Int) != (n : Int)) = false := by simp
  clear h1 h2 h3 ht hlx
  go_enter Tryd.func7, Tryd.ntmps7
  go_wp2
  go_loopw [7, 8] (fun v i wr => ∃ (k : Nat) (D : Option Addr) (m d : Nat), k ≤ n ∧ i = .int .i64 k ∧ v = .slice D m d ∧ TB wr w.heap.size D m d ((M.xorL (M.xorL l1 l2) l3).take k) ∧ Below w.heap.size w wr) (fun _ i _ => n - (intOf i).toNat)
  case atStart => exact ⟨0, none, 0, 0, Nat.zero_le _, rfl, rfl, TB.nil _ _, Below.refl _ _⟩
  case round =>
    obtain ⟨k, D, m, d, hk, rfl, rfl, htb, hb⟩ := hrel
    have hm : m ≤ k := by have := htb.len; rw [List.length_take, HLX.out] at this; omega
    have HTB := Lib.hid htb
    have HB := Lib.hid hb
    clear htb hb
    by_cases hlt : k < n
    · obtain ⟨b1, o1, rfl, g1, hx1⟩ := H1.out.at_ (k := k) (by omega)
      obtain ⟨b2, o2, rfl, g2, hx2⟩ := H2.out.at_ (k := k) (by omega)
      obtain ⟨b3, o3, rfl, g3, hx3⟩ := H3.out.at_ (k := k) (by omega)
      have C1 : Hid (∀ W, Below w.heap.size w W → W.cell? ⟨b1, o1 + k, none⟩ = some (.int .u8 (l1[k].toNat : Int))) := fun W h => (h.cell (p := ⟨b1, _, none⟩) g1).trans hx1
      have C2 : Hid (∀ W, Below w.heap.size w W → W.cell? ⟨b2, o2 + k, none⟩ = some (.int .u8 (l2[k].toNat : Int))) := fun W h => (h.cell (p := ⟨b2, _, none⟩) g2).trans hx2
      have C3 : Hid (∀ W, Below w.heap.size w W → W.cell? ⟨b3, o3 + k, none⟩ = some (.int .u8 (l3[k].toNat : Int))) := fun W h => (h.cell (p := ⟨b3, _, none⟩) g3).trans hx3
      clear hx1 hx2 hx3
      have HS : Hid ((M.xorL (M.xorL l1 l2) l3).take (k + 1) = (M.xorL (M.xorL l1 l2) l3).take k ++ [x8 (x8 l1[k] l2[k]) l3[k]]) := by
        show _ = _
        rw [List.take_succ_eq_append_getElem (by rw [HLX.out]; exact hlt), get_xorL _ _ _ (by rw [M.length_xorL _ _ (by omega)]; omega) (by omega), get_xorL _ _ _ (by omega) (by omega)]
        rfl
      go_wp2
      have i1 : (0 : Int) ≤ (k : Int) := by omega
      have i2 : (k : Int) < (n : Int) := by omega
      go_region_held3 (fun W => W.cell? ⟨b1, o1 + k, none⟩ = some (.int .u8 (l1[k].toNat : Int)) ∧ W.cell? ⟨b2, o2 + k, none⟩ = some (.int .u8 (l2[k].toNat : Int)) ∧ W.cell? ⟨b3, o3 + k, none⟩ = some (.int .u8 (l3[k].toNat : Int)))
        (first | exact ⟨C1.out _ (HB.out.drew), C2.out _ (HB.out.drew), C3.out _ (HB.out.drew)⟩ | exact ⟨C1.out _ ((HB.out.alloc HB.out.size _).drew), C2.out _ ((HB.out.alloc HB.out.size _).drew), C3.out _ ((HB.out.alloc HB.out.size _).drew)⟩ | exact ⟨C1.out _ (HB.out.drew.alloc HB.out.size _), C2.out _ (HB.out.drew.alloc HB.out.size _), C3.out _ (HB.out.drew.alloc HB.out.size _)⟩ | exact ⟨C1.out _ ((HB.out.alloc HB.out.size _).drew.trans hb), C2.out _ ((HB.out.alloc HB.out.size _).drew.trans hb), C3.out _ ((HB.out.alloc HB.out.size _).drew.trans hb)⟩)
        (first | (refine step_append_b _ rfl (.tmp 28) (.tmp 43) rfl w.heap.size D m d _ rfl (HTB.out.below ((below_alloc1 _ _).trans (below_draws _ _ 1))) _ 1 1 [x8 (x8 l1[k] l2[k]) l3[k]] rfl ((rb_one _ _).below (below_draws _ _ 1)) (by omega) (by have := HB.out.size; simp; omega) ?_; intro A' n' c' w2 ht hb))
      have HT2 := Lib.hid ht
      have HB2 : Hid (Below w.heap.size w w2) := ((HB.out.alloc HB.out.size _).trans (below_draws _ _ 1)).trans hb
      clear ht hb
      go_wp2
      go_roundw
      case rel => exact ⟨k + 1, A', n', c', by omega, by go_num, rfl, by rw [HS.out]; exact HT2.out, HB2.out⟩
      case measure => simp [intOf]; omega
    · obtain rfl : k = n := by omega
      rw [List.take_of_length_le (by rw [HLX.out]; omega)] at HTB
      have hx := M.crc_linear l1 l2 l3 (by omega) (by omega)
      have e1 : bits .xor .i64 (w32 (M.crc l1)) (w32 (M.crc l2)) = w32 (M.crc l1 ^^^ M.crc l2) := xor64_32 _ _
      have e2 : bits .xor .i64 (w32 (M.crc l1 ^^^ M.crc l2)) (w32 (M.crc l3)) = w32 (M.crc (M.xorL (M.xorL l1 l2) l3)) := by rw [← hx]; exact xor64_32 _ _
      clear hx
      go_wp2_with fail
      refine (crc_any A k c1 l1 _ (H1.out.below HB.out) (HT.out.below HB.out)).mono ?_
      rintro e w' ⟨rfl, rfl⟩
      go_wp2_with fail
      refine (crc_any B k c2 l2 _ (H2.out.below HB.out) (HT.out.below HB.out)).mono ?_
      rintro e w' ⟨rfl, rfl⟩
      go_wp2_with fail
      refine (crc_any C k c3 l3 _ (H3.out.below HB.out) (HT.out.below HB.out)).mono ?_
      rintro e w' ⟨rfl, rfl⟩
      go_wp2_with fail
      refine (crc_any D m d _ _ HTB.out.rb (HT.out.below HB.out)).mono ?_
      rintro e w' ⟨rfl, rfl⟩
      go_wp2_with fail
      refine (awake_any _ (HT.out.below HB.out)).mono ?_
      rintro e w5 ⟨rfl, hb5⟩
      have HB5 : Hid (Below w.heap.size w w5) := HB.out.trans (hb5.mono HB.out.size)
      clear hb5
      go_wp2
      go_ret
      exact ⟨rfl, HB5.out⟩
end

theorem law_linear (A B C : Option Addr) (n1 n2 n3 c1 c2 c3 : Nat) (l1 l2 l3 : List UInt8) (w : World) (h1 : RB w A n1 c1 l1) (h2 : RB w B n2 c2 l2) (h3 : RB w C n3 c3 l3) (ht : Tab w) (hroom : n1 ≤ 140737488355328) :
    Calls Tryd.prog 7 #[.slice A n1 c1, .slice B n2 c2, .slice C n3 c3] w (Yes w) := by
  by_cases h12 : n1 = n2
  · by_cases h13 : n1 = n3
    · subst h12 h13
      exact law_linear_same A B C n1 c1 c2 c3 l1 l2 l3 w h1 h2 h3 ht hroom
    · have e1 : ((n1 : Int) != (n2 : Int)) = false := by simp [h12]
      have e2 : ((n1 : Int) != (n3 : Int)) = true := by simp; omega
      have HT := Lib.hid ht
      clear h1 h2 h3 ht h12 h13
      go_enter Tryd.func7, Tryd.ntmps7
      go_wp2_with (go_at_call 14; refine (awake_any _ HT.out).mono ?_; rintro e w' ⟨rfl, hb⟩; have HB := Lib.hid hb; clear hb)
      go_ret
      exact ⟨rfl, HB.out⟩
  · have e1 : ((n1 : Int) != (n2 : Int)) = true := by simp; omega
    have HT := Lib.hid ht
    clear h1 h2 h3 ht h12
    go_enter Tryd.func7, Tryd.ntmps7
    go_wp2_with (go_at_call 14; refine (awake_any _ HT.out).mono ?_; rintro e w' ⟨rfl, hb⟩; have HB := Lib.hid hb; clear hb)
    go_ret
    exact ⟨rfl, HB.out⟩
end Go.Proofs.YtediklpfgadncaaDoor
