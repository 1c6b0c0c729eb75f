/- DigestDetects, walked. -/
import Derived.Test.YtediklpfgadncaaDoorLaw03b
namespace Go.Proofs.YtediklpfgadncaaDoor
open Go.RowKit Go.Joins

/-- A changed byte of sealed bytes: the checksum does not fit. -/
theorem detect (l : List UInt8) (i : Nat) (hi : i < (M.sealed l).length) (y : UInt8) (hy : y ≠ (M.sealed l)[i]) :
    ¬ M.be4 (M.crc (((M.sealed l).set i y).take l.length)) = ((M.sealed l).set i y).drop l.length := by
  rw [M.length_sealed] at hi
  by_cases h : i < l.length
  · have e1 : ((M.sealed l).set i y).take l.length = l.set i y := by
      unfold M.sealed
      rw [List.set_append_left _ _ h, List.take_append_of_le_length (by simp), List.take_of_length_le (by simp)]
    have e2 : ((M.sealed l).set i y).drop l.length = M.be4 (M.crc l) := by
      unfold M.sealed
      rw [List.set_append_left _ _ h, List.drop_append_of_le_length (by simp), List.drop_of_length_le (by simp)]
      simp
    rw [e1, e2]
    intro hh
    have := M.be4_inj hh
    refine M.crc_set l i h y ?_ this
    have : (M.sealed l)[i]'(by rw [M.length_sealed]; omega) = l[i] := by simp [M.sealed, List.getElem_append_left h]
    rwa [this] at hy
  · have e1 : ((M.sealed l).set i y).take l.length = l := by
      unfold M.sealed
      rw [List.set_append_right _ _ (by omega)]
      simp
    have e2 : ((M.sealed l).set i y).drop l.length = (M.be4 (M.crc l)).set (i - l.length) y := by
      unfold M.sealed
      rw [List.set_append_right _ _ (by omega)]
      simp
    rw [e1, e2]
    intro hh
    have hl : i - l.length < (M.be4 (M.crc l)).length := by rw [M.length_be4]; omega
    have h3 : ((M.be4 (M.crc l)).set (i - l.length) y)[i - l.length]? = some y := by rw [List.getElem?_set_self hl]
    rw [← hh] at h3
    have h4 : (M.sealed l)[i]? = some y := by
      unfold M.sealed
      rw [List.getElem?_append_right (by omega)]
      exact h3
    have h5 := List.getElem?_eq_some_iff.1 h4
    exact hy h5.2.symm

theorem xor_ne (a c : UInt8) (h : c ≠ 0) : x8 a c ≠ a := by
  unfold x8
  intro hh
  apply h
  have h2 : a ^^^ c ^^^ a = a ^^^ a := by rw [hh]
  have : a ^^^ c ^^^ a = c := by
    rw [UInt8.xor_comm a c, UInt8.xor_assoc]
    simp
  rw [this] at h2
  simpa using h2

theorem law_detects_no (A : Option Addr) (n c : Nat) (l : List UInt8) (i : Int) (ch : UInt8) (w : World) (hl : RB w A n c l) (ht : Tab w) (hroom : n + 4 ≤ 140737488355328)
    (hi : i < 0 ∨ (0 ≤ i ∧ (n : Int) + 4 ≤ i) ∨ (0 ≤ i ∧ i < (n : Int) + 4 ∧ ch = 0)) :
    Calls Tryd.prog 8 #[.slice A n c, .int .i64 i, .int .u8 (ch.toNat : Int)] w (Yes w) := by
  have hlen := hl.len
  have HL := Lib.hid hl
  have HT := Lib.hid ht
  clear hl ht
  have hs := seal_any A n c l w HL.out HT.out hroom
  have HS := Lib.hid hs
  clear hs
  rcases hi with hi | ⟨hi, hi2⟩ | ⟨hi, hi2, rfl⟩
  all_goals
    go_enter Tryd.func8, Tryd.ntmps8
    go_wp2_with fail
    refine HS.out.mono ?_
    rintro e w1 ⟨A1, n1, c1, rfl, hr1, hb1⟩
    have hn1 : n + 4 = n1 := by rw [← hr1.len, M.length_sealed, hlen]
    subst hn1
    have hne : (((n + 4 : Nat) : Int) != (n : Int) + 4) = false := by simp
    have HB1 := Lib.hid hb1
    clear hb1 hr1
    go_wp2_with (go_at_call 14; refine (awake_any _ (HT.out.below HB1.out)).mono ?_; rintro e w' ⟨rfl, hb⟩; have HB : Hid (Below w.heap.size w w') := HB1.out.trans (hb.mono HB1.out.size); clear hb)
    go_ret
    exact ⟨rfl, HB.out⟩

section
attribute [local go_sem] xor8
theorem law_detects_yes (A : Option Addr) (n c : Nat) (l : List UInt8) (k : Nat) (ch : UInt8) (w : World) (hl : RB w A n c l) (ht : Tab w) (hroom : n + 4 ≤ 140737488355328)
    (hk : k < n + 4) (hch : ch ≠ 0) :
    Calls Tryd.prog 8 #[.slice A n c, .int .i64 (k : Int), .int .u8 (ch.toNat : Int)] w (Yes w) := by
  have hlen := hl.len
  have HL := Lib.hid hl
  have HT := Lib.hid ht
  clear hl ht
  have hs := seal_any A n c l w HL.out HT.out hroom
  have HS := Lib.hid hs
  clear hs
  have hc0 : ((ch.toNat : Int) == 0) = false := by
    have : ch.toNat ≠ 0 := fun h => hch (UInt8.toNat_inj.1 h)
    simp
    omega
  have HC := Lib.hid hch
  clear hch
  go_enter Tryd.func8, Tryd.ntmps8
  go_wp2_with fail
  refine HS.out.mono ?_
  rintro e w1 ⟨A1, n1, c1, rfl, hr1, hb1⟩
  have hn1 : n + 4 = n1 := by rw [← hr1.len, M.length_sealed, hlen]
  subst hn1
  have hne : (((n + 4 : Nat) : Int) != (n : Int) + 4) = false := by simp
  have HB1 := Lib.hid hb1
  have HR1 := Lib.hid hr1
  clear hb1 hr1
  go_wp2_with (at_builtin; refine append_ob _ rfl (.tmp 32) (.tmp 33) rfl w.heap.size none 0 0 [] rfl (OB.nil _ _) A1 (n + 4) c1 _ rfl HR1.out (by omega) HB1.out.size ?_; intro A2 n2 c2 w2 ht hb; have HT2 := Lib.hid ht; have HB2 : Hid (Below w.heap.size w w2) := HB1.out.trans hb; clear ht hb)
  have hn2 : n + 4 = n2 := by
    have := HT2.out.rb.len
    simp [M.length_sealed] at this
    omega
  subst hn2
  have hkl : k < (M.sealed l).length := by rw [M.length_sealed]; omega
  obtain ⟨g, rfl, hbg, hg, hcell, hfz, hst⟩ := HT2.out.at_ (by omega)
  have hck := hcell k hkl
  have hfk := hfz k
  have HG := Lib.hid hbg
  have HG2 := Lib.hid hg
  simp only [List.nil_append] at hck hst
  have HST := Lib.hid (hst k (x8 (M.sealed l)[k] ch))
  have HD := Lib.hid (detect l k hkl (x8 (M.sealed l)[k] ch) (xor_ne _ _ HC.out))
  clear hcell hfz hst hg hbg
  go_simp
  go_wp2_with fail
  have hb3 : Below w.heap.size w (w2.setCell ⟨g, k, none⟩ (.int .u8 ((x8 (M.sealed l)[k] ch).toNat : Int))) := HB2.out.setCell HG.out _
  have ho := open_long _ (n + 4) c2 ((M.sealed l).set k (x8 (M.sealed l)[k] ch)) _ HST.out.rb (HT.out.below hb3) (by omega) (by omega)
  rw [if_neg (by have := HD.out; rw [hlen] at this; rw [show n + 4 - 4 = n by omega]; exact this)] at ho
  refine ho.mono ?_
  rintro e w4 ⟨A4, n4, c4, rfl, hr4, hb4⟩
  have hn4 : 0 = n4 := hr4.len
  subst hn4
  have HB4 : Hid (Below w.heap.size w w4) := hb3.trans (hb4.mono hb3.size)
  clear ho hr4 hb4 hb3 hck hfk
  go_wp2_with (go_at_call 14; refine (awake_any _ (HT.out.below HB4.out)).mono ?_; rintro e w' ⟨rfl, hb⟩; have HB : Hid (Below w.heap.size w w') := HB4.out.trans (hb.mono HB4.out.size); clear hb)
  go_ret
  exact ⟨rfl, HB.out⟩
end

theorem law_detects (A : Option Addr) (n c : Nat) (l : List UInt8) (i : Int) (ch : UInt8) (w : World) (hl : RB w A n c l) (ht : Tab w) (hroom : n + 4 ≤ 140737488355328) :
    Calls Tryd.prog 8 #[.slice A n c, .int .i64 i, .int .u8 (ch.toNat : Int)] w (Yes w) := by
  by_cases h0 : i < 0
  · exact law_detects_no A n c l i ch w hl ht hroom (.inl h0)
  · by_cases h1 : (n : Int) + 4 ≤ i
    · exact law_detects_no A n c l i ch w hl ht hroom (.inr (.inl ⟨by omega, h1⟩))
    · by_cases h2 : ch = 0
      · exact law_detects_no A n c l i ch w hl ht hroom (.inr (.inr ⟨by omega, by omega, h2⟩))
      · obtain ⟨k, rfl⟩ := Int.eq_ofNat_of_zero_le (show 0 ≤ i by omega)
        exact law_detects_yes A n c l k ch w hl ht hroom (by omega) h2
end Go.Proofs.YtediklpfgadncaaDoor
