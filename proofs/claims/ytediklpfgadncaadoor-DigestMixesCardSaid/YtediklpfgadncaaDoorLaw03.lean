/- The laws of chapter 3, walked: each returns true and turns nothing that was there. -/
import Derived.Test.YtediklpfgadncaaDoorAwake03
namespace Go.Proofs.YtediklpfgadncaaDoor
open Go.RowKit Go.Joins

/-- What a law leaves. -/
def Yes (w : World) (e : Ending) (w' : World) : Prop := e = .returned (.bool true) ∧ Below w.heap.size w w'

theorem law_values (A : Option Addr) (n c : Nat) (l : List UInt8) (w : World) (hl : RB w A n c l) (ht : Tab w) :
    Calls Tryd.prog 3 #[.slice A n c] w (Yes w) := by
  have HL := Lib.hid hl
  have HT := Lib.hid ht
  clear hl ht
  go_enter Tryd.func3, Tryd.ntmps3
  go_wp2_with (first
    | (go_at_call 10; refine (crc_any A n c l _ HL.out HT.out).mono ?_; rintro e w' ⟨rfl, rfl⟩)
    | (go_at_call 11; refine (rcrc_any A n c l _ HL.out).mono ?_; rintro e w' ⟨rfl, rfl⟩)
    | (go_at_call 12; refine (fnv_any A n c l _ HL.out).mono ?_; rintro e w' ⟨rfl, rfl⟩)
    | (go_at_call 13; refine (rfnv_any A n c l _ HL.out).mono ?_; rintro e w' ⟨rfl, rfl⟩)
    | (go_at_call 14; refine (awake_any _ HT.out).mono ?_; rintro e w' ⟨rfl, hb⟩; have HB := Lib.hid hb; clear hb))
  go_ret
  exact ⟨rfl, HB.out⟩

theorem law_seals (A : Option Addr) (n c : Nat) (l : List UInt8) (w : World) (hl : RB w A n c l) (ht : Tab w) (hroom : n + 4 ≤ 140737488355328) :
    Calls Tryd.prog 5 #[.slice A n c] w (Yes w) := by
  have hlen := hl.len
  have HL := Lib.hid hl
  have HT := Lib.hid ht
  clear hl ht
  go_enter Tryd.func5, Tryd.ntmps5
  go_wp2_with fail
  refine (seal_any A n c l _ HL.out HT.out hroom).mono ?_
  rintro e w1 ⟨A1, n1, c1, rfl, hr1, hb1⟩
  have hn1 : n1 = n + 4 := by rw [← hr1.len, M.length_sealed, hlen]
  have ho := open_long A1 n1 c1 (M.sealed l) w1 hr1 (HT.out.below hb1) (by omega) (by omega)
  have e1 : (M.sealed l).take (n1 - 4) = l := by rw [hn1, ← hlen]; simp [M.sealed]
  have e2 : (M.sealed l).drop (n1 - 4) = M.be4 (M.crc l) := by rw [hn1, ← hlen]; simp [M.sealed]
  rw [e1, e2, if_pos rfl] at ho
  have HO := Lib.hid ho
  have HR1 := Lib.hid hr1
  have HB1 := Lib.hid hb1
  clear ho hr1 hb1 e1 e2 hn1 hlen
  go_wp2_with fail
  refine HO.out.mono ?_
  rintro e w2 ⟨A2, n2, c2, rfl, hr2, hb2⟩
  have HR2 := Lib.hid hr2
  have HB2 : Hid (Below w.heap.size w w2) := HB1.out.trans (hb2.mono HB1.out.size)
  have HR1' := Lib.hid (HR1.out.below hb2)
  clear hr2 hb2
  go_wp2_with fail
  refine (rseal_any A n c l _ (HL.out.below HB2.out) hroom).mono ?_
  rintro e w3 ⟨A3, n3, c3, rfl, hr3, hb3⟩
  have HB3 : Hid (Below w.heap.size w w3) := HB2.out.trans (hb3.mono HB2.out.size)
  have hs := same_true A1 n1 c1 A3 n3 c3 _ w3 (HR1'.out.below hb3) hr3
  have hr2' := HR2.out.below hb3
  have HS := Lib.hid hs
  have HR2' := Lib.hid hr2'
  clear hs hr2' hr3 hb3
  go_wp2_with fail
  refine HS.out.mono ?_
  rintro e w' ⟨rfl, k1, rfl⟩
  go_wp2_with fail
  refine (same_true A2 n2 c2 A n c l _ (HR2'.out.below (below_draws _ _ _)) (HL.out.below (HB3.out.trans (below_draws _ _ _)))).mono ?_
  rintro e w' ⟨rfl, k2, rfl⟩
  go_wp2_with fail
  refine (awake_any _ (HT.out.below (HB3.out.trans (below_draws _ _ _)))).mono ?_
  rintro e w5 ⟨rfl, hb5⟩
  have HB5 : Hid (Below w.heap.size w w5) := (HB3.out.trans (below_draws _ _ _)).trans (hb5.mono HB3.out.size)
  clear hb5
  go_wp2
  go_ret
  exact ⟨rfl, HB5.out⟩

/-- Both Opens return the error k. -/
theorem law_opens_no (A : Option Addr) (n c : Nat) (l : List UInt8) (k : Int) (w : World) (hl : RB w A n c l) (ht : Tab w) (hk : (k != 0) = true)
    (h1 : ∀ W, RB W A n c l → Tab W → Calls Tryd.prog 18 #[.slice A n c] W (RetBE W [] k))
    (h2 : ∀ W, RB W A n c l → Calls Tryd.prog 21 #[.slice A n c] W (RetBE W [] k)) :
    Calls Tryd.prog 6 #[.slice A n c] w (Yes w) := by
  have HL := Lib.hid hl
  have HT := Lib.hid ht
  have H1 := Lib.hid h1
  have H2 := Lib.hid h2
  have hkk : (k != k) = false := by simp
  clear hl ht h1 h2
  go_enter Tryd.func6, Tryd.ntmps6
  go_wp2_with fail
  refine (H1.out _ HL.out HT.out).mono ?_
  rintro e w1 ⟨A1, n1, c1, rfl, hr1, hb1⟩
  have HR1 := Lib.hid hr1
  have HB1 := Lib.hid hb1
  clear hr1 hb1
  go_wp2_with fail
  refine (H2.out _ (HL.out.below HB1.out)).mono ?_
  rintro e w2 ⟨A2, n2, c2, rfl, hr2, hb2⟩
  have HB2 : Hid (Below w.heap.size w w2) := HB1.out.trans (hb2.mono HB1.out.size)
  have hs := same_true A1 n1 c1 A2 n2 c2 _ w2 (HR1.out.below hb2) hr2
  have HS := Lib.hid hs
  clear hs hr2 hb2
  go_wp2_with fail
  refine HS.out.mono ?_
  rintro e w' ⟨rfl, k1, rfl⟩
  go_wp2_with fail
  refine (awake_any _ (HT.out.below (HB2.out.trans (below_draws _ _ _)))).mono ?_
  rintro e w5 ⟨rfl, hb5⟩
  have HB5 : Hid (Below w.heap.size w w5) := (HB2.out.trans (below_draws _ _ _)).trans (hb5.mono HB2.out.size)
  clear hb5
  go_wp2
  go_ret
  exact ⟨rfl, HB5.out⟩

/-- Both Opens return the content, which sealed is l. -/
theorem law_opens_yes (A : Option Addr) (n c : Nat) (l m : List UInt8) (w : World) (hl : RB w A n c l) (ht : Tab w) (hm : M.sealed m = l) (hroom : m.length + 4 ≤ 140737488355328)
    (h1 : ∀ W, RB W A n c l → Tab W → Calls Tryd.prog 18 #[.slice A n c] W (RetBE W m 0))
    (h2 : ∀ W, RB W A n c l → Calls Tryd.prog 21 #[.slice A n c] W (RetBE W m 0)) :
    Calls Tryd.prog 6 #[.slice A n c] w (Yes w) := by
  have HL := Lib.hid hl
  have HT := Lib.hid ht
  have H1 := Lib.hid h1
  have H2 := Lib.hid h2
  have HM := Lib.hid hm
  clear hl ht h1 h2 hm
  go_enter Tryd.func6, Tryd.ntmps6
  go_wp2_with fail
  refine (H1.out _ HL.out HT.out).mono ?_
  rintro e w1 ⟨A1, n1, c1, rfl, hr1, hb1⟩
  have HR1 := Lib.hid hr1
  have HB1 := Lib.hid hb1
  clear hr1 hb1
  go_wp2_with fail
  refine (H2.out _ (HL.out.below HB1.out)).mono ?_
  rintro e w2 ⟨A2, n2, c2, rfl, hr2, hb2⟩
  have HB2 : Hid (Below w.heap.size w w2) := HB1.out.trans (hb2.mono HB1.out.size)
  have hr1 := HR1.out.below hb2
  have hs := same_true A1 n1 c1 A2 n2 c2 _ w2 hr1 hr2
  have HS := Lib.hid hs
  have HR1' := Lib.hid hr1
  clear hs hr2 hb2 hr1
  go_wp2_with fail
  refine HS.out.mono ?_
  rintro e w' ⟨rfl, k1, rfl⟩
  go_wp2_with fail
  refine (seal_any A1 n1 c1 m _ (HR1'.out.below (below_draws _ _ _)) (HT.out.below (HB2.out.trans (below_draws _ _ _))) (by have := HR1'.out.len; omega)).mono ?_
  rintro e w3 ⟨A3, n3, c3, rfl, hr3, hb3⟩
  have HB3 : Hid (Below w.heap.size w w3) := (HB2.out.trans (below_draws _ _ _)).trans (hb3.mono HB2.out.size)
  have hs := same_true A3 n3 c3 A n c _ w3 (by rw [← HM.out]; exact hr3) (HL.out.below HB3.out)
  have HS3 := Lib.hid hs
  clear hs hr3 hb3
  go_wp2_with fail
  refine HS3.out.mono ?_
  rintro e w' ⟨rfl, k4, rfl⟩
  go_wp2_with fail
  refine (awake_any _ (HT.out.below (HB3.out.trans (below_draws _ _ _)))).mono ?_
  rintro e w5 ⟨rfl, hb5⟩
  have HB5 : Hid (Below w.heap.size w w5) := (HB3.out.trans (below_draws _ _ _)).trans (hb5.mono HB3.out.size)
  clear hb5
  go_wp2
  go_ret
  exact ⟨rfl, HB5.out⟩

theorem law_opens (A : Option Addr) (n c : Nat) (l : List UInt8) (w : World) (hl : RB w A n c l) (ht : Tab w) (hroom : n ≤ 140737488355328) :
    Calls Tryd.prog 6 #[.slice A n c] w (Yes w) := by
  have hlen := hl.len
  by_cases h4 : n < 4
  · exact law_opens_no A n c l 5 w hl ht (by decide) (fun W _ _ => open_short A n c W h4) (fun W _ => ropen_short A n c W h4)
  · by_cases heq : M.be4 (M.crc (l.take (n - 4))) = l.drop (n - 4)
    · refine law_opens_yes A n c l (l.take (n - 4)) w hl ht ?_ (by rw [List.length_take]; omega) (fun W h1 h2 => ?_) (fun W h1 => ?_)
      · unfold M.sealed
        rw [heq, List.take_append_drop]
      · have := open_long A n c l W h1 h2 (by omega) (by omega)
        rwa [if_pos heq] at this
      · have := ropen_long A n c l W h1 (by omega) (by omega)
        rwa [if_pos heq] at this
    · refine law_opens_no A n c l 6 w hl ht (by decide) (fun W h1 h2 => ?_) (fun W h1 => ?_)
      · have := open_long A n c l W h1 h2 (by omega) (by omega)
        rwa [if_neg heq] at this
      · have := ropen_long A n c l W h1 (by omega) (by omega)
        rwa [if_neg heq] at this

theorem law_mixes (d : BitVec 64) (k : Int) (A : Option Addr) (n c : Nat) (l : List UInt8) (w : World) (hl : RB w A n c l) (ht : Tab w) (hroom : n + 8 ≤ 140737488355328) :
    Calls Tryd.prog 9 #[.int .u64 (w64 d), .int .i64 k, .slice A n c] w (Yes w) := by
  have HL := Lib.hid hl
  have HT := Lib.hid ht
  clear hl ht
  obtain ⟨x, hx⟩ := Int.eq_ofNat_of_zero_le (show 0 ≤ k % 18446744073709551616 by omega)
  have hlt : x < 18446744073709551616 := by omega
  have e1 : IntKind.u64.wrap k = (x : Int) := by rw [IntKind.wrap_u64, hx]
  have hx' : (k % 18446744073709551616).toNat = x := by rw [hx]; rfl
  have m1 := fun (d : BitVec 64) (W : World) => mix_any d k W
  have m2 := fun (d : BitVec 64) (W : World) => rmix_any d k W
  rw [hx'] at m1 m2
  have M1 := Lib.hid m1
  have M2 := Lib.hid m2
  have HLT := Lib.hid hlt
  clear hx hlt hx' m1 m2
  go_enter Tryd.func9, Tryd.ntmps9
  go_wp2_with fail
  refine (M1.out _ _).mono ?_
  rintro e w' ⟨rfl, rfl⟩
  go_wp2_with fail
  refine (M2.out _ _).mono ?_
  rintro e w1 ⟨rfl, hb1⟩
  have HB1 := Lib.hid hb1
  have hne : (w64 (M.fnvFrom d (M.beN x 8)) != w64 (M.fnvFrom d (M.beN x 8))) = false := by simp
  clear hb1
  go_wp2_with (first
    | (at_builtin; refine append_b _ rfl (.tmp 15) (.tmp 16) rfl w.heap.size none 0 0 [] rfl (TB.nil _ _) A n c l rfl (HL.out.below HB1.out) (by omega) HB1.out.size ?_; intro A2 n2 c2 w2 ht hb; have HT2 := Lib.hid ht; have HB2 : Hid (Below w.heap.size w w2) := HB1.out.trans hb; clear ht hb)
    | (go_at_call 24; refine (bytes_any x 8 _ (by omega) HLT.out).mono ?_; rintro e w3 ⟨A3, n3, c3, rfl, hr, hb⟩; have HR3 := Lib.hid hr; have HB3 : Hid (Below w2.heap.size w2 w3) := hb; clear hr hb)
    | (at_builtin; refine append_b _ rfl (.tmp 18) (.tmp 21) rfl w.heap.size A2 n2 c2 _ rfl (HT2.out.below HB3.out) A3 n3 c3 _ rfl HR3.out (by have := HT2.out.len; have := HR3.out.len; have := HL.out.len; simp [M.length_beN] at *; omega) (by have := HB2.out.size; have := HB3.out.size; omega) ?_; intro A4 n4 c4 w4 ht hb; have HT4 := Lib.hid ht; have HB4 : Hid (Below w.heap.size w w4) := HB2.out.trans ((HB3.out.mono HB2.out.size).trans hb); clear ht hb))
  refine (fnv_any A n c l _ (HL.out.below HB4.out)).mono ?_
  rintro e w' ⟨rfl, rfl⟩
  go_wp2_with fail
  refine (M1.out _ _).mono ?_
  rintro e w' ⟨rfl, rfl⟩
  go_wp2_with fail
  have hf := fnv_any A4 n4 c4 _ _ HT4.out.rb
  have ee : M.fnv ([] ++ l ++ M.beN x 8) = M.fnvFrom (M.fnv l) (M.beN x 8) := by simp only [List.nil_append]; unfold M.fnv; exact M.fnvFrom_append _ _ _
  rw [ee] at hf
  refine hf.mono ?_
  rintro e w' ⟨rfl, rfl⟩
  clear hf ee
  go_wp2_with fail
  refine (awake_any _ (HT.out.below HB4.out)).mono ?_
  rintro e w5 ⟨rfl, hb5⟩
  have HB5 : Hid (Below w.heap.size w w5) := HB4.out.trans (hb5.mono HB4.out.size)
  clear hb5
  go_wp2
  go_ret
  exact ⟨rfl, HB5.out⟩
end Go.Proofs.YtediklpfgadncaaDoor
