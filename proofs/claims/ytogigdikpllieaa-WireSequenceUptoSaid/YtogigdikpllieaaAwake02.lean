/- The examples of the chapter ('awake'). -/
import Derived.Test.YtogigdikpllieaaList
import Derived.Test.YtogigdikpllieaaSame02
namespace Go.Proofs.Ytogigdikpllieaa
open Go.RowKit Go.Joins

theorem ex_i1 : V.dec [128, 1, 7] = (64, 2, 0) := by decide +kernel
theorem ex_i2 : V.dec [128, 0] = (0, 0, 4) := by decide +kernel
theorem ex_i3 : V.dec [128] = (0, 0, 5) := by decide +kernel
theorem ex_t1 : V.decText [4, 97, 98, 99] 2 = ([97, 98], 3, 0) := by decide +kernel
theorem ex_t2 : V.decText [4, 97, 98, 99] 1 = ([], 0, 3) := by decide +kernel
theorem ex_l1 : V.decList [4, 2, 3, 5] 9 = ([1, -2], 3, 0) := by decide +kernel
theorem ex_p1 : ([9] : List UInt8) ++ V.enc (-1) = [9, 1] := by decide +kernel
theorem ex_p2 : ([] : List UInt8) ++ V.encText (⟨#[97, 98]⟩ : ByteArray).data.toList = [4, 97, 98] := by decide +kernel
theorem ex_p3 : ([] : List UInt8) ++ V.encList [1, -2] = [4, 2, 3] := by decide +kernel

set_option maxRecDepth 100000 in
set_option maxHeartbeats 4000000 in
theorem awake_any (w : World) : Calls Try.prog 16 #[] w fun e w' => e = .returned (.bool true) ∧ Below w.heap.size w w' := by
  go_enter Try.func16, Try.ntmps16
  go_wp2_with fail
  have hc := int_any (some ⟨w.heap.size, 0, none⟩) 3 3 [128, 1, 7] (w.alloc (.cells #[.int .u8 128, .int .u8 1, .int .u8 7] 5)) (rb_lit w [128, 1, 7] _ _ (by decide))
  rw [ex_i1] at hc
  have HB1 : Hid (Below w.heap.size w (w.alloc (.cells #[.int .u8 128, .int .u8 1, .int .u8 7] 5))) := below_alloc1 _ _
  generalize w.alloc _ = w1 at *
  refine hc.mono ?_
  rintro e w' ⟨rfl, rfl⟩
  clear hc
  go_wp2_with fail
  have hc := int_any (some ⟨w1.heap.size, 0, none⟩) 2 2 [128, 0] (w1.alloc (.cells #[.int .u8 128, .int .u8 0] 5)) (rb_lit w1 [128, 0] _ _ (by decide))
  rw [ex_i2] at hc
  have HB2 : Hid (Below w.heap.size w (w1.alloc (.cells #[.int .u8 128, .int .u8 0] 5))) := HB1.out.alloc HB1.out.size _
  generalize w1.alloc _ = w2 at *
  refine hc.mono ?_
  rintro e w' ⟨rfl, rfl⟩
  clear hc HB1
  go_wp2_with fail
  have hc := int_any (some ⟨w2.heap.size, 0, none⟩) 1 1 [128] (w2.alloc (.cells #[.int .u8 128] 5)) (rb_lit w2 [128] _ _ (by decide))
  rw [ex_i3] at hc
  have HB3 : Hid (Below w.heap.size w (w2.alloc (.cells #[.int .u8 128] 5))) := HB2.out.alloc HB2.out.size _
  generalize w2.alloc _ = w3 at *
  refine hc.mono ?_
  rintro e w' ⟨rfl, rfl⟩
  clear hc HB2
  go_wp2_with fail
  have hc := text_any (some ⟨w3.heap.size, 0, none⟩) 4 4 [4, 97, 98, 99] 2 (w3.alloc (.cells #[.int .u8 4, .int .u8 97, .int .u8 98, .int .u8 99] 5)) (rb_lit w3 [4, 97, 98, 99] _ _ (by decide))
  rw [ex_t1] at hc
  have HB4 : Hid (Below w.heap.size w (w3.alloc (.cells #[.int .u8 4, .int .u8 97, .int .u8 98, .int .u8 99] 5))) := HB3.out.alloc HB3.out.size _
  generalize w3.alloc _ = w4 at *
  refine hc.mono ?_
  rintro e w' ⟨rfl, rfl⟩
  clear hc HB3
  go_wp2_with fail
  have hc := text_any (some ⟨w4.heap.size, 0, none⟩) 4 4 [4, 97, 98, 99] 1 (w4.alloc (.cells #[.int .u8 4, .int .u8 97, .int .u8 98, .int .u8 99] 5)) (rb_lit w4 [4, 97, 98, 99] _ _ (by decide))
  rw [ex_t2] at hc
  have HB5 : Hid (Below w.heap.size w (w4.alloc (.cells #[.int .u8 4, .int .u8 97, .int .u8 98, .int .u8 99] 5))) := HB4.out.alloc HB4.out.size _
  generalize w4.alloc _ = w5 at *
  refine hc.mono ?_
  rintro e w' ⟨rfl, rfl⟩
  clear hc HB4
  go_wp2_with fail
  have hc := list_any (some ⟨w5.heap.size, 0, none⟩) 4 4 [4, 2, 3, 5] 9 (w5.alloc (.cells #[.int .u8 4, .int .u8 2, .int .u8 3, .int .u8 5] 5)) (rb_lit w5 [4, 2, 3, 5] _ _ (by decide)) (by omega)
  rw [ex_l1] at hc
  have HB6 : Hid (Below w.heap.size w (w5.alloc (.cells #[.int .u8 4, .int .u8 2, .int .u8 3, .int .u8 5] 5))) := HB5.out.alloc HB5.out.size _
  generalize w5.alloc _ = w6 at *
  refine hc.mono ?_
  rintro e w7 ⟨A7, n7, c7, rfl, hr, hb⟩
  have HR7 := Lib.hid hr
  have HB7 : Hid (Below w.heap.size w w7) := HB6.out.trans (hb.mono HB6.out.size)
  clear hc HB5 HB6 hr hb
  go_wp2_with fail
  have hc := sameInts_true A7 n7 c7 (some ⟨w7.heap.size, 0, none⟩) 2 2 [1, -2] (w7.alloc (.cells #[.int .i64 1, .int .i64 (-2)] 3)) (HR7.out.below (below_alloc1 _ _)) (ri_lit w7 [1, -2] _ _ (by decide))
  have HB8 : Hid (Below w.heap.size w (w7.alloc (.cells #[.int .i64 1, .int .i64 (-2)] 3))) := HB7.out.alloc HB7.out.size _
  generalize w7.alloc _ = w8 at *
  refine hc.mono ?_
  rintro e w' ⟨rfl, k, rfl⟩
  have HB9 : Hid (Below w.heap.size w (w8.drewN k)) := HB8.out.trans (below_draws _ _ _)
  generalize w8.drewN k = w9 at *
  clear hc HB7 HB8 HR7
  go_wp2_with fail
  have hc := putInt_any (some ⟨w9.heap.size, 0, none⟩) 1 1 [9] (-1) (w9.alloc (.cells #[.int .u8 9] 5)) (rb_lit w9 [9] _ _ (by decide)) (by unfold V.In; omega) (by omega)
  rw [ex_p1] at hc
  have HB10 : Hid (Below w.heap.size w (w9.alloc (.cells #[.int .u8 9] 5))) := HB9.out.alloc HB9.out.size _
  generalize w9.alloc _ = w10 at *
  refine hc.mono ?_
  rintro e w11 ⟨A11, n11, c11, rfl, hr, hb⟩
  have HR11 := Lib.hid hr.rb
  have HB11 : Hid (Below w.heap.size w w11) := HB10.out.trans (hb.mono HB10.out.size)
  clear hc HB9 HB10 hr hb
  go_wp2_with fail
  have hc := same2_true A11 n11 c11 (some ⟨w11.heap.size, 0, none⟩) 2 2 [9, 1] (w11.alloc (.cells #[.int .u8 9, .int .u8 1] 5)) (HR11.out.below (below_alloc1 _ _)) (rb_lit w11 [9, 1] _ _ (by decide))
  have HB12 : Hid (Below w.heap.size w (w11.alloc (.cells #[.int .u8 9, .int .u8 1] 5))) := HB11.out.alloc HB11.out.size _
  generalize w11.alloc _ = w12 at *
  refine hc.mono ?_
  rintro e w' ⟨rfl, k2, rfl⟩
  have HB13 : Hid (Below w.heap.size w (w12.drewN k2)) := HB12.out.trans (below_draws _ _ _)
  generalize w12.drewN k2 = w13 at *
  clear hc HB11 HB12 HR11
  go_wp2_with fail
  have hc := putText_any none 0 0 [] ⟨#[97, 98]⟩ w13 (RB.none_ _) (by decide)
  rw [ex_p2] at hc
  refine hc.mono ?_
  rintro e w14 ⟨A14, n14, c14, rfl, hr, hb⟩
  have HR14 := Lib.hid hr.rb
  have HB14 : Hid (Below w.heap.size w w14) := HB13.out.trans (hb.mono HB13.out.size)
  clear hc HB13 hr hb
  go_wp2_with fail
  have hc := same2_true A14 n14 c14 (some ⟨w14.heap.size, 0, none⟩) 3 3 [4, 97, 98] (w14.alloc (.cells #[.int .u8 4, .int .u8 97, .int .u8 98] 5)) (HR14.out.below (below_alloc1 _ _)) (rb_lit w14 [4, 97, 98] _ _ (by decide))
  have HB15 : Hid (Below w.heap.size w (w14.alloc (.cells #[.int .u8 4, .int .u8 97, .int .u8 98] 5))) := HB14.out.alloc HB14.out.size _
  generalize w14.alloc _ = w15 at *
  refine hc.mono ?_
  rintro e w' ⟨rfl, k3, rfl⟩
  have HB16 : Hid (Below w.heap.size w (w15.drewN k3)) := HB15.out.trans (below_draws _ _ _)
  generalize w15.drewN k3 = w16 at *
  clear hc HB14 HB15 HR14
  go_wp2_with fail
  have hc := putList_any none 0 0 [] (some ⟨w16.heap.size, 0, none⟩) 2 2 [1, -2] (w16.alloc (.cells #[.int .i64 1, .int .i64 (-2)] 3)) (RB.none_ _) (ri_lit w16 [1, -2] _ _ (by decide)) (by intro n hn; simp at hn; rcases hn with rfl | rfl <;> (unfold V.In; omega)) (by omega)
  rw [ex_p3] at hc
  have HB17 : Hid (Below w.heap.size w (w16.alloc (.cells #[.int .i64 1, .int .i64 (-2)] 3))) := HB16.out.alloc HB16.out.size _
  generalize w16.alloc _ = w17 at *
  refine hc.mono ?_
  rintro e w18 ⟨A18, n18, c18, rfl, hr, hb⟩
  have HR18 := Lib.hid hr.rb
  have HB18 : Hid (Below w.heap.size w w18) := HB17.out.trans (hb.mono HB17.out.size)
  clear hc HB16 HB17 hr hb
  go_wp2_with fail
  have hc := same2_true A18 n18 c18 (some ⟨w18.heap.size, 0, none⟩) 3 3 [4, 2, 3] (w18.alloc (.cells #[.int .u8 4, .int .u8 2, .int .u8 3] 5)) (HR18.out.below (below_alloc1 _ _)) (rb_lit w18 [4, 2, 3] _ _ (by decide))
  have HB19 : Hid (Below w.heap.size w (w18.alloc (.cells #[.int .u8 4, .int .u8 2, .int .u8 3] 5))) := HB18.out.alloc HB18.out.size _
  generalize w18.alloc _ = w19 at *
  refine hc.mono ?_
  rintro e w' ⟨rfl, k4, rfl⟩
  have HB20 : Hid (Below w.heap.size w (w19.drewN k4)) := HB19.out.trans (below_draws _ _ _)
  generalize w19.drewN k4 = w20 at *
  clear hc HB18 HB19 HR18
  go_wp2
  go_ret
  exact ⟨rfl, HB20.out⟩
end Go.Proofs.Ytogigdikpllieaa
