/- PlatesChecks, PlatesPacks. -/
import Derived.Test.YtpppgceccikodaaDoorAwake54
import Derived.Test.YtpppgceccikodaaDoorRPack
import Derived.Test.YtpppgceccikodaaDoorRUnpack
namespace Go.Proofs.YtpppgceccikodaaDoor
open Go.RowKit Go.Joins

set_option maxHeartbeats 2000000 in
theorem law_checks (p : Pd) (w : World) (h : p.Ok w) (ht : Tab w) : Calls Tryd.prog 3 #[.agg #[.int .i64 p.w, .int .i64 p.h, .slice p.a p.n p.c]] w fun e w' => e = .returned (.bool true) ∧ Below w.heap.size w w' := by
  have HT := Keep.mk ht
  have HO := Lib.hid h
  clear h ht
  by_cases hn : p.n ≤ 5000
  · have d1 : decide ((p.n : Int) ≤ 5000) = true := by simp; omega
    go_enter Tryd.func3, Tryd.ntmps3
    go_wp2_with fail
    refine (fair_any p _).mono ?_
    rintro e w1 ⟨rfl, hb⟩
    have HBW : Hid (Below w.heap.size w w1) := (below_alloc1 _ _).trans (hb.mono (by simp))
    have PX := Keep.mk ((Bx.new w [.int .i64 p.w, .int .i64 p.h, .slice p.a p.n p.c] 24).below hb)
    clear hb
    have c0 := PX.out.cell 0 _ rfl
    have c1 := PX.out.cell 1 _ rfl
    have c2 := PX.out.cell 2 _ rfl
    have K1 : Hid (∀ X, Below w.heap.size w X → Calls Tryd.prog 11 #[.agg #[.int .i64 p.w, .int .i64 p.h, .slice p.a p.n p.c]] X fun e w' => e = .returned (.int .i64 p.chk) ∧ Below X.heap.size X w') := fun X h => check_any _ _ _ _ _ _ X (HO.out.below h)
    have K2 : Hid (∀ X, Below w.heap.size w X → Calls Tryd.prog 12 #[.agg #[.int .i64 p.w, .int .i64 p.h, .slice p.a p.n p.c]] X fun e w' => e = .returned (.int .i64 p.chk) ∧ Below X.heap.size X w') := fun X h => rcheck_any _ _ _ _ _ _ X (HO.out.below h)
    have K3 : Hid (∀ X, Below w.heap.size w X → Calls Tryd.prog 13 #[.agg #[.int .i64 p.w, .int .i64 p.h, .slice p.a p.n p.c]] X fun e w' => e = .returned (.int .i64 (Pl.total p.w p.h p.l)) ∧ Below X.heap.size X w') := fun X h => total_any _ _ _ _ _ _ X (HO.out.below h)
    have K4 : Hid (∀ X, Below w.heap.size w X → Calls Tryd.prog 14 #[.agg #[.int .i64 p.w, .int .i64 p.h, .slice p.a p.n p.c]] X fun e w' => e = .returned (.int .i64 (Pl.total p.w p.h p.l)) ∧ Below X.heap.size X w') := fun X h => rtotal_any _ _ _ _ _ _ X (HO.out.below h)
    generalize p.chk = q1 at *
    generalize Pl.total p.w p.h p.l = q2 at *
    have b1 : (q1 == q1) = true := by simp
    have b2 : (q2 == q2) = true := by simp
    have HC : Hid (Below w1.heap.size w1 w1.drew) := below_draws _ _ 1
    have KP : Hid (∀ X, Below w1.heap.size w1 X → X.cell? ⟨w.heap.size, 0, none⟩ = some (.int .i64 p.w) ∧ X.cell? ⟨w.heap.size, 1, none⟩ = some (.int .i64 p.h) ∧ X.cell? ⟨w.heap.size, 2, none⟩ = some (.slice p.a p.n p.c)) := fun X h => ⟨(PX.out.below h).cell 0 _ rfl, (PX.out.below h).cell 1 _ rfl, (PX.out.below h).cell 2 _ rfl⟩
    clear c0 c1 c2
    go_wp2
    go_region_held3 (fun X => X.cell? ⟨w.heap.size, 0, none⟩ = some (.int .i64 p.w) ∧ X.cell? ⟨w.heap.size, 1, none⟩ = some (.int .i64 p.h) ∧ X.cell? ⟨w.heap.size, 2, none⟩ = some (.slice p.a p.n p.c))
      (first | exact KP.out _ HC.out | exact KP.out _ (below_draws _ _ 1))
      (first
        | (go_at_call 11; ((refine (K1.out _ (HBW.out.trans (HC.out.mono HBW.out.size))).mono ?_); rintro e wn ⟨rfl, hb⟩; have HC := Lib.hid (below_next HC.out hb (Nat.le_refl _)); clear hb))
        | (go_at_call 12; ((refine (K2.out _ (HBW.out.trans (HC.out.mono HBW.out.size))).mono ?_); rintro e wn ⟨rfl, hb⟩; have HC := Lib.hid (below_next HC.out hb (Nat.le_refl _)); clear hb))
        | (go_at_call 13; ((refine (K3.out _ (HBW.out.trans (HC.out.mono HBW.out.size))).mono ?_); rintro e wn ⟨rfl, hb⟩; have HC := Lib.hid (below_next HC.out hb (Nat.le_refl _)); clear hb))
        | (go_at_call 14; ((refine (K4.out _ (HBW.out.trans (HC.out.mono HBW.out.size))).mono ?_); rintro e wn ⟨rfl, hb⟩; have HC := Lib.hid (below_next HC.out hb (Nat.le_refl _)); clear hb))
        | (go_at_call 10; ((refine (awake_any _ (HT.out.below (HBW.out.trans (HC.out.mono HBW.out.size)))).mono ?_); rintro e wn ⟨rfl, hb⟩; have HC := Lib.hid (below_next HC.out hb (Nat.le_refl _)); clear hb)))
    go_wp2
    go_ret
    exact ⟨rfl, HBW.out.trans (HC.out.mono HBW.out.size)⟩
  · have d1 : decide ((p.n : Int) ≤ 5000) = false := by simp; omega
    go_enter Tryd.func3, Tryd.ntmps3
    go_wp2_with fail
    refine (fair_any p _).mono ?_
    rintro e w1 ⟨rfl, hb⟩
    have HBW : Hid (Below w.heap.size w w1) := (below_alloc1 _ _).trans (hb.mono (by simp))
    have PX := Keep.mk ((Bx.new w [.int .i64 p.w, .int .i64 p.h, .slice p.a p.n p.c] 24).below hb)
    clear hb
    have c0 := PX.out.cell 0 _ rfl
    have c1 := PX.out.cell 1 _ rfl
    have c2 := PX.out.cell 2 _ rfl
    clear c0 c1 c2
    go_wp2_with fail
    refine (awake_any _ (HT.out.below HBW.out)).mono ?_
    rintro e w9 ⟨rfl, hb⟩
    have HB9 : Hid (Below w.heap.size w w9) := HBW.out.trans (hb.mono HBW.out.size)
    clear hb
    go_wp2
    go_ret
    exact ⟨rfl, HB9.out⟩

set_option maxHeartbeats 2000000 in
theorem law_packs (p : Pd) (w : World) (h : p.Ok w) (ht : Tab w) : Calls Tryd.prog 4 #[.agg #[.int .i64 p.w, .int .i64 p.h, .slice p.a p.n p.c]] w fun e w' => e = .returned (.bool true) ∧ Below w.heap.size w w' := by
  have HT := Keep.mk ht
  have HO := Lib.hid h
  have hlen := RI.len h
  clear h ht
  by_cases hn : p.n ≤ 5000
  · have d1 : decide ((p.n : Int) ≤ 5000) = true := by simp; omega
    by_cases hc : Pl.check p.w p.h p.l = 0
    · have HK := Keep.mk (Pl.unpack_pack hc (by omega))
      have HCK := Keep.mk hc
      clear hc
      go_enter Tryd.func4, Tryd.ntmps4
      go_wp2_with fail
      refine (fair_any p _).mono ?_
      rintro e w1 ⟨rfl, hb⟩
      have HBW : Hid (Below w.heap.size w w1) := (below_alloc1 _ _).trans (hb.mono (by simp))
      have PX := Keep.mk ((Bx.new w [.int .i64 p.w, .int .i64 p.h, .slice p.a p.n p.c] 24).below hb)
      clear hb
      have c0 := PX.out.cell 0 _ rfl
      have c1 := PX.out.cell 1 _ rfl
      have c2 := PX.out.cell 2 _ rfl
      go_wp2_with fail
      refine (pack_ok p.w p.h p.a p.n p.c p.l w1 (HO.out.below HBW.out) (HT.out.below HBW.out) HCK.out).mono ?_
      rintro e w2 ⟨A2, n2, q2, rfl, hr, hb⟩
      have HR2 := Lib.hid hr
      have HB2 : Hid (Below w.heap.size w w2) := HBW.out.trans (hb.mono HBW.out.size)
      have PX2 := Keep.mk (PX.out.below hb)
      clear hr hb c0 c1 c2
      have c0 := PX2.out.cell 0 _ rfl
      have c1 := PX2.out.cell 1 _ rfl
      have c2 := PX2.out.cell 2 _ rfl
      go_wp2_with fail
      refine (rpack_ok p.w p.h p.a p.n p.c p.l w2 (HO.out.below HB2.out) HCK.out).mono ?_
      rintro e w3 ⟨A3, n3, q3, rfl, hr, hb⟩
      have HR3 := Lib.hid hr
      have HR23 := Lib.hid (HR2.out.below hb)
      have HB3 : Hid (Below w.heap.size w w3) := HB2.out.trans (hb.mono HB2.out.size)
      have PX3 := Keep.mk (PX2.out.below hb)
      clear hr hb c0 c1 c2
      go_wp2_with fail
      refine (same_true A2 n2 q2 A3 n3 q3 _ w3 HR23.out HR3.out).mono ?_
      rintro e w4 ⟨rfl, kq, hw4⟩
      have HD4 : Hid (Below w3.heap.size w3 w4) := by rw [hw4]; exact below_draws _ _ _
      clear hw4
      have HB4 : Hid (Below w.heap.size w w4) := HB3.out.trans (HD4.out.mono HB3.out.size)
      have PX4 := Keep.mk (PX3.out.below HD4.out)
      go_wp2_with fail
      refine (unpack_any A2 n2 q2 _ w4 (HR23.out.below HD4.out) (HT.out.below HB4.out)).mono ?_
      rw [HK.out]
      rintro e w5 ⟨A5, n5, q5, rfl, hr, hb⟩
      unfold plv
      have HB5 : Hid (Below w.heap.size w w5) := HB4.out.trans (hb.mono HB4.out.size)
      have PX5 := Keep.mk ((PX4.out.below hb).alloc (.cells #[.int .i64 p.w, .int .i64 p.h, .slice A5 n5 q5] 24))
      have QX5 := Keep.mk (Bx.new w5 [.int .i64 p.w, .int .i64 p.h, .slice A5 n5 q5] 24)
      have HR5 := Lib.hid (hr.below (below_alloc1 w5 (.cells #[.int .i64 p.w, .int .i64 p.h, .slice A5 n5 q5] 24)))
      have HB6 : Hid (Below w.heap.size w (w5.alloc (.cells #[.int .i64 p.w, .int .i64 p.h, .slice A5 n5 q5] 24))) := HB5.out.alloc HB5.out.size _
      clear hr hb
      have c0 := PX5.out.cell 0 _ rfl
      have c1 := PX5.out.cell 1 _ rfl
      have c2 := PX5.out.cell 2 _ rfl
      go_wp2_with fail
      have hs : Calls Tryd.prog 19 #[.agg #[.int .i64 p.w, .int .i64 p.h, .slice p.a p.n p.c], .agg #[.int .i64 p.w, .int .i64 p.h, .slice A5 n5 q5]] (w5.alloc (.cells #[.int .i64 p.w, .int .i64 p.h, .slice A5 n5 q5] 24)) _ := psame_true p.w p.h p.a p.n p.c A5 n5 q5 p.l _ (HO.out.below HB6.out) HR5.out
      refine hs.mono ?_
      clear hs
      rintro e w7 ⟨rfl, hb⟩
      clear HBW
      have HBW : Hid (Below w.heap.size w w7) := HB6.out.trans (hb.mono HB6.out.size)
      clear hb c0 c1 c2
      go_wp2_with fail
      refine (awake_any _ (HT.out.below HBW.out)).mono ?_
      rintro e w9 ⟨rfl, hb⟩
      have HB9 : Hid (Below w.heap.size w w9) := HBW.out.trans (hb.mono HBW.out.size)
      clear hb
      go_wp2
      go_ret
      exact ⟨rfl, HB9.out⟩
    · have HK := Keep.mk hc
      have b0 : (Pl.check p.w p.h p.l != 0) = true := by simp [hc]
      have b1 : (Pl.check p.w p.h p.l != Pl.check p.w p.h p.l) = false := by simp
      have KE := Lib.hid (fun X h => pack_err p.w p.h p.a p.n p.c p.l X h hc)
      have KF := Lib.hid (fun X h => rpack_err p.w p.h p.a p.n p.c p.l X h hc)
      generalize Pl.check p.w p.h p.l = q at *
      clear hc HK
      unfold plv at KE KF
      go_enter Tryd.func4, Tryd.ntmps4
      go_wp2_with fail
      refine (fair_any p _).mono ?_
      rintro e w1 ⟨rfl, hb⟩
      have HBW : Hid (Below w.heap.size w w1) := (below_alloc1 _ _).trans (hb.mono (by simp))
      have PX := Keep.mk ((Bx.new w [.int .i64 p.w, .int .i64 p.h, .slice p.a p.n p.c] 24).below hb)
      clear hb
      have c0 := PX.out.cell 0 _ rfl
      have c1 := PX.out.cell 1 _ rfl
      have c2 := PX.out.cell 2 _ rfl
      go_wp2_with fail
      refine (KE.out w1 (HO.out.below HBW.out)).mono ?_
      rintro e w2 ⟨A2, n2, q2, rfl, hr, hb⟩
      have HR2 := Lib.hid hr
      have HB2 : Hid (Below w.heap.size w w2) := HBW.out.trans (hb.mono HBW.out.size)
      have PX2 := Keep.mk (PX.out.below hb)
      clear hr hb c0 c1 c2
      have c0 := PX2.out.cell 0 _ rfl
      have c1 := PX2.out.cell 1 _ rfl
      have c2 := PX2.out.cell 2 _ rfl
      go_wp2_with fail
      refine (KF.out w2 (HO.out.below HB2.out)).mono ?_
      rintro e w3 ⟨A3, n3, q3, rfl, hr, hb⟩
      have HR3 := Lib.hid hr
      have HR23 := Lib.hid (HR2.out.below hb)
      have HB3 : Hid (Below w.heap.size w w3) := HB2.out.trans (hb.mono HB2.out.size)
      clear hr hb c0 c1 c2
      go_wp2_with fail
      refine (same_true A2 n2 q2 A3 n3 q3 _ w3 HR23.out HR3.out).mono ?_
      rintro e w4 ⟨rfl, kq, hw4⟩
      clear HBW
      have HBW : Hid (Below w.heap.size w w4) := by rw [hw4]; exact HB3.out.trans (below_draws _ _ _)
      clear hw4
      go_wp2_with fail
      refine (awake_any _ (HT.out.below HBW.out)).mono ?_
      rintro e w9 ⟨rfl, hb⟩
      have HB9 : Hid (Below w.heap.size w w9) := HBW.out.trans (hb.mono HBW.out.size)
      clear hb
      go_wp2
      go_ret
      exact ⟨rfl, HB9.out⟩
  · have d1 : decide ((p.n : Int) ≤ 5000) = false := by simp; omega
    go_enter Tryd.func4, Tryd.ntmps4
    go_wp2_with fail
    refine (fair_any p _).mono ?_
    rintro e w1 ⟨rfl, hb⟩
    have HBW : Hid (Below w.heap.size w w1) := (below_alloc1 _ _).trans (hb.mono (by simp))
    have PX := Keep.mk ((Bx.new w [.int .i64 p.w, .int .i64 p.h, .slice p.a p.n p.c] 24).below hb)
    clear hb
    have c0 := PX.out.cell 0 _ rfl
    have c1 := PX.out.cell 1 _ rfl
    have c2 := PX.out.cell 2 _ rfl
    clear c0 c1 c2
    go_wp2_with fail
    refine (awake_any _ (HT.out.below HBW.out)).mono ?_
    rintro e w9 ⟨rfl, hb⟩
    have HB9 : Hid (Below w.heap.size w w9) := HBW.out.trans (hb.mono HBW.out.size)
    clear hb
    go_wp2
    go_ret
    exact ⟨rfl, HB9.out⟩
end Go.Proofs.YtpppgceccikodaaDoor
