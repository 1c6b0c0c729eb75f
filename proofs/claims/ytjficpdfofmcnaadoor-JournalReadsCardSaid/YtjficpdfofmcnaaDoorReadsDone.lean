/- JournalReads: for every input the law returns true, and each argument reads afterwards as it read before. Conditions: the package variable digest.steps starts as the text lays it (tied by the card). -/
import Derived.Test.YtjficpdfofmcnaaDoorBed12
import Derived.Test.YtjficpdfofmcnaaDoorBed3
import Derived.Test.YtjficpdfofmcnaaDoorBed8
import Derived.Deep.DeepHandedRow
/- JournalReads. -/
namespace Go.Proofs.YtjficpdfofmcnaaDoor
open Go.RowKit Go.Joins

set_option maxHeartbeats 8000000 in
set_option maxRecDepth 100000 in
theorem law_reads (d : Dk) (A : Option Addr) (n c : Nat) (l : List UInt8) (w : World) (h : d.Ok w) (hl : RB w A n c l) (ht : Tab w) (hLo : -9223372036854775808 ≤ d.left) (hHi : d.left ≤ 9223372036854775807) :
    Calls Tryd.prog 8 #[.agg #[.slice d.a d.n d.c, .slice d.pa d.pn d.pc, .int .i64 d.left, .bool d.down], .slice A n c] w fun e w' => e = .returned (.bool true) ∧ Below w.heap.size w w' := by
  have HBX : Keep (BxK (w.alloc (.cells #[.slice d.a d.n d.c, .slice d.pa d.pn d.pc, .int .i64 d.left, .bool d.down] 25)) w.heap.size d) := ⟨BxK.new h⟩
  have HX0 : Hid (Below w.heap.size w (w.alloc (.cells #[.slice d.a d.n d.c, .slice d.pa d.pn d.pc, .int .i64 d.left, .bool d.down] 25))) := below_alloc1 _ _
  have HT : Keep (Tab (w.alloc (.cells #[.slice d.a d.n d.c, .slice d.pa d.pn d.pc, .int .i64 d.left, .bool d.down] 25))) := ⟨ht.below (below_alloc1 _ _)⟩
  have HL : Keep (RB (w.alloc (.cells #[.slice d.a d.n d.c, .slice d.pa d.pn d.pc, .int .i64 d.left, .bool d.down] 25)) A n c l) := ⟨hl.below (below_alloc1 _ _)⟩
  have HLN := Keep.mk hl.len
  have hcap := hl.cap
  have hbig := hl.big
  unfold maxLen at hbig
  have HWS : Keep (Dv.few d.m 40 = true → WS 40 (d.m, 0)) := ⟨few_ws hLo hHi⟩
  clear h hl ht hLo hHi
  cases hf : Dv.few d.m 40
  · have HF := Keep.mk hf
    clear hf
    go_enter Tryd.func8, Tryd.ntmps8
    go_upto_region 1 with (fail)
    generalize e0 : w.alloc (.cells #[.slice d.a d.n d.c, .slice d.pa d.pn d.pc, .int .i64 d.left, .bool d.down] 25) = w1 at *
    clear e0
    obtain ⟨b0, hb0⟩ : ∃ b, b = w.heap.size := ⟨_, rfl⟩
    rw [← hb0] at HBX ⊢
    clear hb0
    obtain ⟨c2, c3, c4, c5⟩ := HBX.out.cs
    go_wp2_with fail
    refine (small_any d _ HBX.out.ok).mono ?_
    rw [HF.out]
    rintro e w6 ⟨rfl, hb⟩
    have H7 := Keep.mk (HBX.out.below hb)
    have H8 := Keep.mk (HT.out.below hb)
    have H9 := Keep.mk (HL.out.below hb)
    have B10 := Lib.hid (below_next HX0.out hb (Nat.le_refl _))
    clear c2 c3 c4 c5
    clear HBX HT HL HX0
    clear hb
    go_wp2_with fail
    refine (awake_any _ H8.out).mono ?_
    rintro e w11 ⟨rfl, hb⟩
    have H12 := Keep.mk (H7.out.below hb)
    have H13 := Keep.mk (H8.out.below hb)
    have H14 := Keep.mk (H9.out.below hb)
    have B15 := Lib.hid (below_next B10.out hb (Nat.le_refl _))
    clear H7 H8 H9 B10
    clear hb
    go_wp2
    go_ret
    exact ⟨rfl, B15.out⟩
  · have HF := Keep.mk hf
    have HW := Keep.mk (HWS.out hf)
    clear hf HWS
    by_cases hn : n ≤ 3000
    rotate_left
    · have g1 : decide ((3000 : Int) < (n : Int)) = true := decide_eq_true (by omega)
      have g2 : decide (3000 < n) = true := decide_eq_true (by omega)
      clear hn
      go_enter Tryd.func8, Tryd.ntmps8
      go_upto_region 1 with (fail)
      generalize e0 : w.alloc (.cells #[.slice d.a d.n d.c, .slice d.pa d.pn d.pc, .int .i64 d.left, .bool d.down] 25) = w1 at *
      clear e0
      obtain ⟨b0, hb0⟩ : ∃ b, b = w.heap.size := ⟨_, rfl⟩
      rw [← hb0] at HBX ⊢
      clear hb0
      obtain ⟨c2, c3, c4, c5⟩ := HBX.out.cs
      go_wp2_with fail
      refine (small_any d _ HBX.out.ok).mono ?_
      rw [HF.out]
      rintro e w6 ⟨rfl, hb⟩
      have H7 := Keep.mk (HBX.out.below hb)
      have H8 := Keep.mk (HT.out.below hb)
      have H9 := Keep.mk (HL.out.below hb)
      have B10 := Lib.hid (below_next HX0.out hb (Nat.le_refl _))
      clear c2 c3 c4 c5
      clear HBX HT HL HX0
      clear hb
      go_wp2_with fail
      refine (awake_any _ H8.out).mono ?_
      rintro e w11 ⟨rfl, hb⟩
      have H12 := Keep.mk (H7.out.below hb)
      have H13 := Keep.mk (H8.out.below hb)
      have H14 := Keep.mk (H9.out.below hb)
      have B15 := Lib.hid (below_next B10.out hb (Nat.le_refl _))
      clear H7 H8 H9 B10
      clear hb
      go_wp2
      go_ret
      exact ⟨rfl, B15.out⟩
    have g1 : decide ((3000 : Int) < (n : Int)) = false := decide_eq_false (by omega)
    have g2 : decide (3000 < n) = false := decide_eq_false (by omega)
    have HL3 : Keep (l.length ≤ 3000) := ⟨by have := HLN.out; omega⟩
    by_cases hk : Jn.scanE d.m = 0
    rotate_left
    · have HK := Keep.mk hk
      clear hk
      go_enter Tryd.func8, Tryd.ntmps8
      go_upto_region 1 with (fail)
      generalize e0 : w.alloc (.cells #[.slice d.a d.n d.c, .slice d.pa d.pn d.pc, .int .i64 d.left, .bool d.down] 25) = w1 at *
      clear e0
      obtain ⟨b0, hb0⟩ : ∃ b, b = w.heap.size := ⟨_, rfl⟩
      rw [← hb0] at HBX ⊢
      clear hb0
      obtain ⟨c2, c3, c4, c5⟩ := HBX.out.cs
      go_wp2_with fail
      refine (small_any d _ HBX.out.ok).mono ?_
      rw [HF.out]
      rintro e w6 ⟨rfl, hb⟩
      have H7 := Keep.mk (HBX.out.below hb)
      have H8 := Keep.mk (HT.out.below hb)
      have H9 := Keep.mk (HL.out.below hb)
      have B10 := Lib.hid (below_next HX0.out hb (Nat.le_refl _))
      clear c2 c3 c4 c5
      clear HBX HT HL HX0
      clear hb
      obtain ⟨c11, c12, c13, c14⟩ := H7.out.cs
      go_wp2_with fail
      refine (open_any d 40 _ H7.out.ok HW.out.fit (by decide) H8.out).mono ?_
      rintro e w15 ⟨J, k, L, rfl, hok, hb, hsc, hav⟩
      have hk0 : ¬ k = 0 := fun e => HK.out (hsc.1.symm.trans e)
      have hk1 : (k != 0) = true := by simpa using hk0
      clear hk0 hsc
      have hal := below_alloc1 w15 (.cells #[.slice J.d.a J.d.n J.d.c, .slice J.d.pa J.d.pn J.d.pc, .int .i64 J.d.left, .bool J.d.down, .int .i64 J.e, .int .i64 J.h, .int .i64 J.c] 32)
      have N16 : Keep (BJ (w15.alloc (.cells #[.slice J.d.a J.d.n J.d.c, .slice J.d.pa J.d.pn J.d.pc, .int .i64 J.d.left, .bool J.d.down, .int .i64 J.e, .int .i64 J.h, .int .i64 J.c] 32)) w15.heap.size J J.m) := ⟨BJ.new hok rfl⟩
      have H18 := Keep.mk ((H7.out.below hb).below hal)
      have H19 := Keep.mk ((H8.out.below hb).below hal)
      have H20 := Keep.mk ((H9.out.below hb).below hal)
      have B21 := Lib.hid (below_next (below_next B10.out hb (Nat.le_refl _)) hal (Nat.le_refl _))
      clear c11 c12 c13 c14
      clear H7 H8 H9 B10
      clear hb hal hok hav
      go_upto_region 4 with (fail)
      generalize e23 : w15.alloc (.cells #[.slice J.d.a J.d.n J.d.c, .slice J.d.pa J.d.pn J.d.pc, .int .i64 J.d.left, .bool J.d.down, .int .i64 J.e, .int .i64 J.h, .int .i64 J.c] 32) = w22 at *
      clear e23
      obtain ⟨b17, hbk⟩ : ∃ b, b = w15.heap.size := ⟨_, rfl⟩
      rw [← hbk] at N16 ⊢
      clear hbk
      go_wp2_with fail
      refine (awake_any _ H19.out).mono ?_
      rintro e w24 ⟨rfl, hb⟩
      have H25 := Keep.mk (H18.out.below hb)
      have H26 := Keep.mk (H19.out.below hb)
      have H27 := Keep.mk (H20.out.below hb)
      have H28 := Keep.mk (N16.out.below hb)
      have B29 := Lib.hid (below_next B21.out hb (Nat.le_refl _))
      clear H18 H19 H20 N16 B21
      clear hb
      go_wp2
      go_ret
      exact ⟨rfl, B29.out⟩
    have HK := Keep.mk hk
    clear hk
    go_enter Tryd.func8, Tryd.ntmps8
    go_upto_region 1 with (fail)
    generalize e0 : w.alloc (.cells #[.slice d.a d.n d.c, .slice d.pa d.pn d.pc, .int .i64 d.left, .bool d.down] 25) = w1 at *
    clear e0
    obtain ⟨b0, hb0⟩ : ∃ b, b = w.heap.size := ⟨_, rfl⟩
    rw [← hb0] at HBX ⊢
    clear hb0
    obtain ⟨c2, c3, c4, c5⟩ := HBX.out.cs
    go_wp2_with fail
    refine (small_any d _ HBX.out.ok).mono ?_
    rw [HF.out]
    rintro e w6 ⟨rfl, hb⟩
    have H7 := Keep.mk (HBX.out.below hb)
    have H8 := Keep.mk (HT.out.below hb)
    have H9 := Keep.mk (HL.out.below hb)
    have B10 := Lib.hid (below_next HX0.out hb (Nat.le_refl _))
    clear c2 c3 c4 c5
    clear HBX HT HL HX0
    clear hb
    obtain ⟨c11, c12, c13, c14⟩ := H7.out.cs
    go_wp2_with fail
    refine (open_any d 40 _ H7.out.ok HW.out.fit (by decide) H8.out).mono ?_
    rintro e w15 ⟨J, k, L, rfl, hok, hb, hsc, hav⟩
    obtain rfl : k = 0 := hsc.1.trans HK.out
    obtain ⟨j, hj⟩ : ∃ j, j = J.m := ⟨_, rfl⟩
    rw [← hj] at hsc
    obtain ⟨hjd, F, hfd⟩ := hsc.found
    have HWJ : Keep (WS 40 (j.d, 0)) := ⟨by rw [hjd]; exact HW.out⟩
    have HNS : Keep (j.d.sectors.length ≤ 4096) := ⟨by have := HW.out.fit.ns; simp only at this; rw [hjd]; omega⟩
    have HFD := Keep.mk hfd
    have HIN : Keep (V.In j.h) := ⟨by have h1 := hfd.h; have h2 := hfd.bounds; have h3 := HNS.out; unfold V.In; omega⟩
    clear hsc hjd hfd
    have hal := below_alloc1 w15 (.cells #[.slice J.d.a J.d.n J.d.c, .slice J.d.pa J.d.pn J.d.pc, .int .i64 J.d.left, .bool J.d.down, .int .i64 J.e, .int .i64 J.h, .int .i64 J.c] 32)
    have N16 : Keep (BJ (w15.alloc (.cells #[.slice J.d.a J.d.n J.d.c, .slice J.d.pa J.d.pn J.d.pc, .int .i64 J.d.left, .bool J.d.down, .int .i64 J.e, .int .i64 J.h, .int .i64 J.c] 32)) w15.heap.size J j) := ⟨BJ.new hok hj.symm⟩
    have H18 := Keep.mk ((H7.out.below hb).below hal)
    have H19 := Keep.mk ((H8.out.below hb).below hal)
    have H20 := Keep.mk ((H9.out.below hb).below hal)
    have B21 := Lib.hid (below_next (below_next B10.out hb (Nat.le_refl _)) hal (Nat.le_refl _))
    clear c11 c12 c13 c14
    clear H7 H8 H9 B10
    clear hb hal hok hav
    go_upto_region 4 with (fail)
    generalize e23 : w15.alloc (.cells #[.slice J.d.a J.d.n J.d.c, .slice J.d.pa J.d.pn J.d.pc, .int .i64 J.d.left, .bool J.d.down, .int .i64 J.e, .int .i64 J.h, .int .i64 J.c] 32) = w22 at *
    clear e23
    obtain ⟨b17, hbk⟩ : ∃ b, b = w15.heap.size := ⟨_, rfl⟩
    rw [← hbk] at N16 ⊢
    clear hbk
    clear hj
    clear H18
    obtain ⟨c24, c25, c26, c27, c28, c29, c30⟩ := N16.out.bx.cs
    go_wp2_with fail
    refine (records_s N16.out.bx.ok N16.out.dm HWJ.out.fit (by decide) H19.out HFD.out.scanned).mono ?_
    rintro e w31 ⟨A1, n1, c1, S1, rfl, hrs, hb, hS⟩
    have HS1 := Keep.mk hS
    have hn1 : S1.length = n1 := hrs.len
    have hn2 : S1.length = L.length := by rw [← hS, List.length_map]
    have hn3 : n1 ≤ 4096 := by have := HFD.out.bounds; have := HNS.out; omega
    have HN1 : Keep ((n1 : Int) = j.c) := ⟨by rw [HFD.out.c]; omega⟩
    clear hS hn1 hn2
    have N32 := Keep.mk ((hrs))
    have H33 := Keep.mk (H19.out.below hb)
    have H34 := Keep.mk (H20.out.below hb)
    have H35 := Keep.mk (N16.out.below hb)
    have B36 := Lib.hid (below_next B21.out hb (Nat.le_refl _))
    clear c24 c25 c26 c27 c28 c29 c30
    clear H19 H20 N16 B21
    clear hb
    clear hrs
    obtain ⟨r, q, hr⟩ : ∃ r q, j.append l = (r, q) := ⟨_, _, rfl⟩
    have HR := Keep.mk hr
    clear hr
    have hjc : ((n1 : Int) != J.c) = false := by rw [H35.out.ec, HN1.out]; simp
    by_cases hq : q = 0
    rotate_left
    · have hq1 : (q != 0) = true := by simpa using hq
      clear hq
      obtain ⟨c37, c38, c39, c40, c41, c42, c43⟩ := H35.out.bx.cs
      go_wp2_with fail
      refine (append_bj H35.out HWJ.out (by decide) HIN.out H34.out HL3.out H33.out HR.out).mono ?_
      rintro e w44 ⟨K, rfl, hok, hm, hb, hav⟩
      have hal := below_alloc1 w44 (.cells #[.slice K.d.a K.d.n K.d.c, .slice K.d.pa K.d.pn K.d.pc, .int .i64 K.d.left, .bool K.d.down, .int .i64 K.e, .int .i64 K.h, .int .i64 K.c] 32)
      have N45 : Keep (BJ (w44.alloc (.cells #[.slice K.d.a K.d.n K.d.c, .slice K.d.pa K.d.pn K.d.pc, .int .i64 K.d.left, .bool K.d.down, .int .i64 K.e, .int .i64 K.h, .int .i64 K.c] 32)) w44.heap.size K r) := ⟨BJ.new hok hm⟩
      have H47 := Keep.mk ((H33.out.below hb).below hal)
      have H48 := Keep.mk ((H34.out.below hb).below hal)
      have H49 := Keep.mk ((H35.out.below hb).below hal)
      have H50 := Keep.mk ((N32.out.below hb).below hal)
      have B51 := Lib.hid (below_next (below_next B36.out hb (Nat.le_refl _)) hal (Nat.le_refl _))
      clear c37 c38 c39 c40 c41 c42 c43
      clear H33 H34 H35 N32 B36
      clear hb hal hok hav
      try clear hm
      go_upto_region 8 with (fail)
      generalize e53 : w44.alloc (.cells #[.slice K.d.a K.d.n K.d.c, .slice K.d.pa K.d.pn K.d.pc, .int .i64 K.d.left, .bool K.d.down, .int .i64 K.e, .int .i64 K.h, .int .i64 K.c] 32) = w52 at *
      clear e53
      obtain ⟨b46, hbk⟩ : ∃ b, b = w44.heap.size := ⟨_, rfl⟩
      rw [← hbk] at N45 ⊢
      clear hbk
      obtain ⟨c54, c55, c56, c57, c58, c59, c60⟩ := H49.out.bx.cs
      go_wp2_with fail
      refine (awake_any _ H47.out).mono ?_
      rintro e w61 ⟨rfl, hb⟩
      have H62 := Keep.mk (H47.out.below hb)
      have H63 := Keep.mk (H48.out.below hb)
      have H64 := Keep.mk (H49.out.below hb)
      have H65 := Keep.mk (H50.out.below hb)
      have H66 := Keep.mk (N45.out.below hb)
      have B67 := Lib.hid (below_next B51.out hb (Nat.le_refl _))
      clear c54 c55 c56 c57 c58 c59 c60
      clear H47 H48 H49 H50 N45 B51
      clear hb
      go_wp2
      go_ret
      exact ⟨rfl, B67.out⟩
    subst hq
    have HAD := Keep.mk (HFD.out.added HNS.out HL3.out (by rw [HR.out]))
    have HFR : Keep (Found r (L ++ [l]) (F + 1 + Jn.sectors l.length)) := ⟨by have := HAD.out.1; rw [HR.out] at this; exact this⟩
    have HWR : Keep (WS 90 (r.d, 0)) := ⟨by have := append_ws HWJ.out HL3.out; rw [HR.out] at this; exact this⟩
    clear HAD
    obtain ⟨c68, c69, c70, c71, c72, c73, c74⟩ := H35.out.bx.cs
    go_wp2_with fail
    refine (append_bj H35.out HWJ.out (by decide) HIN.out H34.out HL3.out H33.out HR.out).mono ?_
    rintro e w75 ⟨K, rfl, hok, hm, hb, hav⟩
    have hal := below_alloc1 w75 (.cells #[.slice K.d.a K.d.n K.d.c, .slice K.d.pa K.d.pn K.d.pc, .int .i64 K.d.left, .bool K.d.down, .int .i64 K.e, .int .i64 K.h, .int .i64 K.c] 32)
    have N76 : Keep (BJ (w75.alloc (.cells #[.slice K.d.a K.d.n K.d.c, .slice K.d.pa K.d.pn K.d.pc, .int .i64 K.d.left, .bool K.d.down, .int .i64 K.e, .int .i64 K.h, .int .i64 K.c] 32)) w75.heap.size K r) := ⟨BJ.new hok hm⟩
    have H78 := Keep.mk ((H33.out.below hb).below hal)
    have H79 := Keep.mk ((H34.out.below hb).below hal)
    have H80 := Keep.mk ((H35.out.below hb).below hal)
    have H81 := Keep.mk ((N32.out.below hb).below hal)
    have B82 := Lib.hid (below_next (below_next B36.out hb (Nat.le_refl _)) hal (Nat.le_refl _))
    clear c68 c69 c70 c71 c72 c73 c74
    clear H33 H34 H35 N32 B36
    clear hb hal hok hav
    try clear hm
    go_upto_region 8 with (fail)
    generalize e84 : w75.alloc (.cells #[.slice K.d.a K.d.n K.d.c, .slice K.d.pa K.d.pn K.d.pc, .int .i64 K.d.left, .bool K.d.down, .int .i64 K.e, .int .i64 K.h, .int .i64 K.c] 32) = w83 at *
    clear e84
    obtain ⟨b77, hbk⟩ : ∃ b, b = w75.heap.size := ⟨_, rfl⟩
    rw [← hbk] at N76 ⊢
    clear hbk
    obtain ⟨c85, c86, c87, c88, c89, c90, c91⟩ := H80.out.bx.cs
    go_upto_region 12 with (fail)
    clear c85 c86 c87 c88 c89 c90 c91
    clear H80
    obtain ⟨c92, c93, c94, c95, c96, c97, c98⟩ := N76.out.bx.cs
    go_wp2_with fail
    refine (open_s N76.out.bx.ok N76.out.dm HWR.out.fit (by decide) H78.out HFR.out.scanned).mono ?_
    rintro e w99 ⟨M, rfl, hok, hm, hb, hav⟩
    have hal := below_alloc1 w99 (.cells #[.slice M.d.a M.d.n M.d.c, .slice M.d.pa M.d.pn M.d.pc, .int .i64 M.d.left, .bool M.d.down, .int .i64 M.e, .int .i64 M.h, .int .i64 M.c] 32)
    have N100 : Keep (BJ (w99.alloc (.cells #[.slice M.d.a M.d.n M.d.c, .slice M.d.pa M.d.pn M.d.pc, .int .i64 M.d.left, .bool M.d.down, .int .i64 M.e, .int .i64 M.h, .int .i64 M.c] 32)) w99.heap.size M r) := ⟨BJ.new hok hm⟩
    have H102 := Keep.mk ((H78.out.below hb).below hal)
    have H103 := Keep.mk ((H79.out.below hb).below hal)
    have H104 := Keep.mk ((H81.out.below hb).below hal)
    have H105 := Keep.mk ((N76.out.below hb).below hal)
    have B106 := Lib.hid (below_next (below_next B82.out hb (Nat.le_refl _)) hal (Nat.le_refl _))
    clear c92 c93 c94 c95 c96 c97 c98
    clear H78 H79 H81 N76 B82
    clear hb hal hok hav
    try clear hm
    go_upto_region 13 with (fail)
    generalize e108 : w99.alloc (.cells #[.slice M.d.a M.d.n M.d.c, .slice M.d.pa M.d.pn M.d.pc, .int .i64 M.d.left, .bool M.d.down, .int .i64 M.e, .int .i64 M.h, .int .i64 M.c] 32) = w107 at *
    clear e108
    obtain ⟨b101, hbk⟩ : ∃ b, b = w99.heap.size := ⟨_, rfl⟩
    rw [← hbk] at N100 ⊢
    clear hbk
    obtain ⟨c109, c110, c111, c112, c113, c114, c115⟩ := H105.out.bx.cs
    go_wp2_with fail
    refine (records_s H105.out.bx.ok H105.out.dm HWR.out.fit (by decide) H102.out HFR.out.scanned).mono ?_
    rintro e w116 ⟨A2, n2, c2, S2, rfl, hrs, hb, hS⟩
    have HS2 := Keep.mk hS
    clear hS
    have N117 := Keep.mk ((hrs))
    have H118 := Keep.mk (H102.out.below hb)
    have H119 := Keep.mk (H103.out.below hb)
    have H120 := Keep.mk (H104.out.below hb)
    have H121 := Keep.mk (H105.out.below hb)
    have H122 := Keep.mk (N100.out.below hb)
    have B123 := Lib.hid (below_next B106.out hb (Nat.le_refl _))
    clear c109 c110 c111 c112 c113 c114 c115
    clear H102 H103 H104 H105 N100 B106
    clear hb
    clear hrs
    go_upto_region 16 with (first
      | (at_builtin; refine wpList_append_app _ rfl (.tmp 67) (.tmp 68) 22 rfl w116.heap.size 26 (.slice none 0 0) 1 24 Tryd.underlying22 sl_info rfl (by decide) (by decide) (.slice none 0 0) 0 [] rfl (GS.nil _ _).tgt A1 n1 c1 (S1.map Sl.v) rfl H120.out.rd (sl_one _) (by omega) (Nat.le_refl _) ?_; intro A126 c127 w124 ha; have HA125 := Keep.mk ha; clear ha))
    have N128 := Keep.mk (WantL.first H120.out HA125.out)
    go_upto_region 17 with (first
      | (at_builtin; refine wpList_append_app _ rfl (.tmp 70) (.tmp 72) 22 rfl w116.heap.size 26 (.slice none 0 0) 1 24 Tryd.underlying22 sl_info rfl (by decide) (by decide) (.slice A126 n1 c127) n1 (S1.map Sl.v) rfl (N128.out.g.below (below_alloc1 _ _)).tgt (some ⟨w124.heap.size, 0, none⟩) 1 1 [.slice A n c] rfl (rd_one w124 _ _) (by simp [Value.oneCell']) (by omega) (by have := HA125.out.below.size; simp; omega) ?_; intro A131 c132 w129 ha; have HA130 := Keep.mk ha; clear ha))
    have N133 := Keep.mk (WantL.snoc (s := ⟨A, n, c, l⟩) (N128.out.below (below_alloc1 _ _)) HA130.out (RB.below (RB.below H119.out HA125.out.below) (below_alloc1 _ _)) H119.out (Nat.le_refl _) (by have := HA125.out.below.size; simp; omega))
    have HB134 := Lib.hid (want_bel HA125.out.below HA130.out.below)
    have H135 := Keep.mk (H118.out.below HB134.out)
    have H136 := Keep.mk (H119.out.below HB134.out)
    have H137 := Keep.mk (H120.out.below HB134.out)
    have H138 := Keep.mk (H121.out.below HB134.out)
    have H139 := Keep.mk (H122.out.below HB134.out)
    have H140 := Keep.mk (N117.out.below HB134.out)
    have B141 := Lib.hid (below_next B123.out HB134.out (Nat.le_refl _))
    clear H118 H119 H120 H121 H122 N117 B123
    clear HA130 N128 HA125
    obtain ⟨c142, c143, c144, c145, c146, c147, c148⟩ := H138.out.bx.cs
    obtain ⟨c149, c150, c151, c152, c153, c154, c155⟩ := H139.out.bx.cs
    go_wp2_with fail
    refine (rjsame_bj H139.out H138.out).mono ?_
    rintro e w156 ⟨rfl, hb⟩
    have H157 := Keep.mk (H135.out.below hb)
    have H158 := Keep.mk (H136.out.below hb)
    have H159 := Keep.mk (H137.out.below hb)
    have H160 := Keep.mk (H138.out.below hb)
    have H161 := Keep.mk (H139.out.below hb)
    have H162 := Keep.mk (H140.out.below hb)
    have H163 := Keep.mk (N133.out.below hb)
    have B164 := Lib.hid (below_next B141.out hb (Nat.le_refl _))
    clear c142 c143 c144 c145 c146 c147 c148 c149 c150 c151 c152 c153 c154 c155
    clear H135 H136 H137 H138 H139 H140 N133 B141
    clear hb
    go_wp2_with fail
    refine (ss_true H162.out H163.out.g.rs (by rw [HS2.out, List.map_append, HS1.out]; rfl)).mono ?_
    rintro e w165 ⟨rfl, hb⟩
    have H166 := Keep.mk (H157.out.below hb)
    have H167 := Keep.mk (H158.out.below hb)
    have H168 := Keep.mk (H159.out.below hb)
    have H169 := Keep.mk (H160.out.below hb)
    have H170 := Keep.mk (H161.out.below hb)
    have H171 := Keep.mk (H162.out.below hb)
    have H172 := Keep.mk (H163.out.below hb)
    have B173 := Lib.hid (below_next B164.out hb (Nat.le_refl _))
    clear H157 H158 H159 H160 H161 H162 H163 B164
    clear hb
    go_wp2_with fail
    refine (awake_any _ H166.out).mono ?_
    rintro e w174 ⟨rfl, hb⟩
    have H175 := Keep.mk (H166.out.below hb)
    have H176 := Keep.mk (H167.out.below hb)
    have H177 := Keep.mk (H168.out.below hb)
    have H178 := Keep.mk (H169.out.below hb)
    have H179 := Keep.mk (H170.out.below hb)
    have H180 := Keep.mk (H171.out.below hb)
    have H181 := Keep.mk (H172.out.below hb)
    have B182 := Lib.hid (below_next B173.out hb (Nat.le_refl _))
    clear H166 H167 H168 H169 H170 H171 H172 B173
    clear hb
    go_wp2
    go_ret
    exact ⟨rfl, B182.out⟩
end Go.Proofs.YtjficpdfofmcnaaDoor

/- JournalReads: for every input the law returns true, and each argument reads afterwards as it read before. Conditions: the package variable digest.steps starts as the text lays it (tied by the card). -/
namespace Go.Proofs.YtjficpdfofmcnaaDoor.journalReadsDone
open Go.ChangeShapes Go.WideShapes Go.ChangeAt Go.RowKit Go.Joins
open Go.ChangeMaps (open_string shut_string)
set_option linter.unusedVariables false

set_option maxRecDepth 100000 in
theorem contract (H : Type) (enc : TypeId × Value → H) (W : World) (base : Nat) (args : Array Value) (ds gs : List (DataW H)) (before : List MemPlace)
    (hval : ∀ (j : Nat) t v, Tryd.f8.params[j]? = some t → args[j]? = some v → Value.okWide Tryd.prog W .any base t v)
    (hW : DataW.Whole enc Tryd.prog Tryd.f8.params.toList Rows.journalReadsSpec.vars false W args.toList ds gs before)
    (hsz0 : (DataW.weightsEach Tryd.prog (Tryd.f8.params.toList ++ (OpenSpec.ofChange Rows.journalReadsSpec).bare.plain.varTypes Tryd.prog) (ds ++ gs)).all (· ≤ reachBytes) = true) (hL : laidMetH Tryd.prog Rows.journalReadsRow.laid W) :
    Calls Tryd.prog 8 args W fun e W' => ∃ v, e = .returned v ∧ Rows.journalReadsSpec.post enc Tryd.prog Tryd.f8 false true false false W args v W' := by
  have hT := tab_of hL
  have hsz : (DataW.weightsEach Tryd.prog (Tryd.f8.params.toList ++ []) (ds ++ gs)).all (· ≤ reachBytes) = true := hsz0
  have hW' := hW
  obtain ⟨p, q, hA0, hV, rfl, hfz, hnd⟩ := hW
  have hA : DataW.TrodAll enc Tryd.prog W 0 (fun _ => true) true Tryd.f8.params.toList args.toList ds p := hA0
  rw [Tryd.params8] at hA hval hsz
  obtain ⟨v0, vs0, d0, ds0, p0, q0, hargs, rfl, rfl, h0, t0⟩ := trodAll_cons hA
  obtain ⟨v1, vs1, d1, ds1, p1, q1, rfl, rfl, rfl, h1, t1⟩ := trodAll_cons t0
  obtain ⟨rfl, rfl, rfl⟩ := trodAll_nil t1
  obtain rfl : args = #[v0, v1] := by cases args; simp_all
  obtain ⟨rfl, rfl⟩ := trodVars_none hV
  have k0 := h0
  have lt0 : ∀ x ∈ p0, x.block < W.heap.size := by obtain ⟨m, hm⟩ := k0; exact DataW.trod_lt m _ _ _ hm
  have k1 := h1
  have lt1 : ∀ x ∈ p1, x.block < W.heap.size := by obtain ⟨m, hm⟩ := k1; exact DataW.trod_lt m _ _ _ hm
  obtain ⟨o0, rfl, r0, f0⟩ := open_disk (hval 0 25 v0 rfl rfl) h0
  have s0 := bounds_i64 f0
  obtain ⟨A1, n1, c1, l1, rfl, r1, z1⟩ := open_rb Tryd.underlying26 Tryd.underlying5 (by kernel_rfl) (hval 1 26 v1 rfl rfl) h1
  have s1 : n1 ≤ 140737488351232 := by have := z1.reach hsz (j := 1) (t := 26) (e := 5) rfl rfl Tryd.underlying26; rw [show Tryd.prog.bytesOf 5 = 1 by kernel_rfl] at this; omega
  clear hA0 hsz0
  refine (law_reads o0 A1 n1 c1 l1 W r0 r1 hT s0.1 s0.2).mono fun e W' ⟨he, bel⟩ => ?_
  subst he
  exact ⟨_, rfl, _, _, _, [], _, [], hW', trodAll_mk1 (shut_bool Tryd.underlying4 _), (trodAll_cons_mk (Below.trod laidOut (by kernel_rfl) (of_decide_eq_true (by kernel_rfl)) k0 bel lt0) (trodAll_cons_mk (Below.trod laidOut (by kernel_rfl) (of_decide_eq_true (by kernel_rfl)) k1 bel lt1) (trodAll_mk0))), rfl, bel.frame _, fun h => by cases h⟩

theorem laid_met (os : Os) : laidMet Tryd.prog Rows.journalReadsRow.laid ((laidWorld os).forCall (fun _ _ => 0) ⟨#[], #[.agg #[.slice none 0 0, .slice none 0 0, .int .i64 0, .bool false], .slice none 0 0], []⟩).memory :=
  laidMet_of_run' 8 (by kernel_rfl) (by kernel_rfl)
theorem reads (os : Os) {H : Type} (enc : TypeId × Value → H) : ∃ places, DataW.whole enc Tryd.prog ((laidWorld os).forCall (fun _ _ => 0) ⟨#[], #[.agg #[.slice none 0 0, .slice none 0 0, .int .i64 0, .bool false], .slice none 0 0], []⟩).memory Tryd.f8.params.toList Rows.journalReadsSpec.vars false (#[.agg #[.slice none 0 0, .slice none 0 0, .int .i64 0, .bool false], .slice none 0 0] : Array Value).toList 8 = some ([.agg [.nil, .nil, .lit (.int .i64 0), .lit (.bool false)], .nil], [], places) :=
  ⟨[], by kernel_rfl⟩
set_option maxRecDepth 100000 in
theorem lifted (os : Os) (started : os.Started) (H : Type) (enc : TypeId × Value → H) (F : Stop.Interp) :
    ReturnsInHanded {} Tryd.checked os 8 .any ((OpenSpec.ofChange Rows.journalReadsSpec).preRow enc Tryd.prog Tryd.f8 Rows.journalReadsRow.domain false Rows.journalReadsRow.laid) (((OpenSpec.ofChange Rows.journalReadsSpec).at F).post enc Tryd.prog Tryd.f8 false true false false) := by
  obtain ⟨places, hx⟩ := reads os enc
  refine returnsInHanded_of_row (C := Tryd.checked) (s := OpenSpec.ofChange Rows.journalReadsSpec) own started (by kernel_rfl) Tryd.func8
    (witness_row_at (enc := enc) (C := Tryd.checked) false (laidWorld os) #[.agg #[.slice none 0 0, .slice none 0 0, .int .i64 0, .bool false], .slice none 0 0] rfl (by kernel_rfl) (by kernel_rfl) (by kernel_rfl)
      (OpenSpec.preRow_of_cond 8 hx (by kernel_rfl) (fun k hk => by cases hk) (by kernel_rfl) (laid_met os))) ?_
  intro W base args ds gs before hval hW _ _ hsz hL _ _
  exact contract H enc W base args ds gs before hval hW hsz hL

theorem said : Rows.JournalReadsSaid :=
  OpenClaim.holds_of_cond 8 Tryd.f8 rfl rfl rfl rfl rfl rfl rfl ⟨rfl, rfl, rfl, rfl, rfl⟩ rfl rfl rfl rfl rfl (by kernel_rfl) Tryd.func8 (by kernel_rfl)
    (of_decide_eq_true (by kernel_rfl)) (by unfold Func.isWrapper; first | (rw [if_pos (by decide +kernel)]; kernel_rfl) | (rw [if_neg (by decide +kernel)]; exact ⟨rfl, rfl⟩))
    (fun os started H enc _ F => by rw [OpenClaim.pre_eq_preRow]; exact lifted os started H enc F)
theorem plain (f : FuncId) (fn : Func) (hf : Tryd.pinned.checked.prog.funcNamed "mapsheets/mapsheetslaw25.JournalReads" = some f) (hfn : Tryd.pinned.checked.prog.funcs[f]? = some fn) :
    false = Tryd.pinned.checked.prog.looks [] ∧ ∀ (j : Nat) t, fn.params[j]? = some t → Tryd.pinned.checked.prog.wantsStandIn t = false := by
  obtain rfl : f = 8 := Option.some.inj ((show Tryd.prog.funcNamed "mapsheets/mapsheetslaw25.JournalReads" = some 8 by kernel_rfl).symm.trans hf) |>.symm
  obtain rfl : fn = Tryd.f8 := (Option.some.inj (Tryd.func8.symm.trans hfn)).symm
  refine ⟨by kernel_rfl, fun j t ht => ?_⟩
  rw [Tryd.params8] at ht
  have hm := Array.mem_of_getElem? ht
  simp only [List.mem_toArray, List.mem_cons, List.not_mem_nil, or_false] at hm
  rcases hm with rfl | rfl
  · exact (show Tryd.prog.wantsStandIn 25 = false by kernel_rfl)
  · exact (show Tryd.prog.wantsStandIn 26 = false by kernel_rfl)
end Go.Proofs.YtjficpdfofmcnaaDoor.journalReadsDone
namespace Go.Proofs.YtjficpdfofmcnaaDoor
/-- THE STATEMENT -/
theorem journalReads_proved : Rows.JournalReadsCardSaid :=
  Claim7.holds_tied_plain_at .later [] _ _ _ _ journalReadsDone.said (fun _ h => by cases h) (by kernel_rfl) (fun _ h => by cases h) journalReads_row_tie rfl ⟨rfl, rfl⟩ (by kernel_rfl) rfl journalReadsDone.plain (by kernel_rfl)
#print axioms journalReads_proved
end Go.Proofs.YtjficpdfofmcnaaDoor
