/- JournalFormats: for every input the law returns true, and each argument reads afterwards as it read before. Conditions: the package variable digest.steps starts as the text lays it (tied by the card). -/
import Derived.Test.YtjficpdfofmcnaaDoorBed12
import Derived.Test.YtjficpdfofmcnaaDoorBed3
import Derived.Test.YtjficpdfofmcnaaDoorBed8
import Derived.Deep.DeepHandedRow
/- JournalFormats. -/
namespace Go.Proofs.YtjficpdfofmcnaaDoor
open Go.RowKit Go.Joins

set_option maxHeartbeats 8000000 in
set_option maxRecDepth 100000 in
theorem law_formats (d : Dk) (w : World) (h : d.Ok w) (ht : Tab w) (hLo : -9223372036854775808 ≤ d.left) (hHi : d.left ≤ 9223372036854775807) :
    Calls Tryd.prog 6 #[.agg #[.slice d.a d.n d.c, .slice d.pa d.pn d.pc, .int .i64 d.left, .bool d.down]] w fun e w' => e = .returned (.bool true) ∧ Below w.heap.size w w' := by
  have HBX : Keep (BxK (w.alloc (.cells #[.slice d.a d.n d.c, .slice d.pa d.pn d.pc, .int .i64 d.left, .bool d.down] 25)) w.heap.size d) := ⟨BxK.new h⟩
  have HX0 : Hid (Below w.heap.size w (w.alloc (.cells #[.slice d.a d.n d.c, .slice d.pa d.pn d.pc, .int .i64 d.left, .bool d.down] 25))) := below_alloc1 _ _
  have HT : Keep (Tab (w.alloc (.cells #[.slice d.a d.n d.c, .slice d.pa d.pn d.pc, .int .i64 d.left, .bool d.down] 25))) := ⟨ht.below (below_alloc1 _ _)⟩
  have HWS : Keep (Dv.few d.m 40 = true → WS 40 (d.m, 0)) := ⟨few_ws hLo hHi⟩
  clear h ht hLo hHi
  cases hf : Dv.few d.m 40
  · have HF := Keep.mk hf
    clear hf
    go_enter Tryd.func6, Tryd.ntmps6
    go_upto_region 1 with (fail)
    generalize e0 : w.alloc (.cells #[.slice d.a d.n d.c, .slice d.pa d.pn d.pc, .int .i64 d.left, .bool d.down] 25) = w1 at *
    clear e0
    obtain ⟨b0, hb0⟩ : ∃ b, b = w.heap.size := ⟨_, rfl⟩
    rw [← hb0] at HBX ⊢
    clear hb0
    obtain ⟨c2, c3, c4, c5⟩ := HBX.out.cs
    go_wp2_with fail
    refine (small_any d _ HBX.out.ok).mono ?_
    rw [HF.out]
    rintro e w6 ⟨rfl, hb⟩
    have H7 := Keep.mk (HBX.out.below hb)
    have H8 := Keep.mk (HT.out.below hb)
    have B9 := Lib.hid (below_next HX0.out hb (Nat.le_refl _))
    clear c2 c3 c4 c5
    clear HBX HT HX0
    clear hb
    go_wp2_with fail
    refine (awake_any _ H8.out).mono ?_
    rintro e w10 ⟨rfl, hb⟩
    have H11 := Keep.mk (H7.out.below hb)
    have H12 := Keep.mk (H8.out.below hb)
    have B13 := Lib.hid (below_next B9.out hb (Nat.le_refl _))
    clear H7 H8 B9
    clear hb
    go_wp2
    go_ret
    exact ⟨rfl, B13.out⟩
  · have HF := Keep.mk hf
    have HW := Keep.mk (HWS.out hf)
    clear hf HWS
    obtain ⟨r, q, hr⟩ : ∃ r q, Jn.fmt d.m = (r, q) := ⟨_, _, rfl⟩
    have HR := Keep.mk hr
    clear hr
    by_cases hq : q = 0
    rotate_left
    · have hq1 : (q != 0) = true := by simpa using hq
      have hq2 : (q == 0) = false := by simpa using hq
      clear hq
      go_enter Tryd.func6, Tryd.ntmps6
      go_upto_region 1 with (fail)
      generalize e0 : w.alloc (.cells #[.slice d.a d.n d.c, .slice d.pa d.pn d.pc, .int .i64 d.left, .bool d.down] 25) = w1 at *
      clear e0
      obtain ⟨b0, hb0⟩ : ∃ b, b = w.heap.size := ⟨_, rfl⟩
      rw [← hb0] at HBX ⊢
      clear hb0
      obtain ⟨c2, c3, c4, c5⟩ := HBX.out.cs
      go_wp2_with fail
      refine (small_any d _ HBX.out.ok).mono ?_
      rw [HF.out]
      rintro e w6 ⟨rfl, hb⟩
      have H7 := Keep.mk (HBX.out.below hb)
      have H8 := Keep.mk (HT.out.below hb)
      have B9 := Lib.hid (below_next HX0.out hb (Nat.le_refl _))
      clear c2 c3 c4 c5
      clear HBX HT HX0
      clear hb
      obtain ⟨c10, c11, c12, c13⟩ := H7.out.cs
      go_wp2_with fail
      refine (format_s H7.out.ok rfl HW.out (by decide) H8.out HR.out).mono ?_
      rintro e w14 ⟨J, rfl, hok, hm, hb, hav⟩
      have hal := below_alloc1 w14 (.cells #[.slice J.d.a J.d.n J.d.c, .slice J.d.pa J.d.pn J.d.pc, .int .i64 J.d.left, .bool J.d.down, .int .i64 J.e, .int .i64 J.h, .int .i64 J.c] 32)
      have N15 : Keep (BJ (w14.alloc (.cells #[.slice J.d.a J.d.n J.d.c, .slice J.d.pa J.d.pn J.d.pc, .int .i64 J.d.left, .bool J.d.down, .int .i64 J.e, .int .i64 J.h, .int .i64 J.c] 32)) w14.heap.size J r) := ⟨BJ.new hok hm⟩
      have H17 := Keep.mk ((H7.out.below hb).below hal)
      have H18 := Keep.mk ((H8.out.below hb).below hal)
      have B19 := Lib.hid (below_next (below_next B9.out hb (Nat.le_refl _)) hal (Nat.le_refl _))
      clear c10 c11 c12 c13
      clear H7 H8 B9
      clear hb hal hok hav
      try clear hm
      go_upto_region 4 with (fail)
      generalize e21 : w14.alloc (.cells #[.slice J.d.a J.d.n J.d.c, .slice J.d.pa J.d.pn J.d.pc, .int .i64 J.d.left, .bool J.d.down, .int .i64 J.e, .int .i64 J.h, .int .i64 J.c] 32) = w20 at *
      clear e21
      obtain ⟨b16, hbk⟩ : ∃ b, b = w14.heap.size := ⟨_, rfl⟩
      rw [← hbk] at N15 ⊢
      clear hbk
      obtain ⟨c22, c23, c24, c25⟩ := H17.out.cs
      go_wp2_with fail
      refine (rformat_s H17.out.ok rfl HW.out (by decide) HR.out).mono ?_
      rintro e w26 ⟨Z, rfl, hok, hm, hb, hav⟩
      have hal := below_alloc1 w26 (.cells #[.slice Z.d.a Z.d.n Z.d.c, .slice Z.d.pa Z.d.pn Z.d.pc, .int .i64 Z.d.left, .bool Z.d.down, .int .i64 Z.e, .int .i64 Z.h, .int .i64 Z.c] 32)
      have N27 : Keep (BJ (w26.alloc (.cells #[.slice Z.d.a Z.d.n Z.d.c, .slice Z.d.pa Z.d.pn Z.d.pc, .int .i64 Z.d.left, .bool Z.d.down, .int .i64 Z.e, .int .i64 Z.h, .int .i64 Z.c] 32)) w26.heap.size Z r) := ⟨BJ.new hok hm⟩
      have H29 := Keep.mk ((H17.out.below hb).below hal)
      have H30 := Keep.mk ((H18.out.below hb).below hal)
      have H31 := Keep.mk ((N15.out.below hb).below hal)
      have B32 := Lib.hid (below_next (below_next B19.out hb (Nat.le_refl _)) hal (Nat.le_refl _))
      clear c22 c23 c24 c25
      clear H17 H18 N15 B19
      clear hb hal hok hav
      try clear hm
      go_upto_region 5 with (fail)
      generalize e34 : w26.alloc (.cells #[.slice Z.d.a Z.d.n Z.d.c, .slice Z.d.pa Z.d.pn Z.d.pc, .int .i64 Z.d.left, .bool Z.d.down, .int .i64 Z.e, .int .i64 Z.h, .int .i64 Z.c] 32) = w33 at *
      clear e34
      obtain ⟨b28, hbk⟩ : ∃ b, b = w26.heap.size := ⟨_, rfl⟩
      rw [← hbk] at N27 ⊢
      clear hbk
      obtain ⟨c35, c36, c37, c38, c39, c40, c41⟩ := H31.out.bx.cs
      obtain ⟨c42, c43, c44, c45, c46, c47, c48⟩ := N27.out.bx.cs
      go_wp2_with fail
      refine (rjsame_bj H31.out N27.out).mono ?_
      rintro e w49 ⟨rfl, hb⟩
      have H50 := Keep.mk (H29.out.below hb)
      have H51 := Keep.mk (H30.out.below hb)
      have H52 := Keep.mk (H31.out.below hb)
      have H53 := Keep.mk (N27.out.below hb)
      have B54 := Lib.hid (below_next B32.out hb (Nat.le_refl _))
      clear c35 c36 c37 c38 c39 c40 c41 c42 c43 c44 c45 c46 c47 c48
      clear H29 H30 H31 N27 B32
      clear hb
      clear H53
      go_wp2_with fail
      refine (awake_any _ H51.out).mono ?_
      rintro e w55 ⟨rfl, hb⟩
      have H56 := Keep.mk (H50.out.below hb)
      have H57 := Keep.mk (H51.out.below hb)
      have H58 := Keep.mk (H52.out.below hb)
      have B59 := Lib.hid (below_next B54.out hb (Nat.le_refl _))
      clear H50 H51 H52 B54
      clear hb
      go_wp2
      go_ret
      exact ⟨rfl, B59.out⟩
    · subst hq
      have HQ := Keep.mk (fmt_ok HR.out)
      have HWR : Keep (WS 42 (r.d, 0)) := ⟨by have := fmt_ws HW.out; rw [HR.out] at this; exact this⟩
      rcases HQ.out.2.1 with hk | hk
      · have HK := Keep.mk hk
        clear hk
        go_enter Tryd.func6, Tryd.ntmps6
        go_upto_region 1 with (fail)
        generalize e0 : w.alloc (.cells #[.slice d.a d.n d.c, .slice d.pa d.pn d.pc, .int .i64 d.left, .bool d.down] 25) = w1 at *
        clear e0
        obtain ⟨b0, hb0⟩ : ∃ b, b = w.heap.size := ⟨_, rfl⟩
        rw [← hb0] at HBX ⊢
        clear hb0
        obtain ⟨c2, c3, c4, c5⟩ := HBX.out.cs
        go_wp2_with fail
        refine (small_any d _ HBX.out.ok).mono ?_
        rw [HF.out]
        rintro e w6 ⟨rfl, hb⟩
        have H7 := Keep.mk (HBX.out.below hb)
        have H8 := Keep.mk (HT.out.below hb)
        have B9 := Lib.hid (below_next HX0.out hb (Nat.le_refl _))
        clear c2 c3 c4 c5
        clear HBX HT HX0
        clear hb
        obtain ⟨c10, c11, c12, c13⟩ := H7.out.cs
        go_wp2_with fail
        refine (format_s H7.out.ok rfl HW.out (by decide) H8.out HR.out).mono ?_
        rintro e w14 ⟨J, rfl, hok, hm, hb, hav⟩
        have hal := below_alloc1 w14 (.cells #[.slice J.d.a J.d.n J.d.c, .slice J.d.pa J.d.pn J.d.pc, .int .i64 J.d.left, .bool J.d.down, .int .i64 J.e, .int .i64 J.h, .int .i64 J.c] 32)
        have N15 : Keep (BJ (w14.alloc (.cells #[.slice J.d.a J.d.n J.d.c, .slice J.d.pa J.d.pn J.d.pc, .int .i64 J.d.left, .bool J.d.down, .int .i64 J.e, .int .i64 J.h, .int .i64 J.c] 32)) w14.heap.size J r) := ⟨BJ.new hok hm⟩
        have H17 := Keep.mk ((H7.out.below hb).below hal)
        have H18 := Keep.mk ((H8.out.below hb).below hal)
        have B19 := Lib.hid (below_next (below_next B9.out hb (Nat.le_refl _)) hal (Nat.le_refl _))
        clear c10 c11 c12 c13
        clear H7 H8 B9
        clear hb hal hok hav
        try clear hm
        go_upto_region 4 with (fail)
        generalize e21 : w14.alloc (.cells #[.slice J.d.a J.d.n J.d.c, .slice J.d.pa J.d.pn J.d.pc, .int .i64 J.d.left, .bool J.d.down, .int .i64 J.e, .int .i64 J.h, .int .i64 J.c] 32) = w20 at *
        clear e21
        obtain ⟨b16, hbk⟩ : ∃ b, b = w14.heap.size := ⟨_, rfl⟩
        rw [← hbk] at N15 ⊢
        clear hbk
        obtain ⟨c22, c23, c24, c25⟩ := H17.out.cs
        go_wp2_with fail
        refine (rformat_s H17.out.ok rfl HW.out (by decide) HR.out).mono ?_
        rintro e w26 ⟨Z, rfl, hok, hm, hb, hav⟩
        have hal := below_alloc1 w26 (.cells #[.slice Z.d.a Z.d.n Z.d.c, .slice Z.d.pa Z.d.pn Z.d.pc, .int .i64 Z.d.left, .bool Z.d.down, .int .i64 Z.e, .int .i64 Z.h, .int .i64 Z.c] 32)
        have N27 : Keep (BJ (w26.alloc (.cells #[.slice Z.d.a Z.d.n Z.d.c, .slice Z.d.pa Z.d.pn Z.d.pc, .int .i64 Z.d.left, .bool Z.d.down, .int .i64 Z.e, .int .i64 Z.h, .int .i64 Z.c] 32)) w26.heap.size Z r) := ⟨BJ.new hok hm⟩
        have H29 := Keep.mk ((H17.out.below hb).below hal)
        have H30 := Keep.mk ((H18.out.below hb).below hal)
        have H31 := Keep.mk ((N15.out.below hb).below hal)
        have B32 := Lib.hid (below_next (below_next B19.out hb (Nat.le_refl _)) hal (Nat.le_refl _))
        clear c22 c23 c24 c25
        clear H17 H18 N15 B19
        clear hb hal hok hav
        try clear hm
        go_upto_region 5 with (fail)
        generalize e34 : w26.alloc (.cells #[.slice Z.d.a Z.d.n Z.d.c, .slice Z.d.pa Z.d.pn Z.d.pc, .int .i64 Z.d.left, .bool Z.d.down, .int .i64 Z.e, .int .i64 Z.h, .int .i64 Z.c] 32) = w33 at *
        clear e34
        obtain ⟨b28, hbk⟩ : ∃ b, b = w26.heap.size := ⟨_, rfl⟩
        rw [← hbk] at N27 ⊢
        clear hbk
        obtain ⟨c35, c36, c37, c38, c39, c40, c41⟩ := H31.out.bx.cs
        obtain ⟨c42, c43, c44, c45, c46, c47, c48⟩ := N27.out.bx.cs
        go_wp2_with fail
        refine (rjsame_bj H31.out N27.out).mono ?_
        rintro e w49 ⟨rfl, hb⟩
        have H50 := Keep.mk (H29.out.below hb)
        have H51 := Keep.mk (H30.out.below hb)
        have H52 := Keep.mk (H31.out.below hb)
        have H53 := Keep.mk (N27.out.below hb)
        have B54 := Lib.hid (below_next B32.out hb (Nat.le_refl _))
        clear c35 c36 c37 c38 c39 c40 c41 c42 c43 c44 c45 c46 c47 c48
        clear H29 H30 H31 N27 B32
        clear hb
        clear H53
        obtain ⟨c55, c56, c57, c58, c59, c60, c61⟩ := H52.out.bx.cs
        go_wp2_with fail
        refine (records_s H52.out.bx.ok H52.out.dm HWR.out.fit (by decide) H51.out HQ.out.1).mono ?_
        rintro e w62 ⟨A1, n1, c1, S1, rfl, hrs, hb, hS⟩
        obtain rfl : S1 = [] := by simpa using hS
        obtain rfl : n1 = 0 := by simpa using hrs.len.symm
        clear hS
        have N63 := Keep.mk ((hrs))
        have H64 := Keep.mk (H50.out.below hb)
        have H65 := Keep.mk (H51.out.below hb)
        have H66 := Keep.mk (H52.out.below hb)
        have B67 := Lib.hid (below_next B54.out hb (Nat.le_refl _))
        clear c55 c56 c57 c58 c59 c60 c61
        clear H50 H51 H52 B54
        clear hb
        clear hrs
        obtain ⟨c68, c69, c70, c71, c72, c73, c74⟩ := H66.out.bx.cs
        go_wp2_with fail
        refine (open_s H66.out.bx.ok H66.out.dm HWR.out.fit (by decide) H65.out HQ.out.1).mono ?_
        rintro e w75 ⟨M, rfl, hok, hm, hb, hav⟩
        have hal := below_alloc1 w75 (.cells #[.slice M.d.a M.d.n M.d.c, .slice M.d.pa M.d.pn M.d.pc, .int .i64 M.d.left, .bool M.d.down, .int .i64 M.e, .int .i64 M.h, .int .i64 M.c] 32)
        have N76 : Keep (BJ (w75.alloc (.cells #[.slice M.d.a M.d.n M.d.c, .slice M.d.pa M.d.pn M.d.pc, .int .i64 M.d.left, .bool M.d.down, .int .i64 M.e, .int .i64 M.h, .int .i64 M.c] 32)) w75.heap.size M r) := ⟨BJ.new hok hm⟩
        have H78 := Keep.mk ((H64.out.below hb).below hal)
        have H79 := Keep.mk ((H65.out.below hb).below hal)
        have H80 := Keep.mk ((H66.out.below hb).below hal)
        have H81 := Keep.mk ((N63.out.below hb).below hal)
        have B82 := Lib.hid (below_next (below_next B67.out hb (Nat.le_refl _)) hal (Nat.le_refl _))
        clear c68 c69 c70 c71 c72 c73 c74
        clear H64 H65 H66 N63 B67
        clear hb hal hok hav
        try clear hm
        go_upto_region 11 with (fail)
        generalize e84 : w75.alloc (.cells #[.slice M.d.a M.d.n M.d.c, .slice M.d.pa M.d.pn M.d.pc, .int .i64 M.d.left, .bool M.d.down, .int .i64 M.e, .int .i64 M.h, .int .i64 M.c] 32) = w83 at *
        clear e84
        obtain ⟨b77, hbk⟩ : ∃ b, b = w75.heap.size := ⟨_, rfl⟩
        rw [← hbk] at N76 ⊢
        clear hbk
        obtain ⟨c85, c86, c87, c88⟩ := H78.out.cs
        go_wp2_with fail
        refine (open_any d 40 _ H78.out.ok HW.out.fit (by decide) H79.out).mono ?_
        rintro e w89 ⟨O, k, L, rfl, hok, hb, hsc, hav⟩
        obtain rfl : k = 0 := hsc.1.trans HK.out
        have hoe := HQ.out.2.2 _ _ hsc
        have HOE : Keep (r.e = O.e + 1) := ⟨hoe.1⟩
        have ho0 : 0 ≤ O.e := hoe.2.1
        have ho1 : O.e ≤ 1073741824 := hoe.2.2
        clear hoe hsc
        have hal := below_alloc1 w89 (.cells #[.slice O.d.a O.d.n O.d.c, .slice O.d.pa O.d.pn O.d.pc, .int .i64 O.d.left, .bool O.d.down, .int .i64 O.e, .int .i64 O.h, .int .i64 O.c] 32)
        have N90 : Keep (BJ (w89.alloc (.cells #[.slice O.d.a O.d.n O.d.c, .slice O.d.pa O.d.pn O.d.pc, .int .i64 O.d.left, .bool O.d.down, .int .i64 O.e, .int .i64 O.h, .int .i64 O.c] 32)) w89.heap.size O O.m) := ⟨BJ.new hok rfl⟩
        have H92 := Keep.mk ((H78.out.below hb).below hal)
        have H93 := Keep.mk ((H79.out.below hb).below hal)
        have H94 := Keep.mk ((H80.out.below hb).below hal)
        have H95 := Keep.mk ((H81.out.below hb).below hal)
        have H96 := Keep.mk ((N76.out.below hb).below hal)
        have B97 := Lib.hid (below_next (below_next B82.out hb (Nat.le_refl _)) hal (Nat.le_refl _))
        clear c85 c86 c87 c88
        clear H78 H79 H80 H81 N76 B82
        clear hb hal hok hav
        go_upto_region 12 with (fail)
        generalize e99 : w89.alloc (.cells #[.slice O.d.a O.d.n O.d.c, .slice O.d.pa O.d.pn O.d.pc, .int .i64 O.d.left, .bool O.d.down, .int .i64 O.e, .int .i64 O.h, .int .i64 O.c] 32) = w98 at *
        clear e99
        obtain ⟨b91, hbk⟩ : ∃ b, b = w89.heap.size := ⟨_, rfl⟩
        rw [← hbk] at N90 ⊢
        clear hbk
        have HJE : (J.e == O.e + 1) = true := by rw [H94.out.ee, HOE.out]; simp
        obtain ⟨c100, c101, c102, c103, c104, c105, c106⟩ := H96.out.bx.cs
        obtain ⟨c107, c108, c109, c110, c111, c112, c113⟩ := H94.out.bx.cs
        obtain ⟨c114, c115, c116, c117, c118, c119, c120⟩ := N90.out.bx.cs
        go_wp2_with fail
        refine (rjsame_bj H96.out H94.out).mono ?_
        rintro e w121 ⟨rfl, hb⟩
        have H122 := Keep.mk (H92.out.below hb)
        have H123 := Keep.mk (H93.out.below hb)
        have H124 := Keep.mk (H94.out.below hb)
        have H125 := Keep.mk (H95.out.below hb)
        have H126 := Keep.mk (H96.out.below hb)
        have H127 := Keep.mk (N90.out.below hb)
        have B128 := Lib.hid (below_next B97.out hb (Nat.le_refl _))
        clear c100 c101 c102 c103 c104 c105 c106 c107 c108 c109 c110 c111 c112 c113 c114 c115 c116 c117 c118 c119 c120
        clear H92 H93 H94 H95 H96 N90 B97
        clear hb
        obtain ⟨c129, c130, c131, c132, c133, c134, c135⟩ := H124.out.bx.cs
        obtain ⟨c136, c137, c138, c139, c140, c141, c142⟩ := H127.out.bx.cs
        go_wp2_with fail
        refine (awake_any _ H123.out).mono ?_
        rintro e w143 ⟨rfl, hb⟩
        have H144 := Keep.mk (H122.out.below hb)
        have H145 := Keep.mk (H123.out.below hb)
        have H146 := Keep.mk (H124.out.below hb)
        have H147 := Keep.mk (H125.out.below hb)
        have H148 := Keep.mk (H126.out.below hb)
        have H149 := Keep.mk (H127.out.below hb)
        have B150 := Lib.hid (below_next B128.out hb (Nat.le_refl _))
        clear c129 c130 c131 c132 c133 c134 c135 c136 c137 c138 c139 c140 c141 c142
        clear H122 H123 H124 H125 H126 H127 B128
        clear hb
        go_wp2
        go_ret
        exact ⟨rfl, B150.out⟩
      · have HK := Keep.mk hk
        clear hk
        go_enter Tryd.func6, Tryd.ntmps6
        go_upto_region 1 with (fail)
        generalize e0 : w.alloc (.cells #[.slice d.a d.n d.c, .slice d.pa d.pn d.pc, .int .i64 d.left, .bool d.down] 25) = w1 at *
        clear e0
        obtain ⟨b0, hb0⟩ : ∃ b, b = w.heap.size := ⟨_, rfl⟩
        rw [← hb0] at HBX ⊢
        clear hb0
        obtain ⟨c2, c3, c4, c5⟩ := HBX.out.cs
        go_wp2_with fail
        refine (small_any d _ HBX.out.ok).mono ?_
        rw [HF.out]
        rintro e w6 ⟨rfl, hb⟩
        have H7 := Keep.mk (HBX.out.below hb)
        have H8 := Keep.mk (HT.out.below hb)
        have B9 := Lib.hid (below_next HX0.out hb (Nat.le_refl _))
        clear c2 c3 c4 c5
        clear HBX HT HX0
        clear hb
        obtain ⟨c10, c11, c12, c13⟩ := H7.out.cs
        go_wp2_with fail
        refine (format_s H7.out.ok rfl HW.out (by decide) H8.out HR.out).mono ?_
        rintro e w14 ⟨J, rfl, hok, hm, hb, hav⟩
        have hal := below_alloc1 w14 (.cells #[.slice J.d.a J.d.n J.d.c, .slice J.d.pa J.d.pn J.d.pc, .int .i64 J.d.left, .bool J.d.down, .int .i64 J.e, .int .i64 J.h, .int .i64 J.c] 32)
        have N15 : Keep (BJ (w14.alloc (.cells #[.slice J.d.a J.d.n J.d.c, .slice J.d.pa J.d.pn J.d.pc, .int .i64 J.d.left, .bool J.d.down, .int .i64 J.e, .int .i64 J.h, .int .i64 J.c] 32)) w14.heap.size J r) := ⟨BJ.new hok hm⟩
        have H17 := Keep.mk ((H7.out.below hb).below hal)
        have H18 := Keep.mk ((H8.out.below hb).below hal)
        have B19 := Lib.hid (below_next (below_next B9.out hb (Nat.le_refl _)) hal (Nat.le_refl _))
        clear c10 c11 c12 c13
        clear H7 H8 B9
        clear hb hal hok hav
        try clear hm
        go_upto_region 4 with (fail)
        generalize e21 : w14.alloc (.cells #[.slice J.d.a J.d.n J.d.c, .slice J.d.pa J.d.pn J.d.pc, .int .i64 J.d.left, .bool J.d.down, .int .i64 J.e, .int .i64 J.h, .int .i64 J.c] 32) = w20 at *
        clear e21
        obtain ⟨b16, hbk⟩ : ∃ b, b = w14.heap.size := ⟨_, rfl⟩
        rw [← hbk] at N15 ⊢
        clear hbk
        obtain ⟨c22, c23, c24, c25⟩ := H17.out.cs
        go_wp2_with fail
        refine (rformat_s H17.out.ok rfl HW.out (by decide) HR.out).mono ?_
        rintro e w26 ⟨Z, rfl, hok, hm, hb, hav⟩
        have hal := below_alloc1 w26 (.cells #[.slice Z.d.a Z.d.n Z.d.c, .slice Z.d.pa Z.d.pn Z.d.pc, .int .i64 Z.d.left, .bool Z.d.down, .int .i64 Z.e, .int .i64 Z.h, .int .i64 Z.c] 32)
        have N27 : Keep (BJ (w26.alloc (.cells #[.slice Z.d.a Z.d.n Z.d.c, .slice Z.d.pa Z.d.pn Z.d.pc, .int .i64 Z.d.left, .bool Z.d.down, .int .i64 Z.e, .int .i64 Z.h, .int .i64 Z.c] 32)) w26.heap.size Z r) := ⟨BJ.new hok hm⟩
        have H29 := Keep.mk ((H17.out.below hb).below hal)
        have H30 := Keep.mk ((H18.out.below hb).below hal)
        have H31 := Keep.mk ((N15.out.below hb).below hal)
        have B32 := Lib.hid (below_next (below_next B19.out hb (Nat.le_refl _)) hal (Nat.le_refl _))
        clear c22 c23 c24 c25
        clear H17 H18 N15 B19
        clear hb hal hok hav
        try clear hm
        go_upto_region 5 with (fail)
        generalize e34 : w26.alloc (.cells #[.slice Z.d.a Z.d.n Z.d.c, .slice Z.d.pa Z.d.pn Z.d.pc, .int .i64 Z.d.left, .bool Z.d.down, .int .i64 Z.e, .int .i64 Z.h, .int .i64 Z.c] 32) = w33 at *
        clear e34
        obtain ⟨b28, hbk⟩ : ∃ b, b = w26.heap.size := ⟨_, rfl⟩
        rw [← hbk] at N27 ⊢
        clear hbk
        obtain ⟨c35, c36, c37, c38, c39, c40, c41⟩ := H31.out.bx.cs
        obtain ⟨c42, c43, c44, c45, c46, c47, c48⟩ := N27.out.bx.cs
        go_wp2_with fail
        refine (rjsame_bj H31.out N27.out).mono ?_
        rintro e w49 ⟨rfl, hb⟩
        have H50 := Keep.mk (H29.out.below hb)
        have H51 := Keep.mk (H30.out.below hb)
        have H52 := Keep.mk (H31.out.below hb)
        have H53 := Keep.mk (N27.out.below hb)
        have B54 := Lib.hid (below_next B32.out hb (Nat.le_refl _))
        clear c35 c36 c37 c38 c39 c40 c41 c42 c43 c44 c45 c46 c47 c48
        clear H29 H30 H31 N27 B32
        clear hb
        clear H53
        obtain ⟨c55, c56, c57, c58, c59, c60, c61⟩ := H52.out.bx.cs
        go_wp2_with fail
        refine (records_s H52.out.bx.ok H52.out.dm HWR.out.fit (by decide) H51.out HQ.out.1).mono ?_
        rintro e w62 ⟨A1, n1, c1, S1, rfl, hrs, hb, hS⟩
        obtain rfl : S1 = [] := by simpa using hS
        obtain rfl : n1 = 0 := by simpa using hrs.len.symm
        clear hS
        have N63 := Keep.mk ((hrs))
        have H64 := Keep.mk (H50.out.below hb)
        have H65 := Keep.mk (H51.out.below hb)
        have H66 := Keep.mk (H52.out.below hb)
        have B67 := Lib.hid (below_next B54.out hb (Nat.le_refl _))
        clear c55 c56 c57 c58 c59 c60 c61
        clear H50 H51 H52 B54
        clear hb
        clear hrs
        obtain ⟨c68, c69, c70, c71, c72, c73, c74⟩ := H66.out.bx.cs
        go_wp2_with fail
        refine (open_s H66.out.bx.ok H66.out.dm HWR.out.fit (by decide) H65.out HQ.out.1).mono ?_
        rintro e w75 ⟨M, rfl, hok, hm, hb, hav⟩
        have hal := below_alloc1 w75 (.cells #[.slice M.d.a M.d.n M.d.c, .slice M.d.pa M.d.pn M.d.pc, .int .i64 M.d.left, .bool M.d.down, .int .i64 M.e, .int .i64 M.h, .int .i64 M.c] 32)
        have N76 : Keep (BJ (w75.alloc (.cells #[.slice M.d.a M.d.n M.d.c, .slice M.d.pa M.d.pn M.d.pc, .int .i64 M.d.left, .bool M.d.down, .int .i64 M.e, .int .i64 M.h, .int .i64 M.c] 32)) w75.heap.size M r) := ⟨BJ.new hok hm⟩
        have H78 := Keep.mk ((H64.out.below hb).below hal)
        have H79 := Keep.mk ((H65.out.below hb).below hal)
        have H80 := Keep.mk ((H66.out.below hb).below hal)
        have H81 := Keep.mk ((N63.out.below hb).below hal)
        have B82 := Lib.hid (below_next (below_next B67.out hb (Nat.le_refl _)) hal (Nat.le_refl _))
        clear c68 c69 c70 c71 c72 c73 c74
        clear H64 H65 H66 N63 B67
        clear hb hal hok hav
        try clear hm
        go_upto_region 11 with (fail)
        generalize e84 : w75.alloc (.cells #[.slice M.d.a M.d.n M.d.c, .slice M.d.pa M.d.pn M.d.pc, .int .i64 M.d.left, .bool M.d.down, .int .i64 M.e, .int .i64 M.h, .int .i64 M.c] 32) = w83 at *
        clear e84
        obtain ⟨b77, hbk⟩ : ∃ b, b = w75.heap.size := ⟨_, rfl⟩
        rw [← hbk] at N76 ⊢
        clear hbk
        obtain ⟨c85, c86, c87, c88⟩ := H78.out.cs
        go_wp2_with fail
        refine (open_any d 40 _ H78.out.ok HW.out.fit (by decide) H79.out).mono ?_
        rintro e w89 ⟨O, k, L, rfl, hok, hb, hsc, hav⟩
        obtain rfl : k = 4 := hsc.1.trans HK.out
        clear hsc
        have hal := below_alloc1 w89 (.cells #[.slice O.d.a O.d.n O.d.c, .slice O.d.pa O.d.pn O.d.pc, .int .i64 O.d.left, .bool O.d.down, .int .i64 O.e, .int .i64 O.h, .int .i64 O.c] 32)
        have N90 : Keep (BJ (w89.alloc (.cells #[.slice O.d.a O.d.n O.d.c, .slice O.d.pa O.d.pn O.d.pc, .int .i64 O.d.left, .bool O.d.down, .int .i64 O.e, .int .i64 O.h, .int .i64 O.c] 32)) w89.heap.size O O.m) := ⟨BJ.new hok rfl⟩
        have H92 := Keep.mk ((H78.out.below hb).below hal)
        have H93 := Keep.mk ((H79.out.below hb).below hal)
        have H94 := Keep.mk ((H80.out.below hb).below hal)
        have H95 := Keep.mk ((H81.out.below hb).below hal)
        have H96 := Keep.mk ((N76.out.below hb).below hal)
        have B97 := Lib.hid (below_next (below_next B82.out hb (Nat.le_refl _)) hal (Nat.le_refl _))
        clear c85 c86 c87 c88
        clear H78 H79 H80 H81 N76 B82
        clear hb hal hok hav
        go_upto_region 12 with (fail)
        generalize e99 : w89.alloc (.cells #[.slice O.d.a O.d.n O.d.c, .slice O.d.pa O.d.pn O.d.pc, .int .i64 O.d.left, .bool O.d.down, .int .i64 O.e, .int .i64 O.h, .int .i64 O.c] 32) = w98 at *
        clear e99
        obtain ⟨b91, hbk⟩ : ∃ b, b = w89.heap.size := ⟨_, rfl⟩
        rw [← hbk] at N90 ⊢
        clear hbk
        obtain ⟨c100, c101, c102, c103, c104, c105, c106⟩ := H96.out.bx.cs
        obtain ⟨c107, c108, c109, c110, c111, c112, c113⟩ := H94.out.bx.cs
        go_wp2_with fail
        refine (rjsame_bj H96.out H94.out).mono ?_
        rintro e w114 ⟨rfl, hb⟩
        have H115 := Keep.mk (H92.out.below hb)
        have H116 := Keep.mk (H93.out.below hb)
        have H117 := Keep.mk (H94.out.below hb)
        have H118 := Keep.mk (H95.out.below hb)
        have H119 := Keep.mk (H96.out.below hb)
        have H120 := Keep.mk (N90.out.below hb)
        have B121 := Lib.hid (below_next B97.out hb (Nat.le_refl _))
        clear c100 c101 c102 c103 c104 c105 c106 c107 c108 c109 c110 c111 c112 c113
        clear H92 H93 H94 H95 H96 N90 B97
        clear hb
        obtain ⟨c122, c123, c124, c125, c126, c127, c128⟩ := H117.out.bx.cs
        obtain ⟨c129, c130, c131, c132, c133, c134, c135⟩ := H120.out.bx.cs
        go_wp2_with fail
        refine (awake_any _ H116.out).mono ?_
        rintro e w136 ⟨rfl, hb⟩
        have H137 := Keep.mk (H115.out.below hb)
        have H138 := Keep.mk (H116.out.below hb)
        have H139 := Keep.mk (H117.out.below hb)
        have H140 := Keep.mk (H118.out.below hb)
        have H141 := Keep.mk (H119.out.below hb)
        have H142 := Keep.mk (H120.out.below hb)
        have B143 := Lib.hid (below_next B121.out hb (Nat.le_refl _))
        clear c122 c123 c124 c125 c126 c127 c128 c129 c130 c131 c132 c133 c134 c135
        clear H115 H116 H117 H118 H119 H120 B121
        clear hb
        go_wp2
        go_ret
        exact ⟨rfl, B143.out⟩
end Go.Proofs.YtjficpdfofmcnaaDoor

/- JournalFormats: for every input the law returns true, and each argument reads afterwards as it read before. Conditions: the package variable digest.steps starts as the text lays it (tied by the card). -/
namespace Go.Proofs.YtjficpdfofmcnaaDoor.journalFormatsDone
open Go.ChangeShapes Go.WideShapes Go.ChangeAt Go.RowKit Go.Joins
open Go.ChangeMaps (open_string shut_string)
set_option linter.unusedVariables false

set_option maxRecDepth 100000 in
theorem contract (H : Type) (enc : TypeId × Value → H) (W : World) (base : Nat) (args : Array Value) (ds gs : List (DataW H)) (before : List MemPlace)
    (hval : ∀ (j : Nat) t v, Tryd.f6.params[j]? = some t → args[j]? = some v → Value.okWide Tryd.prog W .any base t v)
    (hW : DataW.Whole enc Tryd.prog Tryd.f6.params.toList Rows.journalFormatsSpec.vars false W args.toList ds gs before)
    (hsz0 : (DataW.weightsEach Tryd.prog (Tryd.f6.params.toList ++ (OpenSpec.ofChange Rows.journalFormatsSpec).bare.plain.varTypes Tryd.prog) (ds ++ gs)).all (· ≤ reachBytes) = true) (hL : laidMetH Tryd.prog Rows.journalFormatsRow.laid W) :
    Calls Tryd.prog 6 args W fun e W' => ∃ v, e = .returned v ∧ Rows.journalFormatsSpec.post enc Tryd.prog Tryd.f6 false true false false W args v W' := by
  have hT := tab_of hL
  have hsz : (DataW.weightsEach Tryd.prog (Tryd.f6.params.toList ++ []) (ds ++ gs)).all (· ≤ reachBytes) = true := hsz0
  have hW' := hW
  obtain ⟨p, q, hA0, hV, rfl, hfz, hnd⟩ := hW
  have hA : DataW.TrodAll enc Tryd.prog W 0 (fun _ => true) true Tryd.f6.params.toList args.toList ds p := hA0
  rw [Tryd.params6] at hA hval hsz
  obtain ⟨v0, vs0, d0, ds0, p0, q0, hargs, rfl, rfl, h0, t0⟩ := trodAll_cons hA
  obtain ⟨rfl, rfl, rfl⟩ := trodAll_nil t0
  obtain rfl : args = #[v0] := by cases args; simp_all
  obtain ⟨rfl, rfl⟩ := trodVars_none hV
  have k0 := h0
  have lt0 : ∀ x ∈ p0, x.block < W.heap.size := by obtain ⟨m, hm⟩ := k0; exact DataW.trod_lt m _ _ _ hm
  obtain ⟨o0, rfl, r0, f0⟩ := open_disk (hval 0 25 v0 rfl rfl) h0
  have s0 := bounds_i64 f0
  clear hA0 hsz0
  refine (law_formats o0 W r0 hT s0.1 s0.2).mono fun e W' ⟨he, bel⟩ => ?_
  subst he
  exact ⟨_, rfl, _, _, _, [], _, [], hW', trodAll_mk1 (shut_bool Tryd.underlying4 _), (trodAll_cons_mk (Below.trod laidOut (by kernel_rfl) (of_decide_eq_true (by kernel_rfl)) k0 bel lt0) (trodAll_mk0)), rfl, bel.frame _, fun h => by cases h⟩

theorem laid_met (os : Os) : laidMet Tryd.prog Rows.journalFormatsRow.laid ((laidWorld os).forCall (fun _ _ => 0) ⟨#[], #[.agg #[.slice none 0 0, .slice none 0 0, .int .i64 0, .bool false]], []⟩).memory :=
  laidMet_of_run' 8 (by kernel_rfl) (by kernel_rfl)
theorem reads (os : Os) {H : Type} (enc : TypeId × Value → H) : ∃ places, DataW.whole enc Tryd.prog ((laidWorld os).forCall (fun _ _ => 0) ⟨#[], #[.agg #[.slice none 0 0, .slice none 0 0, .int .i64 0, .bool false]], []⟩).memory Tryd.f6.params.toList Rows.journalFormatsSpec.vars false (#[.agg #[.slice none 0 0, .slice none 0 0, .int .i64 0, .bool false]] : Array Value).toList 8 = some ([.agg [.nil, .nil, .lit (.int .i64 0), .lit (.bool false)]], [], places) :=
  ⟨[], by kernel_rfl⟩
set_option maxRecDepth 100000 in
theorem lifted (os : Os) (started : os.Started) (H : Type) (enc : TypeId × Value → H) (F : Stop.Interp) :
    ReturnsInHanded {} Tryd.checked os 6 .any ((OpenSpec.ofChange Rows.journalFormatsSpec).preRow enc Tryd.prog Tryd.f6 Rows.journalFormatsRow.domain false Rows.journalFormatsRow.laid) (((OpenSpec.ofChange Rows.journalFormatsSpec).at F).post enc Tryd.prog Tryd.f6 false true false false) := by
  obtain ⟨places, hx⟩ := reads os enc
  refine returnsInHanded_of_row (C := Tryd.checked) (s := OpenSpec.ofChange Rows.journalFormatsSpec) own started (by kernel_rfl) Tryd.func6
    (witness_row_at (enc := enc) (C := Tryd.checked) false (laidWorld os) #[.agg #[.slice none 0 0, .slice none 0 0, .int .i64 0, .bool false]] rfl (by kernel_rfl) (by kernel_rfl) (by kernel_rfl)
      (OpenSpec.preRow_of_cond 8 hx (by kernel_rfl) (fun k hk => by cases hk) (by kernel_rfl) (laid_met os))) ?_
  intro W base args ds gs before hval hW _ _ hsz hL _ _
  exact contract H enc W base args ds gs before hval hW hsz hL

theorem said : Rows.JournalFormatsSaid :=
  OpenClaim.holds_of_cond 6 Tryd.f6 rfl rfl rfl rfl rfl rfl rfl ⟨rfl, rfl, rfl, rfl, rfl⟩ rfl rfl rfl rfl rfl (by kernel_rfl) Tryd.func6 (by kernel_rfl)
    (of_decide_eq_true (by kernel_rfl)) (by unfold Func.isWrapper; first | (rw [if_pos (by decide +kernel)]; kernel_rfl) | (rw [if_neg (by decide +kernel)]; exact ⟨rfl, rfl⟩))
    (fun os started H enc _ F => by rw [OpenClaim.pre_eq_preRow]; exact lifted os started H enc F)
theorem plain (f : FuncId) (fn : Func) (hf : Tryd.pinned.checked.prog.funcNamed "mapsheets/mapsheetslaw25.JournalFormats" = some f) (hfn : Tryd.pinned.checked.prog.funcs[f]? = some fn) :
    false = Tryd.pinned.checked.prog.looks [] ∧ ∀ (j : Nat) t, fn.params[j]? = some t → Tryd.pinned.checked.prog.wantsStandIn t = false := by
  obtain rfl : f = 6 := Option.some.inj ((show Tryd.prog.funcNamed "mapsheets/mapsheetslaw25.JournalFormats" = some 6 by kernel_rfl).symm.trans hf) |>.symm
  obtain rfl : fn = Tryd.f6 := (Option.some.inj (Tryd.func6.symm.trans hfn)).symm
  refine ⟨by kernel_rfl, fun j t ht => ?_⟩
  rw [Tryd.params6] at ht
  have hm := Array.mem_of_getElem? ht
  simp only [List.mem_toArray, List.mem_cons, List.not_mem_nil, or_false] at hm
  rcases hm with rfl
  · exact (show Tryd.prog.wantsStandIn 25 = false by kernel_rfl)
end Go.Proofs.YtjficpdfofmcnaaDoor.journalFormatsDone
namespace Go.Proofs.YtjficpdfofmcnaaDoor
/-- THE STATEMENT -/
theorem journalFormats_proved : Rows.JournalFormatsCardSaid :=
  Claim7.holds_tied_plain_at .later [] _ _ _ _ journalFormatsDone.said (fun _ h => by cases h) (by kernel_rfl) (fun _ h => by cases h) journalFormats_row_tie rfl ⟨rfl, rfl⟩ (by kernel_rfl) rfl journalFormatsDone.plain (by kernel_rfl)
#print axioms journalFormats_proved
end Go.Proofs.YtjficpdfofmcnaaDoor
