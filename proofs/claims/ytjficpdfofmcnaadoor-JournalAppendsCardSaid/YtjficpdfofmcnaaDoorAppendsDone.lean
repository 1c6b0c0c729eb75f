/- JournalAppends: for every input the law returns true, and each argument reads afterwards as it read before. Conditions: the package variable digest.steps starts as the text lays it (tied by the card). -/
import Derived.Test.YtjficpdfofmcnaaDoorBed12
import Derived.Test.YtjficpdfofmcnaaDoorBed3
import Derived.Test.YtjficpdfofmcnaaDoorBed8
import Derived.Deep.DeepHandedRow
/- JournalAppends. -/
namespace Go.Proofs.YtjficpdfofmcnaaDoor
open Go.RowKit Go.Joins

theorem rappend_bj {X : World} {b : Nat} {J : Jk} {j r : Jl} {q : Int} {K : Nat} (h : BJ X b J j) (hw : WS K (j.d, 0)) (hK : K ≤ 900) (hH : V.In j.h) {A : Option Addr} {n c : Nat} {l : List UInt8} (hl : RB X A n c l) (hlen : l.length ≤ 3000) (hr : j.append l = (r, q)) :
    Calls Tryd.prog 25 #[.agg #[.slice J.d.a J.d.n J.d.c, .slice J.d.pa J.d.pn J.d.pc, .int .i64 J.d.left, .bool J.d.down, .int .i64 J.e, .int .i64 J.h, .int .i64 J.c], .slice A n c] X (RetJE X J.d.Av (r, q)) := by
  have := rappend_any J A n c l X h.bx.ok (by rw [h.eh]; exact hH) hl K (by rw [h.dm]; exact hw) hK hlen
  rw [h.m, hr] at this
  exact this
theorem rfree_bj {X : World} {b : Nat} {J : Jk} {j : Jl} {K : Nat} (h : BJ X b J j) (hw : WS K (j.d, 0)) (hH : V.In j.h) :
    Calls Tryd.prog 26 #[.agg #[.slice J.d.a J.d.n J.d.c, .slice J.d.pa J.d.pn J.d.pc, .int .i64 J.d.left, .bool J.d.down, .int .i64 J.e, .int .i64 J.h, .int .i64 J.c]] X fun e w' => e = .returned (.int .i64 j.free) ∧ Below X.heap.size X w' := by
  have hdl := dk_len h.bx.ok
  have := rfree_any J X h.bx.ok (by have := hw.fit.ns; rw [← h.dm] at this; simp only at this; omega) (by rw [h.eh]; exact hH)
  rw [h.m] at this
  exact this
set_option maxHeartbeats 8000000 in
set_option maxRecDepth 100000 in
theorem law_appends (j : Jk) (A : Option Addr) (n c : Nat) (l : List UInt8) (w : World) (h : j.d.Ok w) (hl : RB w A n c l) (ht : Tab w) (hH : V.In j.h) (hLo : -9223372036854775808 ≤ j.d.left) (hHi : j.d.left ≤ 9223372036854775807) :
    Calls Tryd.prog 7 #[.agg #[.slice j.d.a j.d.n j.d.c, .slice j.d.pa j.d.pn j.d.pc, .int .i64 j.d.left, .bool j.d.down, .int .i64 j.e, .int .i64 j.h, .int .i64 j.c], .slice A n c] w fun e w' => e = .returned (.bool true) ∧ Below w.heap.size w w' := by
  have HBX : Keep (BJ (w.alloc (.cells #[.slice j.d.a j.d.n j.d.c, .slice j.d.pa j.d.pn j.d.pc, .int .i64 j.d.left, .bool j.d.down, .int .i64 j.e, .int .i64 j.h, .int .i64 j.c] 32)) w.heap.size j j.m) := ⟨BJ.new h rfl⟩
  have HX0 : Hid (Below w.heap.size w (w.alloc (.cells #[.slice j.d.a j.d.n j.d.c, .slice j.d.pa j.d.pn j.d.pc, .int .i64 j.d.left, .bool j.d.down, .int .i64 j.e, .int .i64 j.h, .int .i64 j.c] 32))) := below_alloc1 _ _
  have HT : Keep (Tab (w.alloc (.cells #[.slice j.d.a j.d.n j.d.c, .slice j.d.pa j.d.pn j.d.pc, .int .i64 j.d.left, .bool j.d.down, .int .i64 j.e, .int .i64 j.h, .int .i64 j.c] 32))) := ⟨ht.below (below_alloc1 _ _)⟩
  have HL : Keep (RB (w.alloc (.cells #[.slice j.d.a j.d.n j.d.c, .slice j.d.pa j.d.pn j.d.pc, .int .i64 j.d.left, .bool j.d.down, .int .i64 j.e, .int .i64 j.h, .int .i64 j.c] 32)) A n c l) := ⟨hl.below (below_alloc1 _ _)⟩
  have HLN := Keep.mk hl.len
  have hcap := hl.cap
  have hbig := hl.big
  unfold maxLen at hbig
  have HWS : Keep (Dv.few j.d.m 40 = true → WS 40 (j.m.d, 0)) := ⟨fun hf => ⟨(Dv.few_fits hf (by omega)).1, hLo, hHi⟩⟩
  clear h hl ht hLo hHi
  cases hf : Dv.few j.d.m 40
  · have HF := Keep.mk hf
    clear hf
    go_enter Tryd.func7, Tryd.ntmps7
    go_upto_region 1 with (fail)
    generalize e0 : w.alloc (.cells #[.slice j.d.a j.d.n j.d.c, .slice j.d.pa j.d.pn j.d.pc, .int .i64 j.d.left, .bool j.d.down, .int .i64 j.e, .int .i64 j.h, .int .i64 j.c] 32) = w1 at *
    clear e0
    obtain ⟨b0, hb0⟩ : ∃ b, b = w.heap.size := ⟨_, rfl⟩
    rw [← hb0] at HBX ⊢
    clear hb0
    obtain ⟨c2, c3, c4, c5, c6, c7, c8⟩ := HBX.out.bx.cs
    go_wp2_with fail
    refine (small_any j.d _ HBX.out.bx.ok).mono ?_
    rw [HF.out]
    rintro e w9 ⟨rfl, hb⟩
    have H10 := Keep.mk (HBX.out.below hb)
    have H11 := Keep.mk (HT.out.below hb)
    have H12 := Keep.mk (HL.out.below hb)
    have B13 := Lib.hid (below_next HX0.out hb (Nat.le_refl _))
    clear c2 c3 c4 c5 c6 c7 c8
    clear HBX HT HL HX0
    clear hb
    go_wp2_with fail
    refine (awake_any _ H11.out).mono ?_
    rintro e w14 ⟨rfl, hb⟩
    have H15 := Keep.mk (H10.out.below hb)
    have H16 := Keep.mk (H11.out.below hb)
    have H17 := Keep.mk (H12.out.below hb)
    have B18 := Lib.hid (below_next B13.out hb (Nat.le_refl _))
    clear H10 H11 H12 B13
    clear hb
    go_wp2
    go_ret
    exact ⟨rfl, B18.out⟩
  · have HF := Keep.mk hf
    have HW := Keep.mk (HWS.out hf)
    clear hf HWS
    by_cases hn : n ≤ 3000
    rotate_left
    · have g1 : decide ((3000 : Int) < (n : Int)) = true := decide_eq_true (by omega)
      have g2 : decide (3000 < n) = true := decide_eq_true (by omega)
      clear hn
      go_enter Tryd.func7, Tryd.ntmps7
      go_upto_region 1 with (fail)
      generalize e0 : w.alloc (.cells #[.slice j.d.a j.d.n j.d.c, .slice j.d.pa j.d.pn j.d.pc, .int .i64 j.d.left, .bool j.d.down, .int .i64 j.e, .int .i64 j.h, .int .i64 j.c] 32) = w1 at *
      clear e0
      obtain ⟨b0, hb0⟩ : ∃ b, b = w.heap.size := ⟨_, rfl⟩
      rw [← hb0] at HBX ⊢
      clear hb0
      obtain ⟨c2, c3, c4, c5, c6, c7, c8⟩ := HBX.out.bx.cs
      go_wp2_with fail
      refine (small_any j.d _ HBX.out.bx.ok).mono ?_
      rw [HF.out]
      rintro e w9 ⟨rfl, hb⟩
      have H10 := Keep.mk (HBX.out.below hb)
      have H11 := Keep.mk (HT.out.below hb)
      have H12 := Keep.mk (HL.out.below hb)
      have B13 := Lib.hid (below_next HX0.out hb (Nat.le_refl _))
      clear c2 c3 c4 c5 c6 c7 c8
      clear HBX HT HL HX0
      clear hb
      go_wp2_with fail
      refine (awake_any _ H11.out).mono ?_
      rintro e w14 ⟨rfl, hb⟩
      have H15 := Keep.mk (H10.out.below hb)
      have H16 := Keep.mk (H11.out.below hb)
      have H17 := Keep.mk (H12.out.below hb)
      have B18 := Lib.hid (below_next B13.out hb (Nat.le_refl _))
      clear H10 H11 H12 B13
      clear hb
      go_wp2
      go_ret
      exact ⟨rfl, B18.out⟩
    · have g1 : decide ((3000 : Int) < (n : Int)) = false := decide_eq_false (by omega)
      have g2 : decide (3000 < n) = false := decide_eq_false (by omega)
      have HL3 : Keep (l.length ≤ 3000) := ⟨by have := HLN.out; omega⟩
      obtain ⟨r, q, hr⟩ : ∃ r q, j.m.append l = (r, q) := ⟨_, _, rfl⟩
      have HR := Keep.mk hr
      have HIN : Keep (V.In j.m.h) := ⟨hH⟩
      clear hr hH
      go_enter Tryd.func7, Tryd.ntmps7
      go_upto_region 1 with (fail)
      generalize e0 : w.alloc (.cells #[.slice j.d.a j.d.n j.d.c, .slice j.d.pa j.d.pn j.d.pc, .int .i64 j.d.left, .bool j.d.down, .int .i64 j.e, .int .i64 j.h, .int .i64 j.c] 32) = w1 at *
      clear e0
      obtain ⟨b0, hb0⟩ : ∃ b, b = w.heap.size := ⟨_, rfl⟩
      rw [← hb0] at HBX ⊢
      clear hb0
      obtain ⟨c2, c3, c4, c5, c6, c7, c8⟩ := HBX.out.bx.cs
      go_wp2_with fail
      refine (small_any j.d _ HBX.out.bx.ok).mono ?_
      rw [HF.out]
      rintro e w9 ⟨rfl, hb⟩
      have H10 := Keep.mk (HBX.out.below hb)
      have H11 := Keep.mk (HT.out.below hb)
      have H12 := Keep.mk (HL.out.below hb)
      have B13 := Lib.hid (below_next HX0.out hb (Nat.le_refl _))
      clear c2 c3 c4 c5 c6 c7 c8
      clear HBX HT HL HX0
      clear hb
      obtain ⟨c14, c15, c16, c17, c18, c19, c20⟩ := H10.out.bx.cs
      go_wp2_with fail
      refine (append_bj H10.out HW.out (by decide) HIN.out H12.out HL3.out H11.out HR.out).mono ?_
      rintro e w21 ⟨K, rfl, hok, hm, hb, hav⟩
      have hal := below_alloc1 w21 (.cells #[.slice K.d.a K.d.n K.d.c, .slice K.d.pa K.d.pn K.d.pc, .int .i64 K.d.left, .bool K.d.down, .int .i64 K.e, .int .i64 K.h, .int .i64 K.c] 32)
      have N22 : Keep (BJ (w21.alloc (.cells #[.slice K.d.a K.d.n K.d.c, .slice K.d.pa K.d.pn K.d.pc, .int .i64 K.d.left, .bool K.d.down, .int .i64 K.e, .int .i64 K.h, .int .i64 K.c] 32)) w21.heap.size K r) := ⟨BJ.new hok hm⟩
      have H24 := Keep.mk ((H10.out.below hb).below hal)
      have H25 := Keep.mk ((H11.out.below hb).below hal)
      have H26 := Keep.mk ((H12.out.below hb).below hal)
      have B27 := Lib.hid (below_next (below_next B13.out hb (Nat.le_refl _)) hal (Nat.le_refl _))
      clear c14 c15 c16 c17 c18 c19 c20
      clear H10 H11 H12 B13
      clear hb hal hok hav
      try clear hm
      go_upto_region 4 with (fail)
      generalize e29 : w21.alloc (.cells #[.slice K.d.a K.d.n K.d.c, .slice K.d.pa K.d.pn K.d.pc, .int .i64 K.d.left, .bool K.d.down, .int .i64 K.e, .int .i64 K.h, .int .i64 K.c] 32) = w28 at *
      clear e29
      obtain ⟨b23, hbk⟩ : ∃ b, b = w21.heap.size := ⟨_, rfl⟩
      rw [← hbk] at N22 ⊢
      clear hbk
      obtain ⟨c30, c31, c32, c33, c34, c35, c36⟩ := H24.out.bx.cs
      go_wp2_with fail
      refine (rappend_bj H24.out HW.out (by decide) HIN.out H26.out HL3.out HR.out).mono ?_
      rintro e w37 ⟨Z, rfl, hok, hm, hb, hav⟩
      have hal := below_alloc1 w37 (.cells #[.slice Z.d.a Z.d.n Z.d.c, .slice Z.d.pa Z.d.pn Z.d.pc, .int .i64 Z.d.left, .bool Z.d.down, .int .i64 Z.e, .int .i64 Z.h, .int .i64 Z.c] 32)
      have N38 : Keep (BJ (w37.alloc (.cells #[.slice Z.d.a Z.d.n Z.d.c, .slice Z.d.pa Z.d.pn Z.d.pc, .int .i64 Z.d.left, .bool Z.d.down, .int .i64 Z.e, .int .i64 Z.h, .int .i64 Z.c] 32)) w37.heap.size Z r) := ⟨BJ.new hok hm⟩
      have H40 := Keep.mk ((H24.out.below hb).below hal)
      have H41 := Keep.mk ((H25.out.below hb).below hal)
      have H42 := Keep.mk ((H26.out.below hb).below hal)
      have H43 := Keep.mk ((N22.out.below hb).below hal)
      have B44 := Lib.hid (below_next (below_next B27.out hb (Nat.le_refl _)) hal (Nat.le_refl _))
      clear c30 c31 c32 c33 c34 c35 c36
      clear H24 H25 H26 N22 B27
      clear hb hal hok hav
      try clear hm
      go_upto_region 5 with (fail)
      generalize e46 : w37.alloc (.cells #[.slice Z.d.a Z.d.n Z.d.c, .slice Z.d.pa Z.d.pn Z.d.pc, .int .i64 Z.d.left, .bool Z.d.down, .int .i64 Z.e, .int .i64 Z.h, .int .i64 Z.c] 32) = w45 at *
      clear e46
      obtain ⟨b39, hbk⟩ : ∃ b, b = w37.heap.size := ⟨_, rfl⟩
      rw [← hbk] at N38 ⊢
      clear hbk
      go_upto_region 5 with (fail)
      have CF1 := Keep.mk (fun (X : World) (hX : Below w45.heap.size w45 X) => free_bj (H40.out.below hX) HW.out HIN.out)
      have CF2 := Keep.mk (fun (X : World) (hX : Below w45.heap.size w45 X) => rfree_bj (H40.out.below hX) HW.out HIN.out)
      generalize j.m.free = fr at *
      have KP47 : Keep (∀ X, Below w45.heap.size w45 X → X.cell? ⟨b23, 0, none⟩ = some (.slice K.d.a K.d.n K.d.c) ∧ X.cell? ⟨b23, 1, none⟩ = some (.slice K.d.pa K.d.pn K.d.pc) ∧ X.cell? ⟨b23, 2, none⟩ = some (.int .i64 K.d.left) ∧ X.cell? ⟨b23, 3, none⟩ = some (.bool K.d.down) ∧ X.cell? ⟨b23, 4, none⟩ = some (.int .i64 K.e) ∧ X.cell? ⟨b23, 5, none⟩ = some (.int .i64 K.h) ∧ X.cell? ⟨b23, 6, none⟩ = some (.int .i64 K.c) ∧ X.cell? ⟨b39, 0, none⟩ = some (.slice Z.d.a Z.d.n Z.d.c) ∧ X.cell? ⟨b39, 1, none⟩ = some (.slice Z.d.pa Z.d.pn Z.d.pc) ∧ X.cell? ⟨b39, 2, none⟩ = some (.int .i64 Z.d.left) ∧ X.cell? ⟨b39, 3, none⟩ = some (.bool Z.d.down) ∧ X.cell? ⟨b39, 4, none⟩ = some (.int .i64 Z.e) ∧ X.cell? ⟨b39, 5, none⟩ = some (.int .i64 Z.h) ∧ X.cell? ⟨b39, 6, none⟩ = some (.int .i64 Z.c) ∧ X.cell? ⟨b0, 0, none⟩ = some (.slice j.d.a j.d.n j.d.c) ∧ X.cell? ⟨b0, 1, none⟩ = some (.slice j.d.pa j.d.pn j.d.pc) ∧ X.cell? ⟨b0, 2, none⟩ = some (.int .i64 j.d.left) ∧ X.cell? ⟨b0, 3, none⟩ = some (.bool j.d.down) ∧ X.cell? ⟨b0, 4, none⟩ = some (.int .i64 j.e) ∧ X.cell? ⟨b0, 5, none⟩ = some (.int .i64 j.h) ∧ X.cell? ⟨b0, 6, none⟩ = some (.int .i64 j.c)) := ⟨fun X hX => by
        obtain ⟨x0_0, x0_1, x0_2, x0_3, x0_4, x0_5, x0_6⟩ := (H43.out.below hX).bx.cs
        obtain ⟨x1_0, x1_1, x1_2, x1_3, x1_4, x1_5, x1_6⟩ := (N38.out.below hX).bx.cs
        obtain ⟨x2_0, x2_1, x2_2, x2_3, x2_4, x2_5, x2_6⟩ := (H40.out.below hX).bx.cs
        exact ⟨x0_0, x0_1, x0_2, x0_3, x0_4, x0_5, x0_6, x1_0, x1_1, x1_2, x1_3, x1_4, x1_5, x1_6, x2_0, x2_1, x2_2, x2_3, x2_4, x2_5, x2_6⟩⟩
      obtain ⟨c48, c49, c50, c51, c52, c53, c54⟩ := H43.out.bx.cs
      obtain ⟨c55, c56, c57, c58, c59, c60, c61⟩ := N38.out.bx.cs
      obtain ⟨c62, c63, c64, c65, c66, c67, c68⟩ := H40.out.bx.cs
      have HC : Hid (Below w45.heap.size w45 w45.drew) := below_draws _ _ 1
      go_region_held3 (fun X => X.cell? ⟨b23, 0, none⟩ = some (.slice K.d.a K.d.n K.d.c) ∧ X.cell? ⟨b23, 1, none⟩ = some (.slice K.d.pa K.d.pn K.d.pc) ∧ X.cell? ⟨b23, 2, none⟩ = some (.int .i64 K.d.left) ∧ X.cell? ⟨b23, 3, none⟩ = some (.bool K.d.down) ∧ X.cell? ⟨b23, 4, none⟩ = some (.int .i64 K.e) ∧ X.cell? ⟨b23, 5, none⟩ = some (.int .i64 K.h) ∧ X.cell? ⟨b23, 6, none⟩ = some (.int .i64 K.c) ∧ X.cell? ⟨b39, 0, none⟩ = some (.slice Z.d.a Z.d.n Z.d.c) ∧ X.cell? ⟨b39, 1, none⟩ = some (.slice Z.d.pa Z.d.pn Z.d.pc) ∧ X.cell? ⟨b39, 2, none⟩ = some (.int .i64 Z.d.left) ∧ X.cell? ⟨b39, 3, none⟩ = some (.bool Z.d.down) ∧ X.cell? ⟨b39, 4, none⟩ = some (.int .i64 Z.e) ∧ X.cell? ⟨b39, 5, none⟩ = some (.int .i64 Z.h) ∧ X.cell? ⟨b39, 6, none⟩ = some (.int .i64 Z.c) ∧ X.cell? ⟨b0, 0, none⟩ = some (.slice j.d.a j.d.n j.d.c) ∧ X.cell? ⟨b0, 1, none⟩ = some (.slice j.d.pa j.d.pn j.d.pc) ∧ X.cell? ⟨b0, 2, none⟩ = some (.int .i64 j.d.left) ∧ X.cell? ⟨b0, 3, none⟩ = some (.bool j.d.down) ∧ X.cell? ⟨b0, 4, none⟩ = some (.int .i64 j.e) ∧ X.cell? ⟨b0, 5, none⟩ = some (.int .i64 j.h) ∧ X.cell? ⟨b0, 6, none⟩ = some (.int .i64 j.c))
        (first | exact KP47.out _ HC.out | fail)
        ((first
          | (go_at_call 23; ((refine (rjsame_bj (H43.out.below HC.out) (N38.out.below HC.out)).mono ?_); rintro e wq ⟨rfl, hb⟩; have HC := Lib.hid (below_next HC.out hb (Nat.le_refl _)); clear hb))
          | (go_at_call 20; ((refine (CF1.out _ HC.out).mono ?_); rintro e wq ⟨rfl, hb⟩; have HC := Lib.hid (below_next HC.out hb (Nat.le_refl _)); clear hb))
          | (go_at_call 26; ((refine (CF2.out _ HC.out).mono ?_); rintro e wq ⟨rfl, hb⟩; have HC := Lib.hid (below_next HC.out hb (Nat.le_refl _)); clear hb))
          | (go_at_call 10; ((refine (awake_any _ (H41.out.below HC.out)).mono ?_); rintro e wq ⟨rfl, hb⟩; have HC := Lib.hid (below_next HC.out hb (Nat.le_refl _)); clear hb))
          | fail))
      rename_i hHeld
      clear hHeld
      have HZ := Lib.hid (below_next B44.out HC.out (Nat.le_refl _))
      go_wp2
      go_ret
      exact ⟨rfl, HZ.out⟩
end Go.Proofs.YtjficpdfofmcnaaDoor

/- JournalAppends: for every input the law returns true, and each argument reads afterwards as it read before. Conditions: the package variable digest.steps starts as the text lays it (tied by the card). -/
namespace Go.Proofs.YtjficpdfofmcnaaDoor.journalAppendsDone
open Go.ChangeShapes Go.WideShapes Go.ChangeAt Go.RowKit Go.Joins
open Go.ChangeMaps (open_string shut_string)
set_option linter.unusedVariables false

set_option maxRecDepth 100000 in
theorem contract (H : Type) (enc : TypeId × Value → H) (W : World) (base : Nat) (args : Array Value) (ds gs : List (DataW H)) (before : List MemPlace)
    (hval : ∀ (j : Nat) t v, Tryd.f7.params[j]? = some t → args[j]? = some v → Value.okWide Tryd.prog W .any base t v)
    (hW : DataW.Whole enc Tryd.prog Tryd.f7.params.toList Rows.journalAppendsSpec.vars false W args.toList ds gs before)
    (hsz0 : (DataW.weightsEach Tryd.prog (Tryd.f7.params.toList ++ (OpenSpec.ofChange Rows.journalAppendsSpec).bare.plain.varTypes Tryd.prog) (ds ++ gs)).all (· ≤ reachBytes) = true) (hL : laidMetH Tryd.prog Rows.journalAppendsRow.laid W) :
    Calls Tryd.prog 7 args W fun e W' => ∃ v, e = .returned v ∧ Rows.journalAppendsSpec.post enc Tryd.prog Tryd.f7 false true false false W args v W' := by
  have hT := tab_of hL
  have hsz : (DataW.weightsEach Tryd.prog (Tryd.f7.params.toList ++ []) (ds ++ gs)).all (· ≤ reachBytes) = true := hsz0
  have hW' := hW
  obtain ⟨p, q, hA0, hV, rfl, hfz, hnd⟩ := hW
  have hA : DataW.TrodAll enc Tryd.prog W 0 (fun _ => true) true Tryd.f7.params.toList args.toList ds p := hA0
  rw [Tryd.params7] at hA hval hsz
  obtain ⟨v0, vs0, d0, ds0, p0, q0, hargs, rfl, rfl, h0, t0⟩ := trodAll_cons hA
  obtain ⟨v1, vs1, d1, ds1, p1, q1, rfl, rfl, rfl, h1, t1⟩ := trodAll_cons t0
  obtain ⟨rfl, rfl, rfl⟩ := trodAll_nil t1
  obtain rfl : args = #[v0, v1] := by cases args; simp_all
  obtain ⟨rfl, rfl⟩ := trodVars_none hV
  have k0 := h0
  have lt0 : ∀ x ∈ p0, x.block < W.heap.size := by obtain ⟨m, hm⟩ := k0; exact DataW.trod_lt m _ _ _ hm
  have k1 := h1
  have lt1 : ∀ x ∈ p1, x.block < W.heap.size := by obtain ⟨m, hm⟩ := k1; exact DataW.trod_lt m _ _ _ hm
  obtain ⟨o0, rfl, r0, f0, g0⟩ := open_journal (hval 0 32 v0 rfl rfl) h0
  have s0 := bounds_i64 f0
  have y0 := bounds_i64 g0
  obtain ⟨A1, n1, c1, l1, rfl, r1, z1⟩ := open_rb Tryd.underlying26 Tryd.underlying5 (by kernel_rfl) (hval 1 26 v1 rfl rfl) h1
  have s1 : n1 ≤ 140737488351232 := by have := z1.reach hsz (j := 1) (t := 26) (e := 5) rfl rfl Tryd.underlying26; rw [show Tryd.prog.bytesOf 5 = 1 by kernel_rfl] at this; omega
  clear hA0 hsz0
  refine (law_appends o0 A1 n1 c1 l1 W r0 r1 hT (by unfold V.In; omega) s0.1 s0.2).mono fun e W' ⟨he, bel⟩ => ?_
  subst he
  exact ⟨_, rfl, _, _, _, [], _, [], hW', trodAll_mk1 (shut_bool Tryd.underlying4 _), (trodAll_cons_mk (Below.trod laidOut (by kernel_rfl) (of_decide_eq_true (by kernel_rfl)) k0 bel lt0) (trodAll_cons_mk (Below.trod laidOut (by kernel_rfl) (of_decide_eq_true (by kernel_rfl)) k1 bel lt1) (trodAll_mk0))), rfl, bel.frame _, fun h => by cases h⟩

theorem laid_met (os : Os) : laidMet Tryd.prog Rows.journalAppendsRow.laid ((laidWorld os).forCall (fun _ _ => 0) ⟨#[], #[.agg #[.slice none 0 0, .slice none 0 0, .int .i64 0, .bool false, .int .i64 0, .int .i64 0, .int .i64 0], .slice none 0 0], []⟩).memory :=
  laidMet_of_run' 8 (by kernel_rfl) (by kernel_rfl)
theorem reads (os : Os) {H : Type} (enc : TypeId × Value → H) : ∃ places, DataW.whole enc Tryd.prog ((laidWorld os).forCall (fun _ _ => 0) ⟨#[], #[.agg #[.slice none 0 0, .slice none 0 0, .int .i64 0, .bool false, .int .i64 0, .int .i64 0, .int .i64 0], .slice none 0 0], []⟩).memory Tryd.f7.params.toList Rows.journalAppendsSpec.vars false (#[.agg #[.slice none 0 0, .slice none 0 0, .int .i64 0, .bool false, .int .i64 0, .int .i64 0, .int .i64 0], .slice none 0 0] : Array Value).toList 8 = some ([.agg [.agg [.nil, .nil, .lit (.int .i64 0), .lit (.bool false)], .lit (.int .i64 0), .lit (.int .i64 0), .lit (.int .i64 0)], .nil], [], places) :=
  ⟨[], by kernel_rfl⟩
set_option maxRecDepth 100000 in
theorem lifted (os : Os) (started : os.Started) (H : Type) (enc : TypeId × Value → H) (F : Stop.Interp) :
    ReturnsInHanded {} Tryd.checked os 7 .any ((OpenSpec.ofChange Rows.journalAppendsSpec).preRow enc Tryd.prog Tryd.f7 Rows.journalAppendsRow.domain false Rows.journalAppendsRow.laid) (((OpenSpec.ofChange Rows.journalAppendsSpec).at F).post enc Tryd.prog Tryd.f7 false true false false) := by
  obtain ⟨places, hx⟩ := reads os enc
  refine returnsInHanded_of_row (C := Tryd.checked) (s := OpenSpec.ofChange Rows.journalAppendsSpec) own started (by kernel_rfl) Tryd.func7
    (witness_row_at (enc := enc) (C := Tryd.checked) false (laidWorld os) #[.agg #[.slice none 0 0, .slice none 0 0, .int .i64 0, .bool false, .int .i64 0, .int .i64 0, .int .i64 0], .slice none 0 0] rfl (by kernel_rfl) (by kernel_rfl) (by kernel_rfl)
      (OpenSpec.preRow_of_cond 8 hx (by kernel_rfl) (fun k hk => by cases hk) (by kernel_rfl) (laid_met os))) ?_
  intro W base args ds gs before hval hW _ _ hsz hL _ _
  exact contract H enc W base args ds gs before hval hW hsz hL

theorem said : Rows.JournalAppendsSaid :=
  OpenClaim.holds_of_cond 7 Tryd.f7 rfl rfl rfl rfl rfl rfl rfl ⟨rfl, rfl, rfl, rfl, rfl⟩ rfl rfl rfl rfl rfl (by kernel_rfl) Tryd.func7 (by kernel_rfl)
    (of_decide_eq_true (by kernel_rfl)) (by unfold Func.isWrapper; first | (rw [if_pos (by decide +kernel)]; kernel_rfl) | (rw [if_neg (by decide +kernel)]; exact ⟨rfl, rfl⟩))
    (fun os started H enc _ F => by rw [OpenClaim.pre_eq_preRow]; exact lifted os started H enc F)
theorem plain (f : FuncId) (fn : Func) (hf : Tryd.pinned.checked.prog.funcNamed "mapsheets/mapsheetslaw25.JournalAppends" = some f) (hfn : Tryd.pinned.checked.prog.funcs[f]? = some fn) :
    false = Tryd.pinned.checked.prog.looks [] ∧ ∀ (j : Nat) t, fn.params[j]? = some t → Tryd.pinned.checked.prog.wantsStandIn t = false := by
  obtain rfl : f = 7 := Option.some.inj ((show Tryd.prog.funcNamed "mapsheets/mapsheetslaw25.JournalAppends" = some 7 by kernel_rfl).symm.trans hf) |>.symm
  obtain rfl : fn = Tryd.f7 := (Option.some.inj (Tryd.func7.symm.trans hfn)).symm
  refine ⟨by kernel_rfl, fun j t ht => ?_⟩
  rw [Tryd.params7] at ht
  have hm := Array.mem_of_getElem? ht
  simp only [List.mem_toArray, List.mem_cons, List.not_mem_nil, or_false] at hm
  rcases hm with rfl | rfl
  · exact (show Tryd.prog.wantsStandIn 32 = false by kernel_rfl)
  · exact (show Tryd.prog.wantsStandIn 26 = false by kernel_rfl)
end Go.Proofs.YtjficpdfofmcnaaDoor.journalAppendsDone
namespace Go.Proofs.YtjficpdfofmcnaaDoor
/-- THE STATEMENT -/
theorem journalAppends_proved : Rows.JournalAppendsCardSaid :=
  Claim7.holds_tied_plain_at .later [] _ _ _ _ journalAppendsDone.said (fun _ h => by cases h) (by kernel_rfl) (fun _ h => by cases h) journalAppends_row_tie rfl ⟨rfl, rfl⟩ (by kernel_rfl) rfl journalAppendsDone.plain (by kernel_rfl)
#print axioms journalAppends_proved
end Go.Proofs.YtjficpdfofmcnaaDoor
