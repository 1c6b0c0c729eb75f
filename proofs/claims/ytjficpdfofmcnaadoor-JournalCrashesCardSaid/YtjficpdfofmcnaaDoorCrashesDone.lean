/- JournalCrashes: for every input the law returns true, and each argument reads afterwards as it read before. Conditions: the package variable digest.steps starts as the text lays it (tied by the card). -/
import Derived.Test.YtjficpdfofmcnaaDoorBed12
import Derived.Test.YtjficpdfofmcnaaDoorBed5
import Derived.Test.YtjficpdfofmcnaaDoorBed3
import Derived.Test.YtjficpdfofmcnaaDoorBed8
import Derived.Deep.DeepHandedRow
/- A crash, ended, a device in a box that is laid anew, in the words of the laws. -/
namespace Go.Proofs.YtjficpdfofmcnaaDoor
open Go.RowKit Go.Joins

theorem BxK.store {wn : World} {b : Nat} {d D : Dk} (h : BxK wn b d) (hok : D.Ok wn) (hav : D.Av b) : BxK ((((wn.setCell ⟨b, 0, none⟩ (.slice D.a D.n D.c)).setCell ⟨b, 1, none⟩ (.slice D.pa D.pn D.pc)).setCell ⟨b, 2, none⟩ (.int .i64 D.left)).setCell ⟨b, 3, none⟩ (.bool D.down)) b D :=
  ⟨h.bx.set4 _ _ _ _, hok.off (off_set4 wn b (.slice D.a D.n D.c) (.slice D.pa D.pn D.pc) (.int .i64 D.left) (.bool D.down)) (fun t ht => by simp only [List.mem_singleton] at ht; rw [ht]; exact hav)⟩
theorem below_store {w wn : World} {b : Nat} {D : Dk} (h : Below w.heap.size w wn) (hb : w.heap.size ≤ b) : Below w.heap.size w ((((wn.setCell ⟨b, 0, none⟩ (.slice D.a D.n D.c)).setCell ⟨b, 1, none⟩ (.slice D.pa D.pn D.pc)).setCell ⟨b, 2, none⟩ (.int .i64 D.left)).setCell ⟨b, 3, none⟩ (.bool D.down)) :=
  h.trans ((off_set4 wn b (.slice D.a D.n D.c) (.slice D.pa D.pn D.pc) (.int .i64 D.left) (.bool D.down)).below h.size (by simpa using hb))
set_option maxHeartbeats 2000000 in
theorem ended_p {X : World} {b : Nat} {J : Jk} {j : Jl} {L : List (List UInt8)} {F : Nat} (h : BJ X b J j) (hf : Found j L F) (hn : j.d.sectors.length ≤ 4096) :
    Calls Tryd.prog 13 #[.agg #[.slice J.d.a J.d.n J.d.c, .slice J.d.pa J.d.pn J.d.pc, .int .i64 J.d.left, .bool J.d.down, .int .i64 J.e, .int .i64 J.h, .int .i64 J.c]] X fun r w' => (∃ z : Bool, r = .returned (.bool z) ∧ (z = true ↔ (F < j.d.sectors.length → j.d.sectors.getD F [] = zs))) ∧ Below X.heap.size X w' := by
  have hb := hf.bounds
  have hl : J.d.n = j.d.sectors.length := by rw [← h.dm]; exact (dk_len h.bx.ok).symm
  have hh : (F : Int) * 64 = J.h := by rw [h.eh, hf.h]
  have := ended_any J.d J.e J.c F X h.bx.ok (by omega)
  rw [hh] at this
  refine this.mono ?_
  rintro r w' ⟨hr, hb⟩
  refine ⟨⟨_, hr, ?_⟩, hb⟩
  rw [decide_eq_true_iff, hl, h.dm]
theorem ended_yes {X : World} {b : Nat} {J : Jk} {j : Jl} {L : List (List UInt8)} {F : Nat} (h : BJ X b J j) (hf : Found j L F) (hn : j.d.sectors.length ≤ 4096) (hz : F < j.d.sectors.length → j.d.sectors.getD F [] = zs) :
    Calls Tryd.prog 13 #[.agg #[.slice J.d.a J.d.n J.d.c, .slice J.d.pa J.d.pn J.d.pc, .int .i64 J.d.left, .bool J.d.down, .int .i64 J.e, .int .i64 J.h, .int .i64 J.c]] X fun r w' => r = .returned (.bool true) ∧ Below X.heap.size X w' :=
  (ended_p h hf hn).mono fun r w' ⟨⟨z, h1, h2⟩, h3⟩ => ⟨by rw [h1, h2.2 hz], h3⟩
theorem ended_no {X : World} {b : Nat} {J : Jk} {j : Jl} {L : List (List UInt8)} {F : Nat} (h : BJ X b J j) (hf : Found j L F) (hn : j.d.sectors.length ≤ 4096) (hz : ¬ (F < j.d.sectors.length → j.d.sectors.getD F [] = zs)) :
    Calls Tryd.prog 13 #[.agg #[.slice J.d.a J.d.n J.d.c, .slice J.d.pa J.d.pn J.d.pc, .int .i64 J.d.left, .bool J.d.down, .int .i64 J.e, .int .i64 J.h, .int .i64 J.c]] X fun r w' => r = .returned (.bool false) ∧ Below X.heap.size X w' :=
  (ended_p h hf hn).mono fun r w' ⟨⟨z, h1, h2⟩, h3⟩ => ⟨by
    cases z with
    | false => exact h1
    | true => exact absurd (h2.1 rfl) hz, h3⟩
theorem crash_ok {j : Jl} {L : List (List UInt8)} {F : Nat} (h : Found j L F) (hn : j.d.sectors.length ≤ 4096) {l : List UInt8} (hl : l.length ≤ 3000) (hp : j.d.pending = []) (hz : F < j.d.sectors.length → j.d.sectors.getD F [] = zs) {r : Jl} {q : Int} (hr : j.append l = (r, q)) (hq : q = 0 ∨ q = 23) (keep : List Int) :
    (∃ x, Scanned (Dv.crash r.d keep) x (L ++ [l]) 0) ∨ (q ≠ 0 ∧ ∃ x, Scanned (Dv.crash r.d keep) x L 0) := by
  have := h.crash hn hl hp (fun hF => by unfold Jn.cont; rw [hp]; exact hz hF) (by rw [hr]; exact hq) keep
  rw [hr] at this
  exact this
theorem arm_ws {d : Dk} {left : Int} (hHi : left ≤ 9223372036854775807) (hf : Dv.few d.m 40 = true) : WS 40 (Dv.arm d.m left, 0) := ⟨Dv.arm_fits (Dv.few_fits hf (by omega)).1 left, by simp only [Dv.arm]; omega, by simp only [Dv.arm]; omega⟩
theorem no_pending {w : World} {d : Dk} (h : d.Ok w) (hp : d.pn = 0) (left : Int) : (Dv.arm d.m left).pending = [] := by
  have := h.pen.len
  rw [hp] at this
  have hP : d.P = [] := List.eq_nil_of_length_eq_zero this
  simp [Dv.arm, Dk.m, hP]
end Go.Proofs.YtjficpdfofmcnaaDoor

/- JournalCrashes. -/
namespace Go.Proofs.YtjficpdfofmcnaaDoor
open Go.RowKit Go.Joins

set_option maxHeartbeats 8000000 in
set_option maxRecDepth 100000 in
theorem law_crashes (d : Dk) (A : Option Addr) (n c : Nat) (l : List UInt8) (left : Int) (B : Option Addr) (m cB : Nat) (keep : List Int) (w : World) (h : d.Ok w) (hl : RB w A n c l) (hk : RI w B m cB keep) (ht : Tab w) (hHi : left ≤ 9223372036854775807) :
    Calls Tryd.prog 3 #[.agg #[.slice d.a d.n d.c, .slice d.pa d.pn d.pc, .int .i64 d.left, .bool d.down], .slice A n c, .int .i64 left, .slice B m cB] w fun e w' => e = .returned (.bool true) ∧ Below w.heap.size w w' := by
  have HBX : Keep (BxK (w.alloc (.cells #[.slice d.a d.n d.c, .slice d.pa d.pn d.pc, .int .i64 d.left, .bool d.down] 25)) w.heap.size d) := ⟨BxK.new h⟩
  have HX0 : Hid (Below w.heap.size w (w.alloc (.cells #[.slice d.a d.n d.c, .slice d.pa d.pn d.pc, .int .i64 d.left, .bool d.down] 25))) := below_alloc1 _ _
  have HT : Keep (Tab (w.alloc (.cells #[.slice d.a d.n d.c, .slice d.pa d.pn d.pc, .int .i64 d.left, .bool d.down] 25))) := ⟨ht.below (below_alloc1 _ _)⟩
  have HD0 := Keep.mk h
  have HL0 := Keep.mk hl
  have HK0 := Keep.mk hk
  have HT0 := Keep.mk ht
  have HLN := Keep.mk hl.len
  have hcap := hl.cap
  have hbig := hl.big
  have hcap2 := hk.cap
  have hbig2 := hk.big
  have hcap3 := h.pen.rd.cap
  have hbig3 := h.pen.rd.big
  unfold maxLen at hbig hbig2 hbig3
  have HWS : Keep (Dv.few d.m 40 = true → WS 40 (Dv.arm d.m left, 0)) := ⟨arm_ws hHi⟩
  have HNP : Keep (d.pn = 0 → (Dv.arm d.m left).pending = []) := ⟨fun hp => no_pending h hp left⟩
  clear h hl hk ht hHi
  cases hf : Dv.few d.m 40
  · have HF := Keep.mk hf
    clear hf
    go_enter Tryd.func3, Tryd.ntmps3
    go_upto_region 1 with (fail)
    generalize e0 : w.alloc (.cells #[.slice d.a d.n d.c, .slice d.pa d.pn d.pc, .int .i64 d.left, .bool d.down] 25) = w1 at *
    clear e0
    obtain ⟨b0, hb0⟩ : ∃ b, b = w.heap.size := ⟨_, rfl⟩
    rw [← hb0] at HBX ⊢
    have hb1 : w.heap.size ≤ b0 := Nat.le_of_eq hb0.symm
    clear hb0
    obtain ⟨c2, c3, c4, c5⟩ := HBX.out.cs
    go_wp2_with fail
    refine (small_any d _ HBX.out.ok).mono ?_
    rw [HF.out]
    rintro e w6 ⟨rfl, hb⟩
    have H7 := Keep.mk (HBX.out.below hb)
    have H8 := Keep.mk (HT.out.below hb)
    have B9 := Lib.hid (below_next HX0.out hb (Nat.le_refl _))
    clear c2 c3 c4 c5
    clear HBX HT HX0
    clear hb
    obtain ⟨c10, c11, c12, c13⟩ := H7.out.cs
    go_wp2_with fail
    refine (awake_any _ H8.out).mono ?_
    rintro e w14 ⟨rfl, hb⟩
    have H15 := Keep.mk (H7.out.below hb)
    have H16 := Keep.mk (H8.out.below hb)
    have B17 := Lib.hid (below_next B9.out hb (Nat.le_refl _))
    clear c10 c11 c12 c13
    clear H7 H8 B9
    clear hb
    go_wp2
    go_ret
    exact ⟨rfl, B17.out⟩
  · have HF := Keep.mk hf
    have HW := Keep.mk (HWS.out hf)
    clear hf HWS
    by_cases hp : d.pn ≤ 0
    rotate_left
    · have ghpa : decide ((0 : Int) < (d.pn : Int)) = true := decide_eq_true (by omega)
      have ghpb : decide (0 < d.pn) = true := decide_eq_true (by omega)
      clear hp
      go_enter Tryd.func3, Tryd.ntmps3
      go_upto_region 1 with (fail)
      generalize e0 : w.alloc (.cells #[.slice d.a d.n d.c, .slice d.pa d.pn d.pc, .int .i64 d.left, .bool d.down] 25) = w1 at *
      clear e0
      obtain ⟨b0, hb0⟩ : ∃ b, b = w.heap.size := ⟨_, rfl⟩
      rw [← hb0] at HBX ⊢
      have hb1 : w.heap.size ≤ b0 := Nat.le_of_eq hb0.symm
      clear hb0
      obtain ⟨c2, c3, c4, c5⟩ := HBX.out.cs
      go_wp2_with fail
      refine (small_any d _ HBX.out.ok).mono ?_
      rw [HF.out]
      rintro e w6 ⟨rfl, hb⟩
      have H7 := Keep.mk (HBX.out.below hb)
      have H8 := Keep.mk (HT.out.below hb)
      have B9 := Lib.hid (below_next HX0.out hb (Nat.le_refl _))
      clear c2 c3 c4 c5
      clear HBX HT HX0
      clear hb
      obtain ⟨c10, c11, c12, c13⟩ := H7.out.cs
      go_wp2_with fail
      refine (awake_any _ H8.out).mono ?_
      rintro e w14 ⟨rfl, hb⟩
      have H15 := Keep.mk (H7.out.below hb)
      have H16 := Keep.mk (H8.out.below hb)
      have B17 := Lib.hid (below_next B9.out hb (Nat.le_refl _))
      clear c10 c11 c12 c13
      clear H7 H8 B9
      clear hb
      go_wp2
      go_ret
      exact ⟨rfl, B17.out⟩
    have ghpa : decide ((0 : Int) < (d.pn : Int)) = false := decide_eq_false (by omega)
    have ghpb : decide (0 < d.pn) = false := decide_eq_false (by omega)
    by_cases hn : n ≤ 3000
    rotate_left
    · have ghna : decide ((3000 : Int) < (n : Int)) = true := decide_eq_true (by omega)
      have ghnb : decide (3000 < n) = true := decide_eq_true (by omega)
      clear hn
      go_enter Tryd.func3, Tryd.ntmps3
      go_upto_region 1 with (fail)
      generalize e0 : w.alloc (.cells #[.slice d.a d.n d.c, .slice d.pa d.pn d.pc, .int .i64 d.left, .bool d.down] 25) = w1 at *
      clear e0
      obtain ⟨b0, hb0⟩ : ∃ b, b = w.heap.size := ⟨_, rfl⟩
      rw [← hb0] at HBX ⊢
      have hb1 : w.heap.size ≤ b0 := Nat.le_of_eq hb0.symm
      clear hb0
      obtain ⟨c2, c3, c4, c5⟩ := HBX.out.cs
      go_wp2_with fail
      refine (small_any d _ HBX.out.ok).mono ?_
      rw [HF.out]
      rintro e w6 ⟨rfl, hb⟩
      have H7 := Keep.mk (HBX.out.below hb)
      have H8 := Keep.mk (HT.out.below hb)
      have B9 := Lib.hid (below_next HX0.out hb (Nat.le_refl _))
      clear c2 c3 c4 c5
      clear HBX HT HX0
      clear hb
      obtain ⟨c10, c11, c12, c13⟩ := H7.out.cs
      go_wp2_with fail
      refine (awake_any _ H8.out).mono ?_
      rintro e w14 ⟨rfl, hb⟩
      have H15 := Keep.mk (H7.out.below hb)
      have H16 := Keep.mk (H8.out.below hb)
      have B17 := Lib.hid (below_next B9.out hb (Nat.le_refl _))
      clear c10 c11 c12 c13
      clear H7 H8 B9
      clear hb
      go_wp2
      go_ret
      exact ⟨rfl, B17.out⟩
    have ghna : decide ((3000 : Int) < (n : Int)) = false := decide_eq_false (by omega)
    have ghnb : decide (3000 < n) = false := decide_eq_false (by omega)
    by_cases hm : m ≤ 100
    rotate_left
    · have ghma : decide ((100 : Int) < (m : Int)) = true := decide_eq_true (by omega)
      have ghmb : decide (100 < m) = true := decide_eq_true (by omega)
      clear hm
      go_enter Tryd.func3, Tryd.ntmps3
      go_upto_region 1 with (fail)
      generalize e0 : w.alloc (.cells #[.slice d.a d.n d.c, .slice d.pa d.pn d.pc, .int .i64 d.left, .bool d.down] 25) = w1 at *
      clear e0
      obtain ⟨b0, hb0⟩ : ∃ b, b = w.heap.size := ⟨_, rfl⟩
      rw [← hb0] at HBX ⊢
      have hb1 : w.heap.size ≤ b0 := Nat.le_of_eq hb0.symm
      clear hb0
      obtain ⟨c2, c3, c4, c5⟩ := HBX.out.cs
      go_wp2_with fail
      refine (small_any d _ HBX.out.ok).mono ?_
      rw [HF.out]
      rintro e w6 ⟨rfl, hb⟩
      have H7 := Keep.mk (HBX.out.below hb)
      have H8 := Keep.mk (HT.out.below hb)
      have B9 := Lib.hid (below_next HX0.out hb (Nat.le_refl _))
      clear c2 c3 c4 c5
      clear HBX HT HX0
      clear hb
      obtain ⟨c10, c11, c12, c13⟩ := H7.out.cs
      go_wp2_with fail
      refine (awake_any _ H8.out).mono ?_
      rintro e w14 ⟨rfl, hb⟩
      have H15 := Keep.mk (H7.out.below hb)
      have H16 := Keep.mk (H8.out.below hb)
      have B17 := Lib.hid (below_next B9.out hb (Nat.le_refl _))
      clear c10 c11 c12 c13
      clear H7 H8 B9
      clear hb
      go_wp2
      go_ret
      exact ⟨rfl, B17.out⟩
    have ghma : decide ((100 : Int) < (m : Int)) = false := decide_eq_false (by omega)
    have ghmb : decide (100 < m) = false := decide_eq_false (by omega)
    have HP : Keep ((Dv.arm d.m left).pending = []) := ⟨HNP.out (by omega)⟩
    have HL3 : Keep (l.length ≤ 3000) := ⟨by have := HLN.out; omega⟩
    clear HNP hm
    by_cases hk : Jn.scanE (Dv.arm d.m left) = 0
    rotate_left
    · have HK := Keep.mk hk
      clear hk
      go_enter Tryd.func3, Tryd.ntmps3
      go_upto_region 1 with (fail)
      generalize e0 : w.alloc (.cells #[.slice d.a d.n d.c, .slice d.pa d.pn d.pc, .int .i64 d.left, .bool d.down] 25) = w1 at *
      clear e0
      obtain ⟨b0, hb0⟩ : ∃ b, b = w.heap.size := ⟨_, rfl⟩
      rw [← hb0] at HBX ⊢
      have hb1 : w.heap.size ≤ b0 := Nat.le_of_eq hb0.symm
      clear hb0
      obtain ⟨c2, c3, c4, c5⟩ := HBX.out.cs
      go_wp2_with fail
      refine (small_any d _ HBX.out.ok).mono ?_
      rw [HF.out]
      rintro e w6 ⟨rfl, hb⟩
      have H7 := Keep.mk (HBX.out.below hb)
      have H8 := Keep.mk (HT.out.below hb)
      have B9 := Lib.hid (below_next HX0.out hb (Nat.le_refl _))
      clear c2 c3 c4 c5
      clear HBX HT HX0
      clear hb
      obtain ⟨c10, c11, c12, c13⟩ := H7.out.cs
      go_wp2_with fail
      refine (retX (rarm_any d left _ H7.out.ok)).mono ?_
      rintro e w14 ⟨D, rfl, hok, hdm, hb, hav⟩
      have HAV : Keep (D.Av b0) := ⟨hav _ (H7.out.bx.lt) (HD0.out.av hb1)⟩
      have HDM := Keep.mk hdm
      have HOK := Keep.mk hok
      clear hdm
      have H15 := Keep.mk (H7.out.below hb)
      have H16 := Keep.mk (H8.out.below hb)
      have B17 := Lib.hid (below_next B9.out hb (Nat.le_refl _))
      clear c10 c11 c12 c13
      clear H7 H8 B9
      clear hb hok hav
      have c18 := H15.out.bx.cell 0 _ rfl
      have c19 := H15.out.bx.cell 1 _ rfl
      have c20 := H15.out.bx.cell 2 _ rfl
      have c21 := H15.out.bx.cell 3 _ rfl
      have f22 := H15.out.bx.fz
      go_upto_region 4 with (fail)
      clear c18 c19 c20 c21 f22
      have N1 : Keep (BxK ((((w14.setCell ⟨b0, 0, none⟩ (.slice D.a D.n D.c)).setCell ⟨b0, 1, none⟩ (.slice D.pa D.pn D.pc)).setCell ⟨b0, 2, none⟩ (.int .i64 D.left)).setCell ⟨b0, 3, none⟩ (.bool D.down)) b0 D) := ⟨BxK.store H15.out HOK.out HAV.out⟩
      have N2 : Hid (Below w.heap.size w ((((w14.setCell ⟨b0, 0, none⟩ (.slice D.a D.n D.c)).setCell ⟨b0, 1, none⟩ (.slice D.pa D.pn D.pc)).setCell ⟨b0, 2, none⟩ (.int .i64 D.left)).setCell ⟨b0, 3, none⟩ (.bool D.down))) := below_store B17.out hb1
      generalize e4 : ((((w14.setCell ⟨b0, 0, none⟩ (.slice D.a D.n D.c)).setCell ⟨b0, 1, none⟩ (.slice D.pa D.pn D.pc)).setCell ⟨b0, 2, none⟩ (.int .i64 D.left)).setCell ⟨b0, 3, none⟩ (.bool D.down)) = w4 at *
      clear e4 HOK HAV H15 H16 B17
      have N3 := Keep.mk (HT0.out.below N2.out)
      have N4 := Keep.mk (HL0.out.below N2.out)
      have N5 := Keep.mk (HK0.out.below N2.out)
      obtain ⟨c23, c24, c25, c26⟩ := N1.out.cs
      go_wp2_with fail
      refine (open_any D 40 _ N1.out.ok (by rw [HDM.out]; exact HW.out.fit) (by decide) N3.out).mono ?_
      rintro e w27 ⟨J, k, L, rfl, hok, hb, hsc, hav⟩
      rw [HDM.out] at hsc
      have hk0 : ¬ k = 0 := fun e => HK.out (hsc.1.symm.trans e)
      have hk1 : (k != 0) = true := by simpa using hk0
      clear hk0 hsc
      have hal := below_alloc1 w27 (.cells #[.slice J.d.a J.d.n J.d.c, .slice J.d.pa J.d.pn J.d.pc, .int .i64 J.d.left, .bool J.d.down, .int .i64 J.e, .int .i64 J.h, .int .i64 J.c] 32)
      have N28 : Keep (BJ (w27.alloc (.cells #[.slice J.d.a J.d.n J.d.c, .slice J.d.pa J.d.pn J.d.pc, .int .i64 J.d.left, .bool J.d.down, .int .i64 J.e, .int .i64 J.h, .int .i64 J.c] 32)) w27.heap.size J J.m) := ⟨BJ.new hok rfl⟩
      have H30 := Keep.mk ((N1.out.below hb).below hal)
      have H31 := Keep.mk ((N3.out.below hb).below hal)
      have H32 := Keep.mk ((N4.out.below hb).below hal)
      have H33 := Keep.mk ((N5.out.below hb).below hal)
      have B34 := Lib.hid (below_next (below_next N2.out hb (Nat.le_refl _)) hal (Nat.le_refl _))
      clear c23 c24 c25 c26
      clear N1 N3 N4 N5 N2
      clear hb hal hok hav
      go_upto_region 5 with (fail)
      generalize e36 : w27.alloc (.cells #[.slice J.d.a J.d.n J.d.c, .slice J.d.pa J.d.pn J.d.pc, .int .i64 J.d.left, .bool J.d.down, .int .i64 J.e, .int .i64 J.h, .int .i64 J.c] 32) = w35 at *
      clear e36
      obtain ⟨b29, hbk⟩ : ∃ b, b = w27.heap.size := ⟨_, rfl⟩
      rw [← hbk] at N28 ⊢
      clear hbk
      go_wp2_with fail
      refine (awake_any _ H31.out).mono ?_
      rintro e w37 ⟨rfl, hb⟩
      have H38 := Keep.mk (H30.out.below hb)
      have H39 := Keep.mk (H31.out.below hb)
      have H40 := Keep.mk (H32.out.below hb)
      have H41 := Keep.mk (H33.out.below hb)
      have H42 := Keep.mk (N28.out.below hb)
      have B43 := Lib.hid (below_next B34.out hb (Nat.le_refl _))
      clear H30 H31 H32 H33 N28 B34
      clear hb
      go_wp2
      go_ret
      exact ⟨rfl, B43.out⟩
    have HK := Keep.mk hk
    clear hk
    go_enter Tryd.func3, Tryd.ntmps3
    go_upto_region 1 with (fail)
    generalize e0 : w.alloc (.cells #[.slice d.a d.n d.c, .slice d.pa d.pn d.pc, .int .i64 d.left, .bool d.down] 25) = w1 at *
    clear e0
    obtain ⟨b0, hb0⟩ : ∃ b, b = w.heap.size := ⟨_, rfl⟩
    rw [← hb0] at HBX ⊢
    have hb1 : w.heap.size ≤ b0 := Nat.le_of_eq hb0.symm
    clear hb0
    obtain ⟨c2, c3, c4, c5⟩ := HBX.out.cs
    go_wp2_with fail
    refine (small_any d _ HBX.out.ok).mono ?_
    rw [HF.out]
    rintro e w6 ⟨rfl, hb⟩
    have H7 := Keep.mk (HBX.out.below hb)
    have H8 := Keep.mk (HT.out.below hb)
    have B9 := Lib.hid (below_next HX0.out hb (Nat.le_refl _))
    clear c2 c3 c4 c5
    clear HBX HT HX0
    clear hb
    obtain ⟨c10, c11, c12, c13⟩ := H7.out.cs
    go_wp2_with fail
    refine (retX (rarm_any d left _ H7.out.ok)).mono ?_
    rintro e w14 ⟨D, rfl, hok, hdm, hb, hav⟩
    have HAV : Keep (D.Av b0) := ⟨hav _ (H7.out.bx.lt) (HD0.out.av hb1)⟩
    have HDM := Keep.mk hdm
    have HOK := Keep.mk hok
    clear hdm
    have H15 := Keep.mk (H7.out.below hb)
    have H16 := Keep.mk (H8.out.below hb)
    have B17 := Lib.hid (below_next B9.out hb (Nat.le_refl _))
    clear c10 c11 c12 c13
    clear H7 H8 B9
    clear hb hok hav
    have c18 := H15.out.bx.cell 0 _ rfl
    have c19 := H15.out.bx.cell 1 _ rfl
    have c20 := H15.out.bx.cell 2 _ rfl
    have c21 := H15.out.bx.cell 3 _ rfl
    have f22 := H15.out.bx.fz
    go_upto_region 4 with (fail)
    clear c18 c19 c20 c21 f22
    have N1 : Keep (BxK ((((w14.setCell ⟨b0, 0, none⟩ (.slice D.a D.n D.c)).setCell ⟨b0, 1, none⟩ (.slice D.pa D.pn D.pc)).setCell ⟨b0, 2, none⟩ (.int .i64 D.left)).setCell ⟨b0, 3, none⟩ (.bool D.down)) b0 D) := ⟨BxK.store H15.out HOK.out HAV.out⟩
    have N2 : Hid (Below w.heap.size w ((((w14.setCell ⟨b0, 0, none⟩ (.slice D.a D.n D.c)).setCell ⟨b0, 1, none⟩ (.slice D.pa D.pn D.pc)).setCell ⟨b0, 2, none⟩ (.int .i64 D.left)).setCell ⟨b0, 3, none⟩ (.bool D.down))) := below_store B17.out hb1
    generalize e4 : ((((w14.setCell ⟨b0, 0, none⟩ (.slice D.a D.n D.c)).setCell ⟨b0, 1, none⟩ (.slice D.pa D.pn D.pc)).setCell ⟨b0, 2, none⟩ (.int .i64 D.left)).setCell ⟨b0, 3, none⟩ (.bool D.down)) = w4 at *
    clear e4 HOK HAV H15 H16 B17
    have N3 := Keep.mk (HT0.out.below N2.out)
    have N4 := Keep.mk (HL0.out.below N2.out)
    have N5 := Keep.mk (HK0.out.below N2.out)
    obtain ⟨c23, c24, c25, c26⟩ := N1.out.cs
    go_wp2_with fail
    refine (open_any D 40 _ N1.out.ok (by rw [HDM.out]; exact HW.out.fit) (by decide) N3.out).mono ?_
    rintro e w27 ⟨J, k, L, rfl, hok, hb, hsc, hav⟩
    rw [HDM.out] at hsc
    obtain rfl : k = 0 := hsc.1.trans HK.out
    obtain ⟨j, hj⟩ : ∃ j, j = J.m := ⟨_, rfl⟩
    rw [← hj] at hsc
    obtain ⟨hjd, F, hfd⟩ := hsc.found
    have HWJ : Keep (WS 40 (j.d, 0)) := ⟨by rw [hjd]; exact HW.out⟩
    have HNS : Keep (j.d.sectors.length ≤ 4096) := ⟨by have := HW.out.fit.ns; simp only at this; rw [hjd]; omega⟩
    have HPJ : Keep (j.d.pending = []) := ⟨by rw [hjd]; exact HP.out⟩
    have HFD := Keep.mk hfd
    have HIN : Keep (V.In j.h) := ⟨by have h1 := hfd.h; have h2 := hfd.bounds; have h3 := HNS.out; unfold V.In; omega⟩
    clear hsc hjd hfd
    have hal := below_alloc1 w27 (.cells #[.slice J.d.a J.d.n J.d.c, .slice J.d.pa J.d.pn J.d.pc, .int .i64 J.d.left, .bool J.d.down, .int .i64 J.e, .int .i64 J.h, .int .i64 J.c] 32)
    have N28 : Keep (BJ (w27.alloc (.cells #[.slice J.d.a J.d.n J.d.c, .slice J.d.pa J.d.pn J.d.pc, .int .i64 J.d.left, .bool J.d.down, .int .i64 J.e, .int .i64 J.h, .int .i64 J.c] 32)) w27.heap.size J j) := ⟨BJ.new hok hj.symm⟩
    have H30 := Keep.mk ((N1.out.below hb).below hal)
    have H31 := Keep.mk ((N3.out.below hb).below hal)
    have H32 := Keep.mk ((N4.out.below hb).below hal)
    have H33 := Keep.mk ((N5.out.below hb).below hal)
    have B34 := Lib.hid (below_next (below_next N2.out hb (Nat.le_refl _)) hal (Nat.le_refl _))
    clear c23 c24 c25 c26
    clear N1 N3 N4 N5 N2
    clear hb hal hok hav
    go_upto_region 5 with (fail)
    generalize e36 : w27.alloc (.cells #[.slice J.d.a J.d.n J.d.c, .slice J.d.pa J.d.pn J.d.pc, .int .i64 J.d.left, .bool J.d.down, .int .i64 J.e, .int .i64 J.h, .int .i64 J.c] 32) = w35 at *
    clear e36
    obtain ⟨b29, hbk⟩ : ∃ b, b = w27.heap.size := ⟨_, rfl⟩
    rw [← hbk] at N28 ⊢
    clear hbk
    clear hj HW HP
    clear H30
    rcases Classical.em (F < j.d.sectors.length → j.d.sectors.getD F [] = zs) with hz | hz
    rotate_left
    · have HZ := Keep.mk hz
      clear hz
      obtain ⟨c37, c38, c39, c40, c41, c42, c43⟩ := N28.out.bx.cs
      go_wp2_with fail
      refine (ended_no N28.out HFD.out HNS.out HZ.out).mono ?_
      rintro e w44 ⟨rfl, hb⟩
      have H45 := Keep.mk (H31.out.below hb)
      have H46 := Keep.mk (H32.out.below hb)
      have H47 := Keep.mk (H33.out.below hb)
      have H48 := Keep.mk (N28.out.below hb)
      have B49 := Lib.hid (below_next B34.out hb (Nat.le_refl _))
      clear c37 c38 c39 c40 c41 c42 c43
      clear H31 H32 H33 N28 B34
      clear hb
      go_wp2_with fail
      refine (awake_any _ H45.out).mono ?_
      rintro e w50 ⟨rfl, hb⟩
      have H51 := Keep.mk (H45.out.below hb)
      have H52 := Keep.mk (H46.out.below hb)
      have H53 := Keep.mk (H47.out.below hb)
      have H54 := Keep.mk (H48.out.below hb)
      have B55 := Lib.hid (below_next B49.out hb (Nat.le_refl _))
      clear H45 H46 H47 H48 B49
      clear hb
      go_wp2
      go_ret
      exact ⟨rfl, B55.out⟩
    have HZF := Keep.mk hz
    clear hz
    obtain ⟨c56, c57, c58, c59, c60, c61, c62⟩ := N28.out.bx.cs
    go_wp2_with fail
    refine (ended_yes N28.out HFD.out HNS.out HZF.out).mono ?_
    rintro e w63 ⟨rfl, hb⟩
    have H64 := Keep.mk (H31.out.below hb)
    have H65 := Keep.mk (H32.out.below hb)
    have H66 := Keep.mk (H33.out.below hb)
    have H67 := Keep.mk (N28.out.below hb)
    have B68 := Lib.hid (below_next B34.out hb (Nat.le_refl _))
    clear c56 c57 c58 c59 c60 c61 c62
    clear H31 H32 H33 N28 B34
    clear hb
    obtain ⟨c69, c70, c71, c72, c73, c74, c75⟩ := H67.out.bx.cs
    go_wp2_with fail
    refine (records_s H67.out.bx.ok H67.out.dm HWJ.out.fit (by decide) H64.out HFD.out.scanned).mono ?_
    rintro e w76 ⟨A1, n1, c1, S1, rfl, hrs, hb, hS⟩
    have HS1 := Keep.mk hS
    have hn1 : S1.length = n1 := hrs.len
    have hn2 : S1.length = L.length := by rw [← hS, List.length_map]
    have hn3 : n1 ≤ 4096 := by have := HFD.out.bounds; have := HNS.out; omega
    clear hS hn1 hn2
    have N77 := Keep.mk ((hrs))
    have H78 := Keep.mk (H64.out.below hb)
    have H79 := Keep.mk (H65.out.below hb)
    have H80 := Keep.mk (H66.out.below hb)
    have H81 := Keep.mk (H67.out.below hb)
    have B82 := Lib.hid (below_next B68.out hb (Nat.le_refl _))
    clear c69 c70 c71 c72 c73 c74 c75
    clear H64 H65 H66 H67 B68
    clear hb
    clear hrs
    obtain ⟨r, q, hr⟩ : ∃ r q, j.append l = (r, q) := ⟨_, _, rfl⟩
    have HR := Keep.mk hr
    clear hr
    have HWR : Keep (WS 90 (r.d, 0)) := ⟨by have := append_ws HWJ.out HL3.out; rw [HR.out] at this; exact this⟩
    by_cases hq : q = 0 ∨ q = 23
    rotate_left
    · have hq0 : (q != 0) = true := by simp only [bne_iff_ne, ne_eq]; omega
      have hq1 : (q != 23) = true := by simp only [bne_iff_ne, ne_eq]; omega
      clear hq
      obtain ⟨c83, c84, c85, c86, c87, c88, c89⟩ := H81.out.bx.cs
      go_wp2_with fail
      refine (append_bj H81.out HWJ.out (by decide) HIN.out H79.out HL3.out H78.out HR.out).mono ?_
      rintro e w90 ⟨K, rfl, hok, hm, hb, hav⟩
      have hal := below_alloc1 w90 (.cells #[.slice K.d.a K.d.n K.d.c, .slice K.d.pa K.d.pn K.d.pc, .int .i64 K.d.left, .bool K.d.down, .int .i64 K.e, .int .i64 K.h, .int .i64 K.c] 32)
      have N91 : Keep (BJ (w90.alloc (.cells #[.slice K.d.a K.d.n K.d.c, .slice K.d.pa K.d.pn K.d.pc, .int .i64 K.d.left, .bool K.d.down, .int .i64 K.e, .int .i64 K.h, .int .i64 K.c] 32)) w90.heap.size K r) := ⟨BJ.new hok hm⟩
      have H93 := Keep.mk ((H78.out.below hb).below hal)
      have H94 := Keep.mk ((H79.out.below hb).below hal)
      have H95 := Keep.mk ((H80.out.below hb).below hal)
      have H96 := Keep.mk ((H81.out.below hb).below hal)
      have H97 := Keep.mk ((N77.out.below hb).below hal)
      have B98 := Lib.hid (below_next (below_next B82.out hb (Nat.le_refl _)) hal (Nat.le_refl _))
      clear c83 c84 c85 c86 c87 c88 c89
      clear H78 H79 H80 H81 N77 B82
      clear hb hal hok hav
      try clear hm
      go_upto_region 9 with (fail)
      generalize e100 : w90.alloc (.cells #[.slice K.d.a K.d.n K.d.c, .slice K.d.pa K.d.pn K.d.pc, .int .i64 K.d.left, .bool K.d.down, .int .i64 K.e, .int .i64 K.h, .int .i64 K.c] 32) = w99 at *
      clear e100
      obtain ⟨b92, hbk⟩ : ∃ b, b = w90.heap.size := ⟨_, rfl⟩
      rw [← hbk] at N91 ⊢
      clear hbk
      go_wp2_with fail
      refine (awake_any _ H93.out).mono ?_
      rintro e w101 ⟨rfl, hb⟩
      have H102 := Keep.mk (H93.out.below hb)
      have H103 := Keep.mk (H94.out.below hb)
      have H104 := Keep.mk (H95.out.below hb)
      have H105 := Keep.mk (H96.out.below hb)
      have H106 := Keep.mk (H97.out.below hb)
      have H107 := Keep.mk (N91.out.below hb)
      have B108 := Lib.hid (below_next B98.out hb (Nat.le_refl _))
      clear H93 H94 H95 H96 H97 N91 B98
      clear hb
      go_wp2
      go_ret
      exact ⟨rfl, B108.out⟩
    have HCR := Keep.mk (crash_ok HFD.out HNS.out HL3.out HPJ.out HZF.out HR.out hq keep)
    rcases hq with hq | hq
    · subst hq
      obtain ⟨x, hsx⟩ : ∃ x, Scanned (Dv.crash r.d keep) x (L ++ [l]) 0 := by
        rcases HCR.out with h | ⟨h, _⟩
        · exact h
        · exact absurd rfl h
      have HSX := Keep.mk hsx
      clear hsx HCR
      obtain ⟨c109, c110, c111, c112, c113, c114, c115⟩ := H81.out.bx.cs
      go_wp2_with fail
      refine (append_bj H81.out HWJ.out (by decide) HIN.out H79.out HL3.out H78.out HR.out).mono ?_
      rintro e w116 ⟨K, rfl, hok, hm, hb, hav⟩
      have hal := below_alloc1 w116 (.cells #[.slice K.d.a K.d.n K.d.c, .slice K.d.pa K.d.pn K.d.pc, .int .i64 K.d.left, .bool K.d.down, .int .i64 K.e, .int .i64 K.h, .int .i64 K.c] 32)
      have N117 : Keep (BJ (w116.alloc (.cells #[.slice K.d.a K.d.n K.d.c, .slice K.d.pa K.d.pn K.d.pc, .int .i64 K.d.left, .bool K.d.down, .int .i64 K.e, .int .i64 K.h, .int .i64 K.c] 32)) w116.heap.size K r) := ⟨BJ.new hok hm⟩
      have H119 := Keep.mk ((H78.out.below hb).below hal)
      have H120 := Keep.mk ((H79.out.below hb).below hal)
      have H121 := Keep.mk ((H80.out.below hb).below hal)
      have H122 := Keep.mk ((H81.out.below hb).below hal)
      have H123 := Keep.mk ((N77.out.below hb).below hal)
      have B124 := Lib.hid (below_next (below_next B82.out hb (Nat.le_refl _)) hal (Nat.le_refl _))
      clear c109 c110 c111 c112 c113 c114 c115
      clear H78 H79 H80 H81 N77 B82
      clear hb hal hok hav
      try clear hm
      go_upto_region 9 with (fail)
      generalize e126 : w116.alloc (.cells #[.slice K.d.a K.d.n K.d.c, .slice K.d.pa K.d.pn K.d.pc, .int .i64 K.d.left, .bool K.d.down, .int .i64 K.e, .int .i64 K.h, .int .i64 K.c] 32) = w125 at *
      clear e126
      obtain ⟨b118, hbk⟩ : ∃ b, b = w116.heap.size := ⟨_, rfl⟩
      rw [← hbk] at N117 ⊢
      clear hbk
      clear H122
      go_upto_region 13 with (fail)
      obtain ⟨c127, c128, c129, c130, c131, c132, c133⟩ := N117.out.bx.cs
      go_wp2_with fail
      refine (retX (rcrash_any K.d B m cB keep 90 _ N117.out.bx.ok H121.out (by rw [N117.out.dm]; exact HWR.out.fit) (by decide))).mono ?_
      rintro e w134 ⟨E, rfl, hok, hdm, hb, hav⟩
      rw [N117.out.dm] at hdm
      have HEM := Keep.mk hdm
      clear hdm
      have hal := below_alloc1 w134 (.cells #[.slice E.a E.n E.c, .slice E.pa E.pn E.pc, .int .i64 E.left, .bool E.down] 25)
      have N135 : Keep (BxK (w134.alloc (.cells #[.slice E.a E.n E.c, .slice E.pa E.pn E.pc, .int .i64 E.left, .bool E.down] 25)) w134.heap.size E) := ⟨BxK.new hok⟩
      have H137 := Keep.mk ((H119.out.below hb).below hal)
      have H138 := Keep.mk ((H120.out.below hb).below hal)
      have H139 := Keep.mk ((H121.out.below hb).below hal)
      have H140 := Keep.mk ((H123.out.below hb).below hal)
      have H141 := Keep.mk ((N117.out.below hb).below hal)
      have B142 := Lib.hid (below_next (below_next B124.out hb (Nat.le_refl _)) hal (Nat.le_refl _))
      clear c127 c128 c129 c130 c131 c132 c133
      clear H119 H120 H121 H123 N117 B124
      clear hb hal hok hav
      go_upto_region 14 with (fail)
      generalize e144 : w134.alloc (.cells #[.slice E.a E.n E.c, .slice E.pa E.pn E.pc, .int .i64 E.left, .bool E.down] 25) = w143 at *
      clear e144
      obtain ⟨b136, hbk⟩ : ∃ b, b = w134.heap.size := ⟨_, rfl⟩
      rw [← hbk] at N135 ⊢
      clear hbk
      obtain ⟨c145, c146, c147, c148⟩ := N135.out.cs
      go_wp2_with fail
      refine (records_s (J := ⟨E, 0, 0, 0⟩) N135.out.ok HEM.out (Dv.crash_fits HWR.out.fit keep) (by decide) H137.out HSX.out).mono ?_
      rintro e w149 ⟨A2, n2, c2, S2, rfl, hrs, hb, hS⟩
      have HS2 := Keep.mk hS
      clear hS
      have N150 := Keep.mk ((hrs))
      have H151 := Keep.mk (H137.out.below hb)
      have H152 := Keep.mk (H138.out.below hb)
      have H153 := Keep.mk (H139.out.below hb)
      have H154 := Keep.mk (H140.out.below hb)
      have H155 := Keep.mk (H141.out.below hb)
      have H156 := Keep.mk (N135.out.below hb)
      have B157 := Lib.hid (below_next B142.out hb (Nat.le_refl _))
      clear c145 c146 c147 c148
      clear H137 H138 H139 H140 H141 N135 B142
      clear hb
      clear hrs
      clear H156
      clear H155
      clear H153
      go_upto_region 17 with (first
        | (at_builtin; refine wpList_append_app _ rfl (.tmp 85) (.tmp 86) 22 rfl w149.heap.size 26 (.slice none 0 0) 1 24 Tryd.underlying22 sl_info rfl (by decide) (by decide) (.slice none 0 0) 0 [] rfl (GS.nil _ _).tgt A1 n1 c1 (S1.map Sl.v) rfl H154.out.rd (sl_one _) (by omega) (Nat.le_refl _) ?_; intro A160 c161 w158 ha; have HA159 := Keep.mk ha; clear ha))
      have N162 := Keep.mk (WantL.first H154.out HA159.out)
      go_upto_region 18 with (first
        | (at_builtin; refine wpList_append_app _ rfl (.tmp 88) (.tmp 90) 22 rfl w149.heap.size 26 (.slice none 0 0) 1 24 Tryd.underlying22 sl_info rfl (by decide) (by decide) (.slice A160 n1 c161) n1 (S1.map Sl.v) rfl (N162.out.g.below (below_alloc1 _ _)).tgt (some ⟨w158.heap.size, 0, none⟩) 1 1 [.slice A n c] rfl (rd_one w158 _ _) (by simp [Value.oneCell']) (by omega) (by have := HA159.out.below.size; simp; omega) ?_; intro A165 c166 w163 ha; have HA164 := Keep.mk ha; clear ha))
      have N167 := Keep.mk (WantL.snoc (s := ⟨A, n, c, l⟩) (N162.out.below (below_alloc1 _ _)) HA164.out (RB.below (RB.below H152.out HA159.out.below) (below_alloc1 _ _)) H152.out (Nat.le_refl _) (by have := HA159.out.below.size; simp; omega))
      have HB168 := Lib.hid (want_bel HA159.out.below HA164.out.below)
      have H169 := Keep.mk (H151.out.below HB168.out)
      have H170 := Keep.mk (H152.out.below HB168.out)
      have H171 := Keep.mk (H154.out.below HB168.out)
      have H172 := Keep.mk (N150.out.below HB168.out)
      have B173 := Lib.hid (below_next B157.out HB168.out (Nat.le_refl _))
      clear H151 H152 H154 N150 B157
      clear HA164 N162 HA159
      go_wp2_with fail
      refine (ss_true H172.out N167.out.g.rs (by rw [HS2.out, List.map_append, HS1.out]; rfl)).mono ?_
      rintro e w174 ⟨rfl, hb⟩
      have H175 := Keep.mk (H169.out.below hb)
      have H176 := Keep.mk (H170.out.below hb)
      have H177 := Keep.mk (H171.out.below hb)
      have H178 := Keep.mk (H172.out.below hb)
      have H179 := Keep.mk (N167.out.below hb)
      have B180 := Lib.hid (below_next B173.out hb (Nat.le_refl _))
      clear H169 H170 H171 H172 N167 B173
      clear hb
      go_wp2_with fail
      refine (awake_any _ H175.out).mono ?_
      rintro e w181 ⟨rfl, hb⟩
      have H182 := Keep.mk (H175.out.below hb)
      have H183 := Keep.mk (H176.out.below hb)
      have H184 := Keep.mk (H177.out.below hb)
      have H185 := Keep.mk (H178.out.below hb)
      have H186 := Keep.mk (H179.out.below hb)
      have B187 := Lib.hid (below_next B180.out hb (Nat.le_refl _))
      clear H175 H176 H177 H178 H179 B180
      clear hb
      go_wp2
      go_ret
      exact ⟨rfl, B187.out⟩
    · subst hq
      rcases HCR.out with ⟨x, hsx⟩ | ⟨_, x, hsx⟩
      · have HSX := Keep.mk hsx
        clear hsx HCR
        obtain ⟨c188, c189, c190, c191, c192, c193, c194⟩ := H81.out.bx.cs
        go_wp2_with fail
        refine (append_bj H81.out HWJ.out (by decide) HIN.out H79.out HL3.out H78.out HR.out).mono ?_
        rintro e w195 ⟨K, rfl, hok, hm, hb, hav⟩
        have hal := below_alloc1 w195 (.cells #[.slice K.d.a K.d.n K.d.c, .slice K.d.pa K.d.pn K.d.pc, .int .i64 K.d.left, .bool K.d.down, .int .i64 K.e, .int .i64 K.h, .int .i64 K.c] 32)
        have N196 : Keep (BJ (w195.alloc (.cells #[.slice K.d.a K.d.n K.d.c, .slice K.d.pa K.d.pn K.d.pc, .int .i64 K.d.left, .bool K.d.down, .int .i64 K.e, .int .i64 K.h, .int .i64 K.c] 32)) w195.heap.size K r) := ⟨BJ.new hok hm⟩
        have H198 := Keep.mk ((H78.out.below hb).below hal)
        have H199 := Keep.mk ((H79.out.below hb).below hal)
        have H200 := Keep.mk ((H80.out.below hb).below hal)
        have H201 := Keep.mk ((H81.out.below hb).below hal)
        have H202 := Keep.mk ((N77.out.below hb).below hal)
        have B203 := Lib.hid (below_next (below_next B82.out hb (Nat.le_refl _)) hal (Nat.le_refl _))
        clear c188 c189 c190 c191 c192 c193 c194
        clear H78 H79 H80 H81 N77 B82
        clear hb hal hok hav
        try clear hm
        go_upto_region 9 with (fail)
        generalize e205 : w195.alloc (.cells #[.slice K.d.a K.d.n K.d.c, .slice K.d.pa K.d.pn K.d.pc, .int .i64 K.d.left, .bool K.d.down, .int .i64 K.e, .int .i64 K.h, .int .i64 K.c] 32) = w204 at *
        clear e205
        obtain ⟨b197, hbk⟩ : ∃ b, b = w195.heap.size := ⟨_, rfl⟩
        rw [← hbk] at N196 ⊢
        clear hbk
        clear H201
        go_upto_region 13 with (fail)
        obtain ⟨c206, c207, c208, c209, c210, c211, c212⟩ := N196.out.bx.cs
        go_wp2_with fail
        refine (retX (rcrash_any K.d B m cB keep 90 _ N196.out.bx.ok H200.out (by rw [N196.out.dm]; exact HWR.out.fit) (by decide))).mono ?_
        rintro e w213 ⟨E, rfl, hok, hdm, hb, hav⟩
        rw [N196.out.dm] at hdm
        have HEM := Keep.mk hdm
        clear hdm
        have hal := below_alloc1 w213 (.cells #[.slice E.a E.n E.c, .slice E.pa E.pn E.pc, .int .i64 E.left, .bool E.down] 25)
        have N214 : Keep (BxK (w213.alloc (.cells #[.slice E.a E.n E.c, .slice E.pa E.pn E.pc, .int .i64 E.left, .bool E.down] 25)) w213.heap.size E) := ⟨BxK.new hok⟩
        have H216 := Keep.mk ((H198.out.below hb).below hal)
        have H217 := Keep.mk ((H199.out.below hb).below hal)
        have H218 := Keep.mk ((H200.out.below hb).below hal)
        have H219 := Keep.mk ((H202.out.below hb).below hal)
        have H220 := Keep.mk ((N196.out.below hb).below hal)
        have B221 := Lib.hid (below_next (below_next B203.out hb (Nat.le_refl _)) hal (Nat.le_refl _))
        clear c206 c207 c208 c209 c210 c211 c212
        clear H198 H199 H200 H202 N196 B203
        clear hb hal hok hav
        go_upto_region 14 with (fail)
        generalize e223 : w213.alloc (.cells #[.slice E.a E.n E.c, .slice E.pa E.pn E.pc, .int .i64 E.left, .bool E.down] 25) = w222 at *
        clear e223
        obtain ⟨b215, hbk⟩ : ∃ b, b = w213.heap.size := ⟨_, rfl⟩
        rw [← hbk] at N214 ⊢
        clear hbk
        obtain ⟨c224, c225, c226, c227⟩ := N214.out.cs
        go_wp2_with fail
        refine (records_s (J := ⟨E, 0, 0, 0⟩) N214.out.ok HEM.out (Dv.crash_fits HWR.out.fit keep) (by decide) H216.out HSX.out).mono ?_
        rintro e w228 ⟨A2, n2, c2, S2, rfl, hrs, hb, hS⟩
        have HS2 := Keep.mk hS
        clear hS
        have N229 := Keep.mk ((hrs))
        have H230 := Keep.mk (H216.out.below hb)
        have H231 := Keep.mk (H217.out.below hb)
        have H232 := Keep.mk (H218.out.below hb)
        have H233 := Keep.mk (H219.out.below hb)
        have H234 := Keep.mk (H220.out.below hb)
        have H235 := Keep.mk (N214.out.below hb)
        have B236 := Lib.hid (below_next B221.out hb (Nat.le_refl _))
        clear c224 c225 c226 c227
        clear H216 H217 H218 H219 H220 N214 B221
        clear hb
        clear hrs
        clear H235
        clear H234
        clear H232
        go_upto_region 17 with (first
          | (at_builtin; refine wpList_append_app _ rfl (.tmp 85) (.tmp 86) 22 rfl w228.heap.size 26 (.slice none 0 0) 1 24 Tryd.underlying22 sl_info rfl (by decide) (by decide) (.slice none 0 0) 0 [] rfl (GS.nil _ _).tgt A1 n1 c1 (S1.map Sl.v) rfl H233.out.rd (sl_one _) (by omega) (Nat.le_refl _) ?_; intro A239 c240 w237 ha; have HA238 := Keep.mk ha; clear ha))
        have N241 := Keep.mk (WantL.first H233.out HA238.out)
        go_upto_region 18 with (first
          | (at_builtin; refine wpList_append_app _ rfl (.tmp 88) (.tmp 90) 22 rfl w228.heap.size 26 (.slice none 0 0) 1 24 Tryd.underlying22 sl_info rfl (by decide) (by decide) (.slice A239 n1 c240) n1 (S1.map Sl.v) rfl (N241.out.g.below (below_alloc1 _ _)).tgt (some ⟨w237.heap.size, 0, none⟩) 1 1 [.slice A n c] rfl (rd_one w237 _ _) (by simp [Value.oneCell']) (by omega) (by have := HA238.out.below.size; simp; omega) ?_; intro A244 c245 w242 ha; have HA243 := Keep.mk ha; clear ha))
        have N246 := Keep.mk (WantL.snoc (s := ⟨A, n, c, l⟩) (N241.out.below (below_alloc1 _ _)) HA243.out (RB.below (RB.below H231.out HA238.out.below) (below_alloc1 _ _)) H231.out (Nat.le_refl _) (by have := HA238.out.below.size; simp; omega))
        have HB247 := Lib.hid (want_bel HA238.out.below HA243.out.below)
        have H248 := Keep.mk (H230.out.below HB247.out)
        have H249 := Keep.mk (H231.out.below HB247.out)
        have H250 := Keep.mk (H233.out.below HB247.out)
        have H251 := Keep.mk (N229.out.below HB247.out)
        have B252 := Lib.hid (below_next B236.out HB247.out (Nat.le_refl _))
        clear H230 H231 H233 N229 B236
        clear HA243 N241 HA238
        go_wp2_with fail
        refine (ss_true H251.out N246.out.g.rs (by rw [HS2.out, List.map_append, HS1.out]; rfl)).mono ?_
        rintro e w253 ⟨rfl, hb⟩
        have H254 := Keep.mk (H248.out.below hb)
        have H255 := Keep.mk (H249.out.below hb)
        have H256 := Keep.mk (H250.out.below hb)
        have H257 := Keep.mk (H251.out.below hb)
        have H258 := Keep.mk (N246.out.below hb)
        have B259 := Lib.hid (below_next B252.out hb (Nat.le_refl _))
        clear H248 H249 H250 H251 N246 B252
        clear hb
        go_wp2_with fail
        refine (awake_any _ H254.out).mono ?_
        rintro e w260 ⟨rfl, hb⟩
        have H261 := Keep.mk (H254.out.below hb)
        have H262 := Keep.mk (H255.out.below hb)
        have H263 := Keep.mk (H256.out.below hb)
        have H264 := Keep.mk (H257.out.below hb)
        have H265 := Keep.mk (H258.out.below hb)
        have B266 := Lib.hid (below_next B259.out hb (Nat.le_refl _))
        clear H254 H255 H256 H257 H258 B259
        clear hb
        go_wp2
        go_ret
        exact ⟨rfl, B266.out⟩
      · have HSX := Keep.mk hsx
        clear hsx HCR
        obtain ⟨c267, c268, c269, c270, c271, c272, c273⟩ := H81.out.bx.cs
        go_wp2_with fail
        refine (append_bj H81.out HWJ.out (by decide) HIN.out H79.out HL3.out H78.out HR.out).mono ?_
        rintro e w274 ⟨K, rfl, hok, hm, hb, hav⟩
        have hal := below_alloc1 w274 (.cells #[.slice K.d.a K.d.n K.d.c, .slice K.d.pa K.d.pn K.d.pc, .int .i64 K.d.left, .bool K.d.down, .int .i64 K.e, .int .i64 K.h, .int .i64 K.c] 32)
        have N275 : Keep (BJ (w274.alloc (.cells #[.slice K.d.a K.d.n K.d.c, .slice K.d.pa K.d.pn K.d.pc, .int .i64 K.d.left, .bool K.d.down, .int .i64 K.e, .int .i64 K.h, .int .i64 K.c] 32)) w274.heap.size K r) := ⟨BJ.new hok hm⟩
        have H277 := Keep.mk ((H78.out.below hb).below hal)
        have H278 := Keep.mk ((H79.out.below hb).below hal)
        have H279 := Keep.mk ((H80.out.below hb).below hal)
        have H280 := Keep.mk ((H81.out.below hb).below hal)
        have H281 := Keep.mk ((N77.out.below hb).below hal)
        have B282 := Lib.hid (below_next (below_next B82.out hb (Nat.le_refl _)) hal (Nat.le_refl _))
        clear c267 c268 c269 c270 c271 c272 c273
        clear H78 H79 H80 H81 N77 B82
        clear hb hal hok hav
        try clear hm
        go_upto_region 9 with (fail)
        generalize e284 : w274.alloc (.cells #[.slice K.d.a K.d.n K.d.c, .slice K.d.pa K.d.pn K.d.pc, .int .i64 K.d.left, .bool K.d.down, .int .i64 K.e, .int .i64 K.h, .int .i64 K.c] 32) = w283 at *
        clear e284
        obtain ⟨b276, hbk⟩ : ∃ b, b = w274.heap.size := ⟨_, rfl⟩
        rw [← hbk] at N275 ⊢
        clear hbk
        clear H280
        go_upto_region 13 with (fail)
        obtain ⟨c285, c286, c287, c288, c289, c290, c291⟩ := N275.out.bx.cs
        go_wp2_with fail
        refine (retX (rcrash_any K.d B m cB keep 90 _ N275.out.bx.ok H279.out (by rw [N275.out.dm]; exact HWR.out.fit) (by decide))).mono ?_
        rintro e w292 ⟨E, rfl, hok, hdm, hb, hav⟩
        rw [N275.out.dm] at hdm
        have HEM := Keep.mk hdm
        clear hdm
        have hal := below_alloc1 w292 (.cells #[.slice E.a E.n E.c, .slice E.pa E.pn E.pc, .int .i64 E.left, .bool E.down] 25)
        have N293 : Keep (BxK (w292.alloc (.cells #[.slice E.a E.n E.c, .slice E.pa E.pn E.pc, .int .i64 E.left, .bool E.down] 25)) w292.heap.size E) := ⟨BxK.new hok⟩
        have H295 := Keep.mk ((H277.out.below hb).below hal)
        have H296 := Keep.mk ((H278.out.below hb).below hal)
        have H297 := Keep.mk ((H279.out.below hb).below hal)
        have H298 := Keep.mk ((H281.out.below hb).below hal)
        have H299 := Keep.mk ((N275.out.below hb).below hal)
        have B300 := Lib.hid (below_next (below_next B282.out hb (Nat.le_refl _)) hal (Nat.le_refl _))
        clear c285 c286 c287 c288 c289 c290 c291
        clear H277 H278 H279 H281 N275 B282
        clear hb hal hok hav
        go_upto_region 14 with (fail)
        generalize e302 : w292.alloc (.cells #[.slice E.a E.n E.c, .slice E.pa E.pn E.pc, .int .i64 E.left, .bool E.down] 25) = w301 at *
        clear e302
        obtain ⟨b294, hbk⟩ : ∃ b, b = w292.heap.size := ⟨_, rfl⟩
        rw [← hbk] at N293 ⊢
        clear hbk
        obtain ⟨c303, c304, c305, c306⟩ := N293.out.cs
        go_wp2_with fail
        refine (records_s (J := ⟨E, 0, 0, 0⟩) N293.out.ok HEM.out (Dv.crash_fits HWR.out.fit keep) (by decide) H295.out HSX.out).mono ?_
        rintro e w307 ⟨A2, n2, c2, S2, rfl, hrs, hb, hS⟩
        have HS2 := Keep.mk hS
        clear hS
        have N308 := Keep.mk ((hrs))
        have H309 := Keep.mk (H295.out.below hb)
        have H310 := Keep.mk (H296.out.below hb)
        have H311 := Keep.mk (H297.out.below hb)
        have H312 := Keep.mk (H298.out.below hb)
        have H313 := Keep.mk (H299.out.below hb)
        have H314 := Keep.mk (N293.out.below hb)
        have B315 := Lib.hid (below_next B300.out hb (Nat.le_refl _))
        clear c303 c304 c305 c306
        clear H295 H296 H297 H298 H299 N293 B300
        clear hb
        clear hrs
        clear H314
        clear H313
        clear H311
        go_upto_region 17 with (first
          | (at_builtin; refine wpList_append_app _ rfl (.tmp 85) (.tmp 86) 22 rfl w307.heap.size 26 (.slice none 0 0) 1 24 Tryd.underlying22 sl_info rfl (by decide) (by decide) (.slice none 0 0) 0 [] rfl (GS.nil _ _).tgt A1 n1 c1 (S1.map Sl.v) rfl H312.out.rd (sl_one _) (by omega) (Nat.le_refl _) ?_; intro A318 c319 w316 ha; have HA317 := Keep.mk ha; clear ha))
        have N320 := Keep.mk (WantL.first H312.out HA317.out)
        go_upto_region 18 with (first
          | (at_builtin; refine wpList_append_app _ rfl (.tmp 88) (.tmp 90) 22 rfl w307.heap.size 26 (.slice none 0 0) 1 24 Tryd.underlying22 sl_info rfl (by decide) (by decide) (.slice A318 n1 c319) n1 (S1.map Sl.v) rfl (N320.out.g.below (below_alloc1 _ _)).tgt (some ⟨w316.heap.size, 0, none⟩) 1 1 [.slice A n c] rfl (rd_one w316 _ _) (by simp [Value.oneCell']) (by omega) (by have := HA317.out.below.size; simp; omega) ?_; intro A323 c324 w321 ha; have HA322 := Keep.mk ha; clear ha))
        have N325 := Keep.mk (WantL.snoc (s := ⟨A, n, c, l⟩) (N320.out.below (below_alloc1 _ _)) HA322.out (RB.below (RB.below H310.out HA317.out.below) (below_alloc1 _ _)) H310.out (Nat.le_refl _) (by have := HA317.out.below.size; simp; omega))
        have HB326 := Lib.hid (want_bel HA317.out.below HA322.out.below)
        have H327 := Keep.mk (H309.out.below HB326.out)
        have H328 := Keep.mk (H310.out.below HB326.out)
        have H329 := Keep.mk (H312.out.below HB326.out)
        have H330 := Keep.mk (N308.out.below HB326.out)
        have B331 := Lib.hid (below_next B315.out HB326.out (Nat.le_refl _))
        clear H309 H310 H312 N308 B315
        clear HA322 N320 HA317
        go_wp2_with fail
        refine (ss_dec (b := false) H330.out N325.out.g.rs (by rw [HS2.out, List.map_append, HS1.out]; exact decide_eq_false fun h => by have := congrArg List.length h; simp at this)).mono ?_
        rintro e w332 ⟨rfl, hb⟩
        have H333 := Keep.mk (H327.out.below hb)
        have H334 := Keep.mk (H328.out.below hb)
        have H335 := Keep.mk (H329.out.below hb)
        have H336 := Keep.mk (H330.out.below hb)
        have H337 := Keep.mk (N325.out.below hb)
        have B338 := Lib.hid (below_next B331.out hb (Nat.le_refl _))
        clear H327 H328 H329 H330 N325 B331
        clear hb
        go_wp2_with fail
        refine (ss_true H336.out H335.out (by rw [HS2.out, HS1.out])).mono ?_
        rintro e w339 ⟨rfl, hb⟩
        have H340 := Keep.mk (H333.out.below hb)
        have H341 := Keep.mk (H334.out.below hb)
        have H342 := Keep.mk (H335.out.below hb)
        have H343 := Keep.mk (H336.out.below hb)
        have H344 := Keep.mk (H337.out.below hb)
        have B345 := Lib.hid (below_next B338.out hb (Nat.le_refl _))
        clear H333 H334 H335 H336 H337 B338
        clear hb
        go_wp2_with fail
        refine (awake_any _ H340.out).mono ?_
        rintro e w346 ⟨rfl, hb⟩
        have H347 := Keep.mk (H340.out.below hb)
        have H348 := Keep.mk (H341.out.below hb)
        have H349 := Keep.mk (H342.out.below hb)
        have H350 := Keep.mk (H343.out.below hb)
        have H351 := Keep.mk (H344.out.below hb)
        have B352 := Lib.hid (below_next B345.out hb (Nat.le_refl _))
        clear H340 H341 H342 H343 H344 B345
        clear hb
        go_wp2
        go_ret
        exact ⟨rfl, B352.out⟩
end Go.Proofs.YtjficpdfofmcnaaDoor

/- JournalCrashes: for every input the law returns true, and each argument reads afterwards as it read before. Conditions: the package variable digest.steps starts as the text lays it (tied by the card). -/
namespace Go.Proofs.YtjficpdfofmcnaaDoor.journalCrashesDone
open Go.ChangeShapes Go.WideShapes Go.ChangeAt Go.RowKit Go.Joins
open Go.ChangeMaps (open_string shut_string)
set_option linter.unusedVariables false

set_option maxRecDepth 100000 in
theorem contract (H : Type) (enc : TypeId × Value → H) (W : World) (base : Nat) (args : Array Value) (ds gs : List (DataW H)) (before : List MemPlace)
    (hval : ∀ (j : Nat) t v, Tryd.f3.params[j]? = some t → args[j]? = some v → Value.okWide Tryd.prog W .any base t v)
    (hW : DataW.Whole enc Tryd.prog Tryd.f3.params.toList Rows.journalCrashesSpec.vars false W args.toList ds gs before)
    (hsz0 : (DataW.weightsEach Tryd.prog (Tryd.f3.params.toList ++ (OpenSpec.ofChange Rows.journalCrashesSpec).bare.plain.varTypes Tryd.prog) (ds ++ gs)).all (· ≤ reachBytes) = true) (hL : laidMetH Tryd.prog Rows.journalCrashesRow.laid W) :
    Calls Tryd.prog 3 args W fun e W' => ∃ v, e = .returned v ∧ Rows.journalCrashesSpec.post enc Tryd.prog Tryd.f3 false true false false W args v W' := by
  have hT := tab_of hL
  have hsz : (DataW.weightsEach Tryd.prog (Tryd.f3.params.toList ++ []) (ds ++ gs)).all (· ≤ reachBytes) = true := hsz0
  have hW' := hW
  obtain ⟨p, q, hA0, hV, rfl, hfz, hnd⟩ := hW
  have hA : DataW.TrodAll enc Tryd.prog W 0 (fun _ => true) true Tryd.f3.params.toList args.toList ds p := hA0
  rw [Tryd.params3] at hA hval hsz
  obtain ⟨v0, vs0, d0, ds0, p0, q0, hargs, rfl, rfl, h0, t0⟩ := trodAll_cons hA
  obtain ⟨v1, vs1, d1, ds1, p1, q1, rfl, rfl, rfl, h1, t1⟩ := trodAll_cons t0
  obtain ⟨v2, vs2, d2, ds2, p2, q2, rfl, rfl, rfl, h2, t2⟩ := trodAll_cons t1
  obtain ⟨v3, vs3, d3, ds3, p3, q3, rfl, rfl, rfl, h3, t3⟩ := trodAll_cons t2
  obtain ⟨rfl, rfl, rfl⟩ := trodAll_nil t3
  obtain rfl : args = #[v0, v1, v2, v3] := by cases args; simp_all
  obtain ⟨rfl, rfl⟩ := trodVars_none hV
  have k0 := h0
  have lt0 : ∀ x ∈ p0, x.block < W.heap.size := by obtain ⟨m, hm⟩ := k0; exact DataW.trod_lt m _ _ _ hm
  have k1 := h1
  have lt1 : ∀ x ∈ p1, x.block < W.heap.size := by obtain ⟨m, hm⟩ := k1; exact DataW.trod_lt m _ _ _ hm
  have k2 := h2
  have lt2 : ∀ x ∈ p2, x.block < W.heap.size := by obtain ⟨m, hm⟩ := k2; exact DataW.trod_lt m _ _ _ hm
  have k3 := h3
  have lt3 : ∀ x ∈ p3, x.block < W.heap.size := by obtain ⟨m, hm⟩ := k3; exact DataW.trod_lt m _ _ _ hm
  obtain ⟨o0, rfl, r0, f0⟩ := open_disk (hval 0 25 v0 rfl rfl) h0
  have s0 := bounds_i64 f0
  obtain ⟨A1, n1, c1, l1, rfl, r1, z1⟩ := open_rb Tryd.underlying26 Tryd.underlying5 (by kernel_rfl) (hval 1 26 v1 rfl rfl) h1
  have s1 : n1 ≤ 140737488351232 := by have := z1.reach hsz (j := 1) (t := 26) (e := 5) rfl rfl Tryd.underlying26; rw [show Tryd.prog.bytesOf 5 = 1 by kernel_rfl] at this; omega
  obtain ⟨a2, rfl, rfl, rfl, f2⟩ := open_int Tryd.underlying3 (hval 2 3 v2 rfl rfl) h2
  have s2 := bounds_i64 f2
  obtain ⟨A3, n3, c3, l3, rfl, r3, f3, z3⟩ := open_ri Tryd.underlying27 Tryd.underlying3 (by kernel_rfl) (hval 3 27 v3 rfl rfl) h3
  have s3 : n3 * 8 ≤ 140737488351232 := by have := z3.reach hsz (j := 3) (t := 27) (e := 3) rfl rfl Tryd.underlying27; rwa [show Tryd.prog.bytesOf 3 = 8 by kernel_rfl] at this
  clear hA0 hsz0
  refine (law_crashes o0 A1 n1 c1 l1 a2 A3 n3 c3 l3 W r0 r1 r3 hT s2.2).mono fun e W' ⟨he, bel⟩ => ?_
  subst he
  exact ⟨_, rfl, _, _, _, [], _, [], hW', trodAll_mk1 (shut_bool Tryd.underlying4 _), (trodAll_cons_mk (Below.trod laidOut (by kernel_rfl) (of_decide_eq_true (by kernel_rfl)) k0 bel lt0) (trodAll_cons_mk (Below.trod laidOut (by kernel_rfl) (of_decide_eq_true (by kernel_rfl)) k1 bel lt1) (trodAll_cons_mk (Below.trod laidOut (by kernel_rfl) (of_decide_eq_true (by kernel_rfl)) k2 bel lt2) (trodAll_cons_mk (Below.trod laidOut (by kernel_rfl) (of_decide_eq_true (by kernel_rfl)) k3 bel lt3) (trodAll_mk0))))), rfl, bel.frame _, fun h => by cases h⟩

theorem laid_met (os : Os) : laidMet Tryd.prog Rows.journalCrashesRow.laid ((laidWorld os).forCall (fun _ _ => 0) ⟨#[], #[.agg #[.slice none 0 0, .slice none 0 0, .int .i64 0, .bool false], .slice none 0 0, .int .i64 0, .slice none 0 0], []⟩).memory :=
  laidMet_of_run' 8 (by kernel_rfl) (by kernel_rfl)
theorem reads (os : Os) {H : Type} (enc : TypeId × Value → H) : ∃ places, DataW.whole enc Tryd.prog ((laidWorld os).forCall (fun _ _ => 0) ⟨#[], #[.agg #[.slice none 0 0, .slice none 0 0, .int .i64 0, .bool false], .slice none 0 0, .int .i64 0, .slice none 0 0], []⟩).memory Tryd.f3.params.toList Rows.journalCrashesSpec.vars false (#[.agg #[.slice none 0 0, .slice none 0 0, .int .i64 0, .bool false], .slice none 0 0, .int .i64 0, .slice none 0 0] : Array Value).toList 8 = some ([.agg [.nil, .nil, .lit (.int .i64 0), .lit (.bool false)], .nil, .lit (.int .i64 0), .nil], [], places) :=
  ⟨[], by kernel_rfl⟩
set_option maxRecDepth 100000 in
theorem lifted (os : Os) (started : os.Started) (H : Type) (enc : TypeId × Value → H) (F : Stop.Interp) :
    ReturnsInHanded {} Tryd.checked os 3 .any ((OpenSpec.ofChange Rows.journalCrashesSpec).preRow enc Tryd.prog Tryd.f3 Rows.journalCrashesRow.domain false Rows.journalCrashesRow.laid) (((OpenSpec.ofChange Rows.journalCrashesSpec).at F).post enc Tryd.prog Tryd.f3 false true false false) := by
  obtain ⟨places, hx⟩ := reads os enc
  refine returnsInHanded_of_row (C := Tryd.checked) (s := OpenSpec.ofChange Rows.journalCrashesSpec) own started (by kernel_rfl) Tryd.func3
    (witness_row_at (enc := enc) (C := Tryd.checked) false (laidWorld os) #[.agg #[.slice none 0 0, .slice none 0 0, .int .i64 0, .bool false], .slice none 0 0, .int .i64 0, .slice none 0 0] rfl (by kernel_rfl) (by kernel_rfl) (by kernel_rfl)
      (OpenSpec.preRow_of_cond 8 hx (by kernel_rfl) (fun k hk => by cases hk) (by kernel_rfl) (laid_met os))) ?_
  intro W base args ds gs before hval hW _ _ hsz hL _ _
  exact contract H enc W base args ds gs before hval hW hsz hL

theorem said : Rows.JournalCrashesSaid :=
  OpenClaim.holds_of_cond 3 Tryd.f3 rfl rfl rfl rfl rfl rfl rfl ⟨rfl, rfl, rfl, rfl, rfl⟩ rfl rfl rfl rfl rfl (by kernel_rfl) Tryd.func3 (by kernel_rfl)
    (of_decide_eq_true (by kernel_rfl)) (by unfold Func.isWrapper; first | (rw [if_pos (by decide +kernel)]; kernel_rfl) | (rw [if_neg (by decide +kernel)]; exact ⟨rfl, rfl⟩))
    (fun os started H enc _ F => by rw [OpenClaim.pre_eq_preRow]; exact lifted os started H enc F)
theorem plain (f : FuncId) (fn : Func) (hf : Tryd.pinned.checked.prog.funcNamed "mapsheets/mapsheetslaw25.JournalCrashes" = some f) (hfn : Tryd.pinned.checked.prog.funcs[f]? = some fn) :
    false = Tryd.pinned.checked.prog.looks [] ∧ ∀ (j : Nat) t, fn.params[j]? = some t → Tryd.pinned.checked.prog.wantsStandIn t = false := by
  obtain rfl : f = 3 := Option.some.inj ((show Tryd.prog.funcNamed "mapsheets/mapsheetslaw25.JournalCrashes" = some 3 by kernel_rfl).symm.trans hf) |>.symm
  obtain rfl : fn = Tryd.f3 := (Option.some.inj (Tryd.func3.symm.trans hfn)).symm
  refine ⟨by kernel_rfl, fun j t ht => ?_⟩
  rw [Tryd.params3] at ht
  have hm := Array.mem_of_getElem? ht
  simp only [List.mem_toArray, List.mem_cons, List.not_mem_nil, or_false] at hm
  rcases hm with rfl | rfl | rfl | rfl
  · exact (show Tryd.prog.wantsStandIn 25 = false by kernel_rfl)
  · exact (show Tryd.prog.wantsStandIn 26 = false by kernel_rfl)
  · exact (show Tryd.prog.wantsStandIn 3 = false by kernel_rfl)
  · exact (show Tryd.prog.wantsStandIn 27 = false by kernel_rfl)
end Go.Proofs.YtjficpdfofmcnaaDoor.journalCrashesDone
namespace Go.Proofs.YtjficpdfofmcnaaDoor
/-- THE STATEMENT -/
theorem journalCrashes_proved : Rows.JournalCrashesCardSaid :=
  Claim7.holds_tied_plain_at .later [] _ _ _ _ journalCrashesDone.said (fun _ h => by cases h) (by kernel_rfl) (fun _ h => by cases h) journalCrashes_row_tie rfl ⟨rfl, rfl⟩ (by kernel_rfl) rfl journalCrashesDone.plain (by kernel_rfl)
#print axioms journalCrashes_proved
end Go.Proofs.YtjficpdfofmcnaaDoor
