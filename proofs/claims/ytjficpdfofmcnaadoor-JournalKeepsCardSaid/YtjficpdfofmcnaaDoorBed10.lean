/- The journal: Append. -/
import Derived.Test.YtjficpdfofmcnaaDoorBed9
import Derived.Defers
import Derived.Deep.RegionHeld3
import Derived.RegionTactic
/- The journal's wrong, Free; the reference's right, Free. -/
namespace Go.Proofs.YtjficpdfofmcnaaDoor
open Go.RowKit Go.Joins

/-- Are the numbers of a journal out of their ranges? -/
def Jl.wrong (j : Jl) : Bool := decide (j.e < 1 ∨ 1073741824 < j.e ∨ j.c < 0 ∨ 1073741824 < j.c ∨ j.h < 64 ∨ 64 * (j.d.sectors.length : Int) < j.h ∨ j.h % 64 ≠ 0)
/-- The size of the greatest record that can be added. -/
def Jl.free (j : Jl) : Int := if j.wrong = true then -1 else if (j.d.sectors.length : Int) - j.h / 64 = 0 then -1 else 63 * ((j.d.sectors.length : Int) - j.h / 64 - 1)
theorem wrong_no {j : Jl} (h : j.wrong = false) : 1 ≤ j.e ∧ j.e ≤ 1073741824 ∧ 0 ≤ j.c ∧ j.c ≤ 1073741824 ∧ 64 ≤ j.h ∧ j.h ≤ 64 * (j.d.sectors.length : Int) ∧ j.h % 64 = 0 := by
  simp only [Jl.wrong, decide_eq_false_iff_not] at h
  omega
theorem wrong_yes {j : Jl} (h : j.e < 1 ∨ 1073741824 < j.e ∨ j.c < 0 ∨ 1073741824 < j.c ∨ j.h < 64 ∨ 64 * (j.d.sectors.length : Int) < j.h ∨ j.h % 64 ≠ 0) : j.wrong = true := by
  simp only [Jl.wrong, decide_eq_true_eq]
  exact h
theorem wrong_not {j : Jl} (h : ¬ (j.e < 1 ∨ 1073741824 < j.e ∨ j.c < 0 ∨ 1073741824 < j.c ∨ j.h < 64 ∨ 64 * (j.d.sectors.length : Int) < j.h ∨ j.h % 64 ≠ 0)) : j.wrong = false := by
  simp only [Jl.wrong, decide_eq_false_iff_not]
  exact h

set_option maxHeartbeats 2000000 in
set_option maxRecDepth 100000 in
theorem wrong_any (j : Jk) (w : World) (h : j.d.Ok w) (hns : j.d.n ≤ 4096) (hH : V.In j.h) :
    Calls Tryd.prog 30 #[.agg #[.slice j.d.a j.d.n j.d.c, .slice j.d.pa j.d.pn j.d.pc, .int .i64 j.d.left, .bool j.d.down, .int .i64 j.e, .int .i64 j.h, .int .i64 j.c]] w fun e w' => e = .returned (.bool j.m.wrong) ∧ Below w.heap.size w w' := by
  have hdl := dk_len h
  have IX := Keep.mk (BxJ.new h)
  have HB0 : Hid (Below w.heap.size w (w.alloc (.cells #[.slice j.d.a j.d.n j.d.c, .slice j.d.pa j.d.pn j.d.pc, .int .i64 j.d.left, .bool j.d.down, .int .i64 j.e, .int .i64 j.h, .int .i64 j.c] 32))) := below_alloc1 _ _
  have hbig := Nat.le_trans h.sec.cap h.sec.big
  unfold maxLen at hbig
  have hdm : (j.m.d.sectors.length : Int) = (j.d.n : Int) := by unfold Jk.m; simp only; omega
  have HDM := Keep.mk hdm
  obtain ⟨i0, i1, i2, i3, i4, i5, i6⟩ := IX.out.cs
  have hn : j.d.n ≤ 4096 := hns
  have hh1 := hH.1
  have hh2 := hH.2
  clear h hdl hdm hH
  by_cases c0 : j.e < 1
  · have b0 : decide (j.e < 1) = true := decide_eq_true c0
    have HWR : Keep (j.m.wrong = true) := ⟨wrong_yes (by rw [HDM.out]; simp only [Jk.m]; omega)⟩
    clear c0
    go_enter Tryd.func30, Tryd.ntmps30
    go_wp2
    go_ret
    rw [HWR.out]
    exact ⟨rfl, HB0.out⟩
  · have b0 : decide (j.e < 1) = false := decide_eq_false c0
    by_cases c1 : 1073741824 < j.e
    · have b1 : decide (1073741824 < j.e) = true := decide_eq_true c1
      have HWR : Keep (j.m.wrong = true) := ⟨wrong_yes (by rw [HDM.out]; simp only [Jk.m]; omega)⟩
      clear c0 c1
      go_enter Tryd.func30, Tryd.ntmps30
      go_wp2
      go_ret
      rw [HWR.out]
      exact ⟨rfl, HB0.out⟩
    · have b1 : decide (1073741824 < j.e) = false := decide_eq_false c1
      by_cases c2 : j.c < 0
      · have b2 : decide (j.c < 0) = true := decide_eq_true c2
        have HWR : Keep (j.m.wrong = true) := ⟨wrong_yes (by rw [HDM.out]; simp only [Jk.m]; omega)⟩
        clear c0 c1 c2
        go_enter Tryd.func30, Tryd.ntmps30
        go_wp2
        go_ret
        rw [HWR.out]
        exact ⟨rfl, HB0.out⟩
      · have b2 : decide (j.c < 0) = false := decide_eq_false c2
        by_cases c3 : 1073741824 < j.c
        · have b3 : decide (1073741824 < j.c) = true := decide_eq_true c3
          have HWR : Keep (j.m.wrong = true) := ⟨wrong_yes (by rw [HDM.out]; simp only [Jk.m]; omega)⟩
          clear c0 c1 c2 c3
          go_enter Tryd.func30, Tryd.ntmps30
          go_wp2
          go_ret
          rw [HWR.out]
          exact ⟨rfl, HB0.out⟩
        · have b3 : decide (1073741824 < j.c) = false := decide_eq_false c3
          by_cases c4 : j.h < 64
          · have b4 : decide (j.h < 64) = true := decide_eq_true c4
            have HWR : Keep (j.m.wrong = true) := ⟨wrong_yes (by rw [HDM.out]; simp only [Jk.m]; omega)⟩
            clear c0 c1 c2 c3 c4
            go_enter Tryd.func30, Tryd.ntmps30
            go_wp2
            go_ret
            rw [HWR.out]
            exact ⟨rfl, HB0.out⟩
          · have b4 : decide (j.h < 64) = false := decide_eq_false c4
            have hp : 0 ≤ j.h := by omega
            by_cases c5 : 64 * (j.d.n : Int) < j.h
            · have b5 : decide (64 * (j.d.n : Int) < j.h) = true := decide_eq_true c5
              have HWR : Keep (j.m.wrong = true) := ⟨wrong_yes (by rw [HDM.out]; simp only [Jk.m]; omega)⟩
              clear c0 c1 c2 c3 c4 c5
              go_enter Tryd.func30, Tryd.ntmps30
              go_wp2
              go_ret
              rw [HWR.out]
              exact ⟨rfl, HB0.out⟩
            · have b5 : decide (64 * (j.d.n : Int) < j.h) = false := decide_eq_false c5
              by_cases c6 : j.h % 64 ≠ 0
              · have b6 : (j.h % 64 != 0) = true := by simpa using c6
                have HWR : Keep (j.m.wrong = true) := ⟨wrong_yes (by rw [HDM.out]; simp only [Jk.m]; omega)⟩
                clear c0 c1 c2 c3 c4 c5 c6
                go_enter Tryd.func30, Tryd.ntmps30
                go_wp2
                go_ret
                rw [HWR.out]
                exact ⟨rfl, HB0.out⟩
              · have b6 : (j.h % 64 != 0) = false := by simpa using c6
                have HWR : Keep (j.m.wrong = false) := ⟨wrong_not (by rw [HDM.out]; simp only [Jk.m]; omega)⟩
                clear c0 c1 c2 c3 c4 c5 c6
                go_enter Tryd.func30, Tryd.ntmps30
                go_wp2
                go_ret
                rw [HWR.out]
                exact ⟨rfl, HB0.out⟩

set_option maxHeartbeats 2000000 in
set_option maxRecDepth 100000 in
theorem right_any (j : Jk) (w : World) (h : j.d.Ok w) (hns : j.d.n ≤ 4096) (hH : V.In j.h) :
    Calls Tryd.prog 54 #[.agg #[.slice j.d.a j.d.n j.d.c, .slice j.d.pa j.d.pn j.d.pc, .int .i64 j.d.left, .bool j.d.down, .int .i64 j.e, .int .i64 j.h, .int .i64 j.c]] w fun e w' => e = .returned (.bool (!j.m.wrong)) ∧ Below w.heap.size w w' := by
  have hdl := dk_len h
  have IX := Keep.mk (BxJ.new h)
  have HB0 : Hid (Below w.heap.size w (w.alloc (.cells #[.slice j.d.a j.d.n j.d.c, .slice j.d.pa j.d.pn j.d.pc, .int .i64 j.d.left, .bool j.d.down, .int .i64 j.e, .int .i64 j.h, .int .i64 j.c] 32))) := below_alloc1 _ _
  have hbig := Nat.le_trans h.sec.cap h.sec.big
  unfold maxLen at hbig
  have hdm : (j.m.d.sectors.length : Int) = (j.d.n : Int) := by unfold Jk.m; simp only; omega
  have HDM := Keep.mk hdm
  obtain ⟨i0, i1, i2, i3, i4, i5, i6⟩ := IX.out.cs
  have hn : j.d.n ≤ 4096 := hns
  have hh1 := hH.1
  have hh2 := hH.2
  clear h hdl hdm hH
  by_cases hp : 0 ≤ j.h
  · skip
    by_cases c0 : 1 ≤ j.e
    rotate_left
    · have b0 : decide (1 ≤ j.e) = false := decide_eq_false c0
      have HWR : Keep ((!j.m.wrong) = false) := ⟨by rw [wrong_yes (j := j.m) (by rw [HDM.out]; simp only [Jk.m]; omega)]; rfl⟩
      clear c0
      go_enter Tryd.func54, Tryd.ntmps54
      go_wp2
      go_ret
      rw [HWR.out]
      exact ⟨rfl, HB0.out⟩
    have b0 : decide (1 ≤ j.e) = true := decide_eq_true c0
    by_cases c1 : j.e ≤ 1073741824
    rotate_left
    · have b1 : decide (j.e ≤ 1073741824) = false := decide_eq_false c1
      have HWR : Keep ((!j.m.wrong) = false) := ⟨by rw [wrong_yes (j := j.m) (by rw [HDM.out]; simp only [Jk.m]; omega)]; rfl⟩
      clear c0 c1
      go_enter Tryd.func54, Tryd.ntmps54
      go_wp2
      go_ret
      rw [HWR.out]
      exact ⟨rfl, HB0.out⟩
    have b1 : decide (j.e ≤ 1073741824) = true := decide_eq_true c1
    by_cases c2 : 0 ≤ j.c
    rotate_left
    · have b2 : decide (0 ≤ j.c) = false := decide_eq_false c2
      have HWR : Keep ((!j.m.wrong) = false) := ⟨by rw [wrong_yes (j := j.m) (by rw [HDM.out]; simp only [Jk.m]; omega)]; rfl⟩
      clear c0 c1 c2
      go_enter Tryd.func54, Tryd.ntmps54
      go_wp2
      go_ret
      rw [HWR.out]
      exact ⟨rfl, HB0.out⟩
    have b2 : decide (0 ≤ j.c) = true := decide_eq_true c2
    by_cases c3 : j.c ≤ 1073741824
    rotate_left
    · have b3 : decide (j.c ≤ 1073741824) = false := decide_eq_false c3
      have HWR : Keep ((!j.m.wrong) = false) := ⟨by rw [wrong_yes (j := j.m) (by rw [HDM.out]; simp only [Jk.m]; omega)]; rfl⟩
      clear c0 c1 c2 c3
      go_enter Tryd.func54, Tryd.ntmps54
      go_wp2
      go_ret
      rw [HWR.out]
      exact ⟨rfl, HB0.out⟩
    have b3 : decide (j.c ≤ 1073741824) = true := decide_eq_true c3
    by_cases c4 : j.h % 64 = 0
    rotate_left
    · have b4 : (j.h % 64 == 0) = false := by simpa using c4
      have HWR : Keep ((!j.m.wrong) = false) := ⟨by rw [wrong_yes (j := j.m) (by rw [HDM.out]; simp only [Jk.m]; omega)]; rfl⟩
      clear c0 c1 c2 c3 c4
      go_enter Tryd.func54, Tryd.ntmps54
      go_wp2
      go_ret
      rw [HWR.out]
      exact ⟨rfl, HB0.out⟩
    have b4 : (j.h % 64 == 0) = true := by simp [c4]
    by_cases c5 : 64 ≤ j.h
    rotate_left
    · have b5 : decide (64 ≤ j.h) = false := decide_eq_false c5
      have HWR : Keep ((!j.m.wrong) = false) := ⟨by rw [wrong_yes (j := j.m) (by rw [HDM.out]; simp only [Jk.m]; omega)]; rfl⟩
      clear c0 c1 c2 c3 c4 c5
      go_enter Tryd.func54, Tryd.ntmps54
      go_wp2
      go_ret
      rw [HWR.out]
      exact ⟨rfl, HB0.out⟩
    have b5 : decide (64 ≤ j.h) = true := decide_eq_true c5
    by_cases c6 : j.h / 64 ≤ (j.d.n : Int)
    rotate_left
    · have b6 : decide (j.h / 64 ≤ (j.d.n : Int)) = false := decide_eq_false c6
      have HWR : Keep ((!j.m.wrong) = false) := ⟨by rw [wrong_yes (j := j.m) (by rw [HDM.out]; simp only [Jk.m]; omega)]; rfl⟩
      clear c0 c1 c2 c3 c4 c5 c6
      go_enter Tryd.func54, Tryd.ntmps54
      go_wp2
      go_ret
      rw [HWR.out]
      exact ⟨rfl, HB0.out⟩
    have b6 : decide (j.h / 64 ≤ (j.d.n : Int)) = true := decide_eq_true c6
    have HWR : Keep ((!j.m.wrong) = true) := ⟨by rw [wrong_not (j := j.m) (by rw [HDM.out]; simp only [Jk.m]; omega)]; rfl⟩
    clear c0 c1 c2 c3 c4 c5 c6
    go_enter Tryd.func54, Tryd.ntmps54
    go_wp2
    go_ret
    rw [HWR.out]
    exact ⟨rfl, HB0.out⟩
  · skip
    by_cases c0 : 1 ≤ j.e
    rotate_left
    · have b0 : decide (1 ≤ j.e) = false := decide_eq_false c0
      have HWR : Keep ((!j.m.wrong) = false) := ⟨by rw [wrong_yes (j := j.m) (by rw [HDM.out]; simp only [Jk.m]; omega)]; rfl⟩
      clear c0
      go_enter Tryd.func54, Tryd.ntmps54
      go_wp2
      go_ret
      rw [HWR.out]
      exact ⟨rfl, HB0.out⟩
    have b0 : decide (1 ≤ j.e) = true := decide_eq_true c0
    by_cases c1 : j.e ≤ 1073741824
    rotate_left
    · have b1 : decide (j.e ≤ 1073741824) = false := decide_eq_false c1
      have HWR : Keep ((!j.m.wrong) = false) := ⟨by rw [wrong_yes (j := j.m) (by rw [HDM.out]; simp only [Jk.m]; omega)]; rfl⟩
      clear c0 c1
      go_enter Tryd.func54, Tryd.ntmps54
      go_wp2
      go_ret
      rw [HWR.out]
      exact ⟨rfl, HB0.out⟩
    have b1 : decide (j.e ≤ 1073741824) = true := decide_eq_true c1
    by_cases c2 : 0 ≤ j.c
    rotate_left
    · have b2 : decide (0 ≤ j.c) = false := decide_eq_false c2
      have HWR : Keep ((!j.m.wrong) = false) := ⟨by rw [wrong_yes (j := j.m) (by rw [HDM.out]; simp only [Jk.m]; omega)]; rfl⟩
      clear c0 c1 c2
      go_enter Tryd.func54, Tryd.ntmps54
      go_wp2
      go_ret
      rw [HWR.out]
      exact ⟨rfl, HB0.out⟩
    have b2 : decide (0 ≤ j.c) = true := decide_eq_true c2
    by_cases c3 : j.c ≤ 1073741824
    rotate_left
    · have b3 : decide (j.c ≤ 1073741824) = false := decide_eq_false c3
      have HWR : Keep ((!j.m.wrong) = false) := ⟨by rw [wrong_yes (j := j.m) (by rw [HDM.out]; simp only [Jk.m]; omega)]; rfl⟩
      clear c0 c1 c2 c3
      go_enter Tryd.func54, Tryd.ntmps54
      go_wp2
      go_ret
      rw [HWR.out]
      exact ⟨rfl, HB0.out⟩
    have b3 : decide (j.c ≤ 1073741824) = true := decide_eq_true c3
    by_cases c4 : j.h.tmod 64 = 0
    rotate_left
    · have b4 : (j.h.tmod 64 == 0) = false := by simpa using c4
      have HWR : Keep ((!j.m.wrong) = false) := ⟨by rw [wrong_yes (j := j.m) (by rw [HDM.out]; simp only [Jk.m]; omega)]; rfl⟩
      clear c0 c1 c2 c3 c4
      go_enter Tryd.func54, Tryd.ntmps54
      go_wp2
      go_ret
      rw [HWR.out]
      exact ⟨rfl, HB0.out⟩
    have b4 : (j.h.tmod 64 == 0) = true := by simp [c4]
    by_cases c5 : 64 ≤ j.h
    rotate_left
    · have b5 : decide (64 ≤ j.h) = false := decide_eq_false c5
      have HWR : Keep ((!j.m.wrong) = false) := ⟨by rw [wrong_yes (j := j.m) (by rw [HDM.out]; simp only [Jk.m]; omega)]; rfl⟩
      clear c0 c1 c2 c3 c4 c5
      go_enter Tryd.func54, Tryd.ntmps54
      go_wp2
      go_ret
      rw [HWR.out]
      exact ⟨rfl, HB0.out⟩
    have b5 : decide (64 ≤ j.h) = true := decide_eq_true c5
    exfalso
    omega
end Go.Proofs.YtjficpdfofmcnaaDoor

/- The journal's Free; the reference's Free. -/
namespace Go.Proofs.YtjficpdfofmcnaaDoor
open Go.RowKit Go.Joins

theorem free_wrong {j : Jl} (h : j.wrong = true) : j.free = -1 := by unfold Jl.free; rw [if_pos h]
theorem free_right {j : Jl} (h : j.wrong = false) : j.free = if (j.d.sectors.length : Int) - j.h / 64 = 0 then -1 else 63 * ((j.d.sectors.length : Int) - j.h / 64 - 1) := by
  unfold Jl.free
  rw [if_neg (by rw [h]; decide)]
theorem free_le {j : Jl} (hn : j.d.sectors.length ≤ 4096) : -1 ≤ j.free ∧ j.free ≤ 300000 := by
  cases h : j.wrong
  · rw [free_right h]
    have := wrong_no h
    split <;> omega
  · rw [free_wrong h]
    omega

set_option maxHeartbeats 2000000 in
set_option maxRecDepth 100000 in
theorem free_any (j : Jk) (w : World) (h : j.d.Ok w) (hns : j.d.n ≤ 4096) (hH : V.In j.h) :
    Calls Tryd.prog 20 #[.agg #[.slice j.d.a j.d.n j.d.c, .slice j.d.pa j.d.pn j.d.pc, .int .i64 j.d.left, .bool j.d.down, .int .i64 j.e, .int .i64 j.h, .int .i64 j.c]] w fun e w' => e = .returned (.int .i64 j.m.free) ∧ Below w.heap.size w w' := by
  have hdl := dk_len h
  have IX := Keep.mk (BxJ.new h)
  have HB0 : Hid (Below w.heap.size w (w.alloc (.cells #[.slice j.d.a j.d.n j.d.c, .slice j.d.pa j.d.pn j.d.pc, .int .i64 j.d.left, .bool j.d.down, .int .i64 j.e, .int .i64 j.h, .int .i64 j.c] 32))) := below_alloc1 _ _
  have hbig := Nat.le_trans h.sec.cap h.sec.big
  unfold maxLen at hbig
  have hdm : (j.m.d.sectors.length : Int) = (j.d.n : Int) := by unfold Jk.m; simp only; omega
  have HDM := Keep.mk hdm
  have CW := Keep.mk (fun (X : World) (hX : Below w.heap.size w X) => wrong_any j X (h.below hX) hns hH)
  obtain ⟨i0, i1, i2, i3, i4, i5, i6⟩ := IX.out.cs
  cases hw : j.m.wrong
  · have hno := wrong_no hw
    rw [hdm] at hno
    have hp : 0 ≤ j.h := by have := hno.2.2.2.2.1; simp only [Jk.m] at this; omega
    have hq : j.h ≤ 64 * (j.d.n : Int) := by have := hno.2.2.2.2.2.1; simp only [Jk.m] at this; omega
    have HFR := Keep.mk (free_right hw)
    rw [hw] at CW
    clear h hdl hdm hH hno hw
    have hd1 : j.h / 64 ≤ (j.d.n : Int) := by omega
    have hd0 : 0 ≤ j.h / 64 := by omega
    by_cases hz : (j.d.n : Int) - j.h / 64 = 0
    · have b0 : ((j.d.n : Int) - j.h / 64 == 0) = true := by simp [hz]
      have HRE : Keep (j.m.free = -1) := ⟨by rw [HFR.out, HDM.out]; exact if_pos hz⟩
      clear hz
      go_enter Tryd.func20, Tryd.ntmps20
      go_wp2_with fail
      refine (CW.out _ HB0.out).mono ?_
      rintro e w2 ⟨rfl, hb⟩
      have HB2 := Lib.hid (below_next HB0.out hb (Nat.le_refl _))
      have IX2 := Keep.mk (IX.out.below hb)
      clear hb i0 i1 i2 i3 i4 i5 i6
      obtain ⟨i0, i1, i2, i3, i4, i5, i6⟩ := IX2.out.cs
      go_wp2
      go_ret
      rw [HRE.out]
      exact ⟨rfl, HB2.out⟩
    · have b0 : ((j.d.n : Int) - j.h / 64 == 0) = false := by simp [hz]
      have HRE : Keep (j.m.free = 63 * ((j.d.n : Int) - j.h / 64 - 1)) := ⟨by rw [HFR.out, HDM.out]; exact if_neg hz⟩
      clear hz
      go_enter Tryd.func20, Tryd.ntmps20
      go_wp2_with fail
      refine (CW.out _ HB0.out).mono ?_
      rintro e w2 ⟨rfl, hb⟩
      have HB2 := Lib.hid (below_next HB0.out hb (Nat.le_refl _))
      have IX2 := Keep.mk (IX.out.below hb)
      clear hb i0 i1 i2 i3 i4 i5 i6
      obtain ⟨i0, i1, i2, i3, i4, i5, i6⟩ := IX2.out.cs
      go_wp2
      go_ret
      rw [HRE.out]
      exact ⟨rfl, HB2.out⟩
  · have HRE := Keep.mk (free_wrong hw)
    rw [hw] at CW
    clear h hdl hdm hH hw
    go_enter Tryd.func20, Tryd.ntmps20
    go_wp2_with fail
    refine (CW.out _ HB0.out).mono ?_
    rintro e w2 ⟨rfl, hb⟩
    have HB2 := Lib.hid (below_next HB0.out hb (Nat.le_refl _))
    clear hb i0 i1 i2 i3 i4 i5 i6
    go_wp2
    go_ret
    rw [HRE.out]
    exact ⟨rfl, HB2.out⟩

set_option maxHeartbeats 2000000 in
set_option maxRecDepth 100000 in
theorem rfree_any (j : Jk) (w : World) (h : j.d.Ok w) (hns : j.d.n ≤ 4096) (hH : V.In j.h) :
    Calls Tryd.prog 26 #[.agg #[.slice j.d.a j.d.n j.d.c, .slice j.d.pa j.d.pn j.d.pc, .int .i64 j.d.left, .bool j.d.down, .int .i64 j.e, .int .i64 j.h, .int .i64 j.c]] w fun e w' => e = .returned (.int .i64 j.m.free) ∧ Below w.heap.size w w' := by
  have hdl := dk_len h
  have IX := Keep.mk (BxJ.new h)
  have HB0 : Hid (Below w.heap.size w (w.alloc (.cells #[.slice j.d.a j.d.n j.d.c, .slice j.d.pa j.d.pn j.d.pc, .int .i64 j.d.left, .bool j.d.down, .int .i64 j.e, .int .i64 j.h, .int .i64 j.c] 32))) := below_alloc1 _ _
  have hbig := Nat.le_trans h.sec.cap h.sec.big
  unfold maxLen at hbig
  have hdm : (j.m.d.sectors.length : Int) = (j.d.n : Int) := by unfold Jk.m; simp only; omega
  have HDM := Keep.mk hdm
  have CW := Keep.mk (fun (X : World) (hX : Below w.heap.size w X) => right_any j X (h.below hX) hns hH)
  obtain ⟨i0, i1, i2, i3, i4, i5, i6⟩ := IX.out.cs
  cases hw : j.m.wrong
  · have hno := wrong_no hw
    rw [hdm] at hno
    have hp : 0 ≤ j.h := by have := hno.2.2.2.2.1; simp only [Jk.m] at this; omega
    have hq : j.h ≤ 64 * (j.d.n : Int) := by have := hno.2.2.2.2.2.1; simp only [Jk.m] at this; omega
    have HFR := Keep.mk (free_right hw)
    rw [hw] at CW
    clear h hdl hdm hH hno hw
    have hd1 : j.h / 64 ≤ (j.d.n : Int) := by omega
    have hd0 : 0 ≤ j.h / 64 := by omega
    by_cases hz : j.h / 64 = (j.d.n : Int)
    · have b0 : (j.h / 64 == (j.d.n : Int)) = true := by simp [hz]
      have HRE : Keep (j.m.free = -1) := ⟨by rw [HFR.out, HDM.out]; exact if_pos (by simp only [Jk.m]; omega)⟩
      clear hz
      go_enter Tryd.func26, Tryd.ntmps26
      go_wp2_with fail
      refine (CW.out _ HB0.out).mono ?_
      rintro e w2 ⟨rfl, hb⟩
      have HB2 := Lib.hid (below_next HB0.out hb (Nat.le_refl _))
      have IX2 := Keep.mk (IX.out.below hb)
      clear hb i0 i1 i2 i3 i4 i5 i6
      obtain ⟨i0, i1, i2, i3, i4, i5, i6⟩ := IX2.out.cs
      go_wp2
      go_ret
      rw [HRE.out]
      exact ⟨rfl, HB2.out⟩
    · have b0 : (j.h / 64 == (j.d.n : Int)) = false := by simp [hz]
      have HRE : Keep (j.m.free = 63 * ((j.d.n : Int) - j.h / 64 - 1)) := ⟨by rw [HFR.out, HDM.out]; exact if_neg (by simp only [Jk.m]; omega)⟩
      clear hz
      go_enter Tryd.func26, Tryd.ntmps26
      go_wp2_with fail
      refine (CW.out _ HB0.out).mono ?_
      rintro e w2 ⟨rfl, hb⟩
      have HB2 := Lib.hid (below_next HB0.out hb (Nat.le_refl _))
      have IX2 := Keep.mk (IX.out.below hb)
      clear hb i0 i1 i2 i3 i4 i5 i6
      obtain ⟨i0, i1, i2, i3, i4, i5, i6⟩ := IX2.out.cs
      go_wp2
      go_ret
      rw [HRE.out]
      exact ⟨rfl, HB2.out⟩
  · have HRE := Keep.mk (free_wrong hw)
    rw [hw] at CW
    clear h hdl hdm hH hw
    go_enter Tryd.func26, Tryd.ntmps26
    go_wp2_with fail
    refine (CW.out _ HB0.out).mono ?_
    rintro e w2 ⟨rfl, hb⟩
    have HB2 := Lib.hid (below_next HB0.out hb (Nat.le_refl _))
    clear hb i0 i1 i2 i3 i4 i5 i6
    go_wp2
    go_ret
    rw [HRE.out]
    exact ⟨rfl, HB2.out⟩
end Go.Proofs.YtjficpdfofmcnaaDoor

/- The closures of the journal's Append: the deferred one, and the piece. -/
namespace Go.Proofs.YtjficpdfofmcnaaDoor
open Go.RowKit Go.Joins

/-- The journal that Append leaves, cell by cell. -/
def outC (D : Dk) (k e h c n : Int) : List Value := if k = 0 then [.slice D.a D.n D.c, .slice D.pa D.pn D.pc, .int .i64 D.left, .bool D.down, .int .i64 e, .int .i64 (h+(1+n)*64), .int .i64 (c+1)] else [.slice D.a D.n D.c, .slice D.pa D.pn D.pc, .int .i64 D.left, .bool D.down, .int .i64 e, .int .i64 h, .int .i64 c]
theorem outC_ok {D : Dk} {k e h c n : Int} (hk : k = 0) : outC D k e h c n = [.slice D.a D.n D.c, .slice D.pa D.pn D.pc, .int .i64 D.left, .bool D.down, .int .i64 e, .int .i64 (h+(1+n)*64), .int .i64 (c+1)] := by unfold outC; rw [if_pos hk]
theorem outC_no {D : Dk} {k e h c n : Int} (hk : k ≠ 0) : outC D k e h c n = [.slice D.a D.n D.c, .slice D.pa D.pn D.pc, .int .i64 D.left, .bool D.down, .int .i64 e, .int .i64 h, .int .i64 c] := by unfold outC; rw [if_neg hk]

set_option maxHeartbeats 2000000 in
set_option maxRecDepth 100000 in
theorem leave_any (bw bj bo be bn : Nat) (D : Dk) (k : Int) (J : Jk) (x0 x1 x2 x3 x4 x5 x6 y : Value) (n : Int) (u : FrameMode) (w : World) (hW : BxW w bw D k) (hJ : Bx w bj [.slice J.d.a J.d.n J.d.c, .slice J.d.pa J.d.pn J.d.pc, .int .i64 J.d.left, .bool J.d.down, .int .i64 J.e, .int .i64 J.h, .int .i64 J.c]) (hO : Bx w bo [x0, x1, x2, x3, x4, x5, x6]) (hE : Bx w be [y]) (hN : Bx w bn [.int .i64 n])
    (h1 : bo ≠ bw) (h2 : bo ≠ bj) (h3 : bo ≠ be) (h4 : bo ≠ bn) (h5 : be ≠ bw) (h6 : be ≠ bj) (h7 : be ≠ bn) (hn : 0 ≤ n ∧ n ≤ 5000) (hh : 0 ≤ J.h ∧ J.h ≤ 1000000) (hc : 0 ≤ J.c ∧ J.c ≤ 1073741824) :
    CallsD Tryd.prog 33 #[.pointer (some ⟨bw, 0, none⟩), .pointer (some ⟨bj, 0, none⟩), .pointer (some ⟨bo, 0, none⟩), .pointer (some ⟨be, 0, none⟩), .pointer (some ⟨bn, 0, none⟩)] u w fun e u' w' =>
      u' = u ∧ (e = .returned (.tuple #[]) ∧ Bx w' bo (outC D k J.e J.h J.c n) ∧ Bx w' be [.int .i64 k] ∧ Off [bo, be] w w') := by
  obtain ⟨c0, c1, c2, c3, c4⟩ := hW.cs
  have j4 := hJ.cell 4 _ rfl
  have j5 := hJ.cell 5 _ rfl
  have j6 := hJ.cell 6 _ rfl
  have o0 := hO.cell 0 _ rfl
  have o1 := hO.cell 1 _ rfl
  have o2 := hO.cell 2 _ rfl
  have o3 := hO.cell 3 _ rfl
  have o4 := hO.cell 4 _ rfl
  have o5 := hO.cell 5 _ rfl
  have o6 := hO.cell 6 _ rfl
  have of := hO.fz
  have hoff := off_set7 w bo (.slice D.a D.n D.c) (.slice D.pa D.pn D.pc) (.int .i64 D.left) (.bool D.down) (.int .i64 J.e) (.int .i64 J.h) (.int .i64 J.c)
  have OX := Keep.mk (hO.set7 (.slice D.a D.n D.c) (.slice D.pa D.pn D.pc) (.int .i64 D.left) (.bool D.down) (.int .i64 J.e) (.int .i64 J.h) (.int .i64 J.c))
  have WX := Keep.mk (hW.bx.off hoff (by simp; omega))
  have EX := Keep.mk (hE.off hoff (by simp; omega))
  have NX := Keep.mk (hN.off hoff (by simp; omega))
  have HO := Keep.mk hoff
  clear hoff hO hW hE hN hJ
  have hh1 := hh.1
  have hh2 := hh.2
  have hn1 := hn.1
  have hn2 := hn.2
  have hc1 := hc.1
  have hc2 := hc.2
  clear hh hn hc
  go_enter_d Tryd.func33, Tryd.ntmps33
  go_upto_region 1 with (fail)
  generalize (((((((w.setCell ⟨bo, 0, none⟩ (.slice D.a D.n D.c)).setCell ⟨bo, 1, none⟩ (.slice D.pa D.pn D.pc)).setCell ⟨bo, 2, none⟩ (.int .i64 D.left)).setCell ⟨bo, 3, none⟩ (.bool D.down)).setCell ⟨bo, 4, none⟩ (.int .i64 J.e)).setCell ⟨bo, 5, none⟩ (.int .i64 J.h)).setCell ⟨bo, 6, none⟩ (.int .i64 J.c)) = w1 at *
  have e0 := EX.out.cell 0 _ rfl
  have ef := EX.out.fz
  have w4 := WX.out.cell 4 _ rfl
  have HOE : Keep (Off [be] w1 (w1.setCell ⟨be, 0, none⟩ (.int .i64 k))) := ⟨(Off.refl _ _).setCell (by simp) _⟩
  have EX2 := Keep.mk (EX.out.set (j := 0) (by simp) (.int .i64 k))
  have NX2 := Keep.mk (NX.out.off HOE.out (by simp; omega))
  have OX2 := Keep.mk (OX.out.off HOE.out (by simp; omega))
  clear c0 c1 c2 c3 c4 j4 j5 j6 o0 o1 o2 o3 o4 o5 o6 of OX
  go_upto_region 2 with (fail)
  generalize w1.setCell ⟨be, 0, none⟩ (.int .i64 k) = w2 at *
  have HO2 : Keep (Off [bo, be] w w2) := ⟨(HO.out.sub (by simp)).trans (HOE.out.sub (by simp))⟩
  clear e0 ef w4 EX WX NX HO HOE
  simp only [List.set_cons_zero] at EX2
  have e0 := EX2.out.cell 0 _ rfl
  have n0 := NX2.out.cell 0 _ rfl
  have o5 := OX2.out.cell 5 _ rfl
  have o6 := OX2.out.cell 6 _ rfl
  have of := OX2.out.fz
  by_cases hk : k = 0
  · have OC := Keep.mk (outC_ok (D := D) (e := J.e) (h := J.h) (c := J.c) (n := n) hk)
    have b0 : (k == 0) = true := by simp [hk]
    clear hk
    go_wp2
    go_end0
    have h5' := OX2.out.set (j := 5) (by simp) (.int .i64 (J.h + (1 + n) * 64))
    have h6' := h5'.set (j := 6) (by simp) (.int .i64 (J.c + 1))
    have HOF : Off [bo] w2 ((w2.setCell ⟨bo, 5, none⟩ (.int .i64 (J.h + (1 + n) * 64))).setCell ⟨bo, 6, none⟩ (.int .i64 (J.c + 1))) := ((Off.refl _ _).setCell (by simp) _).setCell (by simp) _
    simp only [List.set_cons_zero, List.set_cons_succ] at h6'
    rw [OC.out]
    exact ⟨rfl, h6', EX2.out.off HOF (by simp; omega), HO2.out.trans (HOF.sub (by simp))⟩
  · have OC := Keep.mk (outC_no (D := D) (e := J.e) (h := J.h) (c := J.c) (n := n) hk)
    have b0 : (k == 0) = false := by simp [hk]
    clear hk
    go_wp2
    go_end0
    rw [OC.out]
    exact ⟨rfl, OX2.out, EX2.out, HO2.out⟩

/-- The piece of a record. -/
def Jn.piece (l : List UInt8) (i : Nat) : List UInt8 := (l.take (min ((i + 1) * 63) l.length)).drop (i * 63)
theorem Jn.piece_length (l : List UInt8) (i : Nat) : (Jn.piece l i).length ≤ 63 := by unfold Jn.piece; rw [List.length_drop, List.length_take]; omega

set_option maxHeartbeats 1000000 in
theorem piece_any (br : Nat) (A : Option Addr) (n c : Nat) (l : List UInt8) (i : Nat) (w : World) (hb : Bx w br [.slice A n c]) (hl : RB w A n c l) (hi : i * 63 ≤ n) (hn : n ≤ 1000000) :
    Calls Tryd.prog 34 #[.int .i64 (i : Int), .pointer (some ⟨br, 0, none⟩)] w fun e w' => ∃ A' n' c', e = .returned (.slice A' n' c') ∧ RB w A' n' c' (Jn.piece l i) ∧ w = w' := by
  have hln := hl.len
  have hcap := hl.cap
  have b0 := hb.cell 0 _ rfl
  obtain ⟨m, hm⟩ : ∃ m, m = min ((i + 1) * 63) n := ⟨_, rfl⟩
  have hmi : (if (n : Int) < ((i : Int) + 1) * 63 then (n : Int) else ((i : Int) + 1) * 63) = (m : Int) := by split <;> omega
  have hcut := fun (X : World) => run_cut_b A n c (i * 63) m ((i : Int) * 63) ((m : Int)) (by omega) rfl (by omega) (by omega) X
  have HR : Keep (RB w (cutA A (i * 63) c 1) (m - i * 63) (c - i * 63) (Jn.piece l i)) := ⟨by unfold Jn.piece; rw [hln, ← hm]; exact rb_mid hl (by omega) (by omega)⟩
  have hi1 : (i : Int) * 63 ≤ 1000000 := by omega
  clear hl hb hm hln
  go_enter Tryd.func34, Tryd.ntmps34
  go_wp2
  go_ret
  exact ⟨_, _, _, rfl, HR.out, rfl⟩
end Go.Proofs.YtjficpdfofmcnaaDoor

/- The journal's Append: what it computes, and the ways on which it writes nothing. -/
namespace Go.Proofs.YtjficpdfofmcnaaDoor
open Go.RowKit Go.Joins

/-- The content sectors written. -/
def Jn.pcs (l : List UInt8) (F : Int) (s : Dv.Disk × Int) : Nat → Dv.Disk × Int
  | 0 => s
  | i + 1 => Jn.ww (Jn.pcs l F s i) (F + 1 + (i : Int)) (Jn.sec 2 (Jn.piece l i))
/-- The end sector, if the device has it. -/
def Jn.apE (ns : Nat) (i : Int) (s : Dv.Disk × Int) : Dv.Disk × Int := if i < (ns : Int) then Jn.ww s i zs else s
/-- What Append writes. -/
def Jn.apW (m : Dv.Disk) (e c F : Int) (l : List UInt8) : Dv.Disk × Int :=
  Jn.wf (Jn.ww (Jn.wf (Jn.apE m.sectors.length (F + 1 + (Jn.sectors l.length : Int)) (Jn.pcs l F (m, 0) (Jn.sectors l.length)))) F (Jn.titleB e c (l.length : Int) (Jn.crcI l)))
/-- What it returns behind that. -/
def Jl.put (s : Dv.Disk × Int) (e h c n : Int) : Jl × Int := if s.2 = 0 then (⟨s.1, e, h + (1 + n) * 64, c + 1⟩, 0) else (⟨s.1, e, h, c⟩, s.2)
/-- APPEND. -/
def Jl.append (j : Jl) (l : List UInt8) : Jl × Int :=
  if j.wrong = true then (Jl.zero, 1) else if j.free < (l.length : Int) then (Jl.zero, 18) else if j.d.down = true then (j, 23) else
  Jl.put (Jn.apW j.d j.e j.c (j.h / 64) l) j.e j.h j.c (Jn.sectors l.length : Int)

/-- The boxes of Append. -/
structure ApX (w : World) (b : Nat) (j : Jk) (A : Option Addr) (n c : Nat) : Prop where
  j : BxJ w b j
  r : Bx w (b + 1) [.slice A n c]
  o : Bx w (b + 2) [.slice none 0 0, .slice none 0 0, .int .i64 0, .bool false, .int .i64 0, .int .i64 0, .int .i64 0]
  e : Bx w (b + 3) [.int .i64 0]
theorem ApX.below {w w' : World} {b : Nat} {j : Jk} {A : Option Addr} {n c : Nat} (h : ApX w b j A n c) (hb : Below w.heap.size w w') : ApX w' b j A n c := ⟨h.j.below hb, h.r.below hb, h.o.below hb, h.e.below hb⟩
theorem ApX.new {w : World} {j : Jk} {A : Option Addr} {n c : Nat} (h : j.d.Ok w) : ApX ((((w.alloc (.cells #[.slice j.d.a j.d.n j.d.c, .slice j.d.pa j.d.pn j.d.pc, .int .i64 j.d.left, .bool j.d.down, .int .i64 j.e, .int .i64 j.h, .int .i64 j.c] 32)).alloc (.cells #[.slice A n c] 26)).alloc (.cells #[.slice none 0 0, .slice none 0 0, .int .i64 0, .bool false, .int .i64 0, .int .i64 0, .int .i64 0] 32)).alloc (.cells #[.int .i64 0] 33)) w.heap.size j A n c := by
  have h2 := Bx.new (w.alloc (.cells #[.slice j.d.a j.d.n j.d.c, .slice j.d.pa j.d.pn j.d.pc, .int .i64 j.d.left, .bool j.d.down, .int .i64 j.e, .int .i64 j.h, .int .i64 j.c] 32)) [.slice A n c] 26
  have h3 := Bx.new ((w.alloc (.cells #[.slice j.d.a j.d.n j.d.c, .slice j.d.pa j.d.pn j.d.pc, .int .i64 j.d.left, .bool j.d.down, .int .i64 j.e, .int .i64 j.h, .int .i64 j.c] 32)).alloc (.cells #[.slice A n c] 26)) [.slice none 0 0, .slice none 0 0, .int .i64 0, .bool false, .int .i64 0, .int .i64 0, .int .i64 0] 32
  have h4 := Bx.new (((w.alloc (.cells #[.slice j.d.a j.d.n j.d.c, .slice j.d.pa j.d.pn j.d.pc, .int .i64 j.d.left, .bool j.d.down, .int .i64 j.e, .int .i64 j.h, .int .i64 j.c] 32)).alloc (.cells #[.slice A n c] 26)).alloc (.cells #[.slice none 0 0, .slice none 0 0, .int .i64 0, .bool false, .int .i64 0, .int .i64 0, .int .i64 0] 32)) [.int .i64 0] 33
  simp only [World.size_alloc] at h2 h3 h4
  exact ⟨(((BxJ.new h).below (below_alloc1 _ _)).below (below_alloc1 _ _)).below (below_alloc1 _ _), (h2.below (below_alloc1 _ _)).below (below_alloc1 _ _), h3.below (below_alloc1 _ _), h4⟩
theorem ApX.frame (w : World) (o1 o2 o3 o4 : Obj) : Below w.heap.size w ((((w.alloc o1).alloc o2).alloc o3).alloc o4) :=
  (((below_alloc1 _ _).alloc (by simp) _).alloc (by simp; omega) _).alloc (by simp; omega) _

set_option maxHeartbeats 2000000 in
set_option maxRecDepth 100000 in
theorem append_wrong (j : Jk) (A : Option Addr) (n c : Nat) (l : List UInt8) (w : World) (h : j.d.Ok w) (hns : j.d.n ≤ 4096) (hH : V.In j.h) (hw : j.m.wrong = true) :
    Calls Tryd.prog 15 #[.agg #[.slice j.d.a j.d.n j.d.c, .slice j.d.pa j.d.pn j.d.pc, .int .i64 j.d.left, .bool j.d.down, .int .i64 j.e, .int .i64 j.h, .int .i64 j.c], .slice A n c] w (RetJE w j.d.Av (j.m.append l)) := by
  have HSE : Keep (j.m.append l = (Jl.zero, 1)) := ⟨by unfold Jl.append; rw [if_pos hw]⟩
  have AX := Keep.mk (ApX.new (A := A) (n := n) (c := c) h)
  have HB0 : Hid (Below w.heap.size w ((((w.alloc (.cells #[.slice j.d.a j.d.n j.d.c, .slice j.d.pa j.d.pn j.d.pc, .int .i64 j.d.left, .bool j.d.down, .int .i64 j.e, .int .i64 j.h, .int .i64 j.c] 32)).alloc (.cells #[.slice A n c] 26)).alloc (.cells #[.slice none 0 0, .slice none 0 0, .int .i64 0, .bool false, .int .i64 0, .int .i64 0, .int .i64 0] 32)).alloc (.cells #[.int .i64 0] 33))) := ApX.frame _ _ _ _ _
  have CW := Keep.mk (fun (X : World) (hX : Below w.heap.size w X) => wrong_any j X (h.below hX) hns hH)
  rw [hw] at CW
  clear h hw
  go_enter_defers Tryd.func15, Tryd.ntmps15
  go_upto_region 1 with (fail)
  generalize e4 : (((w.alloc (.cells #[.slice j.d.a j.d.n j.d.c, .slice j.d.pa j.d.pn j.d.pc, .int .i64 j.d.left, .bool j.d.down, .int .i64 j.e, .int .i64 j.h, .int .i64 j.c] 32)).alloc (.cells #[.slice A n c] 26)).alloc (.cells #[.slice none 0 0, .slice none 0 0, .int .i64 0, .bool false, .int .i64 0, .int .i64 0, .int .i64 0] 32)).alloc (.cells #[.int .i64 0] 33) = w1 at *
  clear e4
  obtain ⟨i0, i1, i2, i3, i4, i5, i6⟩ := AX.out.j.cs
  go_wp2_with fail
  refine (CW.out _ HB0.out).mono ?_
  rintro e w2 ⟨rfl, hb⟩
  have HB2 := Lib.hid (below_next HB0.out hb (Nat.le_refl _))
  have AX2 := Keep.mk (AX.out.below hb)
  clear hb i0 i1 i2 i3 i4 i5 i6 AX HB0
  have o0 := AX2.out.o.cell 0 _ rfl
  have o1 := AX2.out.o.cell 1 _ rfl
  have o2 := AX2.out.o.cell 2 _ rfl
  have o3 := AX2.out.o.cell 3 _ rfl
  have o4 := AX2.out.o.cell 4 _ rfl
  have o5 := AX2.out.o.cell 5 _ rfl
  have o6 := AX2.out.o.cell 6 _ rfl
  have of := AX2.out.o.fz
  have e0 := AX2.out.e.cell 0 _ rfl
  have ef := AX2.out.e.fz
  go_wp2
  refine ⟨.tuple #[.agg #[.slice none 0 0, .slice none 0 0, .int .i64 0, .bool false, .int .i64 0, .int .i64 0, .int .i64 0], .int .i64 1], by simp [results, Tryd.results15, go_sem, o0, o1, o2, o3, o4, o5, o6, e0], ?_⟩
  exact .no HSE.out (HB2.out.trans (((off_set7 w2 (w.heap.size + 2) _ _ _ _ _ _ _).below HB2.out.size (by simp)).setCell (by simp; omega) _))

set_option maxHeartbeats 4000000 in
set_option maxRecDepth 100000 in
theorem append_full (j : Jk) (A : Option Addr) (n c : Nat) (l : List UInt8) (w : World) (h : j.d.Ok w) (hns : j.d.n ≤ 4096) (hH : V.In j.h) (hl : RB w A n c l) (hw : j.m.wrong = false) (hf : j.m.free < (l.length : Int)) :
    Calls Tryd.prog 15 #[.agg #[.slice j.d.a j.d.n j.d.c, .slice j.d.pa j.d.pn j.d.pc, .int .i64 j.d.left, .bool j.d.down, .int .i64 j.e, .int .i64 j.h, .int .i64 j.c], .slice A n c] w (RetJE w j.d.Av (j.m.append l)) := by
  have HSE : Keep (j.m.append l = (Jl.zero, 18)) := ⟨by unfold Jl.append; rw [if_neg (by rw [hw]; decide), if_pos hf]⟩
  have AX := Keep.mk (ApX.new (A := A) (n := n) (c := c) h)
  have HB0 : Hid (Below w.heap.size w ((((w.alloc (.cells #[.slice j.d.a j.d.n j.d.c, .slice j.d.pa j.d.pn j.d.pc, .int .i64 j.d.left, .bool j.d.down, .int .i64 j.e, .int .i64 j.h, .int .i64 j.c] 32)).alloc (.cells #[.slice A n c] 26)).alloc (.cells #[.slice none 0 0, .slice none 0 0, .int .i64 0, .bool false, .int .i64 0, .int .i64 0, .int .i64 0] 32)).alloc (.cells #[.int .i64 0] 33))) := ApX.frame _ _ _ _ _
  have CW := Keep.mk (fun (X : World) (hX : Below w.heap.size w X) => wrong_any j X (h.below hX) hns hH)
  have CF := Keep.mk (fun (X : World) (hX : Below w.heap.size w X) => free_any j X (h.below hX) hns hH)
  rw [hw] at CW
  have hln := hl.len
  have b0 : decide (j.m.free < (n : Int)) = true := decide_eq_true (by omega)
  generalize j.m.free = fr at *
  clear h hw hf hl hln
  go_enter_defers Tryd.func15, Tryd.ntmps15
  go_upto_region 1 with (fail)
  generalize e4 : (((w.alloc (.cells #[.slice j.d.a j.d.n j.d.c, .slice j.d.pa j.d.pn j.d.pc, .int .i64 j.d.left, .bool j.d.down, .int .i64 j.e, .int .i64 j.h, .int .i64 j.c] 32)).alloc (.cells #[.slice A n c] 26)).alloc (.cells #[.slice none 0 0, .slice none 0 0, .int .i64 0, .bool false, .int .i64 0, .int .i64 0, .int .i64 0] 32)).alloc (.cells #[.int .i64 0] 33) = w1 at *
  clear e4
  obtain ⟨i0, i1, i2, i3, i4, i5, i6⟩ := AX.out.j.cs
  go_wp2_with fail
  refine (CW.out _ HB0.out).mono ?_
  rintro e w2 ⟨rfl, hb⟩
  have HB2 := Lib.hid (below_next HB0.out hb (Nat.le_refl _))
  have AX2 := Keep.mk (AX.out.below hb)
  clear hb i0 i1 i2 i3 i4 i5 i6 AX HB0
  obtain ⟨i0, i1, i2, i3, i4, i5, i6⟩ := AX2.out.j.cs
  have r0 := AX2.out.r.cell 0 _ rfl
  have KP : Keep (∀ X, Below w2.heap.size w2 X → X.cell? ⟨w.heap.size + 1, 0, none⟩ = some (.slice A n c) ∧ X.cell? ⟨w.heap.size, 0, none⟩ = some (.slice j.d.a j.d.n j.d.c) ∧ X.cell? ⟨w.heap.size, 1, none⟩ = some (.slice j.d.pa j.d.pn j.d.pc) ∧ X.cell? ⟨w.heap.size, 2, none⟩ = some (.int .i64 j.d.left) ∧ X.cell? ⟨w.heap.size, 3, none⟩ = some (.bool j.d.down) ∧ X.cell? ⟨w.heap.size, 4, none⟩ = some (.int .i64 j.e) ∧ X.cell? ⟨w.heap.size, 5, none⟩ = some (.int .i64 j.h) ∧ X.cell? ⟨w.heap.size, 6, none⟩ = some (.int .i64 j.c)) :=
    ⟨fun X hX => ⟨(AX2.out.r.below hX).cell 0 _ rfl, (AX2.out.j.below hX).cs⟩⟩
  go_upto_region 3 with (fail)
  have HC : Hid (Below w2.heap.size w2 w2.drew) := below_draws _ _ 1
  go_region_held3 (fun X => X.cell? ⟨w.heap.size + 1, 0, none⟩ = some (.slice A n c) ∧ X.cell? ⟨w.heap.size, 0, none⟩ = some (.slice j.d.a j.d.n j.d.c) ∧ X.cell? ⟨w.heap.size, 1, none⟩ = some (.slice j.d.pa j.d.pn j.d.pc) ∧ X.cell? ⟨w.heap.size, 2, none⟩ = some (.int .i64 j.d.left) ∧ X.cell? ⟨w.heap.size, 3, none⟩ = some (.bool j.d.down) ∧ X.cell? ⟨w.heap.size, 4, none⟩ = some (.int .i64 j.e) ∧ X.cell? ⟨w.heap.size, 5, none⟩ = some (.int .i64 j.h) ∧ X.cell? ⟨w.heap.size, 6, none⟩ = some (.int .i64 j.c))
    (first | exact KP.out _ HC.out)
    ((go_at_call 20; (refine (CF.out _ (below_next HB2.out HC.out (Nat.le_refl _))).mono ?_); rintro e wf ⟨rfl, hb⟩; have HC := Lib.hid (below_next HC.out hb (Nat.le_refl _)); clear hb))
  have HB3 := Lib.hid (below_next HB2.out HC.out (Nat.le_refl _))
  have AX3 := Keep.mk (AX2.out.below HC.out)
  clear i0 i1 i2 i3 i4 i5 i6 r0 AX2 HB2 KP HC
  have o0 := AX3.out.o.cell 0 _ rfl
  have o1 := AX3.out.o.cell 1 _ rfl
  have o2 := AX3.out.o.cell 2 _ rfl
  have o3 := AX3.out.o.cell 3 _ rfl
  have o4 := AX3.out.o.cell 4 _ rfl
  have o5 := AX3.out.o.cell 5 _ rfl
  have o6 := AX3.out.o.cell 6 _ rfl
  have of := AX3.out.o.fz
  have e0 := AX3.out.e.cell 0 _ rfl
  have ef := AX3.out.e.fz
  go_wp2
  refine ⟨.tuple #[.agg #[.slice none 0 0, .slice none 0 0, .int .i64 0, .bool false, .int .i64 0, .int .i64 0, .int .i64 0], .int .i64 18], by simp [results, Tryd.results15, go_sem, o0, o1, o2, o3, o4, o5, o6, e0], ?_⟩
  exact .no HSE.out (HB3.out.trans (((off_set7 wf (w.heap.size + 2) _ _ _ _ _ _ _).below HB3.out.size (by simp)).setCell (by simp; omega) _))

set_option maxHeartbeats 4000000 in
set_option maxRecDepth 100000 in
theorem append_down (j : Jk) (A : Option Addr) (n c : Nat) (l : List UInt8) (w : World) (h : j.d.Ok w) (hns : j.d.n ≤ 4096) (hH : V.In j.h) (hl : RB w A n c l) (hw : j.m.wrong = false) (hf : ¬ j.m.free < (l.length : Int)) (hd : j.d.down = true) (K : Nat) (hfit : Dv.Fits K j.d.m) (hK : K ≤ 900) :
    Calls Tryd.prog 15 #[.agg #[.slice j.d.a j.d.n j.d.c, .slice j.d.pa j.d.pn j.d.pc, .int .i64 j.d.left, .bool j.d.down, .int .i64 j.e, .int .i64 j.h, .int .i64 j.c], .slice A n c] w (RetJE w j.d.Av (j.m.append l)) := by
  have HSE : Keep (j.m.append l = (j.m, 23)) := ⟨by unfold Jl.append; rw [if_neg (by rw [hw]; decide), if_neg hf, if_pos (show j.m.d.down = true from hd)]⟩
  have AX := Keep.mk (ApX.new (A := A) (n := n) (c := c) h)
  have HB0 : Hid (Below w.heap.size w ((((w.alloc (.cells #[.slice j.d.a j.d.n j.d.c, .slice j.d.pa j.d.pn j.d.pc, .int .i64 j.d.left, .bool j.d.down, .int .i64 j.e, .int .i64 j.h, .int .i64 j.c] 32)).alloc (.cells #[.slice A n c] 26)).alloc (.cells #[.slice none 0 0, .slice none 0 0, .int .i64 0, .bool false, .int .i64 0, .int .i64 0, .int .i64 0] 32)).alloc (.cells #[.int .i64 0] 33))) := ApX.frame _ _ _ _ _
  have CW := Keep.mk (fun (X : World) (hX : Below w.heap.size w X) => wrong_any j X (h.below hX) hns hH)
  have CF := Keep.mk (fun (X : World) (hX : Below w.heap.size w X) => free_any j X (h.below hX) hns hH)
  have CJ := Keep.mk (fun (X : World) (hX : Below w.heap.size w X) => jfresh_any j.d K X (h.below hX) hfit (by omega))
  rw [hw] at CW
  have HD := Keep.mk hd
  have hln := hl.len
  have b0 : decide (j.m.free < (n : Int)) = false := decide_eq_false (by omega)
  generalize j.m.free = fr at *
  clear h hw hf hl hln hd hfit hK
  go_enter_defers Tryd.func15, Tryd.ntmps15
  go_upto_region 1 with (fail)
  generalize e4 : (((w.alloc (.cells #[.slice j.d.a j.d.n j.d.c, .slice j.d.pa j.d.pn j.d.pc, .int .i64 j.d.left, .bool j.d.down, .int .i64 j.e, .int .i64 j.h, .int .i64 j.c] 32)).alloc (.cells #[.slice A n c] 26)).alloc (.cells #[.slice none 0 0, .slice none 0 0, .int .i64 0, .bool false, .int .i64 0, .int .i64 0, .int .i64 0] 32)).alloc (.cells #[.int .i64 0] 33) = w1 at *
  clear e4
  obtain ⟨i0, i1, i2, i3, i4, i5, i6⟩ := AX.out.j.cs
  go_wp2_with fail
  refine (CW.out _ HB0.out).mono ?_
  rintro e w2 ⟨rfl, hb⟩
  have HB2 := Lib.hid (below_next HB0.out hb (Nat.le_refl _))
  have AX2 := Keep.mk (AX.out.below hb)
  clear hb i0 i1 i2 i3 i4 i5 i6 AX HB0
  obtain ⟨i0, i1, i2, i3, i4, i5, i6⟩ := AX2.out.j.cs
  have r0 := AX2.out.r.cell 0 _ rfl
  have KP : Keep (∀ X, Below w2.heap.size w2 X → X.cell? ⟨w.heap.size + 1, 0, none⟩ = some (.slice A n c) ∧ X.cell? ⟨w.heap.size, 0, none⟩ = some (.slice j.d.a j.d.n j.d.c) ∧ X.cell? ⟨w.heap.size, 1, none⟩ = some (.slice j.d.pa j.d.pn j.d.pc) ∧ X.cell? ⟨w.heap.size, 2, none⟩ = some (.int .i64 j.d.left) ∧ X.cell? ⟨w.heap.size, 3, none⟩ = some (.bool j.d.down) ∧ X.cell? ⟨w.heap.size, 4, none⟩ = some (.int .i64 j.e) ∧ X.cell? ⟨w.heap.size, 5, none⟩ = some (.int .i64 j.h) ∧ X.cell? ⟨w.heap.size, 6, none⟩ = some (.int .i64 j.c)) :=
    ⟨fun X hX => ⟨(AX2.out.r.below hX).cell 0 _ rfl, (AX2.out.j.below hX).cs⟩⟩
  go_upto_region 3 with (fail)
  have HC : Hid (Below w2.heap.size w2 w2.drew) := below_draws _ _ 1
  go_region_held3 (fun X => X.cell? ⟨w.heap.size + 1, 0, none⟩ = some (.slice A n c) ∧ X.cell? ⟨w.heap.size, 0, none⟩ = some (.slice j.d.a j.d.n j.d.c) ∧ X.cell? ⟨w.heap.size, 1, none⟩ = some (.slice j.d.pa j.d.pn j.d.pc) ∧ X.cell? ⟨w.heap.size, 2, none⟩ = some (.int .i64 j.d.left) ∧ X.cell? ⟨w.heap.size, 3, none⟩ = some (.bool j.d.down) ∧ X.cell? ⟨w.heap.size, 4, none⟩ = some (.int .i64 j.e) ∧ X.cell? ⟨w.heap.size, 5, none⟩ = some (.int .i64 j.h) ∧ X.cell? ⟨w.heap.size, 6, none⟩ = some (.int .i64 j.c))
    (first | exact KP.out _ HC.out)
    ((go_at_call 20; (refine (CF.out _ (below_next HB2.out HC.out (Nat.le_refl _))).mono ?_); rintro e wf ⟨rfl, hb⟩; have HC := Lib.hid (below_next HC.out hb (Nat.le_refl _)); clear hb))
  rename_i hHeld
  clear hHeld
  have HB3 := Lib.hid (below_next HB2.out HC.out (Nat.le_refl _))
  have AX3 := Keep.mk (AX2.out.below HC.out)
  clear i0 i1 i2 i3 i4 i5 i6 r0 AX2 HB2 KP HC
  obtain ⟨i0, i1, i2, i3, i4, i5, i6⟩ := AX3.out.j.cs
  rw [HD.out] at i3 CJ
  go_wp2_with fail
  refine (CJ.out _ HB3.out).mono ?_
  rintro e w3 ⟨D, rfl, hok, hm, hb, hav⟩
  have HB4 := Lib.hid (below_next HB3.out hb (Nat.le_refl _))
  have AX4 := Keep.mk (AX3.out.below hb)
  have HOK := Keep.mk hok
  have HM := Keep.mk hm
  have HAV : Keep (∀ t, t < w.heap.size + 4 → D.Av t) := ⟨fun t ht => hav t (by have := AX3.out.e.lt; omega) trivial⟩
  clear hok hm hb hav i0 i1 i2 i3 i4 i5 i6 AX3 HB3 CJ CW CF
  obtain ⟨i0, i1, i2, i3, i4, i5, i6⟩ := AX4.out.j.cs
  have jf := AX4.out.j.bx.fz
  have hof := off_set4 w3 w.heap.size (.slice D.a D.n D.c) (.slice D.pa D.pn D.pc) (.int .i64 D.left) (.bool D.down)
  have JX : Keep (Bx ((((w3.setCell ⟨w.heap.size, 0, none⟩ (.slice D.a D.n D.c)).setCell ⟨w.heap.size, 1, none⟩ (.slice D.pa D.pn D.pc)).setCell ⟨w.heap.size, 2, none⟩ (.int .i64 D.left)).setCell ⟨w.heap.size, 3, none⟩ (.bool D.down)) w.heap.size [.slice D.a D.n D.c, .slice D.pa D.pn D.pc, .int .i64 D.left, .bool D.down, .int .i64 j.e, .int .i64 j.h, .int .i64 j.c]) := ⟨by
    have := (((AX4.out.j.bx.set (j := 0) (by simp) (.slice D.a D.n D.c)).set (j := 1) (by simp) (.slice D.pa D.pn D.pc)).set (j := 2) (by simp) (.int .i64 D.left)).set (j := 3) (by simp) (.bool D.down)
    simpa only [List.set_cons_zero, List.set_cons_succ] using this⟩
  have OX := Keep.mk (AX4.out.o.off hof (by simp))
  have EX := Keep.mk (AX4.out.e.off hof (by simp))
  have HOF := Keep.mk hof
  clear hof
  go_upto_region 7 with (fail)
  generalize ((((w3.setCell ⟨w.heap.size, 0, none⟩ (.slice D.a D.n D.c)).setCell ⟨w.heap.size, 1, none⟩ (.slice D.pa D.pn D.pc)).setCell ⟨w.heap.size, 2, none⟩ (.int .i64 D.left)).setCell ⟨w.heap.size, 3, none⟩ (.bool D.down)) = w4 at *
  clear i0 i1 i2 i3 i4 i5 i6 jf
  have j0 := JX.out.cell 0 _ rfl
  have j1 := JX.out.cell 1 _ rfl
  have j2 := JX.out.cell 2 _ rfl
  have j3 := JX.out.cell 3 _ rfl
  have j4 := JX.out.cell 4 _ rfl
  have j5 := JX.out.cell 5 _ rfl
  have j6 := JX.out.cell 6 _ rfl
  have o0 := OX.out.cell 0 _ rfl
  have o1 := OX.out.cell 1 _ rfl
  have o2 := OX.out.cell 2 _ rfl
  have o3 := OX.out.cell 3 _ rfl
  have o4 := OX.out.cell 4 _ rfl
  have o5 := OX.out.cell 5 _ rfl
  have o6 := OX.out.cell 6 _ rfl
  have of := OX.out.fz
  have e0 := EX.out.cell 0 _ rfl
  have ef := EX.out.fz
  go_wp2
  refine ⟨.tuple #[.agg #[.slice D.a D.n D.c, .slice D.pa D.pn D.pc, .int .i64 D.left, .bool D.down, .int .i64 j.e, .int .i64 j.h, .int .i64 j.c], .int .i64 23], by simp [results, Tryd.results15, go_sem, o0, o1, o2, o3, o4, o5, o6, e0], ?_⟩
  have hof2 := off_set7 w4 (w.heap.size + 2) (.slice D.a D.n D.c) (.slice D.pa D.pn D.pc) (.int .i64 D.left) (.bool D.down) (.int .i64 j.e) (.int .i64 j.h) (.int .i64 j.c)
  have HZ : Off [w.heap.size, w.heap.size + 2, w.heap.size + 3] w3 _ := ((HOF.out.sub (by simp)).trans (hof2.sub (by simp))).setCell (p := ⟨w.heap.size + 3, 0, none⟩) (by simp) (.int .i64 23)
  rw [HSE.out]
  exact ⟨⟨D, j.e, j.h, j.c⟩, rfl, HOK.out.off HZ (fun b hb => HAV.out b (by simp at hb; omega)), by unfold Jk.m; simp only [HM.out], HB4.out.trans (HZ.below HB4.out.size (by simp)), fun b hb h => HAV.out b (by omega)⟩
end Go.Proofs.YtjficpdfofmcnaaDoor

/- The journal's Append: the way on which it writes. -/
namespace Go.Proofs.YtjficpdfofmcnaaDoor
open Go.RowKit Go.Joins

theorem pcs_ws {l : List UInt8} {F : Int} {s : Dv.Disk × Int} {K : Nat} (h : WS K s) : ∀ i, WS (K + i) (Jn.pcs l F s i)
  | 0 => h
  | i + 1 => (pcs_ws h i).write _ _
theorem WS.mono {K K' : Nat} {s : Dv.Disk × Int} (h : WS K s) (hk : K ≤ K') : WS K' s := ⟨h.fit.mono hk, h.lo, h.hi⟩
theorem crc_in (l : List UInt8) : V.In (Jn.crcI l) := by
  have := u32_lt (M.crc l)
  have := u32_nn (M.crc l)
  unfold w32 at *
  unfold V.In Jn.crcI
  omega

set_option maxHeartbeats 4000000 in
set_option maxRecDepth 100000 in
theorem append_main (j : Jk) (A : Option Addr) (n c : Nat) (l : List UInt8) (w : World) (h : j.d.Ok w) (hns : j.d.n ≤ 4096) (hH : V.In j.h) (hl : RB w A n c l) (hw : j.m.wrong = false) (hf : ¬ j.m.free < (l.length : Int)) (hd : j.d.down = false) (K : Nat) (hfit : WS K (j.d.m, 0)) (hK : K ≤ 900) (hlen : l.length ≤ 3000) (ht : Tab w) :
    Calls Tryd.prog 15 #[.agg #[.slice j.d.a j.d.n j.d.c, .slice j.d.pa j.d.pn j.d.pc, .int .i64 j.d.left, .bool j.d.down, .int .i64 j.e, .int .i64 j.h, .int .i64 j.c], .slice A n c] w (RetJE w j.d.Av (j.m.append l)) := by
  have HSE : Keep (j.m.append l = Jl.put (Jn.apW j.d.m j.e j.c (j.h / 64) l) j.e j.h j.c (Jn.sectors l.length : Int)) := ⟨by unfold Jl.append; rw [if_neg (by rw [hw]; decide), if_neg hf, if_neg (show ¬ j.m.d.down = true from by rw [show j.m.d.down = false from hd]; decide)]; rfl⟩
  have HT := Keep.mk ht
  have HF := Keep.mk hfit
  have HL := Keep.mk hl
  have hdl := dk_len h
  have HDL := Keep.mk hdl
  have hdm : (j.m.d.sectors.length : Int) = (j.d.n : Int) := by unfold Jk.m; simp only; omega
  have hno := wrong_no hw
  rw [hdm] at hno
  have hp : 64 ≤ j.h := by have := hno.2.2.2.2.1; simp only [Jk.m] at this; omega
  have hq : j.h ≤ 64 * (j.d.n : Int) := by have := hno.2.2.2.2.2.1; simp only [Jk.m] at this; omega
  have he0 : 1 ≤ j.e ∧ j.e ≤ 1073741824 ∧ 0 ≤ j.c ∧ j.c ≤ 1073741824 := by have := hno; simp only [Jk.m] at this; omega
  have HE := Keep.mk he0
  have AX := Keep.mk (ApX.new (A := A) (n := n) (c := c) h)
  have HB0 : Hid (Below w.heap.size w ((((w.alloc (.cells #[.slice j.d.a j.d.n j.d.c, .slice j.d.pa j.d.pn j.d.pc, .int .i64 j.d.left, .bool j.d.down, .int .i64 j.e, .int .i64 j.h, .int .i64 j.c] 32)).alloc (.cells #[.slice A n c] 26)).alloc (.cells #[.slice none 0 0, .slice none 0 0, .int .i64 0, .bool false, .int .i64 0, .int .i64 0, .int .i64 0] 32)).alloc (.cells #[.int .i64 0] 33))) := ApX.frame _ _ _ _ _
  have CW := Keep.mk (fun (X : World) (hX : Below w.heap.size w X) => wrong_any j X (h.below hX) hns hH)
  have CF := Keep.mk (fun (X : World) (hX : Below w.heap.size w X) => free_any j X (h.below hX) hns hH)
  have HOK := Keep.mk h
  rw [hw] at CW
  have HD := Keep.mk hd
  have hln := hl.len
  have b0 : decide (j.m.free < (n : Int)) = false := decide_eq_false (by omega)
  generalize j.m.free = fr at *
  clear h hw hf hl hd hfit ht hdm hno he0
  go_enter_defers Tryd.func15, Tryd.ntmps15
  go_upto_region 1 with (fail)
  generalize e4 : (((w.alloc (.cells #[.slice j.d.a j.d.n j.d.c, .slice j.d.pa j.d.pn j.d.pc, .int .i64 j.d.left, .bool j.d.down, .int .i64 j.e, .int .i64 j.h, .int .i64 j.c] 32)).alloc (.cells #[.slice A n c] 26)).alloc (.cells #[.slice none 0 0, .slice none 0 0, .int .i64 0, .bool false, .int .i64 0, .int .i64 0, .int .i64 0] 32)).alloc (.cells #[.int .i64 0] 33) = w1 at *
  clear e4
  obtain ⟨i0, i1, i2, i3, i4, i5, i6⟩ := AX.out.j.cs
  go_wp2_with fail
  refine (CW.out _ HB0.out).mono ?_
  rintro e w2 ⟨rfl, hb⟩
  have HB2 := Lib.hid (below_next HB0.out hb (Nat.le_refl _))
  have AX2 := Keep.mk (AX.out.below hb)
  clear hb i0 i1 i2 i3 i4 i5 i6 AX HB0
  obtain ⟨i0, i1, i2, i3, i4, i5, i6⟩ := AX2.out.j.cs
  have r0 := AX2.out.r.cell 0 _ rfl
  have KP : Keep (∀ X, Below w2.heap.size w2 X → X.cell? ⟨w.heap.size + 1, 0, none⟩ = some (.slice A n c) ∧ X.cell? ⟨w.heap.size, 0, none⟩ = some (.slice j.d.a j.d.n j.d.c) ∧ X.cell? ⟨w.heap.size, 1, none⟩ = some (.slice j.d.pa j.d.pn j.d.pc) ∧ X.cell? ⟨w.heap.size, 2, none⟩ = some (.int .i64 j.d.left) ∧ X.cell? ⟨w.heap.size, 3, none⟩ = some (.bool j.d.down) ∧ X.cell? ⟨w.heap.size, 4, none⟩ = some (.int .i64 j.e) ∧ X.cell? ⟨w.heap.size, 5, none⟩ = some (.int .i64 j.h) ∧ X.cell? ⟨w.heap.size, 6, none⟩ = some (.int .i64 j.c)) :=
    ⟨fun X hX => ⟨(AX2.out.r.below hX).cell 0 _ rfl, (AX2.out.j.below hX).cs⟩⟩
  go_upto_region 3 with (fail)
  have HC : Hid (Below w2.heap.size w2 w2.drew) := below_draws _ _ 1
  go_region_held3 (fun X => X.cell? ⟨w.heap.size + 1, 0, none⟩ = some (.slice A n c) ∧ X.cell? ⟨w.heap.size, 0, none⟩ = some (.slice j.d.a j.d.n j.d.c) ∧ X.cell? ⟨w.heap.size, 1, none⟩ = some (.slice j.d.pa j.d.pn j.d.pc) ∧ X.cell? ⟨w.heap.size, 2, none⟩ = some (.int .i64 j.d.left) ∧ X.cell? ⟨w.heap.size, 3, none⟩ = some (.bool j.d.down) ∧ X.cell? ⟨w.heap.size, 4, none⟩ = some (.int .i64 j.e) ∧ X.cell? ⟨w.heap.size, 5, none⟩ = some (.int .i64 j.h) ∧ X.cell? ⟨w.heap.size, 6, none⟩ = some (.int .i64 j.c))
    (first | exact KP.out _ HC.out)
    ((go_at_call 20; (refine (CF.out _ (below_next HB2.out HC.out (Nat.le_refl _))).mono ?_); rintro e wf ⟨rfl, hb⟩; have HC := Lib.hid (below_next HC.out hb (Nat.le_refl _)); clear hb))
  rename_i hHeld
  clear hHeld
  have HB3 := Lib.hid (below_next HB2.out HC.out (Nat.le_refl _))
  have AX3 := Keep.mk (AX2.out.below HC.out)
  clear i0 i1 i2 i3 i4 i5 i6 r0 AX2 HB2 KP HC
  obtain ⟨i0, i1, i2, i3, i4, i5, i6⟩ := AX3.out.j.cs
  rw [HD.out] at i3
  clear CW CF
  have hz3 := HB3.out.size
  have hz3e := AX3.out.e.lt
  have WX : Keep (BxW (wf.alloc (.cells [.slice j.d.a j.d.n j.d.c, .slice j.d.pa j.d.pn j.d.pc, .int .i64 j.d.left, .bool j.d.down, .int .i64 0].toArray 55)) wf.heap.size j.d 0) := ⟨⟨Bx.new wf _ 55, (HOK.out.below HB3.out).below (below_alloc1 _ _), (HOK.out.below HB3.out).av (Nat.le_refl _)⟩⟩
  have AX4 := Keep.mk (AX3.out.below (below_alloc1 wf (.cells [.slice j.d.a j.d.n j.d.c, .slice j.d.pa j.d.pn j.d.pc, .int .i64 j.d.left, .bool j.d.down, .int .i64 0].toArray 55)))
  have HB4 : Hid (Below w.heap.size w (wf.alloc (.cells [.slice j.d.a j.d.n j.d.c, .slice j.d.pa j.d.pn j.d.pc, .int .i64 j.d.left, .bool j.d.down, .int .i64 0].toArray 55))) := HB3.out.alloc hz3 _
  rw [HD.out] at WX AX4 HB4
  go_upto_region 9 with (fail)
  generalize e4 : wf.alloc (.cells [.slice j.d.a j.d.n j.d.c, .slice j.d.pa j.d.pn j.d.pc, .int .i64 j.d.left, .bool false, .int .i64 0].toArray 55) = w4 at *
  clear e4 i0 i1 i2 i3 i4 i5 i6 AX3 HB3
  have HLN := Keep.mk hln
  have hl3 : n ≤ 3000 := by omega
  obtain ⟨N, hN⟩ : ∃ N, N = Jn.sectors n := ⟨_, rfl⟩
  have CS := Keep.mk (fun (X : World) => sectors_any n X (by omega))
  rw [← hN] at CS
  have hN2 : N ≤ 48 := by rw [hN]; unfold Jn.sectors; omega
  have HN := Keep.mk hN
  clear hN
  have KP : Keep (∀ X, Below w4.heap.size w4 X → X.cell? ⟨w.heap.size + 1, 0, none⟩ = some (.slice A n c) ∧ X.cell? ⟨w.heap.size, 5, none⟩ = some (.int .i64 j.h)) := ⟨fun X hX => ⟨(AX4.out.r.below hX).cell 0 _ rfl, (AX4.out.j.below hX).bx.cell 5 _ rfl⟩⟩
  have HC : Hid (Below w4.heap.size w4 w4.drew) := below_draws _ _ 1
  have HC2 : Hid (Below w4.heap.size w4 (w4.drew.alloc (.cells #[.int .i64 0] 3))) := HC.out.alloc HC.out.size _
  have HC3 : Hid (Below w4.heap.size w4 (w4.alloc (.cells #[.int .i64 (N : Int)] 3)).drew) := (below_alloc1 w4 _).trans ((below_draws (w4.alloc (.cells #[.int .i64 (N : Int)] 3)).heap.size (w4.alloc (.cells #[.int .i64 (N : Int)] 3)) 1).mono (by simp))
  clear hlen hdl
  obtain ⟨F, hF⟩ : ∃ F, F = j.h / 64 := ⟨_, rfl⟩
  have hw1 : IntKind.i64.wrap (j.h.tdiv 64) = F := by rw [Int.tdiv_eq_ediv_of_nonneg (by omega), IntWalk.i64_in _ ⟨by omega, by omega⟩, hF]
  have hF1 : 1 ≤ F := by omega
  have hF2 : F ≤ 4096 := by omega
  have HFF := Keep.mk hF
  clear hF
  go_cut [7, 8] from 32 to 38 (fun s7 s8 X => s7 = .int .i64 F ∧ s8 = .pointer (some ⟨w4.heap.size, 0, none⟩) ∧ X = (w4.alloc (.cells #[.int .i64 (N : Int)] 3)).drew)
  case first =>
    go_region_held3 (fun X => X.cell? ⟨w.heap.size + 1, 0, none⟩ = some (.slice A n c) ∧ X.cell? ⟨w.heap.size, 5, none⟩ = some (.int .i64 j.h))
      (first | exact KP.out _ HC.out | exact KP.out _ HC2.out | exact KP.out _ HC3.out)
      ((go_at_call 32; (refine (CS.out _).mono ?_); rintro e7 wn ⟨rfl, rfl⟩))
    all_goals go_wp2
    all_goals go_meet
    all_goals exact ⟨rfl, rfl, rfl⟩
  obtain ⟨rfl, rfl, hX⟩ := hcut
  clear hw1 CS KP HC HC2
  have NX : Keep (Bx (w4.alloc (.cells #[.int .i64 (N : Int)] 3)).drew w4.heap.size [.int .i64 (N : Int)]) := ⟨(Bx.new w4 [.int .i64 (N : Int)] 3).below (below_draws _ _ 1)⟩
  have HB5 := Lib.hid (below_next HB4.out HC3.out (Nat.le_refl _))
  have AX5 := Keep.mk (AX4.out.below HC3.out)
  have WX5 := Keep.mk (WX.out.below HC3.out)
  have hz5 := HC3.out.size
  have hw34 := WX.out.bx.lt
  have hn5 := NX.out.lt
  rw [← hX] at NX HB5 AX5 WX5 hz5 hn5
  clear hX HC3 AX4 HB4 WX
  obtain ⟨w5, hw5⟩ : ∃ w5, w5 = wc := ⟨_, rfl⟩
  subst hw5
  generalize hbn : w4.heap.size = bn at *
  generalize hbw : wf.heap.size = bw at *
  clear hbn hbw
  have n0 := NX.out.cell 0 _ rfl
  have hmf : ∀ (fn : Fn) (first cap : Array Value) (w : World), (Instr.makeFunc fn first cap).run Tryd.prog w = .ok (.func fn first cap) w := fun _ _ _ _ => rfl
  go_wp2
  go_loopw [41] (fun i wr => ∃ (k : Nat) (D : Dk), k ≤ N ∧ i = .int .i64 (k : Int) ∧ Keep (BxW wr bw D (Jn.pcs l F (j.d.m, 0) k).2) ∧ Keep (D.m = (Jn.pcs l F (j.d.m, 0) k).1) ∧ Keep (Off [bw] w5 wr) ∧ Keep (∀ t, t < w5.heap.size → j.d.Av t → D.Av t)) (fun i _ => N - (intOf i).toNat)
  case atStart => exact ⟨0, j.d, Nat.zero_le _, rfl, WX5, ⟨rfl⟩, ⟨Off.refl _ _⟩, ⟨fun _ _ h => h⟩⟩
  case round =>
    obtain ⟨k, D, hk, rfl, HX, HM, HO, HAV⟩ := hrel
    have HWS : Keep (WS (K + k) (Jn.pcs l F (j.d.m, 0) k)) := ⟨pcs_ws HF.out k⟩
    have HBr : Hid (Below w.heap.size w wr) := HB5.out.trans (HO.out.below HB5.out.size (by simp; omega))
    have hN3 : N * 63 < n + 63 := by rw [HN.out]; exact Jn.sectors_lt n
    have hzr := HO.out.size
    by_cases hkN : k < N
    · have d1 : decide ((k : Int) < (N : Int)) = true := decide_eq_true (by omega)
      have d2 : decide (k < N) = true := decide_eq_true hkN
      have CP := Keep.mk (piece_any (w.heap.size + 1) A n c l k wr (AX5.out.r.off HO.out (by simp; omega)) (HL.out.below HBr.out) (by omega) (by omega))
      go_wp2_with fail
      refine CP.out.mono ?_
      rintro e1 w6 ⟨A6, n6, c6, rfl, hr, rfl⟩
      have CS := Keep.mk (sector_any 2 A6 n6 c6 _ wr hr (Jn.piece_length _ _))
      clear hr CP
      go_wp2_with fail
      refine CS.out.mono ?_
      rintro e2 w7 ⟨A7, n7, c7, rfl, hr7, hb⟩
      have CWR := Keep.mk (wwrite_at (F + 1 + (k : Int)) A7 n7 c7 _ (HX.out.below hb) HM.out hr7 HWS.out (by omega))
      have HB7 := Lib.hid hb
      clear hr7 hb CS
      go_wp2_with fail
      refine CWR.out.mono ?_
      rintro e3 w8 ⟨D8, rfl, hx, hm, ho, hav⟩
      have HX8 := Keep.mk hx
      have HM8 := Keep.mk hm
      have HO8 := Keep.mk ((HO.out.trans (Off.of_below HB7.out _)).trans ho)
      have HAV8 : Keep (∀ t, t < w5.heap.size → j.d.Av t → D8.Av t) := ⟨fun t ht h => hav t (by have := HB7.out.size; omega) (HAV.out t ht h)⟩
      clear hx hm ho hav CWR
      go_wp2
      go_roundw
      case rel => exact ⟨k + 1, D8, by omega, by rw [show ((k + 1 : Nat) : Int) = (k : Int) + 1 by omega], HX8, HM8, HO8, HAV8⟩
      case measure => simp [intOf]; omega
    · have d1 : decide ((k : Int) < (N : Int)) = false := decide_eq_false (by omega)
      have d2 : decide (k < N) = false := decide_eq_false hkN
      have hkk : k = N := by omega
      rw [hkk] at HX HM HWS
      obtain ⟨s1, hs1⟩ : ∃ s1, s1 = Jn.pcs l F (j.d.m, 0) N := ⟨_, rfl⟩
      rw [← hs1] at HX HM HWS
      have HS1 := Keep.mk hs1
      clear hs1 hkk hkN
      have n0 := (NX.out.off HO.out (by simp; omega)).cell 0 _ rfl
      have i0 := (AX5.out.j.bx.off HO.out (by simp; omega)).cell 0 _ rfl
      obtain ⟨s2, hs2⟩ : ∃ s2, s2 = Jn.apE j.d.m.sectors.length (F + 1 + (N : Int)) s1 := ⟨_, rfl⟩
      have HS2 := Keep.mk hs2
      by_cases hend : F + 1 + (N : Int) < (j.d.n : Int)
      case' pos =>
        have g1 : decide (F + 1 + (N : Int) < (j.d.n : Int)) = true := decide_eq_true hend
        have hs3 : s2 = Jn.ww s1 (F + 1 + (N : Int)) zs := by rw [hs2]; unfold Jn.apE; rw [if_pos (by rw [HDL.out]; exact hend)]
        have hmk := run_make64 wr
        have C1 := wwrite_at (F + 1 + (N : Int)) _ 64 64 zs (HX.out.below (below_alloc1 wr (.cells (zs.map bv).toArray 5))) HM.out (rb_zs wr) HWS.out (by omega)
        have hf1 := HWS.out.write (F + 1 + (N : Int)) zs
        rw [← hs3] at C1 hf1
        have CK1 := Keep.mk C1
        have HW2 : Keep (WS (K + 49) s2) := ⟨hf1.mono (by omega)⟩
        clear C1 hf1 hs3 hs2 hend
        go_wp2_with fail
        refine CK1.out.mono ?_
        rintro e6 w6 ⟨D6, rfl, hx, hm, ho, hav⟩
        have HX2 := Keep.mk hx
        have HM2 := Keep.mk hm
        have hal := below_alloc1 wr (.cells (zs.map bv).toArray 5)
        have HO2 : Keep (Off [bw] w5 w6) := ⟨(HO.out.trans (Off.of_below hal _)).trans ho⟩
        have HAV2 : Keep (∀ t, t < w5.heap.size → j.d.Av t → D6.Av t) := ⟨fun t ht h => hav t (by have := hal.size; omega) (HAV.out t ht h)⟩
        clear hx hm ho hav hal hmk CK1 HX HM HWS HBr HO HAV n0 i0 hzr
      case' neg =>
        have g1 : decide (F + 1 + (N : Int) < (j.d.n : Int)) = false := decide_eq_false hend
        have hs3 : s2 = s1 := by rw [hs2]; unfold Jn.apE; rw [if_neg (by rw [HDL.out]; exact hend)]
        have HW2 : Keep (WS (K + 49) s2) := ⟨by rw [hs3]; exact HWS.out.mono (by omega)⟩
        rw [← hs3] at HX HM
        clear hs3 hs2 hend HWS
        obtain ⟨w6, hw6⟩ : ∃ w6, w6 = wr := ⟨_, rfl⟩
        subst hw6
        obtain ⟨D6, hD6⟩ : ∃ D6, D6 = D := ⟨_, rfl⟩
        subst hD6
        have HX2 := HX
        have HM2 := HM
        have HO2 := HO
        have HAV2 := HAV
        clear HX HM HO HAV HBr hzr
      all_goals
        obtain ⟨s3, hs3⟩ : ∃ s3, s3 = Jn.wf s2 := ⟨_, rfl⟩
        have C2 := wflush_at HX2.out HM2.out HW2.out (by omega)
        have hf2 := HW2.out.flush
        rw [← hs3] at C2 hf2
        have CK2 := Keep.mk C2
        have HW3 := Keep.mk hf2
        have HS3 := Keep.mk hs3
        clear C2 hf2 hs3
        go_wp2_with fail
        refine CK2.out.mono ?_
        rintro e7 w7 ⟨D7, rfl, hx, hm, ho, hav⟩
        have HX3 := Keep.mk hx
        have HM3 := Keep.mk hm
        have hz6 := HO2.out.size
        have HO3 : Keep (Off [bw] w5 w7) := ⟨HO2.out.trans ho⟩
        have HAV3 : Keep (∀ t, t < w5.heap.size → j.d.Av t → D7.Av t) := ⟨fun t ht h => hav t (by omega) (HAV2.out t ht h)⟩
        clear hx hm ho hav CK2 HX2 HM2 HO2 HAV2
        try clear n0 i0
        have KP : Keep (∀ X, Off [bw] w5 X → X.cell? ⟨w.heap.size, 4, none⟩ = some (.int .i64 j.e) ∧ X.cell? ⟨w.heap.size, 6, none⟩ = some (.int .i64 j.c) ∧ X.cell? ⟨w.heap.size + 1, 0, none⟩ = some (.slice A n c)) := ⟨fun X hX => ⟨(AX5.out.j.bx.off hX (by simp; omega)).cell 4 _ rfl, (AX5.out.j.bx.off hX (by simp; omega)).cell 6 _ rfl, (AX5.out.r.off hX (by simp; omega)).cell 0 _ rfl⟩⟩
        have HB7 : Hid (Below w.heap.size w w7) := HB5.out.trans (HO3.out.below HB5.out.size (by simp; omega))
        go_upto_region 21 with (fail)
        have HC : Hid (Off [bw] w5 w7.drew) := HO3.out.drewN 1
        have HBD : Hid (Below w.heap.size w w7.drew) := HB7.out.trans (below_draws _ w7 1)
        have HX3d := Keep.mk (HX3.out.below (below_draws _ w7 1))
        go_region_held3 (fun X => X.cell? ⟨w.heap.size, 4, none⟩ = some (.int .i64 j.e) ∧ X.cell? ⟨w.heap.size, 6, none⟩ = some (.int .i64 j.c) ∧ X.cell? ⟨w.heap.size + 1, 0, none⟩ = some (.slice A n c))
          (first | exact KP.out _ HC.out)
          ((first
            | (go_at_call 38; ((refine (crc_any A n c l _ (HL.out.below HBD.out) (HT.out.below HBD.out)).mono ?_); rintro e8 wn ⟨rfl, rfl⟩))
            | (go_at_call 39; ((refine (title_any j.e j.c (n : Int) (Jn.crcI l) _ (by have := HE.out; unfold V.In; omega) (by have := HE.out; unfold V.In; omega) (by unfold V.In; omega) (crc_in l) (HT.out.below HBD.out)).mono ?_); rintro e8 w9 ⟨A9, n9, c9, rfl, hr9, hb9⟩; have HR9 := Keep.mk hr9; have HB9 := Lib.hid hb9; have HC := Lib.hid (HC.out.trans (Off.of_below hb9 _)); clear hr9 hb9))
            | (go_at_call 35; ((refine (wwrite_at F A9 n9 c9 _ (HX3d.out.below HB9.out) HM3.out HR9.out HW3.out (by omega)).mono ?_); rintro e8 wt ⟨D10, rfl, hx, hm, ho, hav⟩; have HX4 := Keep.mk hx; have HM4 := Keep.mk hm; have HAV4 := Keep.mk hav; have HC := Lib.hid (HC.out.trans ho); clear hx hm ho hav))))
        have HM4' : Keep (D10.m = (Jn.ww s3 F (Jn.titleB j.e j.c (n : Int) (Jn.crcI l))).1) := HM4
        have HX4' : Keep (BxW wt bw D10 (Jn.ww s3 F (Jn.titleB j.e j.c (n : Int) (Jn.crcI l))).2) := HX4
        have hz8 : w5.heap.size ≤ w9.heap.size := by have h1 := HO3.out.size; have h2 := HB9.out.size; have h3 : w7.heap.size ≤ w7.drew.heap.size := (below_draws w7.heap.size w7 1).size; omega
        have HAV5 : Keep (∀ t, t < w5.heap.size → j.d.Av t → D10.Av t) := ⟨fun t ht h => HAV4.out t (by omega) (HAV3.out t ht h)⟩
        clear HX4 HM4 HAV4 HAV3 HX3d HX3 HM3 HR9 HB9 HB7 HBD KP HO3 hz6
        obtain ⟨s4, hs4⟩ : ∃ s4, s4 = Jn.ww s3 F (Jn.titleB j.e j.c (n : Int) (Jn.crcI l)) := ⟨_, rfl⟩
        have hf4 := HW3.out.write F (Jn.titleB j.e j.c (n : Int) (Jn.crcI l))
        rw [← hs4] at HX4' HM4' hf4
        obtain ⟨s5, hs5⟩ : ∃ s5, s5 = Jn.wf s4 := ⟨_, rfl⟩
        have C5 := wflush_at HX4'.out HM4'.out hf4 (by omega)
        rw [← hs5] at C5
        have CK5 := Keep.mk C5
        have HAP : Keep (Jn.apW j.d.m j.e j.c (j.h / 64) l = s5) := ⟨by unfold Jn.apW; rw [← HFF.out, HLN.out, ← HN.out, ← HS1.out, ← HS2.out, ← HS3.out, ← hs4, ← hs5]⟩
        clear C5 hf4 hs4 hs5
        go_wp2_with fail
        refine CK5.out.mono ?_
        rintro e9 wz ⟨D11, rfl, hx, hm, ho, hav⟩
        have HX5 := Keep.mk hx
        have HM5 := Keep.mk hm
        have hzt := HC.out.size
        have HOZ : Keep (Off [bw] w5 wz) := ⟨HC.out.trans ho⟩
        have HAV6 : Keep (∀ t, t < w5.heap.size → j.d.Av t → D11.Av t) := ⟨fun t ht h => hav t (by omega) (HAV5.out t ht h)⟩
        clear hx hm ho hav CK5 HX4' HM4' HAV5 HC
        have HBZ : Hid (Below w.heap.size w wz) := HB5.out.trans (HOZ.out.below HB5.out.size (by simp; omega))
        go_wp2
        refine leaves_cons (f := 33) (args := #[.pointer (some ⟨bw, 0, none⟩), .pointer (some ⟨w.heap.size, 0, none⟩), .pointer (some ⟨w.heap.size + 2, 0, none⟩), .pointer (some ⟨w.heap.size + 3, 0, none⟩), .pointer (some ⟨bn, 0, none⟩)]) (by simp) (by simp [go_sem]) ?_
        refine (leave_any bw w.heap.size (w.heap.size + 2) (w.heap.size + 3) bn D11 s5.2 j _ _ _ _ _ _ _ _ (N : Int) .returning wz HX5.out (AX5.out.j.bx.off HOZ.out (by simp; omega)) (AX5.out.o.off HOZ.out (by simp; omega)) (AX5.out.e.off HOZ.out (by simp; omega)) (NX.out.off HOZ.out (by simp; omega)) (by omega) (by omega) (by omega) (by omega) (by omega) (by omega) (by omega) (by omega) (by omega) (by have := HE.out; omega)).mono ?_
        rintro e10 u' wy ⟨rfl, rfl, ho, he, hof⟩
        have HA1 : ∀ t, w.heap.size ≤ t → t < w5.heap.size → D11.Av t := fun t h1 h2 => HAV6.out t h2 (HOK.out.av h1)
        have HOKy : D11.Ok wy := HX5.out.ok.off hof (fun b hb => HA1 b (by simp at hb; omega) (by simp at hb; omega))
        have HBY : Below w.heap.size w wy := HBZ.out.trans (hof.below HBZ.out.size (by simp))
        have hz0 := HB5.out.size
        have e0 := he.cell 0 _ rfl
        have HRES := HSE.out
        rw [HAP.out, HLN.out, ← HN.out] at HRES
        unfold Jl.put at HRES
        by_cases hk0 : s5.2 = 0
        · rw [outC_ok hk0] at ho
          rw [if_pos hk0] at HRES
          rw [hk0] at e0
          have o0 := ho.cell 0 _ rfl
          have o1 := ho.cell 1 _ rfl
          have o2 := ho.cell 2 _ rfl
          have o3 := ho.cell 3 _ rfl
          have o4 := ho.cell 4 _ rfl
          have o5 := ho.cell 5 _ rfl
          have o6 := ho.cell 6 _ rfl
          refine ⟨.tuple #[.agg #[.slice D11.a D11.n D11.c, .slice D11.pa D11.pn D11.pc, .int .i64 D11.left, .bool D11.down, .int .i64 j.e, .int .i64 (j.h+(1+(N:Int))*64), .int .i64 (j.c+1)], .int .i64 0], by simp [results, Tryd.results15, go_sem, o0, o1, o2, o3, o4, o5, o6, e0], ?_⟩
          rw [HRES]
          exact ⟨⟨D11, j.e, j.h + (1 + (N : Int)) * 64, j.c + 1⟩, rfl, HOKy, by unfold Jk.m; simp only [HM5.out], HBY, fun b hb h => HAV6.out b (by omega) h⟩
        · rw [outC_no hk0] at ho
          rw [if_neg hk0] at HRES
          have o0 := ho.cell 0 _ rfl
          have o1 := ho.cell 1 _ rfl
          have o2 := ho.cell 2 _ rfl
          have o3 := ho.cell 3 _ rfl
          have o4 := ho.cell 4 _ rfl
          have o5 := ho.cell 5 _ rfl
          have o6 := ho.cell 6 _ rfl
          refine ⟨.tuple #[.agg #[.slice D11.a D11.n D11.c, .slice D11.pa D11.pn D11.pc, .int .i64 D11.left, .bool D11.down, .int .i64 j.e, .int .i64 j.h, .int .i64 j.c], .int .i64 s5.2], by simp [results, Tryd.results15, go_sem, o0, o1, o2, o3, o4, o5, o6, e0], ?_⟩
          rw [HRES]
          exact ⟨⟨D11, j.e, j.h, j.c⟩, rfl, HOKy, by unfold Jk.m; simp only [HM5.out], HBY, fun b hb h => HAV6.out b (by omega) h⟩

/-- APPEND, on every way. -/
theorem append_any (j : Jk) (A : Option Addr) (n c : Nat) (l : List UInt8) (w : World) (h : j.d.Ok w) (hH : V.In j.h) (hl : RB w A n c l) (K : Nat) (hfit : WS K (j.d.m, 0)) (hK : K ≤ 900) (hlen : l.length ≤ 3000) (ht : Tab w) :
    Calls Tryd.prog 15 #[.agg #[.slice j.d.a j.d.n j.d.c, .slice j.d.pa j.d.pn j.d.pc, .int .i64 j.d.left, .bool j.d.down, .int .i64 j.e, .int .i64 j.h, .int .i64 j.c], .slice A n c] w (RetJE w j.d.Av (j.m.append l)) := by
  have hdl := dk_len h
  have hns : j.d.n ≤ 4096 := by have := hfit.fit.ns; simp only at this; omega
  cases hw : j.m.wrong
  · by_cases hf : j.m.free < (l.length : Int)
    · exact append_full j A n c l w h hns hH hl hw hf
    · cases hd : j.d.down
      · have := append_main j A n c l w h hns hH hl hw hf hd K hfit hK hlen ht
        rwa [hd] at this
      · have := append_down j A n c l w h hns hH hl hw hf hd K hfit.fit hK
        rwa [hd] at this
  · exact append_wrong j A n c l w h hns hH hw
end Go.Proofs.YtjficpdfofmcnaaDoor

/- The plain law of the journal: which device Format and Append leave, and what is read on it, also behind a crash. No walk here. -/
namespace Go.Proofs.YtjficpdfofmcnaaDoor
namespace Jn

theorem content_app (b : List UInt8) (s : Int) (ps qs : List (Int × List UInt8)) : Dv.content b s (ps ++ qs) = Dv.content (Dv.content b s ps) s qs := by simp [Dv.content, List.foldl_append]
theorem content_skip {s : Int} : ∀ {ps : List (Int × List UInt8)} (b : List UInt8), (∀ p ∈ ps, p.1 ≠ s) → Dv.content b s ps = b
  | [], _, _ => rfl
  | p :: ps, b, h => by
    have h1 := content_skip (ps := ps) b fun q hq => h q (List.mem_cons_of_mem _ hq)
    have h2 := h p (List.mem_cons_self ..)
    rw [← List.singleton_append, content_app, show Dv.content b s [p] = b by simp [Dv.content, h2], h1]
theorem content_one (b : List UInt8) (s : Int) (t : List UInt8) : Dv.content b s [(s, t)] = t := by simp [Dv.content]

theorem ww_stop {s : Dv.Disk × Int} {i : Int} {l : List UInt8} (h : s.2 ≠ 0) : ww s i l = s := by unfold ww; rw [if_neg h]
/-- So many of these writes have reached the device; all of them, if there is no error. -/
structure Wr (m : Dv.Disk) (W : List (Int × List UInt8)) (s : Dv.Disk × Int) : Prop where
  sec : s.1.sectors = m.sectors
  pen : ∃ k, k ≤ W.length ∧ s.1.pending = m.pending ++ W.take k ∧ (s.2 = 0 ∧ s.1.down = false ∧ k = W.length ∨ s.2 = 23 ∧ 0 ≤ m.left)
  lf : m.left < 0 → s.1.left = m.left
theorem Wr.nil {m : Dv.Disk} (h : m.down = false) : Wr m [] (m, 0) := ⟨rfl, ⟨0, Nat.le_refl _, by simp, .inl ⟨rfl, h, rfl⟩⟩, fun _ => rfl⟩
theorem Wr.snoc {m : Dv.Disk} {W : List (Int × List UInt8)} {s : Dv.Disk × Int} (h : Wr m W s) {i : Int} {b : List UInt8} (hi : Dv.has m.sectors.length i = true) (hb : b.length = 64) : Wr m (W ++ [(i, b)]) (ww s i b) := by
  obtain ⟨k, hk, hp, hc⟩ := h.pen
  rcases hc with ⟨h0, hd, rfl⟩ | ⟨h0, hl⟩
  · unfold ww
    rw [if_pos h0]
    have hs := h.sec
    have hp' : s.1.pending = m.pending ++ W := by rw [hp, List.take_length]
    rcases Dv.write_cases s.1 i b with ⟨g, _⟩ | ⟨_, g, _⟩ | ⟨_, _, g, _⟩ | ⟨_, _, _, g, e⟩ | ⟨_, _, _, g, e⟩
    · rw [hd] at g; cases g
    · rw [hs, hi] at g; cases g
    · exact absurd hb g
    · rw [e]
      have hl : 0 ≤ m.left := by
        by_cases hn : m.left < 0
        · have := h.lf hn; omega
        · omega
      exact ⟨hs, ⟨_, Nat.le_refl _, by rw [List.take_length]; simp [hp'], .inr ⟨rfl, hl⟩⟩, fun hn => by omega⟩
    · rw [e]
      refine ⟨hs, ⟨_, Nat.le_refl _, by rw [List.take_length]; simp [hp'], .inl ⟨rfl, rfl, rfl⟩⟩, fun hn => ?_⟩
      have := h.lf hn
      simp only
      rw [if_neg (by omega)]
      exact this
  · unfold ww
    rw [if_neg (by omega)]
    exact ⟨h.sec, ⟨k, by simp; omega, by rw [List.take_append_of_le_length hk]; exact hp, .inr ⟨h0, hl⟩⟩, h.lf⟩
theorem Wr.flush {m : Dv.Disk} {W : List (Int × List UInt8)} {s : Dv.Disk × Int} (h : Wr m W s) :
    (s.2 = 0 ∧ wf s = (⟨Dv.settle m.sectors (m.pending ++ W), [], s.1.left, false⟩, 0)) ∨ (s.2 = 23 ∧ 0 ≤ m.left ∧ wf s = s) := by
  obtain ⟨k, hk, hp, hc⟩ := h.pen
  rcases hc with ⟨h0, hd, rfl⟩ | ⟨h0, hl⟩
  · refine .inl ⟨h0, ?_⟩
    unfold wf Dv.flush
    rw [if_pos h0, if_neg (by rw [hd]; decide), h.sec, hp, List.take_length]
  · exact .inr ⟨h0, hl, by unfold wf; rw [if_neg (by omega)]⟩

/-! ### Append -/
/-- The writes of the content. -/
def wl (l : List UInt8) (F : Nat) : Nat → List (Int × List UInt8)
  | 0 => []
  | k + 1 => wl l F k ++ [((F : Int) + 1 + (k : Int), sec 2 (piece l k))]
/-- The write of the end sector. -/
def wz (ns F N : Nat) : List (Int × List UInt8) := if F + 1 + N < ns then [((F : Int) + 1 + (N : Int), zs)] else []
def wa (l : List UInt8) (ns F : Nat) : List (Int × List UInt8) := wl l F (sectors l.length) ++ wz ns F (sectors l.length)
theorem wl_mem (l : List UInt8) (F : Nat) : ∀ k, ∀ p ∈ wl l F k, (F : Int) < p.1 ∧ p.1 < (F : Int) + 1 + (k : Int)
  | 0, p, h => by simp [wl] at h
  | k + 1, p, h => by
    rcases List.mem_append.1 h with h | h
    · have := wl_mem l F k p h; omega
    · simp only [List.mem_singleton] at h; subst h; simp only; omega
theorem wz_mem {ns F N : Nat} {p : Int × List UInt8} (h : p ∈ wz ns F N) : p.1 = (F : Int) + 1 + (N : Int) := by
  unfold wz at h
  split at h
  · simp only [List.mem_singleton] at h; rw [h]
  · cases h
theorem wa_mem {l : List UInt8} {ns F : Nat} {p : Int × List UInt8} (h : p ∈ wa l ns F) : (F : Int) < p.1 := by
  rcases List.mem_append.1 h with h | h
  · exact (wl_mem l F _ p h).1
  · have := wz_mem h; omega
theorem wl_at (l : List UInt8) (F : Nat) (b : List UInt8) : ∀ k i : Nat, i < k → Dv.content b ((F : Int) + 1 + (i : Int)) (wl l F k) = sec 2 (piece l i)
  | 0, i, h => by omega
  | k + 1, i, h => by
    unfold wl
    rw [Dv.content_append]
    by_cases e : i = k
    · subst e; rw [if_pos rfl]
    · rw [if_neg (by simp only; omega)]
      exact wl_at l F b k i (by omega)
theorem wa_at {l : List UInt8} {ns F i : Nat} (b : List UInt8) (h : i < sectors l.length) : Dv.content b ((F : Int) + 1 + (i : Int)) (wa l ns F) = sec 2 (piece l i) := by
  unfold wa
  rw [content_app, wl_at l F b _ i h, content_skip _ fun p hp => by have := wz_mem hp; omega]
theorem wa_end {l : List UInt8} {ns F : Nat} (b : List UInt8) (h : F + 1 + sectors l.length < ns) : Dv.content b ((F : Int) + 1 + (sectors l.length : Int)) (wa l ns F) = zs := by
  unfold wa wz
  rw [content_app, if_pos h, content_one]
theorem wa_below {l : List UInt8} {ns F i : Nat} (b : List UInt8) (h : i ≤ F) : Dv.content b (i : Int) (wa l ns F) = b := content_skip b fun p hp => by have := wa_mem hp; omega
theorem pcs_wr {m : Dv.Disk} (hd : m.down = false) (l : List UInt8) (F : Nat) : ∀ k, F + 1 + k ≤ m.sectors.length → Wr m (wl l F k) (pcs l (F : Int) (m, 0) k)
  | 0, _ => .nil hd
  | k + 1, h => (pcs_wr hd l F k (by omega)).snoc (by rw [show (F : Int) + 1 + (k : Int) = ((F + 1 + k : Nat) : Int) by omega]; exact Dv.has_nat (by omega)) (sec_length (piece_length l k))
theorem apE_wr {m : Dv.Disk} (hd : m.down = false) (l : List UInt8) (F : Nat) (h : F + 1 + sectors l.length ≤ m.sectors.length) :
    Wr m (wa l m.sectors.length F) (apE m.sectors.length ((F : Int) + 1 + (sectors l.length : Int)) (pcs l (F : Int) (m, 0) (sectors l.length))) := by
  have hp := pcs_wr hd l F (sectors l.length) h
  unfold wa wz apE
  by_cases hz : F + 1 + sectors l.length < m.sectors.length
  · rw [if_pos hz, if_pos (by omega)]
    exact hp.snoc (by rw [show (F : Int) + 1 + (sectors l.length : Int) = ((F + 1 + sectors l.length : Nat) : Int) by omega]; exact Dv.has_nat hz) zs_len
  · rw [if_neg hz, if_neg (by omega), List.append_nil]
    exact hp
/-- What Append leaves: all of it; or a part of the first writes, pending; or these durable, and perhaps the title pending. -/
theorem apW_cases {m : Dv.Disk} (hd : m.down = false) (e c : Int) (l : List UInt8) (F : Nat) (h : F + 1 + sectors l.length ≤ m.sectors.length) (he : V.In e) (hc : V.In c) (hl : V.In (l.length : Int)) :
    ((apW m e c (F : Int) l).2 = 0 ∧ (m.left < 0 → (apW m e c (F : Int) l).1.left = m.left) ∧ (apW m e c (F : Int) l).1.pending = [] ∧ (apW m e c (F : Int) l).1.down = false ∧
      (apW m e c (F : Int) l).1.sectors = Dv.settle (Dv.settle m.sectors (m.pending ++ wa l m.sectors.length F)) [((F : Int), titleB e c (l.length : Int) (crcI l))]) ∨
    ((apW m e c (F : Int) l).2 = 23 ∧ 0 ≤ m.left ∧ (apW m e c (F : Int) l).1.sectors = m.sectors ∧ ∃ k, (apW m e c (F : Int) l).1.pending = m.pending ++ (wa l m.sectors.length F).take k) ∨
    ((apW m e c (F : Int) l).2 = 23 ∧ 0 ≤ m.left ∧ (apW m e c (F : Int) l).1.sectors = Dv.settle m.sectors (m.pending ++ wa l m.sectors.length F) ∧
      ∃ k, (apW m e c (F : Int) l).1.pending = [((F : Int), titleB e c (l.length : Int) (crcI l))].take k) := by
  have hE := apE_wr hd l F h
  have hT : (titleB e c (l.length : Int) (crcI l)).length = 64 := titleB_length he hc hl (crc_in l)
  unfold apW
  generalize apE m.sectors.length ((F : Int) + 1 + (sectors l.length : Int)) (pcs l (F : Int) (m, 0) (sectors l.length)) = s at *
  generalize titleB e c (l.length : Int) (crcI l) = T at *
  rcases hE.flush with ⟨h0, hf⟩ | ⟨h0, hn, hf⟩
  · rw [hf]
    have h1 := (Wr.nil (m := (⟨Dv.settle m.sectors (m.pending ++ wa l m.sectors.length F), [], s.1.left, false⟩ : Dv.Disk)) rfl).snoc (i := (F : Int)) (b := T) (by simp only [Dv.settle_length]; exact Dv.has_nat (by omega)) hT
    rw [List.nil_append] at h1
    rcases h1.flush with ⟨g0, g⟩ | ⟨g0, hn, g⟩
    · rw [g]
      exact .inl ⟨rfl, fun hl => (h1.lf (by have := hE.lf hl; simp only; omega)).trans (hE.lf hl), rfl, rfl, rfl⟩
    · rw [g]
      obtain ⟨k, _, hp, _⟩ := h1.pen
      refine .inr (.inr ⟨g0, ?_, h1.sec, k, by rw [hp]; rfl⟩)
      simp only at hn
      by_cases hl : m.left < 0
      · have := hE.lf hl; omega
      · omega
  · rw [hf]
    have e1 : ww s (F : Int) T = s := by unfold ww; rw [if_neg (by omega)]
    have e2 : wf s = s := by unfold wf; rw [if_neg (by omega)]
    rw [e1, e2]
    obtain ⟨k, _, hp, _⟩ := hE.pen
    exact .inr (.inl ⟨h0, hn, hE.sec, k, hp⟩)

/-! ### What is read -/
theorem piece_take (l : List UInt8) (k : Nat) : l.take (k * 63) ++ piece l k = l.take ((k + 1) * 63) := by
  unfold piece
  by_cases h : k * 63 ≤ l.length
  · have h1 : l.take (k * 63) = (l.take (min ((k + 1) * 63) l.length)).take (k * 63) := by rw [List.take_take]; congr 1; omega
    rw [h1, List.take_append_drop]
    by_cases h2 : (k + 1) * 63 ≤ l.length
    · rw [Nat.min_eq_left h2]
    · rw [Nat.min_eq_right (by omega), List.take_length, List.take_of_length_le (by omega)]
  · have h1 : l.take (k * 63) = l := List.take_of_length_le (by omega)
    have h2 : l.take ((k + 1) * 63) = l := List.take_of_length_le (by omega)
    rw [h1, h2, Nat.min_eq_right (by omega), List.take_length, List.drop_of_length_le (by omega), List.append_nil]
theorem body_pieces {m : Dv.Disk} {a : Nat} {l : List UInt8} : ∀ k, k ≤ sectors l.length → (∀ i, i < k → cont m (a + i) = sec 2 (piece l i)) → body m a k = some (l.take (k * 63) ++ List.replicate (k * 63 - l.length) 0)
  | 0, _, _ => by simp [body]
  | k + 1, hk, h => by
    have ih := body_pieces (m := m) (a := a) (l := l) k (by omega) fun i hi => h i (by omega)
    have hlt : k * 63 < l.length := by unfold sectors at hk; omega
    have hc := h k (by omega)
    rw [body_next ih, hc, if_pos ⟨sec_length (piece_length l k), rfl⟩]
    have hp : (piece l k).length = min ((k + 1) * 63) l.length - k * 63 := by unfold piece; rw [List.length_drop, List.length_take]; omega
    rw [show k * 63 - l.length = 0 by omega, List.replicate_zero, List.append_nil]
    unfold sec
    rw [List.drop_succ_cons, List.drop_zero, ← List.append_assoc, piece_take, hp]
    congr 3
    omega
theorem named_title {e n l s : Int} (h1 : V.In e) (h2 : V.In n) (h3 : V.In l) (h4 : V.In s) (hl : 0 ≤ l) : named (titleB e n l s) e n = some (l, s) := by
  rw [named_of (titleOf_title h1 h2 h3 h4), if_pos ⟨rfl, rfl, hl⟩]
/-- What Append writes is read as the record. -/
theorem recOf_of {m : Dv.Disk} {e n : Int} {a : Nat} {l : List UInt8} (ha : a + 1 + sectors l.length ≤ m.sectors.length) (h1 : V.In e) (h2 : V.In n) (h3 : V.In (l.length : Int))
    (ht : cont m a = titleB e n (l.length : Int) (crcI l)) (hb : ∀ i, i < sectors l.length → cont m (a + 1 + i) = sec 2 (piece l i)) : recOf m e n a = some l := by
  have hn : named (cont m a) e n = some ((l.length : Int), crcI l) := by rw [ht]; exact named_title h1 h2 h3 (crc_in l) (by omega)
  have hle := sectors_le l.length
  have hbd := body_pieces (m := m) (a := a + 1) (l := l) (sectors l.length) (Nat.le_refl _) hb
  rw [List.take_of_length_le hle] at hbd
  have h := recOf_yes (m := m) (e := e) (n := n) (l := (l.length : Int)) (s := crcI l) (a := a) (c := l ++ List.replicate (sectors l.length * 63 - l.length) 0) (by omega) hn (by simp only [Int.toNat_natCast]; omega) (by simp only [Int.toNat_natCast]; exact hbd)
    (by simp only [Int.toNat_natCast]; rw [List.drop_left]; intro x hx; exact (List.mem_replicate.1 hx).2) (by simp only [Int.toNat_natCast]; rw [List.take_left])
  rw [h]
  simp only [Int.toNat_natCast]
  rw [List.take_left]
/-- The chain on a device to which a record has been added. -/
theorem chain_added {m m' : Dv.Disk} {e : Int} {F : Nat} {L : List (List UInt8)} {l : List UInt8} (hc : Chain m e 1 0 L F) (ha : Agree m m' F) (hn : F + 1 + sectors l.length ≤ m.sectors.length) (h1 : V.In e) (h2 : V.In (L.length : Int)) (h3 : V.In (l.length : Int))
    (ht : cont m' F = titleB e (L.length : Int) (l.length : Int) (crcI l)) (hb : ∀ i, i < sectors l.length → cont m' (F + 1 + i) = sec 2 (piece l i)) (hz : F + 1 + sectors l.length < m.sectors.length → cont m' (F + 1 + sectors l.length) = zs) :
    Chain m' e 1 0 (L ++ [l]) (F + 1 + sectors l.length) ∧ ∀ n, recOf m' e n (F + 1 + sectors l.length) = none := by
  have hl := ha.1
  refine ⟨.snoc (hc.agree ha (Nat.le_refl _)) (by rw [Nat.zero_add]; exact recOf_of (by omega) h1 h2 h3 ht hb), fun n => ?_⟩
  by_cases h : F + 1 + sectors l.length < m.sectors.length
  · exact recOf_zeros (hz h)
  · exact recOf_behind (by omega)
theorem cont_settled {S : List (List UInt8)} {P : List (Int × List UInt8)} {l : Int} {d : Bool} {i : Nat} (hi : i < S.length) : cont ⟨Dv.settle S P, [], l, d⟩ i = Dv.content (S.getD i []) (i : Int) P := by
  unfold cont
  simp only [Dv.content, List.foldl_nil]
  exact Dv.settle_getD S P i hi
end Jn

/-! ### A journal that has been found -/
/-- The journal j lies on its device, with the records L. -/
structure Found (j : Jl) (L : List (List UInt8)) (F : Nat) : Prop where
  len : 2 ≤ j.d.sectors.length
  up : j.d.down = false
  head : Jn.readHead (Jn.cont j.d 0) = (j.e, true)
  ch : Jn.Chain j.d j.e 1 0 L F
  no : Jn.recOf j.d j.e (L.length : Int) F = none
  h : j.h = (F : Int) * 64
  c : j.c = (L.length : Int)
theorem Scanned.found {m : Dv.Disk} {j : Jl} {L : List (List UInt8)} (h : Scanned m j L 0) : j.d = m ∧ ∃ F, Found j L F := by
  obtain ⟨h1, h2⟩ := h
  rcases h2 with ⟨g, _⟩ | ⟨_, a, hc, hn, rfl⟩
  · exact absurd rfl g
  · refine ⟨rfl, a, ?_⟩
    unfold Jn.scanE at h1
    split at h1
    · cases h1
    · rename_i g1
      split at h1
      · cases h1
      · rename_i g2
        cases hk : (Jn.readHead (Jn.cont m 0)).2
        · rw [hk] at h1; simp at h1
        · refine ⟨by simp only; omega, by simpa using g2, Prod.ext rfl hk, hc, by rw [Nat.zero_add] at hn; exact hn, rfl, rfl⟩
theorem Found.scanned {j : Jl} {L : List (List UInt8)} {F : Nat} (h : Found j L F) : Scanned j.d j L 0 := by
  have hh := h.head
  refine ⟨?_, .inr ⟨rfl, F, ?_, ?_, ?_⟩⟩
  · unfold Jn.scanE
    have := h.len
    rw [if_neg (by omega), if_neg (by rw [h.up]; decide), hh]
    simp
  · rw [hh]; exact h.ch
  · rw [hh, Nat.zero_add]; exact h.no
  · rw [hh]
    obtain ⟨d, e, x, c⟩ := j
    have h1 := h.h
    have h2 := h.c
    simp only at h1 h2
    rw [h1, h2]
theorem Found.bounds {j : Jl} {L : List (List UInt8)} {F : Nat} (h : Found j L F) : 1 ≤ j.e ∧ j.e ≤ 1073741824 ∧ 1 + L.length ≤ F ∧ F ≤ j.d.sectors.length := by
  have h1 := Jn.readHead_true (b := Jn.cont j.d 0) (by rw [h.head])
  rw [h.head] at h1
  have h2 := h.ch.le (by have := h.len; omega)
  simp only at h1
  omega
theorem Found.wrong {j : Jl} {L : List (List UInt8)} {F : Nat} (h : Found j L F) (hn : j.d.sectors.length ≤ 4096) : j.wrong = false := by
  have hb := h.bounds
  have h1 := h.h
  have h2 := h.c
  exact wrong_not (by omega)
theorem Found.free {j : Jl} {L : List (List UInt8)} {F : Nat} (h : Found j L F) (hn : j.d.sectors.length ≤ 4096) : j.free = if F = j.d.sectors.length then -1 else 63 * ((j.d.sectors.length : Int) - (F : Int) - 1) := by
  have hb := h.bounds
  have h1 := h.h
  rw [free_right (h.wrong hn), show j.h / 64 = (F : Int) by omega]
  by_cases e : F = j.d.sectors.length
  · rw [if_pos (by omega), if_pos e]
  · rw [if_neg (by omega), if_neg e]
/-- Append, on a journal that has been found. -/
theorem Found.append {j : Jl} {L : List (List UInt8)} {F : Nat} (h : Found j L F) (hn : j.d.sectors.length ≤ 4096) (l : List UInt8) :
    (j.free < (l.length : Int) ∧ j.append l = (Jl.zero, 18)) ∨
    ((l.length : Int) ≤ j.free ∧ F + 1 + Jn.sectors l.length ≤ j.d.sectors.length ∧ j.append l = Jl.put (Jn.apW j.d j.e (L.length : Int) (F : Int) l) j.e j.h j.c (Jn.sectors l.length : Int)) := by
  have hb := h.bounds
  have hf := h.free hn
  unfold Jl.append
  rw [if_neg (by rw [h.wrong hn]; decide)]
  by_cases hl : j.free < (l.length : Int)
  · rw [if_pos hl]
    exact .inl ⟨hl, rfl⟩
  · rw [if_neg hl, if_neg (by rw [h.up]; decide)]
    refine .inr ⟨by omega, ?_, ?_⟩
    · rw [hf] at hl
      split at hl
      · omega
      · unfold Jn.sectors; omega
    · have h1 := h.h
      rw [show j.h / 64 = (F : Int) by omega, h.c]
theorem in_nat {n : Nat} (h : n ≤ 1073741824) : V.In (n : Int) := by unfold V.In; omega
theorem Found.ins {j : Jl} {L : List (List UInt8)} {F : Nat} (h : Found j L F) (hn : j.d.sectors.length ≤ 4096) : V.In j.e ∧ V.In (L.length : Int) := by
  have := h.bounds
  exact ⟨by unfold V.In; omega, in_nat (by omega)⟩
/-- Behind an Append without an error the journal has one record more. -/
theorem Found.added {j : Jl} {L : List (List UInt8)} {F : Nat} (h : Found j L F) (hn : j.d.sectors.length ≤ 4096) {l : List UInt8} (hl : l.length ≤ 3000) (hk : (j.append l).2 = 0) :
    Found (j.append l).1 (L ++ [l]) (F + 1 + Jn.sectors l.length) ∧ (j.append l).1.e = j.e ∧ (j.append l).1.d.pending = [] ∧ (j.d.left < 0 → (j.append l).1.d.left = j.d.left) ∧ (j.append l).1.d.sectors.length = j.d.sectors.length := by
  have hb := h.bounds
  obtain ⟨hi1, hi2⟩ := h.ins hn
  rcases h.append hn l with ⟨_, e⟩ | ⟨_, hs, e⟩
  · rw [e] at hk; cases hk
  · rcases Jn.apW_cases h.up j.e (L.length : Int) l F hs hi1 hi2 (in_nat (by omega)) with ⟨h0, hlf, hp, hd, hS⟩ | ⟨h0, _⟩ | ⟨h0, _⟩
    · rw [e]
      generalize hw : Jn.apW j.d j.e (L.length : Int) (F : Int) l = s at *
      obtain ⟨⟨S, P, lf, dn⟩, k⟩ := s
      simp only at h0 hlf hp hd hS
      subst h0 hp hd
      unfold Jl.put
      rw [if_pos rfl]
      simp only
      have hlen : S.length = j.d.sectors.length := by rw [hS, Dv.settle_length, Dv.settle_length]
      have hcont : ∀ i, i < j.d.sectors.length → Jn.cont ⟨S, [], lf, false⟩ i = Dv.content (Dv.content (Jn.cont j.d i) (i : Int) (Jn.wa l j.d.sectors.length F)) (i : Int) [((F : Int), Jn.titleB j.e (L.length : Int) (l.length : Int) (Jn.crcI l))] := fun i hi => by
        rw [hS, Jn.cont_settled (by rw [Dv.settle_length]; exact hi), Dv.settle_getD _ _ i hi, Jn.content_app]
        rfl
      have hag : Jn.Agree j.d ⟨S, [], lf, false⟩ F := ⟨hlen, fun i hi => by rw [hcont i (by omega), Jn.wa_below _ (by omega), Jn.content_skip _ fun p hp => by simp only [List.mem_singleton] at hp; rw [hp]; simp only; omega]⟩
      obtain ⟨hc, hno⟩ := Jn.chain_added (m' := ⟨S, [], lf, false⟩) (l := l) h.ch hag hs hi1 hi2 (in_nat (by omega)) (by rw [hcont F (by omega), Jn.content_one])
        (fun i hi => by
          rw [hcont _ (by omega), show ((F + 1 + i : Nat) : Int) = (F : Int) + 1 + (i : Int) by omega, Jn.wa_at _ hi, Jn.content_skip _ fun p hp => by simp only [List.mem_singleton] at hp; rw [hp]; simp only; omega])
        (fun hz => by
          rw [hcont _ hz, show ((F + 1 + Jn.sectors l.length : Nat) : Int) = (F : Int) + 1 + (Jn.sectors l.length : Int) by omega, Jn.wa_end _ hz, Jn.content_skip _ fun p hp => by simp only [List.mem_singleton] at hp; rw [hp]; simp only; omega])
      refine ⟨?_, trivial, trivial, hlf, hlen⟩
      have hl2 := h.len
      refine ⟨by simp only; omega, rfl, ?_, hc, hno _, ?_, ?_⟩
      · simp only
        rw [hag.2 0 (by omega)]
        exact h.head
      · have := h.h
        simp only
        omega
      · have := h.c
        simp only [List.length_append, List.length_cons, List.length_nil]
        omega
    · rw [e] at hk
      unfold Jl.put at hk
      rw [if_neg (by omega)] at hk
      simp only at hk
      omega
    · rw [e] at hk
      unfold Jl.put at hk
      rw [if_neg (by omega)] at hk
      simp only at hk
      omega
/-- Without a fuse an Append fails only where the record does not fit. -/
theorem Found.safe {j : Jl} {L : List (List UInt8)} {F : Nat} (h : Found j L F) (hn : j.d.sectors.length ≤ 4096) {l : List UInt8} (hl : l.length ≤ 3000) (hf : j.d.left < 0) :
    if (l.length : Int) ≤ j.free then (j.append l).2 = 0 else (j.append l).2 = 18 := by
  obtain ⟨hi1, hi2⟩ := h.ins hn
  rcases h.append hn l with ⟨g, e⟩ | ⟨g, hs, e⟩
  · rw [if_neg (by omega), e]
  · rw [if_pos g, e]
    rcases Jn.apW_cases h.up j.e (L.length : Int) l F hs hi1 hi2 (in_nat (by omega)) with ⟨h0, _⟩ | ⟨_, h0, _⟩ | ⟨_, h0, _⟩
    · unfold Jl.put
      rw [if_pos h0]
    · omega
    · omega
/-- Behind a crash: the records before, or these and the new one. -/
theorem Found.crash {j : Jl} {L : List (List UInt8)} {F : Nat} (h : Found j L F) (hn : j.d.sectors.length ≤ 4096) {l : List UInt8} (hl : l.length ≤ 3000) (hp : j.d.pending = []) (hz : F < j.d.sectors.length → Jn.cont j.d F = zs)
    (hk : (j.append l).2 = 0 ∨ (j.append l).2 = 23) (keep : List Int) :
    (∃ x, Scanned (Dv.crash (j.append l).1.d keep) x (L ++ [l]) 0) ∨ ((j.append l).2 ≠ 0 ∧ ∃ x, Scanned (Dv.crash (j.append l).1.d keep) x L 0) := by
  have hb := h.bounds
  have hl2 := h.len
  obtain ⟨hi1, hi2⟩ := h.ins hn
  -- the old journal on a device that agrees up to its end
  have old : ∀ m' : Dv.Disk, Jn.Agree j.d m' (F + 1) → m'.down = false → F < j.d.sectors.length → ∃ x, Scanned m' x L 0 := fun m' ha hd hF => by
    have hl := ha.1
    have hf : Found ⟨m', j.e, j.h, j.c⟩ L F := ⟨by simp only; omega, hd, by simp only; rw [ha.2 0 (by omega)]; exact h.head, h.ch.agree ha (by omega), Jn.recOf_zeros (by rw [ha.2 F (by omega)]; exact hz hF), h.h, h.c⟩
    exact ⟨_, hf.scanned⟩
  -- and with the new record
  have new : ∀ m' : Dv.Disk, m'.down = false → F + 1 + Jn.sectors l.length ≤ j.d.sectors.length → m'.sectors.length = j.d.sectors.length →
      (∀ i, i < j.d.sectors.length → Jn.cont m' i = Dv.content (Dv.content (Jn.cont j.d i) (i : Int) (Jn.wa l j.d.sectors.length F)) (i : Int) [((F : Int), Jn.titleB j.e (L.length : Int) (l.length : Int) (Jn.crcI l))]) → ∃ x, Scanned m' x (L ++ [l]) 0 := fun m' hd hs hlen hcont => by
    have hag : Jn.Agree j.d m' F := ⟨hlen, fun i hi => by rw [hcont i (by omega), Jn.wa_below _ (by omega), Jn.content_skip _ fun p hp => by simp only [List.mem_singleton] at hp; rw [hp]; simp only; omega]⟩
    obtain ⟨hc, hno⟩ := Jn.chain_added (m' := m') (l := l) h.ch hag hs hi1 hi2 (in_nat (by omega)) (by rw [hcont F (by omega), Jn.content_one])
      (fun i hi => by
        rw [hcont _ (by omega), show ((F + 1 + i : Nat) : Int) = (F : Int) + 1 + (i : Int) by omega, Jn.wa_at _ hi, Jn.content_skip _ fun p hp => by simp only [List.mem_singleton] at hp; rw [hp]; simp only; omega])
      (fun hz => by
        rw [hcont _ hz, show ((F + 1 + Jn.sectors l.length : Nat) : Int) = (F : Int) + 1 + (Jn.sectors l.length : Int) by omega, Jn.wa_end _ hz, Jn.content_skip _ fun p hp => by simp only [List.mem_singleton] at hp; rw [hp]; simp only; omega])
    have hf : Found ⟨m', j.e, ((F + 1 + Jn.sectors l.length : Nat) : Int) * 64, ((L ++ [l]).length : Int)⟩ (L ++ [l]) (F + 1 + Jn.sectors l.length) := ⟨by simp only; omega, hd, by simp only; rw [hag.2 0 (by omega)]; exact h.head, hc, hno _, rfl, rfl⟩
    exact ⟨_, hf.scanned⟩
  have cc : ∀ i, Dv.content (j.d.sectors.getD i []) (i : Int) [] = Jn.cont j.d i := fun i => by unfold Jn.cont; rw [hp]
  have cw : ∀ i, Dv.content (j.d.sectors.getD i []) (i : Int) (j.d.pending ++ Jn.wa l j.d.sectors.length F) = Dv.content (Jn.cont j.d i) (i : Int) (Jn.wa l j.d.sectors.length F) := fun i => by rw [Jn.content_app]; rfl
  rcases h.append hn l with ⟨_, e⟩ | ⟨_, hs, e⟩
  · rw [e] at hk; rcases hk with hk | hk <;> simp at hk
  · have hd : (j.append l).1.d = (Jn.apW j.d j.e (L.length : Int) (F : Int) l).1 := by rw [e]; unfold Jl.put; split <;> rfl
    have hc : (j.append l).2 = (Jn.apW j.d j.e (L.length : Int) (F : Int) l).2 := by rw [e]; unfold Jl.put; split <;> rename_i g <;> simp [g]
    rw [hd, hc]
    rcases Jn.apW_cases h.up j.e (L.length : Int) l F hs hi1 hi2 (in_nat (by omega)) with ⟨h0, _, hP, _, hS⟩ | ⟨h0, _, hS, k, hP⟩ | ⟨h0, _, hS, k, hP⟩
    · -- everything is durable
      refine .inl (new _ rfl hs (by simp only [Dv.crash]; rw [Dv.settle_length, hS, Dv.settle_length, Dv.settle_length]) fun i hi => ?_)
      have e1 : Dv.crash (Jn.apW j.d j.e (L.length : Int) (F : Int) l).1 keep = ⟨(Jn.apW j.d j.e (L.length : Int) (F : Int) l).1.sectors, [], -1, false⟩ := by unfold Dv.crash; rw [hP]; rfl
      rw [e1, hS, Jn.cont_settled (by rw [Dv.settle_length]; exact hi), Dv.settle_getD _ _ i hi, cw]
    · -- a part of the first writes
      refine .inr ⟨by rw [h0]; decide, old _ ⟨by simp only [Dv.crash]; rw [Dv.settle_length, hS], fun i hi => ?_⟩ rfl (by omega)⟩
      unfold Dv.crash
      rw [hS, hP, hp, List.nil_append, Jn.cont_settled (by omega), Jn.content_skip, ← cc]
      · rfl
      · intro p hp'
        have := Jn.wa_mem (List.mem_of_mem_take (Dv.kept_sub keep _ _ p hp'))
        omega
    · -- these are durable; the title is pending, if it was written
      have hlen : (Dv.crash (Jn.apW j.d j.e (L.length : Int) (F : Int) l).1 keep).sectors.length = j.d.sectors.length := by simp only [Dv.crash]; rw [Dv.settle_length, hS, Dv.settle_length]
      have hkk : Dv.kept keep 0 ([((F : Int), Jn.titleB j.e (L.length : Int) (l.length : Int) (Jn.crcI l))].take k) = [] ∨ Dv.kept keep 0 ([((F : Int), Jn.titleB j.e (L.length : Int) (l.length : Int) (Jn.crcI l))].take k) = [((F : Int), Jn.titleB j.e (L.length : Int) (l.length : Int) (Jn.crcI l))] := by
        cases k with
        | zero => exact .inl rfl
        | succ k =>
          simp only [List.take_succ_cons, List.take_nil, Dv.kept]
          split
          · exact .inr rfl
          · exact .inl rfl
      rcases hkk with hkk | hkk
      · refine .inr ⟨by rw [h0]; decide, old _ ⟨hlen, fun i hi => ?_⟩ rfl (by omega)⟩
        unfold Dv.crash
        rw [hP, hkk, hS, Jn.cont_settled (by rw [Dv.settle_length]; omega), Dv.settle_getD _ _ i (by omega), cw, Jn.wa_below _ (by omega)]
        rfl
      · refine .inl (new _ rfl hs hlen fun i hi => ?_)
        unfold Dv.crash
        rw [hP, hkk, hS, Jn.cont_settled (by rw [Dv.settle_length]; exact hi), Dv.settle_getD _ _ i hi, cw]

/-! ### Format -/
theorem fmt_found {m : Dv.Disk} (hk : (Jn.fmt m).2 = 0) : Found (Jn.fmt m).1 [] 1 ∧ (Jn.fmt m).1.e = (Jn.readHead (Jn.cont m 0)).1 + 1 ∧ (Jn.fmt m).1.d.pending = [] ∧ (m.left < 0 → (Jn.fmt m).1.d.left = m.left) ∧ (Jn.fmt m).1.d.sectors.length = m.sectors.length := by
  unfold Jn.fmt at hk ⊢
  split at hk
  · cases hk
  · rename_i h1
    split at hk
    · cases hk
    · rename_i h2
      split at hk
      · cases hk
      · rename_i h3
        have hr := Jn.readHead_range (Jn.cont m 0)
        rw [if_neg h1, if_neg h2, if_neg h3]
        generalize (Jn.readHead (Jn.cont m 0)).1 = x at *
        split at hk
        · rename_i h4
          rw [if_pos h4]
          simp only
          have hd : m.down = false := by simpa using h2
          have hx : V.In (x + 1) := by unfold V.In; omega
          have w1 := (Jn.Wr.nil hd).snoc (i := 1) (b := zs) (Dv.has_nat (i := 1) (by omega)) zs_len
          rw [List.nil_append] at w1
          unfold Jn.fmtW at h4 ⊢
          rcases w1.flush with ⟨g0, g⟩ | ⟨g0, _, g⟩
          · rw [g] at h4 ⊢
            have w2 := (Jn.Wr.nil (m := (⟨Dv.settle m.sectors (m.pending ++ [(1, zs)]), [], (Jn.ww (m, 0) 1 zs).1.left, false⟩ : Dv.Disk)) rfl).snoc (i := 0) (b := Jn.headB (x + 1)) (by simp only [Dv.settle_length]; exact Dv.has_nat (i := 0) (by omega)) (Jn.headB_length hx)
            rw [List.nil_append] at w2
            rcases w2.flush with ⟨k0, k⟩ | ⟨k0, _, k⟩
            · rw [k]
              simp only
              have c0 : ∀ l, Jn.cont ⟨Dv.settle (Dv.settle m.sectors (m.pending ++ [(1, zs)])) ([] ++ [(0, Jn.headB (x + 1))]), [], l, false⟩ 0 = Jn.headB (x + 1) := fun l => by
                rw [Jn.cont_settled (by rw [Dv.settle_length]; omega)]
                simp [Dv.content]
              have c1 : ∀ l, Jn.cont ⟨Dv.settle (Dv.settle m.sectors (m.pending ++ [(1, zs)])) ([] ++ [(0, Jn.headB (x + 1))]), [], l, false⟩ 1 = zs := fun l => by
                rw [Jn.cont_settled (by rw [Dv.settle_length]; omega), Dv.settle_getD _ _ 1 (by omega), Jn.content_app]
                simp [Dv.content]
              refine ⟨⟨by simp only [Dv.settle_length]; omega, rfl, ?_, .nil _ _, Jn.recOf_zeros (c1 _), by simp, rfl⟩, trivial, trivial, fun hl => ?_, by simp only [Dv.settle_length]⟩
              · simp only
                rw [c0]
                exact Jn.readHead_head (by omega) (by omega)
              · exact (w2.lf (by have := w1.lf hl; simp only; omega)).trans (w1.lf hl)
            · rw [k] at h4; omega
          · rw [g] at h4
            have e1 : Jn.ww (Jn.ww (m, 0) 1 zs) 0 (Jn.headB (x + 1)) = Jn.ww (m, 0) 1 zs := Jn.ww_stop (by omega)
            rw [e1, g] at h4
            omega
        · rename_i h4
          exact absurd hk h4
theorem fmt_safe {m : Dv.Disk} (h1 : 2 ≤ m.sectors.length) (h2 : m.down = false) (h3 : (Jn.readHead (Jn.cont m 0)).1 < 1073741824) (hl : m.left < 0) : (Jn.fmt m).2 = 0 := by
  unfold Jn.fmt
  rw [if_neg (by omega), if_neg (by rw [h2]; decide), if_neg (by omega)]
  have hr := Jn.readHead_range (Jn.cont m 0)
  generalize (Jn.readHead (Jn.cont m 0)).1 = x at *
  have hx : V.In (x + 1) := by unfold V.In; omega
  have w1 := (Jn.Wr.nil h2).snoc (i := 1) (b := zs) (Dv.has_nat (i := 1) (by omega)) zs_len
  rw [List.nil_append] at w1
  have h0 : (Jn.fmtW m (x + 1)).2 = 0 := by
    unfold Jn.fmtW
    rcases w1.flush with ⟨g0, g⟩ | ⟨_, g, _⟩
    · rw [g]
      have w2 := (Jn.Wr.nil (m := (⟨Dv.settle m.sectors (m.pending ++ [(1, zs)]), [], (Jn.ww (m, 0) 1 zs).1.left, false⟩ : Dv.Disk)) rfl).snoc (i := 0) (b := Jn.headB (x + 1)) (by simp only [Dv.settle_length]; exact Dv.has_nat (i := 0) (by omega)) (Jn.headB_length hx)
      rcases w2.flush with ⟨k0, k⟩ | ⟨_, k, _⟩
      · rw [k]
      · have := w1.lf hl; simp only at k; omega
    · omega
  rw [if_pos h0]
end Go.Proofs.YtjficpdfofmcnaaDoor

/- Sizes behind Format and Append; the chapter's first example. No walk here. -/
namespace Go.Proofs.YtjficpdfofmcnaaDoor

theorem WS.zero (K : Nat) (x : Int) : WS K (Dv.Disk.zero, x) := ⟨Dv.zero_fits K, by simp [Dv.Disk.zero], by simp [Dv.Disk.zero]⟩
theorem WS.any {K : Nat} {s : Dv.Disk × Int} (h : WS K s) (x : Int) : WS K (s.1, x) := ⟨h.fit, h.lo, h.hi⟩
theorem WS.settled {K : Nat} {m : Dv.Disk} {x : Int} (h : WS K (m, x)) (hp : m.pending = []) : WS 0 (m, 0) := ⟨⟨h.fit.ns, by simp [hp], h.fit.ss, h.fit.sp⟩, h.lo, h.hi⟩
theorem apW_ws {m : Dv.Disk} {K : Nat} (h : WS K (m, 0)) (e c F : Int) (l : List UInt8) : WS (K + Jn.sectors l.length + 2) (Jn.apW m e c F l) := by
  have hE : WS (K + Jn.sectors l.length + 1) (Jn.apE m.sectors.length (F + 1 + (Jn.sectors l.length : Int)) (Jn.pcs l F (m, 0) (Jn.sectors l.length))) := by
    unfold Jn.apE
    split
    · exact (pcs_ws h _).write _ _
    · exact (pcs_ws h _).mono (by omega)
  exact (hE.flush.write _ _).flush
theorem append_ws {j : Jl} {K : Nat} (h : WS K (j.d, 0)) {l : List UInt8} (hl : l.length ≤ 3000) : WS (K + 50) ((j.append l).1.d, 0) := by
  unfold Jl.append
  split
  · exact .zero _ _
  · split
    · exact .zero _ _
    · split
      · exact h.mono (by omega)
      · have hw := (apW_ws h j.e j.c (j.h / 64) l).mono (K' := K + 50) (by unfold Jn.sectors; omega)
        unfold Jl.put
        split <;> exact hw.any 0
theorem fmt_ws {m : Dv.Disk} {K : Nat} (h : WS K (m, 0)) : WS (K + 2) ((Jn.fmt m).1.d, 0) := by
  unfold Jn.fmt
  split
  · exact .zero _ _
  · split
    · exact .zero _ _
    · split
      · exact .zero _ _
      · split
        · exact ((((h.write 1 zs).flush).write 0 (Jn.headB _)).flush).any 0
        · exact .zero _ _

/-- A new device. -/
def Ds (n : Nat) : Dv.Disk := ⟨List.replicate n zs, [], -1, false⟩
theorem ds_new {n : Nat} (h1 : 1 ≤ n) (h2 : n ≤ 4096) : (Dv.new (n : Int)).1 = Ds n := by rw [new_good h1 h2]; rfl
theorem ds_cont {n i : Nat} (h : i < n) : Jn.cont (Ds n) i = zs := by
  unfold Jn.cont Ds
  simp [Dv.content, List.getD, h]
theorem zs_head : Jn.readHead zs = (0, false) := by decide +kernel
theorem ds_ws {n : Nat} (h : n ≤ 4096) : WS 0 (Ds n, 0) :=
  ⟨⟨by simpa [Ds] using h, by simp [Ds], fun b hb => by rw [(List.mem_replicate.1 hb).2, zs_len]; omega, fun p hp => by cases hp⟩, by simp [Ds], by simp [Ds]⟩
theorem ds_len (n : Nat) : (Ds n).sectors.length = n := by simp [Ds]
theorem ds_scan {n : Nat} (h : 2 ≤ n) : Jn.scanE (Ds n) = 4 := by
  unfold Jn.scanE
  rw [ds_len, if_neg (by omega), if_neg (by simp [Ds]), ds_cont (by omega), zs_head]
  rfl
/-- Format on a new device. -/
theorem ds_fmt {n : Nat} (h : 2 ≤ n) (h2 : n ≤ 4096) : (Jn.fmt (Ds n)).2 = 0 ∧ Found (Jn.fmt (Ds n)).1 [] 1 ∧ (Jn.fmt (Ds n)).1.e = 1 ∧ (Jn.fmt (Ds n)).1.d.left = -1 ∧ (Jn.fmt (Ds n)).1.d.sectors.length = n ∧ WS 0 ((Jn.fmt (Ds n)).1.d, 0) := by
  have hk : (Jn.fmt (Ds n)).2 = 0 := fmt_safe (by rw [ds_len]; omega) rfl (by rw [ds_cont (by omega), zs_head]; decide) (by simp [Ds])
  obtain ⟨hf, he, hp, hl, hn⟩ := fmt_found hk
  refine ⟨hk, hf, by rw [he, ds_cont (by omega), zs_head]; rfl, hl (by simp [Ds]), by rw [hn, ds_len], (fmt_ws (ds_ws h2)).settled hp⟩
def z63 : List UInt8 := List.replicate 63 0
theorem z63_len : z63.length = 63 := by simp [z63]
/-- The first example: what is there at each step. -/
structure Awk (j k l : Jl) : Prop where
  f : Jn.fmt (Ds 4) = (j, 0)
  a : j.append z63 = (k, 0)
  b : k.append [] = (l, 0)
  jh : j.h = 64
  jf : j.free = 126
  kh : k.h = 192
  kf : k.free = 0
  lh : l.h = 256
  lf : l.free = -1
  lc : l.c = 2
  le : l.e = 1
  sc : Scanned l.d l [z63, []] 0
  wj : WS 0 (j.d, 0)
  wk : WS 0 (k.d, 0)
  wl : WS 0 (l.d, 0)
theorem awk : ∃ j k l, Awk j k l := by
  obtain ⟨f0, hj, je, jl, jn, jw⟩ := ds_fmt (n := 4) (by omega) (by omega)
  generalize hf : Jn.fmt (Ds 4) = f at *
  obtain ⟨j, x⟩ := f
  simp only at f0 hj je jl jn jw
  subst f0
  have jfr := hj.free (by omega)
  rw [if_neg (by omega), jn] at jfr
  have jsafe := hj.safe (by omega) (l := z63) (by rw [z63_len]; omega) (by omega)
  rw [if_pos (by rw [z63_len]; omega)] at jsafe
  obtain ⟨hk, ke, kp, kl, kn⟩ := hj.added (by omega) (l := z63) (by rw [z63_len]; omega) jsafe
  have kw := (append_ws jw (l := z63) (by rw [z63_len]; omega)).settled kp
  generalize ha : j.append z63 = g at *
  obtain ⟨k, y⟩ := g
  simp only at jsafe hk ke kl kn kw
  subst jsafe
  have es : Jn.sectors z63.length = 1 := by rw [z63_len]; rfl
  rw [es, List.nil_append] at hk
  have kfr := hk.free (by omega)
  rw [if_neg (by omega), kn, jn] at kfr
  have ksafe := hk.safe (by omega) (l := []) (by simp) (by have := kl (by omega); omega)
  rw [if_pos (by simp; omega)] at ksafe
  obtain ⟨hl, le, lp, ll, ln⟩ := hk.added (by omega) (l := []) (by simp) ksafe
  have lw := (append_ws kw (l := []) (by simp)).settled lp
  generalize hb : k.append [] = g at *
  obtain ⟨l, y⟩ := g
  simp only at ksafe hl le ll ln lw
  subst ksafe
  have es : Jn.sectors ([] : List UInt8).length = 0 := rfl
  rw [es] at hl
  have lfr := hl.free (by omega)
  rw [if_pos (by omega)] at lfr
  have h1 := hj.h
  have h2 := hk.h
  have h3 := hl.h
  have h4 := hl.c
  simp only [List.length_append, List.length_cons, List.length_nil] at h4
  exact ⟨j, k, l, ⟨hf, ha, hb, by omega, by omega, by omega, by omega, by omega, lfr, by omega, by omega, hl.scanned, jw, kw, lw⟩⟩
end Go.Proofs.YtjficpdfofmcnaaDoor
