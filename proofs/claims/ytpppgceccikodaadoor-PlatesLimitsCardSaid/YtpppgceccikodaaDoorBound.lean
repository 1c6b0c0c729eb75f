/- The law's four; what limiting gives, cell by cell. -/
import Derived.Test.YtpppgceccikodaaDoorSame54
namespace Go.Proofs.YtpppgceccikodaaDoor
open Go.RowKit Go.Joins

set_option maxRecDepth 100000 in
set_option maxHeartbeats 2000000 in
theorem four_any (p0 p1 p2 p3 : Pd) (w : World) : Calls Tryd.prog 21 #[arr4 p0 p1 p2 p3] w fun e w' => e = .returned (.bool (decide ((p0.n : Int) ≤ 5000) && decide ((p1.n : Int) ≤ 5000) && decide ((p2.n : Int) ≤ 5000) && decide ((p3.n : Int) ≤ 5000))) ∧ Below w.heap.size w w' := by
  unfold arr4
  have F0 := Lib.hid (fair_any p0)
  have F1 := Lib.hid (fair_any p1)
  have F2 := Lib.hid (fair_any p2)
  have F3 := Lib.hid (fair_any p3)
  generalize decide ((p0.n : Int) ≤ 5000) = b0 at *
  generalize decide ((p1.n : Int) ≤ 5000) = b1 at *
  generalize decide ((p2.n : Int) ≤ 5000) = b2 at *
  generalize decide ((p3.n : Int) ≤ 5000) = b3 at *
  have IX := Keep.mk (Bx.new w (cells4 p0 p1 p2 p3) 39)
  have HB : Hid (Below w.heap.size w (w.alloc (.cells (cells4 p0 p1 p2 p3).toArray 39))) := below_alloc1 _ _
  unfold cells4 at IX HB
  cases b0 with
  | false =>
    go_enter Tryd.func21, Tryd.ntmps21
    go_wp2_with fail
    generalize w.alloc _ = w1 at *
    refine (F0.out _).mono ?_
    rintro e w2 ⟨rfl, hb⟩
    have HB2 : Hid (Below w.heap.size w w2) := HB.out.trans (hb.mono HB.out.size)
    clear hb
    go_wp2
    go_ret
    exact ⟨rfl, HB2.out⟩
  | true =>
    go_enter Tryd.func21, Tryd.ntmps21
    go_wp2_with fail
    generalize w.alloc _ = w1 at *
    refine (F0.out _).mono ?_
    rintro e w2 ⟨rfl, hb⟩
    have HB2 : Hid (Below w.heap.size w w2) := HB.out.trans (hb.mono HB.out.size)
    have IX2 := Keep.mk (IX.out.below hb)
    clear hb
    have i0 := IX2.out.cell 3 _ rfl
    have i1 := IX2.out.cell 4 _ rfl
    have i2 := IX2.out.cell 5 _ rfl
    go_wp2_with fail
    refine (F1.out _).mono ?_
    rintro e w3 ⟨rfl, hb⟩
    have HB3 : Hid (Below w.heap.size w w3) := HB2.out.trans (hb.mono HB2.out.size)
    have IX3 := Keep.mk (IX2.out.below hb)
    clear hb i0 i1 i2
    cases b1 with
    | false =>
      go_wp2
      go_ret
      exact ⟨rfl, HB3.out⟩
    | true =>
      have i0 := IX3.out.cell 6 _ rfl
      have i1 := IX3.out.cell 7 _ rfl
      have i2 := IX3.out.cell 8 _ rfl
      go_wp2_with fail
      refine (F2.out _).mono ?_
      rintro e w4 ⟨rfl, hb⟩
      have HB4 : Hid (Below w.heap.size w w4) := HB3.out.trans (hb.mono HB3.out.size)
      have IX4 := Keep.mk (IX3.out.below hb)
      clear hb i0 i1 i2
      cases b2 with
      | false =>
        go_wp2
        go_ret
        exact ⟨rfl, HB4.out⟩
      | true =>
        have i0 := IX4.out.cell 9 _ rfl
        have i1 := IX4.out.cell 10 _ rfl
        have i2 := IX4.out.cell 11 _ rfl
        go_wp2_with fail
        refine (F3.out _).mono ?_
        rintro e w5 ⟨rfl, hb⟩
        have HB5 : Hid (Below w.heap.size w w5) := HB4.out.trans (hb.mono HB4.out.size)
        clear hb i0 i1 i2
        cases b3 with
        | false =>
          go_wp2
          go_ret
          exact ⟨rfl, HB5.out⟩
        | true =>
          go_wp2
          go_ret
          exact ⟨rfl, HB5.out⟩

/-! ### Cell by cell -/
theorem red_bound {a b c k m y0 y1 y2 y3 : Int} (ha : 0 ≤ a ∧ a ≤ 100) (hb : 0 ≤ b ∧ b ≤ 100) (hc : 0 ≤ c ∧ c ≤ 100) (hk : 0 ≤ k ∧ k ≤ 100) (hm : 0 ≤ m ∧ m ≤ 400) (h : Pl.reduce a b c k m = (y0, y1, y2, y3)) :
    (0 ≤ y0 ∧ y0 ≤ a) ∧ (0 ≤ y1 ∧ y1 ≤ b) ∧ (0 ≤ y2 ∧ y2 ≤ c) ∧ (0 ≤ y3 ∧ y3 ≤ k) ∧ y0 + y1 + y2 + y3 ≤ m ∧ (a + b + c + k ≤ m → a = y0 ∧ b = y1 ∧ c = y2 ∧ k = y3) := by
  unfold Pl.reduce at h
  split at h
  · rename_i h1
    simp only [Prod.mk.injEq] at h
    obtain ⟨rfl, rfl, rfl, rfl⟩ := h
    exact ⟨⟨by omega, by omega⟩, ⟨by omega, by omega⟩, ⟨by omega, by omega⟩, ⟨by omega, by omega⟩, h1, fun _ => ⟨rfl, rfl, rfl, rfl⟩⟩
  · rename_i h1
    split at h
    · simp only [Prod.mk.injEq] at h
      obtain ⟨rfl, rfl, rfl, rfl⟩ := h
      exact ⟨⟨by omega, by omega⟩, ⟨by omega, by omega⟩, ⟨by omega, by omega⟩, ⟨by omega, by omega⟩, by omega, fun h => absurd h h1⟩
    · rename_i h2
      simp only [Prod.mk.injEq] at h
      obtain ⟨e0, e1, e2, rfl⟩ := h
      have hs : 0 < a + b + c := by omega
      have d0 := Pl.div_part (a := a) (s := a + b + c) (q := m - k) (by omega) hs (by omega) (by omega)
      have d1 := Pl.div_part (a := b) (s := a + b + c) (q := m - k) (by omega) hs (by omega) (by omega)
      have d2 := Pl.div_part (a := c) (s := a + b + c) (q := m - k) (by omega) hs (by omega) (by omega)
      have ds := Pl.div_sum (a := a) (b := b) (c := c) (q := m - k) (s := a + b + c) hs rfl
      rw [e0] at d0 ds
      rw [e1] at d1 ds
      rw [e2] at d2 ds
      exact ⟨d0, d1, d2, ⟨by omega, by omega⟩, by omega, fun h => absurd h h1⟩
theorem red_again {y0 y1 y2 y3 m : Int} (h : y0 + y1 + y2 + y3 ≤ m) : Pl.reduce y0 y1 y2 y3 m = (y0, y1, y2, y3) := by
  unfold Pl.reduce
  rw [if_pos h]
end Go.Proofs.YtpppgceccikodaaDoor
