/- PlatesBound. -/
import Derived.Test.YtpppgceccikodaaDoorBound

namespace Go.Proofs.YtpppgceccikodaaDoor
open Go.RowKit Go.Joins

theorem c4w (P : Nat → Pd) {i : Nat} (hi : i < 4) : (cells4 (P 0) (P 1) (P 2) (P 3))[i * 3]? = some (.int .i64 (P i).w) := by
  match i, hi with
  | 0, _ => rfl
  | 1, _ => rfl
  | 2, _ => rfl
  | 3, _ => rfl
theorem c4h (P : Nat → Pd) {i : Nat} (hi : i < 4) : (cells4 (P 0) (P 1) (P 2) (P 3))[i * 3 + 1]? = some (.int .i64 (P i).h) := by
  match i, hi with
  | 0, _ => rfl
  | 1, _ => rfl
  | 2, _ => rfl
  | 3, _ => rfl
theorem c4v (P : Nat → Pd) {i : Nat} (hi : i < 4) : (cells4 (P 0) (P 1) (P 2) (P 3))[i * 3 + 2]? = some (.slice (P i).a (P i).n (P i).c) := by
  match i, hi with
  | 0, _ => rfl
  | 1, _ => rfl
  | 2, _ => rfl
  | 3, _ => rfl
/-- Four of them by number. -/
def fn4 {α : Type} (a b c d : α) : Nat → α
  | 0 => a
  | 1 => b
  | 2 => c
  | _ => d
theorem four_all {R : Nat → Prop} (h0 : R 0) (h1 : R 1) (h2 : R 2) (h3 : R 3) : ∀ i, i < 4 → R i := by
  intro i hi
  match i, hi with
  | 0, _ => exact h0
  | 1, _ => exact h1
  | 2, _ => exact h2
  | 3, _ => exact h3
def sumTo (f : Nat → Int) : Nat → Int
  | 0 => 0
  | n + 1 => sumTo f n + f n
theorem sumTo_bd (f : Nat → Int) (h : ∀ i, i < 4 → 0 ≤ f i ∧ f i ≤ 100) : ∀ n, n ≤ 4 → 0 ≤ sumTo f n ∧ sumTo f n ≤ 100 * n
  | 0, _ => by simp [sumTo]
  | n + 1, hn => by
    have h1 := sumTo_bd f h n (by omega)
    have h2 := h n (by omega)
    simp only [sumTo]
    omega
/-- What is known of four limited plates. -/
structure Lim (P Q : Nat → Pd) (m : Int) : Prop where
  m0 : 0 ≤ m ∧ m ≤ 400
  w_ : ∀ i, i < 4 → (Q i).w = (P i).w
  h_ : ∀ i, i < 4 → (Q i).h = (P i).h
  nq : ∀ i, i < 4 → (Q i).n = (P 0).n
  np : ∀ i, i < 4 → (P i).n = (P 0).n
  cell : ∀ j, j < (P 0).n → ∃ x y : Nat → Int, (∀ i, i < 4 → (P i).l[j]? = some (x i)) ∧ (∀ i, i < 4 → (Q i).l[j]? = some (y i)) ∧ (∀ i, i < 4 → 0 ≤ y i ∧ y i ≤ x i ∧ x i ≤ 100) ∧ sumTo y 4 ≤ m ∧ (sumTo x 4 ≤ m → ∀ i, i < 4 → x i = y i)
  big : (P 0).n ≤ 65536
theorem lim_ok {p0 p1 p2 p3 : Pd} {m : Int} (h : limErr p0 p1 p2 p3 m = 0) : p0.chk = 0 ∧ p1.chk = 0 ∧ p2.chk = 0 ∧ p3.chk = 0 ∧ (p1.w = p0.w ∧ p1.h = p0.h) ∧ (p2.w = p0.w ∧ p2.h = p0.h) ∧ (p3.w = p0.w ∧ p3.h = p0.h) ∧ 0 ≤ m ∧ m ≤ 400 := by
  unfold limErr at h
  by_cases a0 : p0.chk = 0
  · by_cases a1 : p1.chk = 0
    · by_cases a2 : p2.chk = 0
      · by_cases a3 : p3.chk = 0
        · rw [if_neg (by simp [a0]), if_neg (by simp [a1]), if_neg (by simp [a2]), if_neg (by simp [a3])] at h
          by_cases b1 : p1.w ≠ p0.w ∨ p1.h ≠ p0.h
          · rw [if_pos b1] at h; simp at h
          · rw [if_neg b1] at h
            by_cases b2 : p2.w ≠ p0.w ∨ p2.h ≠ p0.h
            · rw [if_pos b2] at h; simp at h
            · rw [if_neg b2] at h
              by_cases b3 : p3.w ≠ p0.w ∨ p3.h ≠ p0.h
              · rw [if_pos b3] at h; simp at h
              · rw [if_neg b3] at h
                simp only [not_or, ne_eq, Decidable.not_not] at b1 b2 b3
                by_cases c1 : m < 0
                · rw [if_pos c1] at h; simp at h
                · rw [if_neg c1] at h
                  by_cases c2 : 400 < m
                  · rw [if_pos c2] at h; simp at h
                  · exact ⟨a0, a1, a2, a3, b1, b2, b3, by omega, by omega⟩
        · rw [if_neg (by simp [a0]), if_neg (by simp [a1]), if_neg (by simp [a2]), if_pos a3] at h; exact absurd h a3
      · rw [if_neg (by simp [a0]), if_neg (by simp [a1]), if_pos a2] at h; exact absurd h a2
    · rw [if_neg (by simp [a0]), if_pos a1] at h; exact absurd h a1
  · rw [if_pos a0] at h; exact absurd h a0
theorem lim_mk {p0 p1 p2 p3 : Pd} {m : Int} (a0 : p0.chk = 0) (a1 : p1.chk = 0) (a2 : p2.chk = 0) (a3 : p3.chk = 0) (b1 : p1.w = p0.w ∧ p1.h = p0.h) (b2 : p2.w = p0.w ∧ p2.h = p0.h) (b3 : p3.w = p0.w ∧ p3.h = p0.h) (hm : 0 ≤ m ∧ m ≤ 400) : limErr p0 p1 p2 p3 m = 0 := by
  unfold limErr
  rw [if_neg (by simp [a0]), if_neg (by simp [a1]), if_neg (by simp [a2]), if_neg (by simp [a3]), if_neg (by simp [b1.1, b1.2]), if_neg (by simp [b2.1, b2.2]), if_neg (by simp [b3.1, b3.2]), if_neg (by omega), if_neg (by omega)]
theorem lim_facts {P Q : Nat → Pd} {m : Int} {w : World} (he : limErr (P 0) (P 1) (P 2) (P 3) m = 0) (hP : ∀ i, i < 4 → (P i).Ok w) {w' : World} (hQ : ∀ i, i < 4 → (Q i).Ok w')
    (hw : ∀ i, i < 4 → (Q i).w = (P i).w ∧ (Q i).h = (P i).h) (l0 : (Q 0).l = (redAll (P 0) (P 1) (P 2) (P 3) m).map (·.1)) (l1 : (Q 1).l = (redAll (P 0) (P 1) (P 2) (P 3) m).map (·.2.1)) (l2 : (Q 2).l = (redAll (P 0) (P 1) (P 2) (P 3) m).map (·.2.2.1)) (l3 : (Q 3).l = (redAll (P 0) (P 1) (P 2) (P 3) m).map (·.2.2.2)) :
    Lim P Q m ∧ limErr (Q 0) (Q 1) (Q 2) (Q 3) m = 0 ∧ redAll (Q 0) (Q 1) (Q 2) (Q 3) m = redAll (P 0) (P 1) (P 2) (P 3) m := by
  obtain ⟨a0, a1, a2, a3, b1, b2, b3, hm⟩ := lim_ok he
  have G0 := Pl.check_ok a0
  have G1 := Pl.check_ok a1
  have G2 := Pl.check_ok a2
  have G3 := Pl.check_ok a3
  have L0 := RI.len (hP 0 (by omega))
  have L1 := RI.len (hP 1 (by omega))
  have L2 := RI.len (hP 2 (by omega))
  have L3 := RI.len (hP 3 (by omega))
  have M0 := RI.len (hQ 0 (by omega))
  have M1 := RI.len (hQ 1 (by omega))
  have M2 := RI.len (hQ 2 (by omega))
  have M3 := RI.len (hQ 3 (by omega))
  have RL := redAll_len (P 0) (P 1) (P 2) (P 3) m
  have e1 : (P 1).n = (P 0).n := by have h1 := G0.2.2.1; have h2 := G1.2.2.1; rw [b1.1, b1.2] at h2; omega
  have e2 : (P 2).n = (P 0).n := by have h1 := G0.2.2.1; have h2 := G2.2.2.1; rw [b2.1, b2.2] at h2; omega
  have e3 : (P 3).n = (P 0).n := by have h1 := G0.2.2.1; have h2 := G3.2.2.1; rw [b3.1, b3.2] at h2; omega
  have f0 : (Q 0).n = (P 0).n := by rw [← M0, l0, List.length_map, RL]
  have f1 : (Q 1).n = (P 0).n := by rw [← M1, l1, List.length_map, RL]
  have f2 : (Q 2).n = (P 0).n := by rw [← M2, l2, List.length_map, RL]
  have f3 : (Q 3).n = (P 0).n := by rw [← M3, l3, List.length_map, RL]
  have hcell : ∀ j, j < (P 0).n → ∃ x y : Nat → Int, (∀ i, i < 4 → (P i).l[j]? = some (x i)) ∧ (∀ i, i < 4 → (Q i).l[j]? = some (y i)) ∧ (∀ i, i < 4 → 0 ≤ y i ∧ y i ≤ x i ∧ x i ≤ 100) ∧ sumTo y 4 ≤ m ∧ (sumTo x 4 ≤ m → ∀ i, i < 4 → x i = y i) := by
    intro j hj
    obtain ⟨x0, hx0⟩ : ∃ x, (P 0).l[j]? = some x := ⟨_, List.getElem?_eq_getElem (by omega)⟩
    obtain ⟨x1, hx1⟩ : ∃ x, (P 1).l[j]? = some x := ⟨_, List.getElem?_eq_getElem (by omega)⟩
    obtain ⟨x2, hx2⟩ : ∃ x, (P 2).l[j]? = some x := ⟨_, List.getElem?_eq_getElem (by omega)⟩
    obtain ⟨x3, hx3⟩ : ∃ x, (P 3).l[j]? = some x := ⟨_, List.getElem?_eq_getElem (by omega)⟩
    obtain ⟨y0, y1, y2, y3, hy⟩ : ∃ y0 y1 y2 y3, Pl.reduce x0 x1 x2 x3 m = (y0, y1, y2, y3) := ⟨_, _, _, _, rfl⟩
    have HY : (redAll (P 0) (P 1) (P 2) (P 3) m)[j]? = some (y0, y1, y2, y3) := by rw [List.getElem?_eq_getElem (by rw [RL]; exact hj), redAll_get _ _ _ _ _ _ hj, List.getD, List.getD, List.getD, List.getD, hx0, hx1, hx2, hx3]; exact congrArg some hy
    have g0 := G0.2.2.2 x0 (List.mem_of_getElem? hx0)
    have g1 := G1.2.2.2 x1 (List.mem_of_getElem? hx1)
    have g2 := G2.2.2.2 x2 (List.mem_of_getElem? hx2)
    have g3 := G3.2.2.2 x3 (List.mem_of_getElem? hx3)
    obtain ⟨r0, r1, r2, r3, rs, re⟩ := red_bound g0 g1 g2 g3 hm hy
    refine ⟨fn4 x0 x1 x2 x3, fn4 y0 y1 y2 y3, four_all hx0 hx1 hx2 hx3, four_all ?_ ?_ ?_ ?_, four_all ⟨r0.1, r0.2, g0.2⟩ ⟨r1.1, r1.2, g1.2⟩ ⟨r2.1, r2.2, g2.2⟩ ⟨r3.1, r3.2, g3.2⟩, ?_, fun h => ?_⟩
    · rw [l0, List.getElem?_map, HY]; rfl
    · rw [l1, List.getElem?_map, HY]; rfl
    · rw [l2, List.getElem?_map, HY]; rfl
    · rw [l3, List.getElem?_map, HY]; rfl
    · simp only [sumTo, fn4]; omega
    · simp only [sumTo, fn4] at h
      have := re (by omega)
      exact four_all this.1 this.2.1 this.2.2.1 this.2.2.2
  have hL : Lim P Q m := ⟨hm, fun i hi => (hw i hi).1, fun i hi => (hw i hi).2, four_all f0 f1 f2 f3, four_all rfl e1 e2 e3, hcell, by have h1 := Pl.side_mul G0.1 G0.2.1; have h2 := G0.2.2.1; omega⟩
  have hval : ∀ i, i < 4 → ∀ v ∈ (Q i).l, 0 ≤ v ∧ v ≤ 100 := by
    intro i hi v hv
    obtain ⟨j, hj⟩ := List.getElem?_of_mem hv
    have hjl : j < (Q i).l.length := (List.getElem?_eq_some_iff.1 hj).1
    have hjn : j < (P 0).n := by have h1 := RI.len (hQ i hi); have h2 := hL.nq i hi; omega
    obtain ⟨x, y, _, hy, hb, _⟩ := hcell j hjn
    have h1 := hy i hi
    rw [hj] at h1
    injection h1 with h1
    have := hb i hi
    omega
  have hchk : ∀ i, i < 4 → (Q i).chk = 0 := by
    intro i hi
    have c : ∀ i, i < 4 → (1 ≤ (P i).w ∧ (P i).w ≤ 256) ∧ (1 ≤ (P i).h ∧ (P i).h ≤ 256) ∧ ((P i).l.length : Int) = (P i).w * (P i).h := four_all ⟨G0.1, G0.2.1, G0.2.2.1⟩ ⟨G1.1, G1.2.1, G1.2.2.1⟩ ⟨G2.1, G2.2.1, G2.2.2.1⟩ ⟨G3.1, G3.2.1, G3.2.2.1⟩
    obtain ⟨k1, k2, k3⟩ := c i hi
    obtain ⟨w1, w2⟩ := hw i hi
    refine Pl.check_mk (by rw [w1]; exact k1) (by rw [w2]; exact k2) ?_ (hval i hi)
    rw [w1, w2, ← k3, RI.len (hQ i hi), RI.len (hP i hi), hL.nq i hi, hL.np i hi]
  refine ⟨hL, lim_mk (hchk 0 (by omega)) (hchk 1 (by omega)) (hchk 2 (by omega)) (hchk 3 (by omega)) ?_ ?_ ?_ hm, ?_⟩
  · rw [(hw 1 (by omega)).1, (hw 1 (by omega)).2, (hw 0 (by omega)).1, (hw 0 (by omega)).2]; exact b1
  · rw [(hw 2 (by omega)).1, (hw 2 (by omega)).2, (hw 0 (by omega)).1, (hw 0 (by omega)).2]; exact b2
  · rw [(hw 3 (by omega)).1, (hw 3 (by omega)).2, (hw 0 (by omega)).1, (hw 0 (by omega)).2]; exact b3
  · apply List.ext_getElem?
    intro j
    by_cases hj : j < (P 0).n
    · obtain ⟨x, y, hx, hy, hb, hs, _⟩ := hcell j hj
      have e1 : (redAll (Q 0) (Q 1) (Q 2) (Q 3) m)[j]? = some (y 0, y 1, y 2, y 3) := by
        rw [List.getElem?_eq_getElem (by rw [redAll_len, f0]; exact hj), redAll_get _ _ _ _ _ _ (by rw [f0]; exact hj), List.getD, List.getD, List.getD, List.getD, hy 0 (by omega), hy 1 (by omega), hy 2 (by omega), hy 3 (by omega)]
        exact congrArg some (red_again (y0 := y 0) (y1 := y 1) (y2 := y 2) (y3 := y 3) (m := m) (by simp only [sumTo] at hs; omega))
      rw [e1]
      have z0 := hy 0 (by omega)
      have z1 := hy 1 (by omega)
      have z2 := hy 2 (by omega)
      have z3 := hy 3 (by omega)
      rw [l0, List.getElem?_map] at z0
      rw [l1, List.getElem?_map] at z1
      rw [l2, List.getElem?_map] at z2
      rw [l3, List.getElem?_map] at z3
      cases hr : (redAll (P 0) (P 1) (P 2) (P 3) m)[j]? with
      | none => rw [hr] at z0; cases z0
      | some t =>
        rw [hr] at z0 z1 z2 z3
        simp only [Option.map_some, Option.some.injEq] at z0 z1 z2 z3
        rw [← z0, ← z1, ← z2, ← z3]
    · rw [List.getElem?_eq_none (by rw [redAll_len, f0]; omega), List.getElem?_eq_none (by rw [RL]; omega)]
end Go.Proofs.YtpppgceccikodaaDoor
