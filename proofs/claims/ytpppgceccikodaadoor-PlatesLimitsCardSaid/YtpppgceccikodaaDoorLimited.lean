/- The reference's limited. -/
import Derived.Test.YtpppgceccikodaaDoorReduce
import Derived.Deep.RegionHeld3
namespace Go.Proofs.YtpppgceccikodaaDoor
open Go.RowKit Go.Joins

theorem below_set4d {B b : Nat} (w : World) (hb : B ≤ b) (x y z u : Value) : Below B w ((((w.setCell ⟨b, 0, none⟩ x).setCell ⟨b, 1, none⟩ y).setCell ⟨b, 2, none⟩ z).setCell ⟨b, 3, none⟩ u).drew :=
  ((((((Below.refl _ _).setCell hb _).setCell hb _).setCell hb _).setCell hb _)).drew

set_option maxHeartbeats 2000000 in
theorem limited_any (a b c k m : Int) (w : World) (ha : 0 ≤ a ∧ a ≤ 100) (hb : 0 ≤ b ∧ b ≤ 100) (hc : 0 ≤ c ∧ c ≤ 100) (hk : 0 ≤ k ∧ k ≤ 100) (hm : 0 ≤ m ∧ m ≤ 400) :
    Calls Tryd.prog 37 #[fourv (a, b, c, k), .int .i64 m] w fun e w' => e = .returned (fourv (Pl.reduce a b c k m)) ∧ Below w.heap.size w w' := by
  obtain ⟨ha1, ha2⟩ := ha
  obtain ⟨hb1, hb2⟩ := hb
  obtain ⟨hc1, hc2⟩ := hc
  obtain ⟨hk1, hk2⟩ := hk
  obtain ⟨hm1, hm2⟩ := hm
  unfold fourv
  simp only
  by_cases h1 : a + b + c + k ≤ m
  · have HR : Keep (Pl.reduce a b c k m = (a, b, c, k)) := ⟨by unfold Pl.reduce; rw [if_pos h1]⟩
    go_enter Tryd.func37, Tryd.ntmps37
    go_wp2
    refine bodyPost_ret (v := .agg #[.int .i64 a, .int .i64 b, .int .i64 c, .int .i64 k]) (by simp [results, Tryd.results37, go_sem]) rfl ?_
    exact ⟨by rw [HR.out], (below_alloc1 _ _).alloc (by simp) _⟩
  · by_cases h2 : m < k
    · have HR : Keep (Pl.reduce a b c k m = (0, 0, 0, m)) := ⟨by unfold Pl.reduce; rw [if_neg h1, if_pos h2]⟩
      go_enter Tryd.func37, Tryd.ntmps37
      go_wp2
      refine bodyPost_ret (v := .agg #[.int .i64 0, .int .i64 0, .int .i64 0, .int .i64 m]) (by simp [results, Tryd.results37, go_sem]) rfl ?_
      exact ⟨by rw [HR.out], (below_alloc1 _ _).alloc (by simp) _⟩
    · have HR : Keep (Pl.reduce a b c k m = (a * (m - k) / (a + b + c), b * (m - k) / (a + b + c), c * (m - k) / (a + b + c), k)) := ⟨by unfold Pl.reduce; rw [if_neg h1, if_neg h2]⟩
      have hs : 1 ≤ a + b + c := by omega
      obtain ⟨ma1, ma2⟩ := mul_bd ha1 ha2 (show 0 ≤ m - k by omega) (by omega)
      obtain ⟨mb1, mb2⟩ := mul_bd hb1 hb2 (show 0 ≤ m - k by omega) (by omega)
      obtain ⟨mc1, mc2⟩ := mul_bd hc1 hc2 (show 0 ≤ m - k by omega) (by omega)
      have qa : a * (m - k) / (a + b + c) ≤ 40000 := Int.le_trans (Int.ediv_le_self _ ma1) ma2
      have qb : b * (m - k) / (a + b + c) ≤ 40000 := Int.le_trans (Int.ediv_le_self _ mb1) mb2
      have qc : c * (m - k) / (a + b + c) ≤ 40000 := Int.le_trans (Int.ediv_le_self _ mc1) mc2
      have qa0 : 0 ≤ a * (m - k) / (a + b + c) := Int.ediv_nonneg ma1 (by omega)
      have qb0 : 0 ≤ b * (m - k) / (a + b + c) := Int.ediv_nonneg mb1 (by omega)
      have qc0 : 0 ≤ c * (m - k) / (a + b + c) := Int.ediv_nonneg mc1 (by omega)
      go_enter Tryd.func37, Tryd.ntmps37
      go_wp2
      have IX := Keep.mk ((Bx.new w [.int .i64 a, .int .i64 b, .int .i64 c, .int .i64 k] 56).alloc (.cells #[.int .i64 0, .int .i64 0, .int .i64 0, .int .i64 0] 56))
      have OX := Keep.mk (Bx.new (w.alloc (.cells #[.int .i64 a, .int .i64 b, .int .i64 c, .int .i64 k] 56)) [.int .i64 0, .int .i64 0, .int .i64 0, .int .i64 0] 56)
      have HB : Hid (Below w.heap.size w ((w.alloc (.cells #[.int .i64 a, .int .i64 b, .int .i64 c, .int .i64 k] 56)).alloc (.cells #[.int .i64 0, .int .i64 0, .int .i64 0, .int .i64 0] 56))) := (below_alloc1 _ _).alloc (by simp) _
      generalize hw2 : (w.alloc (.cells #[.int .i64 a, .int .i64 b, .int .i64 c, .int .i64 k] 56)).alloc (.cells #[.int .i64 0, .int .i64 0, .int .i64 0, .int .i64 0] 56) = w2 at *
      rw [World.size_alloc] at OX
      clear hw2
      have va : IntKind.i64.wrap (a * (m - k)) = a * (m - k) := IntWalk.i64_in _ (by omega)
      have vb : IntKind.i64.wrap (b * (m - k)) = b * (m - k) := IntWalk.i64_in _ (by omega)
      have vc : IntKind.i64.wrap (c * (m - k)) = c * (m - k) := IntWalk.i64_in _ (by omega)
      have ta : (a * (m - k)).tdiv (a + b + c) = a * (m - k) / (a + b + c) := Int.tdiv_eq_ediv_of_nonneg ma1
      have tb : (b * (m - k)).tdiv (a + b + c) = b * (m - k) / (a + b + c) := Int.tdiv_eq_ediv_of_nonneg mb1
      have tc : (c * (m - k)).tdiv (a + b + c) = c * (m - k) / (a + b + c) := Int.tdiv_eq_ediv_of_nonneg mc1
      have ua : IntKind.i64.wrap (a * (m - k) / (a + b + c)) = a * (m - k) / (a + b + c) := IntWalk.i64_in _ (by omega)
      have ub : IntKind.i64.wrap (b * (m - k) / (a + b + c)) = b * (m - k) / (a + b + c) := IntWalk.i64_in _ (by omega)
      have uc : IntKind.i64.wrap (c * (m - k) / (a + b + c)) = c * (m - k) / (a + b + c) := IntWalk.i64_in _ (by omega)
      have nz : ((a + b + c) == 0) = false := by simp; omega
      have nz' : ¬ a + b + c = 0 := by omega
      have o0 := OX.out.cell 0 _ rfl
      have o1 := OX.out.cell 1 _ rfl
      have o2 := OX.out.cell 2 _ rfl
      have o3 := OX.out.cell 3 _ rfl
      have of := OX.out.fz
      have ol := OX.out.lt
      have KP : Hid (∀ X, Below (w.heap.size + 1) w2 X → X.cell? ⟨w.heap.size, 0, none⟩ = some (.int .i64 a) ∧ X.cell? ⟨w.heap.size, 1, none⟩ = some (.int .i64 b) ∧ X.cell? ⟨w.heap.size, 2, none⟩ = some (.int .i64 c) ∧ X.cell? ⟨w.heap.size, 3, none⟩ = some (.int .i64 k)) := fun X h => ⟨(IX.out.below' h (Nat.lt_succ_self _)).cell 0 _ rfl, (IX.out.below' h (Nat.lt_succ_self _)).cell 1 _ rfl, (IX.out.below' h (Nat.lt_succ_self _)).cell 2 _ rfl, (IX.out.below' h (Nat.lt_succ_self _)).cell 3 _ rfl⟩
      go_region_held3 (fun X => X.cell? ⟨w.heap.size, 0, none⟩ = some (.int .i64 a) ∧ X.cell? ⟨w.heap.size, 1, none⟩ = some (.int .i64 b) ∧ X.cell? ⟨w.heap.size, 2, none⟩ = some (.int .i64 c) ∧ X.cell? ⟨w.heap.size, 3, none⟩ = some (.int .i64 k))
        (first | exact KP.out _ (below_draws _ _ 1) | exact KP.out _ (below_set4d _ (Nat.le_refl _) _ _ _ _))
        (fail)
      go_wp2
      refine bodyPost_ret (v := .agg #[.int .i64 (a * (m - k) / (a + b + c)), .int .i64 (b * (m - k) / (a + b + c)), .int .i64 (c * (m - k) / (a + b + c)), .int .i64 k]) (by simp [results, Tryd.results37, go_sem, o0, o1, o2, o3]) rfl ?_
      exact ⟨by rw [HR.out], HB.out.trans ((below_set4d _ (Nat.le_refl _) _ _ _ _).mono (Nat.le_succ _))⟩
end Go.Proofs.YtpppgceccikodaaDoor
