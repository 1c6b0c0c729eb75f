/- plates.reduce and the reference's limited. -/
import Derived.Test.YtpppgceccikodaaDoorPlates2
import Derived.Test.YtpppgceccikodaaDoorBox
namespace Go.Proofs.YtpppgceccikodaaDoor
open Go.RowKit Go.Joins

/-- Four inks as a value. -/
def fourv (r : Int × Int × Int × Int) : Value := .agg #[.int .i64 r.1, .int .i64 r.2.1, .int .i64 r.2.2.1, .int .i64 r.2.2.2]
theorem mul_bd {a q : Int} (h1 : 0 ≤ a) (h2 : a ≤ 100) (h3 : 0 ≤ q) (h4 : q ≤ 400) : 0 ≤ a * q ∧ a * q ≤ 40000 :=
  ⟨Int.mul_nonneg h1 h3, by have := Int.mul_le_mul h2 h4 h3 (by omega); omega⟩

theorem below_set4 {w w' : World} {b : Nat} (h : Below w.heap.size w w') (hb : w.heap.size ≤ b) (x y z u : Value) : Below w.heap.size w ((((w'.setCell ⟨b, 0, none⟩ x).setCell ⟨b, 1, none⟩ y).setCell ⟨b, 2, none⟩ z).setCell ⟨b, 3, none⟩ u) :=
  (((h.setCell hb _).setCell hb _).setCell hb _).setCell hb _

set_option maxHeartbeats 2000000 in
theorem reduce_any (a b c k m : Int) (w : World) (ha : 0 ≤ a ∧ a ≤ 100) (hb : 0 ≤ b ∧ b ≤ 100) (hc : 0 ≤ c ∧ c ≤ 100) (hk : 0 ≤ k ∧ k ≤ 100) (hm : 0 ≤ m ∧ m ≤ 400) :
    Calls Tryd.prog 36 #[fourv (a, b, c, k), .int .i64 m] w fun e w' => e = .returned (fourv (Pl.reduce a b c k m)) ∧ Below w.heap.size w w' := by
  obtain ⟨ha1, ha2⟩ := ha
  obtain ⟨hb1, hb2⟩ := hb
  obtain ⟨hc1, hc2⟩ := hc
  obtain ⟨hk1, hk2⟩ := hk
  obtain ⟨hm1, hm2⟩ := hm
  unfold fourv
  simp only
  have w1 : IntKind.i64.wrap (a + b) = a + b := IntWalk.i64_in _ (by omega)
  have w2 : IntKind.i64.wrap (a + b + c) = a + b + c := IntWalk.i64_in _ (by omega)
  by_cases h1 : a + b + c + k ≤ m
  · have HR : Keep (Pl.reduce a b c k m = (a, b, c, k)) := ⟨by unfold Pl.reduce; rw [if_pos h1]⟩
    go_enter Tryd.func36, Tryd.ntmps36
    go_wp2
    go_quiet (fail)
    have IX := Keep.mk (((Bx.new w [.int .i64 a, .int .i64 b, .int .i64 c, .int .i64 k] 56).alloc (.cells #[.int .i64 0, .int .i64 0, .int .i64 0, .int .i64 0] 56)).drewN nq)
    have OX := Keep.mk ((Bx.new (w.alloc (.cells #[.int .i64 a, .int .i64 b, .int .i64 c, .int .i64 k] 56)) [.int .i64 0, .int .i64 0, .int .i64 0, .int .i64 0] 56).drewN nq)
    have HB : Hid (Below w.heap.size w (((w.alloc (.cells #[.int .i64 a, .int .i64 b, .int .i64 c, .int .i64 k] 56)).alloc (.cells #[.int .i64 0, .int .i64 0, .int .i64 0, .int .i64 0] 56)).drewN nq)) := ((below_alloc1 _ _).alloc (by simp) _).trans (below_draws _ _ _)
    generalize hw2 : ((w.alloc (.cells #[.int .i64 a, .int .i64 b, .int .i64 c, .int .i64 k] 56)).alloc (.cells #[.int .i64 0, .int .i64 0, .int .i64 0, .int .i64 0] 56)).drewN nq = w2 at *
    rw [World.size_alloc] at OX
    clear hw2
    have i0 := IX.out.cell 0 _ rfl
    have i1 := IX.out.cell 1 _ rfl
    have i2 := IX.out.cell 2 _ rfl
    have i3 := IX.out.cell 3 _ rfl
    have o0 := OX.out.cell 0 _ rfl
    have o1 := OX.out.cell 1 _ rfl
    have o2 := OX.out.cell 2 _ rfl
    have o3 := OX.out.cell 3 _ rfl
    have of := OX.out.fz
    have ol := OX.out.lt
    clear w1
    go_wp2
    refine bodyPost_ret (v := .agg #[.int .i64 a, .int .i64 b, .int .i64 c, .int .i64 k]) (by simp [results, Tryd.results36, go_sem, o0, o1, o2, o3]) rfl ?_
    exact ⟨by rw [HR.out], below_set4 HB.out (Nat.le_succ _) _ _ _ _⟩
  · by_cases h2 : m < k
    · have HR : Keep (Pl.reduce a b c k m = (0, 0, 0, m)) := ⟨by unfold Pl.reduce; rw [if_neg h1, if_pos h2]⟩
      go_enter Tryd.func36, Tryd.ntmps36
      go_wp2
      go_quiet (fail)
      have IX := Keep.mk (((Bx.new w [.int .i64 a, .int .i64 b, .int .i64 c, .int .i64 k] 56).alloc (.cells #[.int .i64 0, .int .i64 0, .int .i64 0, .int .i64 0] 56)).drewN nq)
      have OX := Keep.mk ((Bx.new (w.alloc (.cells #[.int .i64 a, .int .i64 b, .int .i64 c, .int .i64 k] 56)) [.int .i64 0, .int .i64 0, .int .i64 0, .int .i64 0] 56).drewN nq)
      have HB : Hid (Below w.heap.size w (((w.alloc (.cells #[.int .i64 a, .int .i64 b, .int .i64 c, .int .i64 k] 56)).alloc (.cells #[.int .i64 0, .int .i64 0, .int .i64 0, .int .i64 0] 56)).drewN nq)) := ((below_alloc1 _ _).alloc (by simp) _).trans (below_draws _ _ _)
      generalize hw2 : ((w.alloc (.cells #[.int .i64 a, .int .i64 b, .int .i64 c, .int .i64 k] 56)).alloc (.cells #[.int .i64 0, .int .i64 0, .int .i64 0, .int .i64 0] 56)).drewN nq = w2 at *
      rw [World.size_alloc] at OX
      clear hw2
      have i0 := IX.out.cell 0 _ rfl
      have i1 := IX.out.cell 1 _ rfl
      have i2 := IX.out.cell 2 _ rfl
      have i3 := IX.out.cell 3 _ rfl
      have o0 := OX.out.cell 0 _ rfl
      have o1 := OX.out.cell 1 _ rfl
      have o2 := OX.out.cell 2 _ rfl
      have o3 := OX.out.cell 3 _ rfl
      have of := OX.out.fz
      have ol := OX.out.lt
      clear w1
      go_wp2
      refine bodyPost_ret (v := .agg #[.int .i64 0, .int .i64 0, .int .i64 0, .int .i64 m]) (by simp [results, Tryd.results36, go_sem, o0, o1, o2, o3]) rfl ?_
      exact ⟨by rw [HR.out], below_set4 HB.out (Nat.le_succ _) _ _ _ _⟩
    · have HR : Keep (Pl.reduce a b c k m = (a * (m - k) / (a + b + c), b * (m - k) / (a + b + c), c * (m - k) / (a + b + c), k)) := ⟨by unfold Pl.reduce; rw [if_neg h1, if_neg h2]⟩
      have hs : 1 ≤ a + b + c := by omega
      have ma := mul_bd ha1 ha2 (show 0 ≤ m - k by omega) (by omega)
      have mb := mul_bd hb1 hb2 (show 0 ≤ m - k by omega) (by omega)
      have mc := mul_bd hc1 hc2 (show 0 ≤ m - k by omega) (by omega)
      obtain ⟨ma1, ma2⟩ := ma
      obtain ⟨mb1, mb2⟩ := mb
      obtain ⟨mc1, mc2⟩ := mc
      go_enter Tryd.func36, Tryd.ntmps36
      go_wp2
      go_quiet (fail)
      have IX := Keep.mk (((Bx.new w [.int .i64 a, .int .i64 b, .int .i64 c, .int .i64 k] 56).alloc (.cells #[.int .i64 0, .int .i64 0, .int .i64 0, .int .i64 0] 56)).drewN nq)
      have OX := Keep.mk ((Bx.new (w.alloc (.cells #[.int .i64 a, .int .i64 b, .int .i64 c, .int .i64 k] 56)) [.int .i64 0, .int .i64 0, .int .i64 0, .int .i64 0] 56).drewN nq)
      have HB : Hid (Below w.heap.size w (((w.alloc (.cells #[.int .i64 a, .int .i64 b, .int .i64 c, .int .i64 k] 56)).alloc (.cells #[.int .i64 0, .int .i64 0, .int .i64 0, .int .i64 0] 56)).drewN nq)) := ((below_alloc1 _ _).alloc (by simp) _).trans (below_draws _ _ _)
      generalize hw2 : ((w.alloc (.cells #[.int .i64 a, .int .i64 b, .int .i64 c, .int .i64 k] 56)).alloc (.cells #[.int .i64 0, .int .i64 0, .int .i64 0, .int .i64 0] 56)).drewN nq = w2 at *
      rw [World.size_alloc] at OX
      clear hw2
      have i0 := IX.out.cell 0 _ rfl
      have i1 := IX.out.cell 1 _ rfl
      have i2 := IX.out.cell 2 _ rfl
      have i3 := IX.out.cell 3 _ rfl
      have o0 := OX.out.cell 0 _ rfl
      have o1 := OX.out.cell 1 _ rfl
      have o2 := OX.out.cell 2 _ rfl
      have o3 := OX.out.cell 3 _ rfl
      have of := OX.out.fz
      have ol := OX.out.lt
      clear w1
      go_wp2
      clear i0 i1 i2 i3 o0 o1 o2 o3 of ol
      go_loopw [29] (fun i wr => ∃ (x y z : Int), Bx wr w.heap.size [.int .i64 a, .int .i64 b, .int .i64 c, .int .i64 k] ∧ Bx wr (w.heap.size + 1) [.int .i64 x, .int .i64 y, .int .i64 z, .int .i64 0] ∧ Below w.heap.size w wr ∧
        ((i = .int .i64 0 ∧ x = 0 ∧ y = 0 ∧ z = 0) ∨ (i = .int .i64 1 ∧ x = a * (m - k) / (a + b + c) ∧ y = 0 ∧ z = 0) ∨ (i = .int .i64 2 ∧ x = a * (m - k) / (a + b + c) ∧ y = b * (m - k) / (a + b + c) ∧ z = 0) ∨ (i = .int .i64 3 ∧ x = a * (m - k) / (a + b + c) ∧ y = b * (m - k) / (a + b + c) ∧ z = c * (m - k) / (a + b + c)))) (fun i _ => 3 - (intOf i).toNat)
      case atStart => exact ⟨0, 0, 0, IX.out, OX.out, HB.out, .inl ⟨rfl, rfl, rfl, rfl⟩⟩
      case round =>
        obtain ⟨x, y, z, hi, ho, hbl, h⟩ := hrel
        have IX' := Keep.mk hi
        have OX' := Keep.mk ho
        have HB' := Lib.hid hbl
        have i0 := hi.cell 0 _ rfl
        have i1 := hi.cell 1 _ rfl
        have i2 := hi.cell 2 _ rfl
        have i3 := hi.cell 3 _ rfl
        have o0 := ho.cell 0 _ rfl
        have o1 := ho.cell 1 _ rfl
        have o2 := ho.cell 2 _ rfl
        have o3 := ho.cell 3 _ rfl
        have of := ho.fz
        have ol := ho.lt
        clear hi ho hbl
        rcases h with ⟨rfl, rfl, rfl, rfl⟩ | ⟨rfl, hx, rfl, rfl⟩ | ⟨rfl, hx, hy, rfl⟩ | ⟨rfl, hx, hy, hz⟩
        · go_wp2
          go_roundw
          case rel => exact ⟨_, 0, 0, IX'.out.other (by simp) _, OX'.out.set (j := 0) (by simp) _, HB'.out.setCell (Nat.le_succ _) _, .inr (.inl ⟨rfl, rfl, rfl, rfl⟩)⟩
          case measure => simp [intOf]
        · have HX := Keep.mk hx
          clear hx
          go_wp2
          go_roundw
          case rel => exact ⟨x, _, 0, IX'.out.other (by simp) _, OX'.out.set (j := 1) (by simp) _, HB'.out.setCell (Nat.le_succ _) _, .inr (.inr (.inl ⟨rfl, HX.out, rfl, rfl⟩))⟩
          case measure => simp [intOf]
        · have HX := Keep.mk hx
          have HY := Keep.mk hy
          clear hx hy
          go_wp2
          go_roundw
          case rel => exact ⟨x, y, _, IX'.out.other (by simp) _, OX'.out.set (j := 2) (by simp) _, HB'.out.setCell (Nat.le_succ _) _, .inr (.inr (.inr ⟨rfl, HX.out, HY.out, rfl⟩))⟩
          case measure => simp [intOf]
        · have HX := Keep.mk hx
          have HY := Keep.mk hy
          have HZ := Keep.mk hz
          clear hx hy hz
          go_wp2
          refine bodyPost_ret (v := .agg #[.int .i64 x, .int .i64 y, .int .i64 z, .int .i64 k]) (by simp [results, Tryd.results36, go_sem, o0, o1, o2, o3]) rfl ?_
          exact ⟨by rw [HR.out, HX.out, HY.out, HZ.out], below_set4 (HB'.out.setCell (Nat.le_succ _) _) (Nat.le_succ _) _ _ _ _⟩
end Go.Proofs.YtpppgceccikodaaDoor
