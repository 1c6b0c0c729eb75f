/- The law's same (of devices whose contents agree). -/
import Derived.Test.YtpekbcoclmhcnaaDev2
import Derived.Test.YtpekbcoclmhcnaaR24f
namespace Go.Proofs.Ytpekbcoclmhcnaa
open Go.RowKit Go.Joins

set_option maxHeartbeats 2000000 in
theorem lsame_true (a b : Dk) (but : Int) (K K' : Nat) (w : World) (ha : a.Ok w) (hb : b.Ok w) (hfa : Dv.Fits K a.m) (hfb : Dv.Fits K' b.m) (hn : a.n = b.n) (h : ∀ i : Nat, i < a.n → (i : Int) ≠ but → Dv.read a.m (i : Int) = Dv.read b.m (i : Int)) :
    Calls Try.prog 28 #[.agg #[.slice a.a a.n a.c, .slice a.pa a.pn a.pc, .int .i64 a.left, .bool a.down], .agg #[.slice b.a b.n b.c, .slice b.pa b.pn b.pc, .int .i64 b.left, .bool b.down], .int .i64 but] w fun e w' => e = .returned (.bool true) ∧ Below w.heap.size w w' := by
  have HA := Keep.mk (fun (X : World) (hX : Below w.heap.size w X) (s : Int) => read_any a s K X (ha.below hX) hfa)
  have HB := Keep.mk (fun (X : World) (hX : Below w.heap.size w X) (s : Int) => read_any b s K' X (hb.below hX) hfb)
  have HH := Keep.mk h
  have hbig := Nat.le_trans ha.sec.cap ha.sec.big
  unfold maxLen at hbig
  have e3 : ((a.n : Int) == (b.n : Int)) = true := by rw [hn]; simp
  have HN := Keep.mk hn
  clear h ha hb hfa hfb hn
  go_enter Try.func28, Try.ntmps28
  go_wp2_with fail
  have IX := Keep.mk ((Bx.new w [.slice a.a a.n a.c, .slice a.pa a.pn a.pc, .int .i64 a.left, .bool a.down] 25).alloc (.cells #[.slice b.a b.n b.c, .slice b.pa b.pn b.pc, .int .i64 b.left, .bool b.down] 25))
  have OX := Keep.mk (Bx.new (w.alloc (.cells #[.slice a.a a.n a.c, .slice a.pa a.pn a.pc, .int .i64 a.left, .bool a.down] 25)) [.slice b.a b.n b.c, .slice b.pa b.pn b.pc, .int .i64 b.left, .bool b.down] 25)
  have HB0 : Hid (Below w.heap.size w ((w.alloc (.cells #[.slice a.a a.n a.c, .slice a.pa a.pn a.pc, .int .i64 a.left, .bool a.down] 25)).alloc (.cells #[.slice b.a b.n b.c, .slice b.pa b.pn b.pc, .int .i64 b.left, .bool b.down] 25))) := (below_alloc1 _ _).alloc (by simp) _
  generalize hw1 : (w.alloc (.cells #[.slice a.a a.n a.c, .slice a.pa a.pn a.pc, .int .i64 a.left, .bool a.down] 25)).alloc (.cells #[.slice b.a b.n b.c, .slice b.pa b.pn b.pc, .int .i64 b.left, .bool b.down] 25) = w1 at *
  rw [World.size_alloc] at OX
  clear hw1
  go_loopw [7] (fun i wr => ∃ k : Nat, k ≤ a.n ∧ i = .int .i64 k ∧ Below w1.heap.size w1 wr) (fun i _ => a.n - (intOf i).toNat)
  case atStart => exact ⟨0, Nat.zero_le _, rfl, Below.refl _ _⟩
  case round =>
    obtain ⟨k, hk, rfl, hb⟩ := hrel
    have HBW := Lib.hid (below_next HB0.out hb (Nat.le_refl _))
    have HC := Lib.hid hb
    have IX1 := Keep.mk (IX.out.below hb)
    have OX1 := Keep.mk (OX.out.below hb)
    clear hb
    have i0 := IX1.out.cell 0 _ rfl
    have i1 := IX1.out.cell 1 _ rfl
    have i2 := IX1.out.cell 2 _ rfl
    have i3 := IX1.out.cell 3 _ rfl
    by_cases hlt : k < a.n
    · go_wp2_with fail
      refine (HA.out wr HBW.out (k : Int)).mono ?_
      rintro e w2 ⟨A1, n1, c1, rfl, hr1, hb1⟩
      have HR1 := Keep.mk hr1
      have HB2 := Lib.hid (below_next HBW.out hb1 (Nat.le_refl _))
      have HC2 := Lib.hid (below_next HC.out hb1 (Nat.le_refl _))
      have OX2 := Keep.mk (OX1.out.below hb1)
      have o0 := OX2.out.cell 0 _ rfl
      have o1 := OX2.out.cell 1 _ rfl
      have o2 := OX2.out.cell 2 _ rfl
      have o3 := OX2.out.cell 3 _ rfl
      clear hr1 hb1 i0 i1 i2 i3
      go_wp2_with fail
      refine (HB.out w2 HB2.out (k : Int)).mono ?_
      rintro e w3 ⟨A2, n2, c2, rfl, hr2, hb2⟩
      have HR2 := Keep.mk hr2
      have HR3 := Keep.mk (HR1.out.below hb2)
      have HC3 := Lib.hid (below_next HC2.out hb2 (Nat.le_refl _))
      clear hr2 hb2 o0 o1 o2 o3
      by_cases hx : (k : Int) = but
      · have e1 : ((k : Int) != but) = false := by simp [hx]
        clear hx
        go_wp2
        go_roundw
        case rel => exact ⟨k + 1, by omega, by go_num, HC3.out⟩
        case measure => simp [intOf]; omega
      · have e1 : ((k : Int) != but) = true := by simp [hx]
        have heq := HH.out k hlt hx
        have h2 := HR2.out
        rw [← heq] at h2
        have e2 : ((Dv.read a.m (k : Int)).2 != (Dv.read b.m (k : Int)).2) = false := by rw [heq]; simp
        have HR4 := Keep.mk h2
        clear heq h2 hx
        have SB := Keep.mk (sb_true A1 n1 c1 A2 n2 c2 _ w3 HR3.out HR4.out)
        generalize (Dv.read a.m (k : Int)).2 = q1 at *
        generalize (Dv.read b.m (k : Int)).2 = q2 at *
        go_wp2_with (go_at_call 18; refine SB.out.mono ?_; rintro e w4 ⟨rfl, k4, hw4⟩; have hb4 : Below w3.heap.size w3 w4 := (by rw [hw4]; exact below_draws _ _ _); have HC4 := Lib.hid (below_next HC3.out hb4 (Nat.le_refl _)); clear hw4 hb4)
        go_roundw
        case rel => exact ⟨k + 1, by omega, by go_num, HC4.out⟩
        case measure => simp [intOf]; omega
    · have o0 := OX1.out.cell 0 _ rfl
      go_wp2
      go_ret
      exact ⟨rfl, HBW.out⟩
end Go.Proofs.Ytpekbcoclmhcnaa
