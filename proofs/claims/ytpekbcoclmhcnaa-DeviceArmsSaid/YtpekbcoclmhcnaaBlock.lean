/- The law's block. -/
import Derived.Test.YtpekbcoclmhcnaaNew
namespace Go.Proofs.Ytpekbcoclmhcnaa
open Go.RowKit Go.Joins

theorem fill_b (b : UInt8) (k m : Nat) : ((List.replicate k b ++ List.replicate (m + 1) (0 : UInt8)).map bv).set k (bv b) = (List.replicate (k + 1) b ++ List.replicate m 0).map bv := by
  rw [← List.map_set, List.set_append_right _ _ (by simp), List.length_replicate, Nat.sub_self, List.replicate_succ, List.set_cons_zero, List.replicate_succ' (n := k)]
  simp

set_option maxHeartbeats 1000000 in
theorem block_any (b : UInt8) (x : Int) (hx : x = (b.toNat : Int)) (w : World) : Calls Try.prog 31 #[.int .u8 x] w (RetBF w (List.replicate 64 b)) := by
  have hmk := run_make64
  have HWN : Keep (Wh (w.alloc (.cells (zs.map bv).toArray 5)) w.heap.size 5 ((List.replicate 0 b ++ List.replicate 64 0).map bv)) := ⟨by simpa [zs] using Wh.new w 5 (zs.map bv)⟩
  have HB0 : Hid (Below w.heap.size w (w.alloc (.cells (zs.map bv).toArray 5))) := below_alloc1 _ _
  have HX := Keep.mk hx
  clear hx
  go_enter Try.func31, Try.ntmps31
  go_wp2
  clear hmk
  generalize w.alloc (.cells (zs.map bv).toArray 5) = w1 at *
  go_loopw [4] (fun i wr => ∃ k : Nat, k ≤ 64 ∧ i = .int .i64 k ∧ Wh wr w.heap.size 5 ((List.replicate k b ++ List.replicate (64 - k) 0).map bv) ∧ Below w.heap.size w wr) (fun i _ => 64 - (intOf i).toNat)
  case atStart => exact ⟨0, Nat.zero_le _, rfl, HWN.out, HB0.out⟩
  case round =>
    obtain ⟨k, hk, rfl, hw, hb⟩ := hrel
    have HW := Keep.mk hw
    have HB := Lib.hid hb
    clear hw hb
    by_cases hlt : k < 64
    · have hlen : ((List.replicate k b ++ List.replicate (64 - k) (0 : UInt8)).map bv).length = 64 := by simp; omega
      have c0 := HW.out.cell k
      rw [List.getElem?_eq_getElem (by omega)] at c0
      have f0 := HW.out.bx.fz k
      have HS : Keep (Wh (wr.setCell ⟨w.heap.size, k, none⟩ (.int .u8 x)) w.heap.size 5 ((List.replicate (k + 1) b ++ List.replicate (64 - (k + 1)) 0).map bv)) := ⟨by
        have h := HW.out.set (j := k) (bv b)
        rw [show 64 - k = (64 - (k + 1)) + 1 by omega, fill_b] at h
        rw [HX.out]
        exact h⟩
      generalize ((List.replicate k b ++ List.replicate (64 - k) (0 : UInt8)).map bv)[k] = cv at c0
      clear hlen
      go_wp2
      go_roundw
      case rel => exact ⟨k + 1, by omega, by go_num, HS.out, HB.out.setCell (Nat.le_refl _) _⟩
      case measure => simp [intOf]; omega
    · obtain rfl : k = 64 := by omega
      go_wp2
      go_ret
      refine ⟨some ⟨w.heap.size, 0, none⟩, 64, 64, rfl, ?_, fun a ha => ?_, HB.out⟩
      · have h := HW.out
        simp only [Nat.sub_self, List.replicate_zero, List.append_nil] at h
        exact wh_rb h (by simp) (by omega)
      · injection ha with ha
        rw [← ha]
        exact Nat.le_refl _
end Go.Proofs.Ytpekbcoclmhcnaa
