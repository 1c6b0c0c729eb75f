/- device.Arm. -/
import Derived.Test.YtpekbcoclmhcnaaFresh
import Derived.Deep.CutRange
namespace Go.Proofs.Ytpekbcoclmhcnaa
open Go.RowKit Go.Joins

set_option maxHeartbeats 1000000 in
theorem arm_any (d : Dk) (left : Int) (K : Nat) (w : World) (h : d.Ok w) (hf : Dv.Fits K d.m) (hK : K ≤ 1000) :
    Calls Try.prog 23 #[.agg #[.slice d.a d.n d.c, .slice d.pa d.pn d.pc, .int .i64 d.left, .bool d.down], .int .i64 left] w (RetK w (fun _ => True) (Dv.arm d.m left)) := by
  have HF := Keep.mk (fun (X : World) (hX : Below w.heap.size w X) => fresh_any d K X (h.below hX) hf hK)
  clear h hf
  go_enter Try.func23, Try.ntmps23
  go_wp2_with fail
  have HX0 : Hid (Below w.heap.size w ((w.alloc (.cells #[.slice d.a d.n d.c, .slice d.pa d.pn d.pc, .int .i64 d.left, .bool d.down] 25)).alloc (.cells #[.slice none 0 0, .slice none 0 0, .int .i64 0, .bool false] 25))) := (below_alloc1 _ _).alloc (by simp) _
  have HOX := Keep.mk (Bx.new (w.alloc (.cells #[.slice d.a d.n d.c, .slice d.pa d.pn d.pc, .int .i64 d.left, .bool d.down] 25)) [.slice none 0 0, .slice none 0 0, .int .i64 0, .bool false] 25)
  refine (HF.out _ HX0.out).mono ?_
  rintro e w1 hret
  obtain ⟨D, rfl, hok, hm, hb, hav⟩ := hret.k
  have hB0 : w.heap.size + 2 = ((w.alloc (.cells #[.slice d.a d.n d.c, .slice d.pa d.pn d.pc, .int .i64 d.left, .bool d.down] 25)).alloc (.cells #[.slice none 0 0, .slice none 0 0, .int .i64 0, .bool false] 25)).heap.size := by simp
  rw [← hB0] at hav
  rw [World.size_alloc] at HOX
  have OX1 := Keep.mk (HOX.out.below hb)
  have HB1 := Lib.hid (below_next HX0.out hb (Nat.le_refl _))
  have HK := Keep.mk hok
  have HM := Keep.mk hm
  have HAV := Keep.mk hav
  have o0 := OX1.out.cell 0 _ rfl
  have o1 := OX1.out.cell 1 _ rfl
  have o2 := OX1.out.cell 2 _ rfl
  have o3 := OX1.out.cell 3 _ rfl
  have of := OX1.out.fz
  clear hret hok hm hb hav hB0 HF
  unfold Dk.v
  go_upto_region 2 with (fail)
  clear o0 o1 o2 o3 of
  have HO2 := Keep.mk (off_set4 w1 (w.heap.size + 1) (.slice D.a D.n D.c) (.slice D.pa D.pn D.pc) (.int .i64 D.left) (.bool D.down))
  have OX2 := Keep.mk (OX1.out.set4 (.slice D.a D.n D.c) (.slice D.pa D.pn D.pc) (.int .i64 D.left) (.bool D.down))
  generalize (((w1.setCell ⟨w.heap.size + 1, 0, none⟩ (.slice D.a D.n D.c)).setCell ⟨w.heap.size + 1, 1, none⟩ (.slice D.pa D.pn D.pc)).setCell ⟨w.heap.size + 1, 2, none⟩ (.int .i64 D.left)).setCell ⟨w.heap.size + 1, 3, none⟩ (.bool D.down) = w2 at *
  have FIN : Keep (∀ X lf, lf = max left (-1) → Off [w.heap.size + 1] w2 X → RetK w (fun _ => True) (Dv.arm d.m left) (.returned (.agg #[.slice D.a D.n D.c, .slice D.pa D.pn D.pc, .int .i64 lf, .bool D.down])) X) := ⟨fun X lf hlf hX2 => by
    have hX := HO2.out.trans hX2
    have hok2 := HK.out.off hX (fun b hb => HAV.out b (by simp at hb; omega) trivial)
    refine ⟨{ D with left := lf }, rfl, ⟨hok2.sec, hok2.pen⟩, ?_, HB1.out.trans (hX.below HB1.out.size (by simp)), fun b hb _ => ?_⟩
    · have hm := HM.out
      rw [← hm]
      simp only [Dk.m, Dv.arm, hlf]
    · have h := HAV.out b (by omega) trivial
      exact ⟨h.a_, h.s_, h.p_, h.q_⟩⟩
  clear OX1 HB1 HK HO2
  have o0 := OX2.out.cell 0 _ rfl
  have o1 := OX2.out.cell 1 _ rfl
  have o2 := OX2.out.cell 2 _ rfl
  have o3 := OX2.out.cell 3 _ rfl
  have of := OX2.out.fz
  go_wp2
  · refine bodyPost_ret (v := .agg #[.slice D.a D.n D.c, .slice D.pa D.pn D.pc, .int .i64 (-1), .bool D.down]) (by simp [results, Try.results23, go_sem, o0, o1, o2, o3]) rfl ?_
    refine FIN.out _ (-1) (by rw [Int.max_eq_right (by omega)]) ?_
    repeat (refine Off.setCell ?_ (by simp) _)
    exact Off.refl _ _
  · refine bodyPost_ret (v := .agg #[.slice D.a D.n D.c, .slice D.pa D.pn D.pc, .int .i64 left, .bool D.down]) (by simp [results, Try.results23, go_sem, o0, o1, o2, o3]) rfl ?_
    refine FIN.out _ left (by rw [Int.max_eq_left (by omega)]) ?_
    repeat (refine Off.setCell ?_ (by simp) _)
    exact Off.refl _ _
end Go.Proofs.Ytpekbcoclmhcnaa
