/- The reference's Read, Flush, Arm, Kept, Crash. -/
import Derived.Test.YtpekbcoclmhcnaaR24d
import Derived.Deep.RegionHeld3
import Derived.Deep.CutRange
namespace Go.Proofs.Ytpekbcoclmhcnaa
open Go.RowKit Go.Joins

set_option maxHeartbeats 1000000 in
theorem rread_any (d : Dk) (s : Int) (K : Nat) (w : World) (h : d.Ok w) (hf : Dv.Fits K d.m) :
    Calls Try.prog 16 #[.agg #[.slice d.a d.n d.c, .slice d.pa d.pn d.pc, .int .i64 d.left, .bool d.down], .int .i64 s] w (RetBE w (Dv.read d.m s).1 (Dv.read d.m s).2) := by
  have HD := Keep.mk h
  have HF := Keep.mk hf
  have hn := h.sec.len
  have hSn : d.m.sectors.length = d.n := by simp [Dk.m, hn]
  have hB : Hid (Below w.heap.size w (w.alloc (.cells #[.slice d.a d.n d.c, .slice d.pa d.pn d.pc, .int .i64 d.left, .bool d.down] 25))) := below_alloc1 _ _
  clear h hf
  cases hdn : d.down
  · have hm : d.m.down = false := hdn
    rw [hdn] at hB
    by_cases hh : Dv.has d.n s = true
    · have hin : 0 ≤ s ∧ s < (d.n : Int) := by simpa [Dv.has] using hh
      obtain ⟨i, rfl⟩ := Int.eq_ofNat_of_zero_le hin.1
      have hi : i < d.S.length := by omega
      have HX : Keep (Dv.read d.m (i : Int) = (Dv.content d.S[i].l (i : Int) (d.P.map Pe.m), 0)) := ⟨by
        rw [Dv.read, hm, hSn, hh]
        simp [Dk.m, List.getD, List.getElem?_eq_getElem hi]⟩
      have HH := Keep.mk hh
      have CT := Keep.mk (fun (X : World) (hX : Below w.heap.size w X) => content_any d i d.pa d.pn d.pc d.P X (HD.out.below hX) hi (HD.out.pen.below hX) HF.out.ss (fun p hp => HF.out.sp p.m (List.mem_map.2 ⟨p, hp, rfl⟩)))
      rw [hdn] at CT
      rw [HX.out]
      generalize Dv.content _ _ _ = ct at *
      clear hin hi hh hSn hm hn hdn
      go_enter Try.func16, Try.ntmps16
      go_wp2_with fail
      refine (there_any d.a d.n d.c d.pa d.pn d.pc d.left false (i : Int) _).mono ?_
      rw [HH.out]
      rintro e w1 ⟨rfl, hb1⟩
      have IX1 := Keep.mk ((Bx.new w [.slice d.a d.n d.c, .slice d.pa d.pn d.pc, .int .i64 d.left, .bool false] 25).below hb1)
      have HB1 := Lib.hid (below_next hB.out hb1 (Nat.le_refl _))
      clear hb1
      have i0 := IX1.out.cell 0 _ rfl
      have i1 := IX1.out.cell 1 _ rfl
      have i2 := IX1.out.cell 2 _ rfl
      have i3 := IX1.out.cell 3 _ rfl
      go_wp2_with (go_at_call 36; refine (CT.out _ HB1.out).mono ?_; rintro e w2 ⟨A2, n2, c2, rfl, hr2, ha2, hb2⟩; have HR2 := Keep.mk hr2; have HB2 := Lib.hid hb2; clear hr2 ha2 hb2)
      go_ret2
      exact ⟨A2, n2, c2, rfl, HR2.out, below_next HB1.out HB2.out (Nat.le_refl _)⟩
    · have hh0 : Dv.has d.n s = false := by simpa using hh
      have HX : Keep (Dv.read d.m s = ([], 2)) := ⟨by simp [Dv.read, hm, hSn, hh0]⟩
      have HH := Keep.mk hh0
      clear hh hh0 hSn hm hn
      rw [HX.out]
      go_enter Try.func16, Try.ntmps16
      go_wp2_with (go_at_call 34; refine (there_any d.a d.n d.c d.pa d.pn d.pc d.left false s _).mono ?_; rw [HH.out]; rintro e w1 ⟨rfl, hb1⟩; have HB1 := Lib.hid (below_next hB.out hb1 (Nat.le_refl _)); clear hb1)
      go_ret2
      exact ⟨none, 0, 0, rfl, RB.none_ _, HB1.out⟩
  · have hm : d.m.down = true := hdn
    have HX : Keep (Dv.read d.m s = ([], 23)) := ⟨by simp [Dv.read, hm]⟩
    rw [HX.out]
    rw [hdn] at hB
    clear hm hSn hdn
    go_enter Try.func16, Try.ntmps16
    go_wp2
    go_ret2
    exact ⟨none, 0, 0, rfl, RB.none_ _, hB.out⟩

set_option maxHeartbeats 1000000 in
theorem rarm_any (d : Dk) (left : Int) (w : World) (h : d.Ok w) :
    Calls Try.prog 24 #[.agg #[.slice d.a d.n d.c, .slice d.pa d.pn d.pc, .int .i64 d.left, .bool d.down], .int .i64 left] w (RetK w d.Av (Dv.arm d.m left)) := by
  have HD := Keep.mk h
  clear h
  go_enter Try.func24, Try.ntmps24
  have hB : Hid (∀ x y, Below w.heap.size w ((w.alloc (.cells #[.slice d.a d.n d.c, .slice d.pa d.pn d.pc, .int .i64 x, .bool d.down] 25)).alloc (.cells #[.slice d.a d.n d.c, .slice d.pa d.pn d.pc, .int .i64 y, .bool d.down] 25))) := fun x y => (below_alloc1 _ _).alloc (by simp) _
  go_wp2
  · skip
    refine bodyPost_ret (v := .agg #[.slice d.a d.n d.c, .slice d.pa d.pn d.pc, .int .i64 (-1), .bool d.down]) (by simp [results, Try.results24, go_sem]) rfl ?_
    exact ⟨{ d with left := -1 }, rfl, ⟨HD.out.sec.below (hB.out _ _), HD.out.pen.below (hB.out _ _)⟩, by simp only [Dk.m, Dv.arm]; rw [Int.max_eq_right (by omega)], hB.out _ _, fun b _ h => ⟨h.a_, h.s_, h.p_, h.q_⟩⟩
  · skip
    refine bodyPost_ret (v := .agg #[.slice d.a d.n d.c, .slice d.pa d.pn d.pc, .int .i64 left, .bool d.down]) (by simp [results, Try.results24, go_sem]) rfl ?_
    exact ⟨{ d with left := left }, rfl, ⟨HD.out.sec.below (hB.out _ _), HD.out.pen.below (hB.out _ _)⟩, by simp only [Dk.m, Dv.arm]; rw [Int.max_eq_left (by omega)], hB.out _ _, fun b _ h => ⟨h.a_, h.s_, h.p_, h.q_⟩⟩

set_option maxHeartbeats 1000000 in
theorem rflush_any (d : Dk) (K : Nat) (w : World) (h : d.Ok w) (hf : Dv.Fits K d.m) :
    Calls Try.prog 22 #[.agg #[.slice d.a d.n d.c, .slice d.pa d.pn d.pc, .int .i64 d.left, .bool d.down]] w (RetKE w d.Av (Dv.flush d.m)) := by
  have HD := Keep.mk h
  have HF := Keep.mk hf
  have hns : d.n ≤ 4096 := by have := hf.ns; simpa [Dk.m, h.sec.len] using this
  clear h hf
  cases hdn : d.down
  · have hm : d.m.down = false := hdn
    have HX : Keep (Dv.flush d.m = (⟨Dv.settle d.m.sectors d.m.pending, [], d.left, false⟩, 0)) := ⟨by simp [Dv.flush, hm]; rfl⟩
    have CT := Keep.mk (fun (X : World) (hX : Below w.heap.size w X) => durable_any d d.pa d.pn d.pc d.P X (HD.out.below hX) (HD.out.pen.below hX) HF.out.ss (fun p hp => HF.out.sp p.m (List.mem_map.2 ⟨p, hp, rfl⟩)) hns)
    rw [hdn] at CT
    rw [HX.out]
    clear hdn hm hns
    go_enter Try.func22, Try.ntmps22
    go_upto_region 3 with (fail)
    have IX := Keep.mk ((Bx.new w [.slice d.a d.n d.c, .slice d.pa d.pn d.pc, .int .i64 d.left, .bool false] 25).alloc (.cells #[.slice none 0 0, .slice none 0 0, .int .i64 0, .bool false] 25))
    have OX := Keep.mk (Bx.new (w.alloc (.cells #[.slice d.a d.n d.c, .slice d.pa d.pn d.pc, .int .i64 d.left, .bool false] 25)) [.slice none 0 0, .slice none 0 0, .int .i64 0, .bool false] 25)
    have HB : Hid (Below w.heap.size w ((w.alloc (.cells #[.slice d.a d.n d.c, .slice d.pa d.pn d.pc, .int .i64 d.left, .bool false] 25)).alloc (.cells #[.slice none 0 0, .slice none 0 0, .int .i64 0, .bool false] 25))) := (below_alloc1 _ _).alloc (by simp) _
    generalize hw1 : (w.alloc (.cells #[.slice d.a d.n d.c, .slice d.pa d.pn d.pc, .int .i64 d.left, .bool false] 25)).alloc (.cells #[.slice none 0 0, .slice none 0 0, .int .i64 0, .bool false] 25) = w1 at *
    rw [World.size_alloc] at OX
    clear hw1
    have HDR : Hid (Below w1.heap.size w1 w1.drew) := below_draws _ _ 1
    have HDW := Lib.hid (below_next HB.out HDR.out (Nat.le_refl _))
    have KS : Keep (∀ X, Bx X w.heap.size [.slice d.a d.n d.c, .slice d.pa d.pn d.pc, .int .i64 d.left, .bool false] → X.cell? ⟨w.heap.size, 0, none⟩ = some (.slice d.a d.n d.c) ∧ X.cell? ⟨w.heap.size, 1, none⟩ = some (.slice d.pa d.pn d.pc) ∧ X.cell? ⟨w.heap.size, 2, none⟩ = some (.int .i64 d.left) ∧ X.cell? ⟨w.heap.size, 3, none⟩ = some (.bool false)) := ⟨fun X h => ⟨h.cell 0 _ rfl, h.cell 1 _ rfl, h.cell 2 _ rfl, h.cell 3 _ rfl⟩⟩
    go_region_held3 (fun X => X.cell? ⟨w.heap.size, 0, none⟩ = some (.slice d.a d.n d.c) ∧ X.cell? ⟨w.heap.size, 1, none⟩ = some (.slice d.pa d.pn d.pc) ∧ X.cell? ⟨w.heap.size, 2, none⟩ = some (.int .i64 d.left) ∧ X.cell? ⟨w.heap.size, 3, none⟩ = some (.bool false))
      (first | exact KS.out _ (IX.out.below HDR.out) | exact KS.out _ ((IX.out.below HDR.out).below HBN.out) | exact KS.out _ (((((((IX.out.below HDR.out).below HBN.out).other (by simp) _).other (by simp) _).other (by simp) _).other (by simp) _)))
      (first | (go_at_call 39; ((refine (CT.out _ HDW.out).mono ?_); rintro e wn ⟨A2, n2, c2, S2, rfl, hrs, hSm, hb, hn1, hn2⟩; have HN1 := Keep.mk hn1; have HN2 := Keep.mk hn2; have HBN := Lib.hid hb; have HRS := Keep.mk hrs; have HSM := Keep.mk hSm; have OXN := Keep.mk ((OX.out.below HDR.out).below hb); have o0 := OXN.out.cell 0 _ rfl; have o1 := OXN.out.cell 1 _ rfl; have o2 := OXN.out.cell 2 _ rfl; have o3 := OXN.out.cell 3 _ rfl; have of := OXN.out.fz; clear hb hrs hSm hn1 hn2)))
    go_wp2
    refine bodyPost_ret (v := .tuple #[.agg #[.slice A2 n2 c2, .slice none 0 0, .int .i64 d.left, .bool false], .int .i64 0]) (by simp [results, Try.results22, go_sem, o0, o1, o2, o3]) rfl ?_
    have hz := HDW.out.size
    have hz1 := HB.out.size
    have hol := OX.out.lt
    have hzd := HDR.out.size
    have hoff : Off [w.heap.size + 1] wn _ := off_set4 wn (w.heap.size + 1) (.slice A2 n2 c2) (.slice none 0 0) (.int .i64 d.left) (.bool false)
    refine ⟨⟨A2, n2, c2, S2, none, 0, 0, [], d.left, false⟩, rfl, ⟨HRS.out.off hoff (fun b hb _ a ha => ?_) (fun b hb s hs _ a ha => ?_), RP.none_ _⟩, ?_, (HDW.out.trans (HBN.out.mono hz)).trans (hoff.below (by have := HBN.out.size; omega) (by simp)), fun b hb _ => ⟨fun _ a ha => ?_, fun s hs _ a ha => ?_, (fun h => absurd h (by simp)), (fun p hp => by cases hp)⟩⟩
    · simp only [List.mem_singleton] at hb
      have := HN1.out a ha
      omega
    · simp only [List.mem_singleton] at hb
      have := HN2.out s hs a ha
      omega
    · simp only [Dk.m, HSM.out]
      rfl
    · have := HN1.out a ha
      omega
    · have := HN2.out s hs a ha
      omega
  · have hm : d.m.down = true := hdn
    have HX : Keep (Dv.flush d.m = (Dv.Disk.zero, 23)) := ⟨by simp [Dv.flush, hm]⟩
    rw [HX.out]
    clear hm hdn hns
    go_enter Try.func22, Try.ntmps22
    go_wp2
    refine bodyPost_ret (v := .tuple #[.agg #[.slice none 0 0, .slice none 0 0, .int .i64 0, .bool false], .int .i64 23]) (by simp [results, Try.results22, go_sem]) rfl ?_
    exact ⟨Dk.zero, rfl, Dk.zero_ok _, rfl, (below_alloc1 _ _).alloc (by simp) _, fun b _ _ => Dk.zero_av b⟩
end Go.Proofs.Ytpekbcoclmhcnaa
