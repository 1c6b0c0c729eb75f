/- device.Flush, Write. -/
import Derived.Test.YtpekbcoclmhcnaaSettle
import Derived.Test.YtpekbcoclmhcnaaDev2
import Derived.Test.YtpekbcoclmhcnaaDev2b
import Derived.Test.YtpekbcoclmhcnaaR24g
namespace Go.Proofs.Ytpekbcoclmhcnaa
open Go.RowKit Go.Joins

set_option maxHeartbeats 1000000 in
theorem flush_any (d : Dk) (K : Nat) (w : World) (h : d.Ok w) (hf : Dv.Fits K d.m) (hK : K ≤ 1000) :
    Calls Try.prog 21 #[.agg #[.slice d.a d.n d.c, .slice d.pa d.pn d.pc, .int .i64 d.left, .bool d.down]] w (RetKE w (fun _ => True) (Dv.flush d.m)) := by
  have HF := Keep.mk (fun (X : World) (hX : Below w.heap.size w X) => settle_flush (fun _ => true) d K X (h.below hX) hf hK (fun i Y _ _ => flush1_any i Y))
  have hB : Hid (Below w.heap.size w ((w.alloc (.cells #[.slice d.a d.n d.c, .slice d.pa d.pn d.pc, .int .i64 d.left, .bool d.down] 25)).alloc (.cells #[.slice none 0 0, .slice none 0 0, .int .i64 0, .bool false] 25))) := (below_alloc1 _ _).alloc (by simp) _
  clear h hf
  cases hdn : d.down
  · have hm : d.m.down = false := hdn
    have HX : Keep (Dv.flush d.m = (⟨Dv.settle d.m.sectors (Dv.keptq (fun _ => true) 0 d.m.pending), [], d.left, false⟩, 0)) := ⟨by simp [Dv.flush, hm, Dv.keptq_true]; rfl⟩
    rw [hdn] at HF hB
    have HOX := Keep.mk (Bx.new (w.alloc (.cells #[.slice d.a d.n d.c, .slice d.pa d.pn d.pc, .int .i64 d.left, .bool false] 25)) [.slice none 0 0, .slice none 0 0, .int .i64 0, .bool false] 25)
    rw [World.size_alloc] at HOX
    have hol := HOX.out.lt
    have hz := hB.out.size
    clear hm hdn
    rw [HX.out]
    go_enter Try.func21, Try.ntmps21
    go_wp2_with fail
    refine (HF.out _ hB.out).mono ?_
    rintro e w1 ⟨D, rfl, hok, hm, hb, hav⟩
    have OX1 := Keep.mk (HOX.out.below hb)
    have HB1 := Lib.hid (below_next hB.out hb (Nat.le_refl _))
    have HK := Keep.mk hok
    have HM := Keep.mk hm
    have HAV : Keep (∀ b, b < w.heap.size + 2 → D.Av b) := ⟨fun b hb => hav b (by simpa using hb) trivial⟩
    have o0 := OX1.out.cell 0 _ rfl
    have o1 := OX1.out.cell 1 _ rfl
    have o2 := OX1.out.cell 2 _ rfl
    have o3 := OX1.out.cell 3 _ rfl
    have of := OX1.out.fz
    clear hok hm hb hav HF
    unfold Dk.v
    go_wp2
    refine bodyPost_ret (v := .tuple #[.agg #[.slice D.a D.n D.c, .slice D.pa D.pn D.pc, .int .i64 D.left, .bool D.down], .int .i64 0]) (by simp [results, Try.results21, go_sem, o0, o1, o2, o3]) rfl ?_
    have hX : Off [w.heap.size + 1] w1 _ := off_set4 w1 (w.heap.size + 1) (.slice D.a D.n D.c) (.slice D.pa D.pn D.pc) (.int .i64 D.left) (.bool D.down)
    exact ⟨D, rfl, HK.out.off hX (fun b hb => HAV.out b (by simp at hb; omega)), HM.out, HB1.out.trans (hX.below HB1.out.size (by simp)), fun b hb _ => HAV.out b (by omega)⟩
  · have hm : d.m.down = true := hdn
    have HX : Keep (Dv.flush d.m = (Dv.Disk.zero, 23)) := ⟨by simp [Dv.flush, hm]⟩
    rw [HX.out]
    rw [hdn] at hB
    clear hm hdn HF
    go_enter Try.func21, Try.ntmps21
    go_wp2
    refine bodyPost_ret (v := .tuple #[.agg #[.slice none 0 0, .slice none 0 0, .int .i64 0, .bool false], .int .i64 23]) (by simp [results, Try.results21, go_sem]) rfl ?_
    exact ⟨Dk.zero, rfl, Dk.zero_ok _, rfl, hB.out, fun b _ _ => Dk.zero_av b⟩

set_option maxHeartbeats 2000000 in
set_option maxRecDepth 100000 in
theorem write_any (d : Dk) (s : Int) (A : Option Addr) (n c : Nat) (l : List UInt8) (K : Nat) (w : World) (h : d.Ok w) (hl : RB w A n c l) (hf : Dv.Fits K d.m) (hK : K ≤ 1000) (hLo : -9223372036854775808 ≤ d.left) (hHi : d.left ≤ 9223372036854775807) :
    Calls Try.prog 13 #[.agg #[.slice d.a d.n d.c, .slice d.pa d.pn d.pc, .int .i64 d.left, .bool d.down], .int .i64 s, .slice A n c] w (RetKE w (fun _ => True) (Dv.write d.m s l)) := by
  have HF := Keep.mk (fun (X : World) (hX : Below w.heap.size w X) => fresh_any d K X (h.below hX) hf hK)
  have HL := Keep.mk hl
  have hn := write_len d w h
  have hll := hl.len
  have hB : Hid (Below w.heap.size w ((w.alloc (.cells #[.slice d.a d.n d.c, .slice d.pa d.pn d.pc, .int .i64 d.left, .bool d.down] 25)).alloc (.cells #[.slice none 0 0, .slice none 0 0, .int .i64 0, .bool false] 25))) := (below_alloc1 _ _).alloc (by simp) _
  have HIX := Keep.mk ((Bx.new w [.slice d.a d.n d.c, .slice d.pa d.pn d.pc, .int .i64 d.left, .bool d.down] 25).alloc (.cells #[.slice none 0 0, .slice none 0 0, .int .i64 0, .bool false] 25))
  have HOX := Keep.mk (Bx.new (w.alloc (.cells #[.slice d.a d.n d.c, .slice d.pa d.pn d.pc, .int .i64 d.left, .bool d.down] 25)) [.slice none 0 0, .slice none 0 0, .int .i64 0, .bool false] 25)
  rw [World.size_alloc] at HOX
  clear h hl hf
  rcases write_cases3 d s l with ⟨h0, hw⟩ | ⟨h0, h1, hw⟩ | ⟨h0, h1, h2, hw⟩ | ⟨h0, h1, h2, h3, h4, h5, hw⟩ | ⟨h0, h1, h2, h3, h4, h5, hw⟩ | ⟨h0, h1, h2, h3, h4, h5, hw⟩
  · have hdn : d.down = true := h0
    have HW := Keep.mk hw
    rw [HW.out]
    rw [hdn] at hB HF HOX HIX
    rw [hdn]
    clear h0 hw hn hdn HIX
    go_enter Try.func13, Try.ntmps13
    go_wp2_with fail
    refine (HF.out _ hB.out).mono ?_
    rintro e w1 hret
    obtain ⟨D, rfl, hok, hm, hb, hav⟩ := hret.k
    have OX1 := Keep.mk (HOX.out.below hb)
    have HB1 := Lib.hid (below_next hB.out hb (Nat.le_refl _))
    have HK := Keep.mk hok
    have HM := Keep.mk hm
    have HAV : Keep (∀ b, b < w.heap.size + 2 → D.Av b) := ⟨fun b hb => hav b (by simpa using hb) trivial⟩
    have o0 := OX1.out.cell 0 _ rfl
    have o1 := OX1.out.cell 1 _ rfl
    have o2 := OX1.out.cell 2 _ rfl
    have o3 := OX1.out.cell 3 _ rfl
    have of := OX1.out.fz
    clear hret hok hm hb hav HF
    unfold Dk.v
    go_wp2
    refine bodyPost_ret (v := .tuple #[.agg #[.slice D.a D.n D.c, .slice D.pa D.pn D.pc, .int .i64 D.left, .bool D.down], .int .i64 23]) (by simp [results, Try.results13, go_sem, o0, o1, o2, o3]) rfl ?_
    have hX : Off [w.heap.size + 1] w1 _ := off_set4 w1 (w.heap.size + 1) (.slice D.a D.n D.c) (.slice D.pa D.pn D.pc) (.int .i64 D.left) (.bool D.down)
    exact ⟨D, rfl, HK.out.off hX (fun b hb => HAV.out b (by simp at hb; omega)), HM.out, HB1.out.trans (hX.below HB1.out.size (by simp)), fun b hb _ => HAV.out b (by omega)⟩
  · have hdn : d.down = false := h0
    rw [hn] at h1
    have HW := Keep.mk hw
    have HH := Keep.mk h1
    rw [HW.out]
    rw [hdn] at hB HOX
    rw [hdn]
    clear h0 hw hn hdn h1 HF HIX
    go_enter Try.func13, Try.ntmps13
    go_wp2_with fail
    refine (has_any d.a d.n d.c d.pa d.pn d.pc d.left false s _).mono ?_
    rw [HH.out]
    rintro e w1 ⟨rfl, hb1⟩
    have HB1 := Lib.hid (below_next hB.out hb1 (Nat.le_refl _))
    have OX := Keep.mk (HOX.out.below hb1)
    clear hb1
    have o0 := OX.out.cell 0 _ rfl
    have o1 := OX.out.cell 1 _ rfl
    have o2 := OX.out.cell 2 _ rfl
    have o3 := OX.out.cell 3 _ rfl
    have of := OX.out.fz
    go_wp2
    refine bodyPost_ret (v := .tuple #[.agg #[.slice none 0 0, .slice none 0 0, .int .i64 0, .bool false], .int .i64 2]) (by simp [results, Try.results13, go_sem, o0, o1, o2, o3]) rfl ?_
    exact ⟨Dk.zero, rfl, Dk.zero_ok _, rfl, HB1.out.trans ((off_set4 w1 (w.heap.size + 1) _ _ _ _).below (HB1.out.size) (by simp)), fun b _ _ => Dk.zero_av b⟩
  · have hdn : d.down = false := h0
    rw [hn] at h1
    have hn64 : ((n : Int) != 64) = true := by rw [bne_iff_ne]; omega
    have HW := Keep.mk hw
    have HH := Keep.mk h1
    rw [HW.out]
    rw [hdn] at hB HOX
    rw [hdn]
    clear h0 hw hn hdn h1 HF HIX
    go_enter Try.func13, Try.ntmps13
    go_wp2_with fail
    refine (has_any d.a d.n d.c d.pa d.pn d.pc d.left false s _).mono ?_
    rw [HH.out]
    rintro e w1 ⟨rfl, hb1⟩
    have HB1 := Lib.hid (below_next hB.out hb1 (Nat.le_refl _))
    have OX := Keep.mk (HOX.out.below hb1)
    clear hb1
    have o0 := OX.out.cell 0 _ rfl
    have o1 := OX.out.cell 1 _ rfl
    have o2 := OX.out.cell 2 _ rfl
    have o3 := OX.out.cell 3 _ rfl
    have of := OX.out.fz
    go_wp2
    refine bodyPost_ret (v := .tuple #[.agg #[.slice none 0 0, .slice none 0 0, .int .i64 0, .bool false], .int .i64 1]) (by simp [results, Try.results13, go_sem, o0, o1, o2, o3]) rfl ?_
    exact ⟨Dk.zero, rfl, Dk.zero_ok _, rfl, HB1.out.trans ((off_set4 w1 (w.heap.size + 1) _ _ _ _).below (HB1.out.size) (by simp)), fun b _ _ => Dk.zero_av b⟩
  all_goals
    have hdn : d.down = false := h0
    rw [hn] at h1
    have hn64 : ((n : Int) != 64) = false := by rw [bne_eq_false_iff_eq]; omega
    have hn200 : n ≤ 200 := by omega
    have HW := Keep.mk hw
    have HH := Keep.mk h1
    have HLL := Keep.mk hll
    have HDN := Keep.mk hdn
    rw [hdn] at hB HOX HF HIX
    rw [hdn]
    clear h0 hw hn hdn h1 h2
    go_enter Try.func13, Try.ntmps13
    go_wp2_with fail
    refine (has_any d.a d.n d.c d.pa d.pn d.pc d.left false s _).mono ?_
    rw [HH.out]
    rintro e w1 ⟨rfl, hb1⟩
    have HB1 := Lib.hid (below_next hB.out hb1 (Nat.le_refl _))
    have IX := Keep.mk (HIX.out.below hb1)
    have OX := Keep.mk (HOX.out.below hb1)
    clear hb1
    have i0 := IX.out.cell 0 _ rfl
    have i1 := IX.out.cell 1 _ rfl
    have i2 := IX.out.cell 2 _ rfl
    have i3 := IX.out.cell 3 _ rfl
    have hz1 := HB1.out.size
    have hol := OX.out.lt
    go_wp2_with fail
    refine (HF.out _ HB1.out).mono ?_
    rintro e w2 ⟨R, Q, F, off, nn, pn, cur, ps, qs, rfl, hfq, hpl, hql, hn1, hpn1, hps, hqs, hb⟩
    have OX2 := Keep.mk (OX.out.below hb)
    have IX2 := Keep.mk (IX.out.below hb)
    have HB2 := Lib.hid (below_next HB1.out hb (Nat.le_refl _))
    have FQ2 := Keep.mk hfq
    have HPL := Keep.mk hpl
    have HQL := Keep.mk hql
    have HPS := Keep.mk hps
    have HQS := Keep.mk hqs
    clear hfq hpl hql hps hqs hb i0 i1 i2 i3 OX IX HF HIX HOX
    have o0 := OX2.out.cell 0 _ rfl
    have o1 := OX2.out.cell 1 _ rfl
    have o2 := OX2.out.cell 2 _ rfl
    have o3 := OX2.out.cell 3 _ rfl
    have of := OX2.out.fz
    go_upto_region 8 with (fail)
    clear o0 o1 o2 o3 of
    have HO3 := Keep.mk (off_set4 w2 (w.heap.size + 1) (.slice (some ⟨R, 0, none⟩) nn nn) (.slice (some ⟨Q, 0, none⟩) pn pn) (.int .i64 d.m.left) (.bool d.m.down))
    have OX3 := Keep.mk (OX2.out.set4 (.slice (some ⟨R, 0, none⟩) nn nn) (.slice (some ⟨Q, 0, none⟩) pn pn) (.int .i64 d.m.left) (.bool d.m.down))
    generalize (((w2.setCell ⟨w.heap.size + 1, 0, none⟩ (.slice (some ⟨R, 0, none⟩) nn nn)).setCell ⟨w.heap.size + 1, 1, none⟩ (.slice (some ⟨Q, 0, none⟩) pn pn)).setCell ⟨w.heap.size + 1, 2, none⟩ (.int .i64 d.m.left)).setCell ⟨w.heap.size + 1, 3, none⟩ (.bool d.m.down) = w3 at *
    rw [show d.m.left = d.left from rfl, show d.m.down = d.down from rfl, HDN.out] at OX3
    have FQ3 := Keep.mk (FQ2.out.off HO3.out (by simp; omega))
    have IX3 := Keep.mk (IX2.out.off HO3.out (by simp))
    have HB3 := Lib.hid (HB2.out.trans (HO3.out.below (B := w.heap.size) HB2.out.size (by simp)))
    have hz3 := HB3.out.size
    have hol3 := OX3.out.lt
    clear FQ2 HB2 OX2 IX2 HO3
    have HL3 := Keep.mk (HL.out.below HB3.out)
    have HQR := FQ3.out.rp HQL.out (by omega)
    have HRQ := Keep.mk HQR
    clear HQR
    have hmk := run_make_row' (P := Try.prog) 26 5 (.int .u8 0) 1 Try.underlying26 u8_info rfl .i64 .i64 n (by omega) (by omega)
    have HWN : Keep (Wh (w3.alloc (.cells (madeCells #[.int .u8 0] n) 5)) w3.heap.size 5 (List.replicate n (.int .u8 0))) := ⟨by rw [made_one]; exact Wh.new w3 _ _⟩
    go_upto_region 10 with (refine wpList_copy_off rfl (.tmp 30) (.tmp 31) 26 26 rfl 5 Try.underlying26 u8_one (some ⟨w3.heap.size, 0, none⟩) A n n n c rfl rfl w3.heap.size 0 (List.replicate n (.int .u8 0)) 5 HWN.out (l.map bv) (Rd.below HL3.out (below_alloc1 _ _)) (Nat.le_refl _) (fun _ => rfl) (by simp) (bv_one _) ?_; intro w4 hF4 ho4; have HF4 := Keep.mk hF4; have HO4 := Keep.mk ho4; clear hF4 ho4)
    have hF := HF4.out
    rw [splice_all _ _ (by simp [HLL.out])] at hF
    have HFD := Keep.mk (wh_rb hF HLL.out (by omega))
    have HC4 : Hid (Below w3.heap.size w3 w4) := (below_alloc1 _ _).trans (HO4.out.below (by simp) (by simp))
    have FQ4 := Keep.mk (FQ3.out.below HC4.out)
    have OX4 := Keep.mk (OX3.out.below HC4.out)
    have IX4 := Keep.mk (IX3.out.below HC4.out)
    have HRQ4 := Keep.mk (HRQ.out.below HC4.out)
    have HB4 := Lib.hid (below_next HB3.out HC4.out (Nat.le_refl _))
    have hz4 := HC4.out.size
    have hgl : w3.heap.size < w4.heap.size := by have := HO4.out.size; simp at this; omega
    clear hF HF4 HO4 HWN hmk FQ3 OX3 IX3 HRQ HL3
    have o1 := (OX4.out.alloc (.cells #[.int .i64 s, .slice (some ⟨w3.heap.size, 0, none⟩) n n] 53)).cell 1 _ rfl
    have o1' := OX4.out.cell 1 _ rfl
    go_upto_region 11 with (at_builtin; refine wpList_append_app _ rfl (.tmp 34) (.tmp 38) 23 rfl (w4.heap.size + 1) 53 (.agg #[.int .i64 0, .slice none 0 0]) 2 32 Try.underlying23 wr_info rfl (by decide) (by decide) (.slice (some ⟨Q, 0, none⟩) pn pn) pn (qs.flatMap Pe.cells) rfl (.inl ⟨_, rfl, Rd.below HRQ4.out.rd (below_alloc1 _ _)⟩) (some ⟨w4.heap.size, 0, none⟩) 1 1 [.int .i64 s, .slice (some ⟨w3.heap.size, 0, none⟩) n n] rfl (rd_two w4 _ _ _) (by simp [Value.oneCell']) (by omega) (by simp) ?_; intro A3 c3 w5 ha; have HA3 := Keep.mk ha; have HC5 : Hid (Below w4.heap.size w4 w5) := (below_alloc1 _ _).trans (ha.below.mono (by simp)); have OX5 := Keep.mk (OX4.out.below HC5.out); have q1 := OX5.out.cell 1 _ rfl; have qf := OX5.out.fz; clear ha)
    clear o1 o1' q1 qf
    have HO6 : Keep (Off [w.heap.size + 1] w5 (w5.setCell ⟨w.heap.size + 1, 1, none⟩ (.slice A3 (pn + 1) c3))) := ⟨(Off.refl _ _).setCell (by simp) _⟩
    have OX6 := Keep.mk (OX5.out.set (j := 1) (by simp) (.slice A3 (pn + 1) c3))
    simp only [List.set_cons_zero, List.set_cons_succ] at OX6
    generalize w5.setCell ⟨w.heap.size + 1, 1, none⟩ (.slice A3 (pn + 1) c3) = w6 at *
    have HB5 := Lib.hid (below_next HB4.out HC5.out (Nat.le_refl _))
    have IX6 := Keep.mk ((IX4.out.below HC5.out).off HO6.out (by simp))
    have FIN : Keep (∀ X lf dn ek, Off [w.heap.size + 1] w6 X → RetKE w (fun _ => True) (⟨d.m.sectors, d.m.pending ++ [(s, l)], lf, dn⟩, ek) (.returned (.tuple #[.agg #[.slice (some ⟨R, 0, none⟩) nn nn, .slice A3 (pn + 1) c3, .int .i64 lf, .bool dn], .int .i64 ek])) X) := ⟨fun X lf dn ek hX6 => by
      have hX := HO6.out.trans hX6
      have hq5 := (FQ4.out.below HC5.out).off hX (by simp; omega)
      have hlQ := FQ4.out.lQ
      have hrd : Rd w5 2 A3 (pn + 1) c3 ((qs ++ [(⟨s, ⟨some ⟨w3.heap.size, 0, none⟩, n, n, l⟩⟩ : Pe)]).flatMap Pe.cells) := by
        obtain ⟨A', c', e, hr⟩ := HA3.out.tgt.rd
        injection e with e1 _ e3
        subst e1 e3
        simpa [Pe.cells, Sl.v] using hr
      have hAlt : ∀ a, A3 = some a → w.heap.size + 1 < a.block := fun a ha => by
        rcases HA3.out.at_ a ha with h | h
        · have h2 : Q = a.block := by simpa [Value.ownBlock] using h
          omega
        · have := h.1
          simp at this
          omega
      have hrd2 := hrd.off hX (fun _ a ha hb => by have := hAlt a ha; simp at hb; omega)
      have hnew : Sl.Ok X ⟨some ⟨w3.heap.size, 0, none⟩, n, n, l⟩ := Sl.Ok.off (s := ⟨some ⟨w3.heap.size, 0, none⟩, n, n, l⟩) (Sl.Ok.below (s := ⟨some ⟨w3.heap.size, 0, none⟩, n, n, l⟩) HFD.out HC5.out) hX (fun b hb _ a ha => by injection ha with ha; rw [← ha]; simp at hb; show w3.heap.size ≠ b; omega)
      refine ⟨⟨some ⟨R, 0, none⟩, nn, nn, ps, A3, pn + 1, c3, qs ++ [⟨s, ⟨some ⟨w3.heap.size, 0, none⟩, n, n, l⟩⟩], lf, dn⟩, rfl, ⟨hq5.rs HPL.out (by show nn ≤ 100000; omega), ⟨hrd2, fun p hp => ?_⟩⟩, ?_, HB5.out.trans (hX.below HB5.out.size (by simp)), fun b hb _ => ?_⟩
      · rcases List.mem_append.1 hp with hp | hp
        · exact (hq5.qc p hp).ok hq5.rF
        · simp only [List.mem_singleton] at hp
          subst hp
          exact hnew
      · simp only [Dk.m, List.map_append, HPS.out, HQS.out]
        rfl
      · have hav := FQ4.out.av (b := b) (by omega) nn pn lf dn
        refine ⟨hav.a_, hav.s_, fun _ a ha => by have := hAlt a ha; omega, fun p hp => ?_⟩
        rcases List.mem_append.1 hp with hp | hp
        · exact hav.q_ p hp
        · simp only [List.mem_singleton] at hp
          subst hp
          intro _ a ha
          injection ha with ha
          rw [← ha]
          show w3.heap.size ≠ b
          omega⟩
    clear HA3 HFD FQ4 OX5 OX4 IX4 HRQ4 HC4 HC5 HB4 HB3 HL
    have i2 := IX6.out.cell 2 _ rfl
    have o0 := OX6.out.cell 0 _ rfl
    have o1 := OX6.out.cell 1 _ rfl
    have o2 := OX6.out.cell 2 _ rfl
    have o3 := OX6.out.cell 3 _ rfl
    have of := OX6.out.fz
    go_wp2
    first
      | (have ht : (d.left == 0) = true := by assumption
         refine bodyPost_ret (v := .tuple #[.agg #[.slice (some ⟨R, 0, none⟩) nn nn, .slice A3 (pn + 1) c3, .int .i64 d.left, .bool true], .int .i64 23]) ?_ rfl ?_
         · simp [results, Try.results13, go_sem, o0, o1, o2, o3]
         · rw [HW.out]
           refine FIN.out _ d.left true 23 ?_
           repeat (refine Off.setCell ?_ (by simp) _)
           exact Off.refl _ _)
      | (have ht : decide (0 < d.left) = true := by assumption
         refine bodyPost_ret (v := .tuple #[.agg #[.slice (some ⟨R, 0, none⟩) nn nn, .slice A3 (pn + 1) c3, .int .i64 (d.left - 1), .bool false], .int .i64 0]) ?_ rfl ?_
         · simp [results, Try.results13, go_sem, o0, o1, o2, o3]
         · rw [HW.out]
           refine FIN.out _ (d.left - 1) false 0 ?_
           repeat (refine Off.setCell ?_ (by simp) _)
           exact Off.refl _ _)
      | (have ht : decide (0 < d.left) = false := by assumption
         refine bodyPost_ret (v := .tuple #[.agg #[.slice (some ⟨R, 0, none⟩) nn nn, .slice A3 (pn + 1) c3, .int .i64 d.left, .bool false], .int .i64 0]) ?_ rfl ?_
         · simp [results, Try.results13, go_sem, o0, o1, o2, o3]
         · rw [HW.out]
           refine FIN.out _ d.left false 0 ?_
           repeat (refine Off.setCell ?_ (by simp) _)
           exact Off.refl _ _)
end Go.Proofs.Ytpekbcoclmhcnaa
