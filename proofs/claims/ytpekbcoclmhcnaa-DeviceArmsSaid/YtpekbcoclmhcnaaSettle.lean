/- device.settle and its two closures, Flush, Crash. -/
import Derived.Test.YtpekbcoclmhcnaaFresh
import Derived.Maps.OwnOps
import Derived.Maps.OwnSet
import Derived.Deep.CutRange
namespace Go.Proofs.Ytpekbcoclmhcnaa
open Go.RowKit Go.Joins Go.Maps

theorem flush1_any (i : Int) (w : World) : Calls Try.prog 38 #[.int .i64 i] w fun e w' => e = .returned (.bool true) ∧ w = w' := by
  go_enter Try.func38, Try.ntmps38
  go_wp2
  go_ret
  exact ⟨rfl, rfl⟩
/-- Device words for the walk: 'out' behind the pieces. -/
theorem set_map_l (ps : List Sl) (j : Nat) (s : Sl) : (ps.set j s).map (·.l) = (ps.map (·.l)).set j s.l := by rw [List.map_set]
theorem set_map_v (ps : List Sl) (j : Nat) (s : Sl) : (ps.set j s).map Sl.v = (ps.map Sl.v).set j s.v := by rw [List.map_set]

theorem Fq.put {B : Nat} {w : World} {R Q F off : Nat} {cur : List Value} {ps : List Sl} {qs : List Pe} (h : Fq B w R Q F off cur ps qs) (j : Nat) (s : Sl) (hs : Pc F off cur s) : Fq B (w.setCell ⟨R, j, none⟩ (.slice s.a s.n s.c)) R Q F off cur (ps.set j s) qs := by
  refine ⟨?_, h.rQ.other (Ne.symm h.nRQ) _, h.rF.other (Ne.symm h.nRF) _, fun t ht => ?_, h.qc, h.lR, h.lQ, h.lF, h.nRQ, h.nRF, h.nQF⟩
  · rw [set_map_v]
    exact h.rR.set _
  · rcases List.mem_or_eq_of_mem_set ht with ht | rfl
    · exact h.pc t ht
    · exact hs
set_option maxHeartbeats 2000000 in
set_option maxRecDepth 100000 in
theorem settle_flush (q : Nat → Bool) (d : Dk) (K : Nat) (w : World) (h : d.Ok w) (hf : Dv.Fits K d.m) (hK : K ≤ 1000)
    (hq : ∀ (i : Nat) (X : World), i < 1000 → Below w.heap.size w X → Calls Try.prog 38 #[.int .i64 (i : Int)] X fun e w' => e = .returned (.bool (q i)) ∧ X = w') :
    Calls Try.prog 37 #[.agg #[.slice d.a d.n d.c, .slice d.pa d.pn d.pc, .int .i64 d.left, .bool d.down], .func (.func 38) #[] #[]] w (RetK w (fun _ => True) ⟨Dv.settle d.m.sectors (Dv.keptq q 0 d.m.pending), [], d.left, d.down⟩) := by
  have HQ := Keep.mk hq
  have HF := Keep.mk (fun (X : World) (hX : Below w.heap.size w X) => fresh_any d K X (h.below hX) hf hK)
  clear h hf hq
  go_enter Try.func37, Try.ntmps37
  go_wp2_with fail
  have HX0 : Hid (Below w.heap.size w ((w.alloc (.cells #[.slice d.a d.n d.c, .slice d.pa d.pn d.pc, .int .i64 d.left, .bool d.down] 25)).alloc (.cells #[.slice none 0 0, .slice none 0 0, .int .i64 0, .bool false] 25))) := (below_alloc1 _ _).alloc (by simp) _
  have HOX := Keep.mk (Bx.new (w.alloc (.cells #[.slice d.a d.n d.c, .slice d.pa d.pn d.pc, .int .i64 d.left, .bool d.down] 25)) [.slice none 0 0, .slice none 0 0, .int .i64 0, .bool false] 25)
  refine (HF.out _ HX0.out).mono ?_
  rintro e w1 ⟨R, Q, F, off, n, pn, cur, ps, qs, rfl, hfq, hn, hpn, hn1, hpn1, hps, hqs, hb⟩
  have hB0 : w.heap.size + 4 = ((w.alloc (.cells #[.slice d.a d.n d.c, .slice d.pa d.pn d.pc, .int .i64 d.left, .bool d.down] 25)).alloc (.cells #[.slice none 0 0, .slice none 0 0, .int .i64 0, .bool false] 25)).heap.size + 2 := by simp
  rw [← hB0] at hfq
  rw [World.size_alloc] at HOX
  have FQ1 := Keep.mk hfq
  have OX1 := Keep.mk (HOX.out.below hb)
  have HB1 := Lib.hid (below_next HX0.out hb (Nat.le_refl _))
  have HN := Keep.mk hn
  have HPN := Keep.mk hpn
  have HPS := Keep.mk hps
  have HQS := Keep.mk hqs
  clear hfq hb hn hpn hps hqs HX0 HOX hB0 HF
  have o0 := OX1.out.cell 0 _ rfl
  have o1 := OX1.out.cell 1 _ rfl
  have o2 := OX1.out.cell 2 _ rfl
  have o3 := OX1.out.cell 3 _ rfl
  have of := OX1.out.fz
  unfold Dk.m
  simp only
  generalize hSS : d.S.map (·.l) = SS at *
  generalize hPP : d.P.map Pe.m = PP at *
  have hSl : ps.map (·.l) = SS := by rw [HPS.out, ← hSS]; rfl
  have hPl : qs.map Pe.m = PP := by rw [HQS.out, ← hPP]; rfl
  have HSL := Keep.mk hSl
  have HPL := Keep.mk hPl
  have HSS : Keep (d.m.sectors = SS) := ⟨hSS⟩
  have HPP : Keep (d.m.pending = PP) := ⟨hPP⟩
  clear hSS hPP hSl hPl HPS HQS
  go_upto_region 2 with (fail)
  clear o0 o1 o2 o3 of
  have HO2 := Keep.mk (off_set4 w1 (w.heap.size + 1) (.slice (some ⟨R, 0, none⟩) n n) (.slice (some ⟨Q, 0, none⟩) pn pn) (.int .i64 d.left) (.bool d.down))
  have OX2 := Keep.mk (OX1.out.set4 (.slice (some ⟨R, 0, none⟩) n n) (.slice (some ⟨Q, 0, none⟩) pn pn) (.int .i64 d.left) (.bool d.down))
  generalize (((w1.setCell ⟨w.heap.size + 1, 0, none⟩ (.slice (some ⟨R, 0, none⟩) n n)).setCell ⟨w.heap.size + 1, 1, none⟩ (.slice (some ⟨Q, 0, none⟩) pn pn)).setCell ⟨w.heap.size + 1, 2, none⟩ (.int .i64 d.left)).setCell ⟨w.heap.size + 1, 3, none⟩ (.bool d.down) = w2 at *
  have FQ2 := Keep.mk (FQ1.out.off HO2.out (by simp))
  have HB2 := Lib.hid (HB1.out.trans (HO2.out.below (B := w.heap.size) HB1.out.size (by simp)))
  have hz2 := HB2.out.size
  have hol := OX2.out.lt
  clear FQ1 HB1 OX1 HO2
  have o1 := OX2.out.cell 1 _ rfl
  go_wp2
  clear o1
  go_loopw [12] (fun i wr => ∃ (k : Nat) (rs : List Sl), k ≤ pn ∧ i = .int .i64 k ∧ rs.length = n ∧ rs.map (·.l) = Dv.settle SS (Dv.keptq q 0 (PP.take k)) ∧ Fq (w.heap.size + 4) wr R Q F off cur rs qs ∧
      Bx wr (w.heap.size + 1) [.slice (some ⟨R, 0, none⟩) n n, .slice (some ⟨Q, 0, none⟩) pn pn, .int .i64 d.left, .bool d.down] ∧ Below w.heap.size w wr) (fun i _ => pn - (intOf i).toNat)
  case atStart => exact ⟨0, ps, Nat.zero_le _, rfl, HN.out, by rw [HSL.out]; simp [Dv.keptq, Dv.settle], FQ2.out, OX2.out, HB2.out⟩
  case round =>
    clear FQ2 OX2 HB2
    obtain ⟨k, rs, hk, rfl, hrl, hrs, hfq, hox, hb⟩ := hrel
    have HRL := Keep.mk hrl
    have HRS := Keep.mk hrs
    have FQ3 := Keep.mk hfq
    have OX3 := Keep.mk hox
    have HB3 := Lib.hid hb
    have hz3 := hb.size
    have hol3 := hox.lt
    clear hrl hrs hfq hox hb
    by_cases hlt : k < pn
    · have hkP : k < qs.length := by have := HPN.out; omega
      have hkPP : k < PP.length := by rw [← HPL.out]; simpa using hkP
      obtain ⟨b, o, hbo, hbl, hck, hck1, hrb⟩ := (FQ3.out.rp HPN.out (by omega)).at_ (k := k) hkP
      injection hbo with hbo
      injection hbo with hb1 hb2
      subst hb1 hb2
      rw [Nat.zero_add] at hck hck1
      have hpk : PP[k] = qs[k].m := by
        have : PP[k]? = (qs.map Pe.m)[k]? := by rw [HPL.out]
        rw [List.getElem?_eq_getElem hkPP, List.getElem?_map, List.getElem?_eq_getElem hkP] at this
        simpa using this
      have hstep := Dv.settle_step q SS PP k hkPP
      rw [hpk] at hstep
      have hSn : SS.length = n := by rw [← HSL.out]; simpa using HN.out
      rw [hSn] at hstep
      have HST := Keep.mk hstep
      have HKC := Keep.mk (FQ3.out.qc _ (List.getElem_mem hkP))
      generalize qs[k] = pk at *
      clear hstep hpk hrb hSn
      have HDR : Hid (Below wr.heap.size wr (wr.alloc (.cells #[.int .i64 pk.k, .slice pk.s.a pk.s.n pk.s.c] 53))) := below_alloc1 _ _
      have TX := Keep.mk (Bx.new wr [.int .i64 pk.k, .slice pk.s.a pk.s.n pk.s.c] 53)
      go_upto_region 5 with (fail)
      clear hck hck1
      generalize wr.alloc (.cells #[.int .i64 pk.k, .slice pk.s.a pk.s.n pk.s.c] 53) = wa at *
      have HBa := Lib.hid (below_next HB3.out HDR.out (Nat.le_refl _))
      have OXa := Keep.mk (OX3.out.below HDR.out)
      have FQa := Keep.mk (FQ3.out.below HDR.out)
      have hza := HDR.out.size
      have o0 := OXa.out.cell 0 _ rfl
      have o1 := OXa.out.cell 1 _ rfl
      have o2 := OXa.out.cell 2 _ rfl
      have o3 := OXa.out.cell 3 _ rfl
      have t0 := TX.out.cell 0 _ rfl
      have t1 := TX.out.cell 1 _ rfl
      have CK := Keep.mk (HQ.out k wa (by omega) HBa.out)
      cases hqk : q k
      · rw [hqk] at CK
        have HST2 : Keep (Dv.settle SS (Dv.keptq q 0 (PP.take (k + 1))) = Dv.settle SS (Dv.keptq q 0 (PP.take k))) := ⟨by rw [HST.out, hqk]; rfl⟩
        clear hqk
        go_wp2_with (go_at_call 38; refine (CK.out).mono ?_; rintro e w' ⟨rfl, rfl⟩)
        go_roundw
        case rel => exact ⟨k + 1, rs, by omega, by go_num, HRL.out, by rw [HRS.out, HST2.out], FQa.out, OXa.out, HBa.out⟩
        case measure => simp [intOf]; omega
      · rw [hqk] at CK
        by_cases hh : Dv.has n pk.k = true
        · have HST2 : Keep (Dv.settle SS (Dv.keptq q 0 (PP.take (k + 1))) = (Dv.settle SS (Dv.keptq q 0 (PP.take k))).set pk.k.toNat pk.s.l) := ⟨by rw [HST.out, hqk, if_pos rfl, show pk.m.1 = pk.k from rfl, if_pos hh]; rfl⟩
          have HHK := Keep.mk hh
          have hin : 0 ≤ pk.k ∧ pk.k < (n : Int) := by simpa [Dv.has] using hh
          obtain ⟨hin0, hin1⟩ := hin
          obtain ⟨j, hj⟩ : ∃ j : Nat, pk.k = (j : Int) := ⟨pk.k.toNat, by omega⟩
          have HJ := Keep.mk hj
          rw [hj] at hin0 hin1
          have hjn : j < n := by omega
          have hjr : j < rs.length := by have := HRL.out; omega
          have RJ : Keep ((rs.map Sl.v)[j]? = some (.slice rs[j].a rs[j].n rs[j].c)) := ⟨by rw [List.getElem?_map, List.getElem?_eq_getElem hjr]; rfl⟩
          generalize rs[j] = rj at RJ
          clear hh hqk hj
          go_wp2_with (first | (go_at_call 38; refine (CK.out).mono ?_; rintro e w' ⟨rfl, rfl⟩) | (go_at_call 33; refine (has_any _ n n _ pn pn d.left d.down pk.k _).mono ?_; rw [HHK.out]; rintro e w5 ⟨rfl, hb5⟩; have HB5 := Lib.hid hb5; have OX5 := Keep.mk (OXa.out.below hb5); have TX5 := Keep.mk (TX.out.below hb5); have FQ5 := Keep.mk (FQa.out.below hb5); have o05 := OX5.out.cell 0 _ rfl; have t05 := (TX5.out.cell 0 _ rfl).trans (congrArg (fun x => some (Value.int .i64 x)) HJ.out); have t15 := TX5.out.cell 1 _ rfl; have r05 := (FQ5.out.rR.cell j).trans RJ.out; have rf5 := FQ5.out.rR.bx.fz j; clear hb5))
          go_roundw
          case rel =>
            have hnR := FQ5.out.lR
            have hHB5 := HB5.out.size
            refine ⟨k + 1, rs.set j pk.s, by omega, by go_num, by rw [List.length_set]; exact HRL.out, ?_, FQ5.out.put j pk.s HKC.out, OX5.out.other (by simp; omega) _, (HBa.out.trans (HB5.out.mono HBa.out.size)).setCell (by simp; omega) _⟩
            rw [set_map_l, HRS.out, HST2.out, HJ.out]
            rfl
          case measure => simp [intOf]; omega
        · have hh0 : Dv.has n pk.k = false := by simpa using hh
          have HST2 : Keep (Dv.settle SS (Dv.keptq q 0 (PP.take (k + 1))) = Dv.settle SS (Dv.keptq q 0 (PP.take k))) := ⟨by rw [HST.out, hqk, if_pos rfl, show pk.m.1 = pk.k from rfl, if_neg hh]⟩
          have HHK := Keep.mk hh0
          clear hh hh0 hqk
          go_wp2_with (first | (go_at_call 38; refine (CK.out).mono ?_; rintro e w' ⟨rfl, rfl⟩) | (go_at_call 33; refine (has_any _ n n _ pn pn d.left d.down pk.k _).mono ?_; rw [HHK.out]; rintro e w5 ⟨rfl, hb5⟩; have HB5 := Lib.hid hb5; have OX5 := Keep.mk (OXa.out.below hb5); have FQ5 := Keep.mk (FQa.out.below hb5); clear hb5))
          go_roundw
          case rel => exact ⟨k + 1, rs, by omega, by go_num, HRL.out, by rw [HRS.out, HST2.out], FQ5.out, OX5.out, HBa.out.trans (HB5.out.mono HBa.out.size)⟩
          case measure => simp [intOf]; omega
    · obtain rfl : pn = k := by omega
      have hPPl : PP.length = pn := by rw [← HPL.out]; simpa using HPN.out
      have hrs : rs.map (·.l) = Dv.settle SS (Dv.keptq q 0 PP) := by
        have := HRS.out
        rwa [List.take_of_length_le (by omega)] at this
      have HR9 := Keep.mk hrs
      have o0 := OX3.out.cell 0 _ rfl
      have o1 := OX3.out.cell 1 _ rfl
      have o2 := OX3.out.cell 2 _ rfl
      have o3 := OX3.out.cell 3 _ rfl
      have of := OX3.out.fz
      clear hPPl hrs
      go_wp2
      refine bodyPost_ret (v := .agg #[.slice (some ⟨R, 0, none⟩) n n, .slice none 0 0, .int .i64 d.left, .bool d.down]) (by simp [results, Try.results37, go_sem, o0, o1, o2, o3]) rfl ?_
      refine ⟨⟨some ⟨R, 0, none⟩, n, n, rs, none, 0, 0, [], d.left, d.down⟩, rfl, ⟨(FQ3.out.off (L := [w.heap.size + 1]) ?o1 (by simp)).rs HRL.out (by show n ≤ 100000; omega), RP.none_ _⟩, ?_, HB3.out.trans (Off.below (T := [w.heap.size + 1]) ?o2 (by omega) (by simp)), fun b hb _ => ?av⟩
      case o1 => repeat (first | exact Off.refl _ _ | refine Off.setCell ?_ (by simp) _)
      case av =>
        have hav := FQ3.out.av (b := b) (by omega) n pn d.left d.down
        exact ⟨hav.a_, hav.s_, (fun h => absurd h (by simp)), (fun p hp => by cases hp)⟩
      case o2 => repeat (first | exact Off.refl _ _ | refine Off.setCell ?_ (by simp) _)
      show (⟨rs.map (·.l), [], d.left, d.down⟩ : Dv.Disk) = ⟨Dv.settle d.m.sectors (Dv.keptq q 0 d.m.pending), [], d.left, d.down⟩
      rw [HR9.out, HSS.out, HPP.out]
set_option maxHeartbeats 2000000 in
set_option maxRecDepth 100000 in
theorem settle_crash (kv : Nat) (q : Nat → Bool) (d : Dk) (K : Nat) (w : World) (h : d.Ok w) (hf : Dv.Fits K d.m) (hK : K ≤ 1000)
    (hq : ∀ (i : Nat) (X : World), i < 1000 → Below w.heap.size w X → Calls Try.prog 40 #[.int .i64 (i : Int), .pointer (some ⟨kv, 0, none⟩)] X fun e w' => e = .returned (.bool (q i)) ∧ X = w') :
    Calls Try.prog 37 #[.agg #[.slice d.a d.n d.c, .slice d.pa d.pn d.pc, .int .i64 d.left, .bool d.down], .func (.func 40) #[] #[.pointer (some ⟨kv, 0, none⟩)]] w (RetK w (fun _ => True) ⟨Dv.settle d.m.sectors (Dv.keptq q 0 d.m.pending), [], d.left, d.down⟩) := by
  have HQ := Keep.mk hq
  have HF := Keep.mk (fun (X : World) (hX : Below w.heap.size w X) => fresh_any d K X (h.below hX) hf hK)
  clear h hf hq
  go_enter Try.func37, Try.ntmps37
  go_wp2_with fail
  have HX0 : Hid (Below w.heap.size w ((w.alloc (.cells #[.slice d.a d.n d.c, .slice d.pa d.pn d.pc, .int .i64 d.left, .bool d.down] 25)).alloc (.cells #[.slice none 0 0, .slice none 0 0, .int .i64 0, .bool false] 25))) := (below_alloc1 _ _).alloc (by simp) _
  have HOX := Keep.mk (Bx.new (w.alloc (.cells #[.slice d.a d.n d.c, .slice d.pa d.pn d.pc, .int .i64 d.left, .bool d.down] 25)) [.slice none 0 0, .slice none 0 0, .int .i64 0, .bool false] 25)
  refine (HF.out _ HX0.out).mono ?_
  rintro e w1 ⟨R, Q, F, off, n, pn, cur, ps, qs, rfl, hfq, hn, hpn, hn1, hpn1, hps, hqs, hb⟩
  have hB0 : w.heap.size + 4 = ((w.alloc (.cells #[.slice d.a d.n d.c, .slice d.pa d.pn d.pc, .int .i64 d.left, .bool d.down] 25)).alloc (.cells #[.slice none 0 0, .slice none 0 0, .int .i64 0, .bool false] 25)).heap.size + 2 := by simp
  rw [← hB0] at hfq
  rw [World.size_alloc] at HOX
  have FQ1 := Keep.mk hfq
  have OX1 := Keep.mk (HOX.out.below hb)
  have HB1 := Lib.hid (below_next HX0.out hb (Nat.le_refl _))
  have HN := Keep.mk hn
  have HPN := Keep.mk hpn
  have HPS := Keep.mk hps
  have HQS := Keep.mk hqs
  clear hfq hb hn hpn hps hqs HX0 HOX hB0 HF
  have o0 := OX1.out.cell 0 _ rfl
  have o1 := OX1.out.cell 1 _ rfl
  have o2 := OX1.out.cell 2 _ rfl
  have o3 := OX1.out.cell 3 _ rfl
  have of := OX1.out.fz
  unfold Dk.m
  simp only
  generalize hSS : d.S.map (·.l) = SS at *
  generalize hPP : d.P.map Pe.m = PP at *
  have hSl : ps.map (·.l) = SS := by rw [HPS.out, ← hSS]; rfl
  have hPl : qs.map Pe.m = PP := by rw [HQS.out, ← hPP]; rfl
  have HSL := Keep.mk hSl
  have HPL := Keep.mk hPl
  have HSS : Keep (d.m.sectors = SS) := ⟨hSS⟩
  have HPP : Keep (d.m.pending = PP) := ⟨hPP⟩
  clear hSS hPP hSl hPl HPS HQS
  go_upto_region 2 with (fail)
  clear o0 o1 o2 o3 of
  have HO2 := Keep.mk (off_set4 w1 (w.heap.size + 1) (.slice (some ⟨R, 0, none⟩) n n) (.slice (some ⟨Q, 0, none⟩) pn pn) (.int .i64 d.left) (.bool d.down))
  have OX2 := Keep.mk (OX1.out.set4 (.slice (some ⟨R, 0, none⟩) n n) (.slice (some ⟨Q, 0, none⟩) pn pn) (.int .i64 d.left) (.bool d.down))
  generalize (((w1.setCell ⟨w.heap.size + 1, 0, none⟩ (.slice (some ⟨R, 0, none⟩) n n)).setCell ⟨w.heap.size + 1, 1, none⟩ (.slice (some ⟨Q, 0, none⟩) pn pn)).setCell ⟨w.heap.size + 1, 2, none⟩ (.int .i64 d.left)).setCell ⟨w.heap.size + 1, 3, none⟩ (.bool d.down) = w2 at *
  have FQ2 := Keep.mk (FQ1.out.off HO2.out (by simp))
  have HB2 := Lib.hid (HB1.out.trans (HO2.out.below (B := w.heap.size) HB1.out.size (by simp)))
  have hz2 := HB2.out.size
  have hol := OX2.out.lt
  clear FQ1 HB1 OX1 HO2
  have o1 := OX2.out.cell 1 _ rfl
  go_wp2
  clear o1
  go_loopw [12] (fun i wr => ∃ (k : Nat) (rs : List Sl), k ≤ pn ∧ i = .int .i64 k ∧ rs.length = n ∧ rs.map (·.l) = Dv.settle SS (Dv.keptq q 0 (PP.take k)) ∧ Fq (w.heap.size + 4) wr R Q F off cur rs qs ∧
      Bx wr (w.heap.size + 1) [.slice (some ⟨R, 0, none⟩) n n, .slice (some ⟨Q, 0, none⟩) pn pn, .int .i64 d.left, .bool d.down] ∧ Below w.heap.size w wr) (fun i _ => pn - (intOf i).toNat)
  case atStart => exact ⟨0, ps, Nat.zero_le _, rfl, HN.out, by rw [HSL.out]; simp [Dv.keptq, Dv.settle], FQ2.out, OX2.out, HB2.out⟩
  case round =>
    clear FQ2 OX2 HB2
    obtain ⟨k, rs, hk, rfl, hrl, hrs, hfq, hox, hb⟩ := hrel
    have HRL := Keep.mk hrl
    have HRS := Keep.mk hrs
    have FQ3 := Keep.mk hfq
    have OX3 := Keep.mk hox
    have HB3 := Lib.hid hb
    have hz3 := hb.size
    have hol3 := hox.lt
    clear hrl hrs hfq hox hb
    by_cases hlt : k < pn
    · have hkP : k < qs.length := by have := HPN.out; omega
      have hkPP : k < PP.length := by rw [← HPL.out]; simpa using hkP
      obtain ⟨b, o, hbo, hbl, hck, hck1, hrb⟩ := (FQ3.out.rp HPN.out (by omega)).at_ (k := k) hkP
      injection hbo with hbo
      injection hbo with hb1 hb2
      subst hb1 hb2
      rw [Nat.zero_add] at hck hck1
      have hpk : PP[k] = qs[k].m := by
        have : PP[k]? = (qs.map Pe.m)[k]? := by rw [HPL.out]
        rw [List.getElem?_eq_getElem hkPP, List.getElem?_map, List.getElem?_eq_getElem hkP] at this
        simpa using this
      have hstep := Dv.settle_step q SS PP k hkPP
      rw [hpk] at hstep
      have hSn : SS.length = n := by rw [← HSL.out]; simpa using HN.out
      rw [hSn] at hstep
      have HST := Keep.mk hstep
      have HKC := Keep.mk (FQ3.out.qc _ (List.getElem_mem hkP))
      generalize qs[k] = pk at *
      clear hstep hpk hrb hSn
      have HDR : Hid (Below wr.heap.size wr (wr.alloc (.cells #[.int .i64 pk.k, .slice pk.s.a pk.s.n pk.s.c] 53))) := below_alloc1 _ _
      have TX := Keep.mk (Bx.new wr [.int .i64 pk.k, .slice pk.s.a pk.s.n pk.s.c] 53)
      go_upto_region 5 with (fail)
      clear hck hck1
      generalize wr.alloc (.cells #[.int .i64 pk.k, .slice pk.s.a pk.s.n pk.s.c] 53) = wa at *
      have HBa := Lib.hid (below_next HB3.out HDR.out (Nat.le_refl _))
      have OXa := Keep.mk (OX3.out.below HDR.out)
      have FQa := Keep.mk (FQ3.out.below HDR.out)
      have hza := HDR.out.size
      have o0 := OXa.out.cell 0 _ rfl
      have o1 := OXa.out.cell 1 _ rfl
      have o2 := OXa.out.cell 2 _ rfl
      have o3 := OXa.out.cell 3 _ rfl
      have t0 := TX.out.cell 0 _ rfl
      have t1 := TX.out.cell 1 _ rfl
      have CK := Keep.mk (HQ.out k wa (by omega) HBa.out)
      cases hqk : q k
      · rw [hqk] at CK
        have HST2 : Keep (Dv.settle SS (Dv.keptq q 0 (PP.take (k + 1))) = Dv.settle SS (Dv.keptq q 0 (PP.take k))) := ⟨by rw [HST.out, hqk]; rfl⟩
        clear hqk
        go_wp2_with (go_at_call 40; refine (CK.out).mono ?_; rintro e w' ⟨rfl, rfl⟩)
        go_roundw
        case rel => exact ⟨k + 1, rs, by omega, by go_num, HRL.out, by rw [HRS.out, HST2.out], FQa.out, OXa.out, HBa.out⟩
        case measure => simp [intOf]; omega
      · rw [hqk] at CK
        by_cases hh : Dv.has n pk.k = true
        · have HST2 : Keep (Dv.settle SS (Dv.keptq q 0 (PP.take (k + 1))) = (Dv.settle SS (Dv.keptq q 0 (PP.take k))).set pk.k.toNat pk.s.l) := ⟨by rw [HST.out, hqk, if_pos rfl, show pk.m.1 = pk.k from rfl, if_pos hh]; rfl⟩
          have HHK := Keep.mk hh
          have hin : 0 ≤ pk.k ∧ pk.k < (n : Int) := by simpa [Dv.has] using hh
          obtain ⟨hin0, hin1⟩ := hin
          obtain ⟨j, hj⟩ : ∃ j : Nat, pk.k = (j : Int) := ⟨pk.k.toNat, by omega⟩
          have HJ := Keep.mk hj
          rw [hj] at hin0 hin1
          have hjn : j < n := by omega
          have hjr : j < rs.length := by have := HRL.out; omega
          have RJ : Keep ((rs.map Sl.v)[j]? = some (.slice rs[j].a rs[j].n rs[j].c)) := ⟨by rw [List.getElem?_map, List.getElem?_eq_getElem hjr]; rfl⟩
          generalize rs[j] = rj at RJ
          clear hh hqk hj
          go_wp2_with (first | (go_at_call 40; refine (CK.out).mono ?_; rintro e w' ⟨rfl, rfl⟩) | (go_at_call 33; refine (has_any _ n n _ pn pn d.left d.down pk.k _).mono ?_; rw [HHK.out]; rintro e w5 ⟨rfl, hb5⟩; have HB5 := Lib.hid hb5; have OX5 := Keep.mk (OXa.out.below hb5); have TX5 := Keep.mk (TX.out.below hb5); have FQ5 := Keep.mk (FQa.out.below hb5); have o05 := OX5.out.cell 0 _ rfl; have t05 := (TX5.out.cell 0 _ rfl).trans (congrArg (fun x => some (Value.int .i64 x)) HJ.out); have t15 := TX5.out.cell 1 _ rfl; have r05 := (FQ5.out.rR.cell j).trans RJ.out; have rf5 := FQ5.out.rR.bx.fz j; clear hb5))
          go_roundw
          case rel =>
            have hnR := FQ5.out.lR
            have hHB5 := HB5.out.size
            refine ⟨k + 1, rs.set j pk.s, by omega, by go_num, by rw [List.length_set]; exact HRL.out, ?_, FQ5.out.put j pk.s HKC.out, OX5.out.other (by simp; omega) _, (HBa.out.trans (HB5.out.mono HBa.out.size)).setCell (by simp; omega) _⟩
            rw [set_map_l, HRS.out, HST2.out, HJ.out]
            rfl
          case measure => simp [intOf]; omega
        · have hh0 : Dv.has n pk.k = false := by simpa using hh
          have HST2 : Keep (Dv.settle SS (Dv.keptq q 0 (PP.take (k + 1))) = Dv.settle SS (Dv.keptq q 0 (PP.take k))) := ⟨by rw [HST.out, hqk, if_pos rfl, show pk.m.1 = pk.k from rfl, if_neg hh]⟩
          have HHK := Keep.mk hh0
          clear hh hh0 hqk
          go_wp2_with (first | (go_at_call 40; refine (CK.out).mono ?_; rintro e w' ⟨rfl, rfl⟩) | (go_at_call 33; refine (has_any _ n n _ pn pn d.left d.down pk.k _).mono ?_; rw [HHK.out]; rintro e w5 ⟨rfl, hb5⟩; have HB5 := Lib.hid hb5; have OX5 := Keep.mk (OXa.out.below hb5); have FQ5 := Keep.mk (FQa.out.below hb5); clear hb5))
          go_roundw
          case rel => exact ⟨k + 1, rs, by omega, by go_num, HRL.out, by rw [HRS.out, HST2.out], FQ5.out, OX5.out, HBa.out.trans (HB5.out.mono HBa.out.size)⟩
          case measure => simp [intOf]; omega
    · obtain rfl : pn = k := by omega
      have hPPl : PP.length = pn := by rw [← HPL.out]; simpa using HPN.out
      have hrs : rs.map (·.l) = Dv.settle SS (Dv.keptq q 0 PP) := by
        have := HRS.out
        rwa [List.take_of_length_le (by omega)] at this
      have HR9 := Keep.mk hrs
      have o0 := OX3.out.cell 0 _ rfl
      have o1 := OX3.out.cell 1 _ rfl
      have o2 := OX3.out.cell 2 _ rfl
      have o3 := OX3.out.cell 3 _ rfl
      have of := OX3.out.fz
      clear hPPl hrs
      go_wp2
      refine bodyPost_ret (v := .agg #[.slice (some ⟨R, 0, none⟩) n n, .slice none 0 0, .int .i64 d.left, .bool d.down]) (by simp [results, Try.results37, go_sem, o0, o1, o2, o3]) rfl ?_
      refine ⟨⟨some ⟨R, 0, none⟩, n, n, rs, none, 0, 0, [], d.left, d.down⟩, rfl, ⟨(FQ3.out.off (L := [w.heap.size + 1]) ?o1 (by simp)).rs HRL.out (by show n ≤ 100000; omega), RP.none_ _⟩, ?_, HB3.out.trans (Off.below (T := [w.heap.size + 1]) ?o2 (by omega) (by simp)), fun b hb _ => ?av⟩
      case o1 => repeat (first | exact Off.refl _ _ | refine Off.setCell ?_ (by simp) _)
      case av =>
        have hav := FQ3.out.av (b := b) (by omega) n pn d.left d.down
        exact ⟨hav.a_, hav.s_, (fun h => absurd h (by simp)), (fun p hp => by cases hp)⟩
      case o2 => repeat (first | exact Off.refl _ _ | refine Off.setCell ?_ (by simp) _)
      show (⟨rs.map (·.l), [], d.left, d.down⟩ : Dv.Disk) = ⟨Dv.settle d.m.sectors (Dv.keptq q 0 d.m.pending), [], d.left, d.down⟩
      rw [HR9.out, HSS.out, HPP.out]
end Go.Proofs.Ytpekbcoclmhcnaa
