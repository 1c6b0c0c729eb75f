/- device.Read, Arm. -/
import Derived.Test.YtpekbcoclmhcnaaFresh
import Derived.Test.YtpekbcoclmhcnaaR24d
namespace Go.Proofs.Ytpekbcoclmhcnaa
open Go.RowKit Go.Joins

theorem splice_all {α : Type} (L cs : List α) (h : L.length = cs.length) : splice L 0 cs = cs := by
  unfold splice
  rw [List.take_zero, List.nil_append, Nat.zero_add, ← h, List.drop_length, List.append_nil]
theorem wh_rb {w : World} {b n : Nat} {t : TypeId} {l : List UInt8} (h : Wh w b t (l.map bv)) (hl : l.length = n) (hn : n ≤ 1000000) : RB w (some ⟨b, 0, none⟩) n n l :=
  h.rd (by simp [hl]) (Nat.le_refl _) (by unfold maxLen; omega) (fun j u hu => by rw [Nat.zero_add]; exact hu)

set_option maxHeartbeats 2000000 in
theorem read_any (d : Dk) (s : Int) (K : Nat) (w : World) (h : d.Ok w) (hf : Dv.Fits K d.m) :
    Calls Try.prog 15 #[.agg #[.slice d.a d.n d.c, .slice d.pa d.pn d.pc, .int .i64 d.left, .bool d.down], .int .i64 s] w (RetBE w (Dv.read d.m s).1 (Dv.read d.m s).2) := by
  have HD := Keep.mk h
  have HF := Keep.mk hf
  have hn := h.sec.len
  have hpn := h.pen.len
  have hSn : d.m.sectors.length = d.n := by simp [Dk.m, hn]
  have hbig := Nat.le_trans h.pen.cap h.pen.big
  unfold maxLen at hbig
  have hB : Hid (Below w.heap.size w (w.alloc (.cells #[.slice d.a d.n d.c, .slice d.pa d.pn d.pc, .int .i64 d.left, .bool d.down] 25))) := below_alloc1 _ _
  clear h hf
  cases hdn : d.down
  · have hm : d.m.down = false := hdn
    rw [hdn] at hB
    by_cases hh : Dv.has d.n s = true
    · have hin : 0 ≤ s ∧ s < (d.n : Int) := by simpa [Dv.has] using hh
      obtain ⟨i, rfl⟩ := Int.eq_ofNat_of_zero_le hin.1
      have hi : i < d.S.length := by omega
      have HX : Keep (Dv.read d.m (i : Int) = (Dv.content d.S[i].l (i : Int) (d.P.map Pe.m), 0)) := ⟨by
        rw [Dv.read, hm, hSn, hh]
        simp [Dk.m, List.getD, List.getElem?_eq_getElem hi]⟩
      have HH := Keep.mk hh
      have HPN := Keep.mk hpn
      have hsl : d.S[i].l.length ≤ 200 := HF.out.ss _ (List.mem_map.2 ⟨_, List.getElem_mem hi, rfl⟩)
      have HSL := Keep.mk hsl
      have HPS : Keep (∀ p ∈ d.P, p.s.l.length ≤ 200) := ⟨fun p hp => HF.out.sp p.m (List.mem_map.2 ⟨p, hp, rfl⟩)⟩
      have HAT : Keep (∀ X, Below w.heap.size w X → ∃ b o, d.a = some ⟨b, o, none⟩ ∧ X.cell? ⟨b, o + i, none⟩ = some (.slice d.S[i].a d.S[i].n d.S[i].c)) := ⟨fun X hX => by
        obtain ⟨b, o, hb, hbl, hck, hr⟩ := (HD.out.sec.below hX).at_ (k := i) hi
        exact ⟨b, o, hb, hck⟩⟩
      have HSI := Keep.mk (HD.out.sec.ok _ (List.getElem_mem hi))
      rw [HX.out]
      generalize d.S[i] = si at *
      clear hh hSn hm hn hdn hpn hsl hi
      go_enter Try.func15, Try.ntmps15
      go_wp2_with fail
      refine (has_any d.a d.n d.c d.pa d.pn d.pc d.left false (i : Int) _).mono ?_
      rw [HH.out]
      rintro e w1 ⟨rfl, hb1⟩
      have IX1 := Keep.mk ((Bx.new w [.slice d.a d.n d.c, .slice d.pa d.pn d.pc, .int .i64 d.left, .bool false] 25).below hb1)
      have HB1 := Lib.hid (below_next hB.out hb1 (Nat.le_refl _))
      clear hb1
      obtain ⟨b, o, hb, hck⟩ := HAT.out _ HB1.out
      have i0 := IX1.out.cell 0 _ rfl
      have i1 := IX1.out.cell 1 _ rfl
      rw [hb] at i0
      obtain ⟨hin0, hin1⟩ := hin
      clear hb
      go_wp2
      clear i0 i1 hck
      go_loopw [6, 23] (fun v i' wr => ∃ (k : Nat) (s : Sl), k ≤ d.pn ∧ i' = .int .i64 k ∧ v = .slice s.a s.n s.c ∧ Keep (s.Ok w ∧ s.l = Dv.content si.l (i : Int) ((d.P.map Pe.m).take k) ∧ s.l.length ≤ 200) ∧ Below w1.heap.size w1 wr) (fun _ i' _ => d.pn - (intOf i').toNat)
      case atStart => exact ⟨0, si, Nat.zero_le _, rfl, rfl, ⟨HSI.out, rfl, HSL.out⟩, Below.refl _ _⟩
      case round =>
        obtain ⟨k, s, hk, rfl, rfl, hq, hb⟩ := hrel
        have HB2 := Lib.hid hb
        have HBW := Lib.hid (below_next HB1.out hb (Nat.le_refl _))
        clear hb
        by_cases hlt : k < d.pn
        · have hkP : k < d.P.length := by have := HPN.out; omega
          obtain ⟨b2, o2, hb2, hbl2, hck, hck1, hr⟩ := (HD.out.pen.below HBW.out).at_ (k := k) hkP
          have HCT := Keep.mk (content_take si.l (i : Int) d.P k hkP)
          have HPK := Keep.mk (HD.out.pen.ok _ (List.getElem_mem hkP))
          have HPL := Keep.mk (HPS.out _ (List.getElem_mem hkP))
          generalize d.P[k] = pk at *
          rw [hb2]
          clear hr hb2
          by_cases hx : pk.k = (i : Int)
          · have e1 : (pk.k == (i : Int)) = true := by simpa using hx
            have HX1 := Keep.mk hx
            clear hx
            go_wp2
            go_roundw
            case rel => exact ⟨k + 1, pk.s, by omega, by go_num, rfl, ⟨HPK.out, by rw [HCT.out, if_pos HX1.out], HPL.out⟩, HB2.out.alloc HB2.out.size _⟩
            case measure => simp [intOf]; omega
          · have e1 : (pk.k == (i : Int)) = false := by simpa using hx
            have HX1 := Keep.mk hx
            clear hx
            go_wp2
            go_roundw
            case rel => exact ⟨k + 1, s, by omega, by go_num, rfl, ⟨hq.out.1, by rw [HCT.out, if_neg HX1.out]; exact hq.out.2.1, hq.out.2.2⟩, HB2.out.alloc HB2.out.size _⟩
            case measure => simp [intOf]; omega
        · have hkk : d.pn = k := by omega
          have hfin : s.l = Dv.content si.l (i : Int) (d.P.map Pe.m) := by
            have := hq.out.2.1
            rwa [List.take_of_length_le (by have := HPN.out; simp; omega)] at this
          have HFI := Keep.mk hfin
          have hsn := RB.len hq.out.1
          have hs2 := hq.out.2.2
          have hn2 : s.n ≤ 200 := by omega
          have HSN := Keep.mk hsn
          have HRB := Keep.mk (hq.out.1.below HBW.out)
          clear hfin hsn hs2 hq
          have hmk := run_make_row' (P := Try.prog) 26 5 (.int .u8 0) 1 Try.underlying26 u8_info rfl .i64 .i64 s.n (by omega) (by omega)
          have HWN : Keep (Wh (wr.alloc (.cells (madeCells #[.int .u8 0] s.n) 5)) wr.heap.size 5 (List.replicate s.n (.int .u8 0))) := ⟨by rw [made_one]; exact Wh.new wr _ _⟩
          go_wp2_with (refine wpList_copy_off rfl (.tmp 37) (.tmp 38) 26 26 rfl 5 Try.underlying26 u8_one (some ⟨wr.heap.size, 0, none⟩) s.a s.n s.n s.n s.c rfl rfl wr.heap.size 0 (List.replicate s.n (.int .u8 0)) 5 HWN.out (s.l.map bv) (Rd.below HRB.out (below_alloc1 _ _)) (Nat.le_refl _) (fun _ => rfl) (by simp) (bv_one _) ?_; intro w3 hF3 ho3; have HF3 := Keep.mk hF3; have HO3 := Keep.mk ho3; clear hF3 ho3)
          go_ret2
          have hF := HF3.out
          rw [splice_all _ _ (by simp [HSN.out])] at hF
          refine ⟨some ⟨wr.heap.size, 0, none⟩, s.n, s.n, rfl, ?_, HBW.out.trans (((below_alloc1 _ _).mono HBW.out.size).trans (HO3.out.below (by have := HBW.out.size; simp; omega) (by have := HBW.out.size; simp; omega)))⟩
          rw [← HFI.out]
          exact wh_rb hF HSN.out (by omega)
    · have hh0 : Dv.has d.n s = false := by simpa using hh
      have HX : Keep (Dv.read d.m s = ([], 2)) := ⟨by simp [Dv.read, hm, hSn, hh0]⟩
      have HH := Keep.mk hh0
      clear hh hh0 hSn hm hn
      rw [HX.out]
      go_enter Try.func15, Try.ntmps15
      go_wp2_with (go_at_call 33; refine (has_any d.a d.n d.c d.pa d.pn d.pc d.left false s _).mono ?_; rw [HH.out]; rintro e w1 ⟨rfl, hb1⟩; have HB1 := Lib.hid (below_next hB.out hb1 (Nat.le_refl _)); clear hb1)
      go_ret2
      exact ⟨none, 0, 0, rfl, RB.none_ _, HB1.out⟩
  · have hm : d.m.down = true := hdn
    have HX : Keep (Dv.read d.m s = ([], 23)) := ⟨by simp [Dv.read, hm]⟩
    rw [HX.out]
    rw [hdn] at hB
    clear hm hSn hdn
    go_enter Try.func15, Try.ntmps15
    go_wp2
    go_ret2
    exact ⟨none, 0, 0, rfl, RB.none_ _, hB.out⟩

end Go.Proofs.Ytpekbcoclmhcnaa
