/- The law's written: writes in order, as long as the device does not crash. -/
import Derived.Test.YtpekbcoclmhcnaaLaw24c
import Derived.Deep.CutRange
namespace Go.Proofs.Ytpekbcoclmhcnaa
open Go.RowKit Go.Joins

/-- A write of equal bytes, as it lies in memory. -/
structure Ow where
  k : Int
  f : UInt8
def Ow.cells (o : Ow) : List Value := [.int .i64 o.k, .int .u8 (o.f.toNat : Int)]
theorem ow_two : ∀ o : Ow, o.cells.length = 2 := fun _ => rfl
def Ow.m (o : Ow) : Int × UInt8 := (o.k, o.f)
theorem ow_at {w : World} {A : Option Addr} {n c : Nat} {L : List Ow} (h : Rd w 2 A n c (L.flatMap Ow.cells)) {k : Nat} (hk : k < L.length) : ∃ b o, A = some ⟨b, o, none⟩ ∧ b < w.heap.size ∧ w.cell? ⟨b, o + k * 2, none⟩ = some (.int .i64 L[k].k) ∧
    w.cell? ⟨b, o + k * 2 + 1, none⟩ = some (.int .u8 (L[k].f.toNat : Int)) := by
  obtain ⟨b, o, e, hlt, hc⟩ := h.row ow_two hk (h.rows ow_two (by decide))
  exact ⟨b, o, e, hlt, hc 0 _ rfl, hc 1 _ rfl⟩
theorem written_cons (m : Dv.Disk) (i : Nat) (L : List Ow) (h : i < L.length) (r : Dv.Disk × Int) (hr : r = Dv.write m L[i].k (List.replicate 64 L[i].f)) :
    Dv.written m i ((L.drop i).map Ow.m) = if r.2 = 23 then (r.1, i, 23) else if r.2 = 0 then Dv.written r.1 (i + 1) ((L.drop (i + 1)).map Ow.m) else Dv.written m (i + 1) ((L.drop (i + 1)).map Ow.m) := by
  subst hr
  rw [List.drop_eq_getElem_cons h, List.map_cons, Dv.written]
  rfl
/-- What written leaves. -/
def RetW (d : Dk) (w : World) (r : Dv.Disk × Nat × Int) (e : Ending) (w' : World) : Prop := ∃ D : Dk, e = .returned (.tuple #[.agg #[.slice D.a D.n D.c, .slice D.pa D.pn D.pc, .int .i64 D.left, .bool D.down], .int .i64 (r.2.1 : Int), .int .i64 r.2.2]) ∧ D.Ok w' ∧ D.m = r.1 ∧ Below w.heap.size w w' ∧ ∀ b, b < w.heap.size → d.Av b → D.Av b
theorem write_left {m : Dv.Disk} {s : Int} {l : List UInt8} (h : (Dv.write m s l).2 = 0) (hLo : -9223372036854775808 ≤ m.left) (hHi : m.left ≤ 9223372036854775807) : -9223372036854775808 ≤ (Dv.write m s l).1.left ∧ (Dv.write m s l).1.left ≤ 9223372036854775807 := by
  rcases Dv.write_cases m s l with ⟨_, e⟩ | ⟨_, _, e⟩ | ⟨_, _, _, e⟩ | ⟨_, _, _, _, e⟩ | ⟨_, _, _, _, e⟩
  · rw [e] at h; cases h
  · rw [e] at h; cases h
  · rw [e] at h; cases h
  · rw [e] at h; cases h
  · rw [e]
    simp only
    split <;> constructor <;> omega

set_option maxHeartbeats 4000000 in
set_option maxRecDepth 100000 in
theorem written_any (d : Dk) (A : Option Addr) (n c : Nat) (L : List Ow) (K : Nat) (w : World) (h : d.Ok w) (hl : Rd w 2 A n c (L.flatMap Ow.cells)) (hf : Dv.Fits K d.m) (hK : K + n ≤ 1000) (hLo : -9223372036854775808 ≤ d.left) (hHi : d.left ≤ 9223372036854775807) :
    Calls Try.prog 29 #[.agg #[.slice d.a d.n d.c, .slice d.pa d.pn d.pc, .int .i64 d.left, .bool d.down], .slice A n c] w (RetW d w (Dv.written d.m 0 (L.map Ow.m))) := by
  have HL := Keep.mk hl
  have HN := Keep.mk (hl.rows ow_two (by decide))
  have HF := Keep.mk hf
  have HLH : Keep (-9223372036854775808 ≤ d.left ∧ d.left ≤ 9223372036854775807) := ⟨⟨hLo, hHi⟩⟩
  have HB0 : Hid (Below w.heap.size w ((w.alloc (.cells #[.slice d.a d.n d.c, .slice d.pa d.pn d.pc, .int .i64 d.left, .bool d.down] 25)).alloc (.cells #[.slice none 0 0, .slice none 0 0, .int .i64 0, .bool false] 25))) := (below_alloc1 _ _).alloc (by simp) _
  have HX := Keep.mk ((BxD.new h rfl).below (below_alloc1 _ (.cells #[.slice none 0 0, .slice none 0 0, .int .i64 0, .bool false] 25)))
  have HO := Keep.mk (Bx.new (w.alloc (.cells #[.slice d.a d.n d.c, .slice d.pa d.pn d.pc, .int .i64 d.left, .bool d.down] 25)) [.slice none 0 0, .slice none 0 0, .int .i64 0, .bool false] 25)
  have HAV := Keep.mk (fun (b : Nat) (hb : w.heap.size ≤ b) => h.av hb)
  rw [World.size_alloc] at HO
  clear h hl hf hLo hHi
  go_enter Try.func29, Try.ntmps29
  go_wp2_with fail
  generalize e1 : (w.alloc (.cells #[.slice d.a d.n d.c, .slice d.pa d.pn d.pc, .int .i64 d.left, .bool d.down] 25)).alloc (.cells #[.slice none 0 0, .slice none 0 0, .int .i64 0, .bool false] 25) = w1 at *
  clear e1
  have hz1 : w.heap.size + 1 < w1.heap.size := HO.out.lt
  go_loopw [7] (fun i wr => ∃ (k : Nat) (D : Dk) (m : Dv.Disk), k ≤ n ∧ i = .int .i64 k ∧ Keep (BxD wr w.heap.size D m ∧ Bx wr (w.heap.size + 1) [.slice none 0 0, .slice none 0 0, .int .i64 0, .bool false] ∧ Dv.Fits (K + k) m ∧ Below w.heap.size w wr) ∧ Keep ((∀ b, b < w1.heap.size → w.heap.size ≤ b → D.Av b) ∧ (∀ b, b < w.heap.size → d.Av b → D.Av b) ∧ -9223372036854775808 ≤ m.left ∧ m.left ≤ 9223372036854775807 ∧ w1.heap.size ≤ wr.heap.size) ∧ Keep (Dv.written d.m 0 (L.map Ow.m) = Dv.written m k ((L.drop k).map Ow.m))) (fun i _ => n - (intOf i).toNat)
  case atStart => exact ⟨0, d, d.m, Nat.zero_le _, rfl, ⟨⟨HX.out, HO.out, HF.out, HB0.out⟩⟩, ⟨⟨fun b _ hb => HAV.out b hb, fun b _ h => h, HLH.out.1, HLH.out.2, Nat.le_refl _⟩⟩, ⟨rfl⟩⟩
  case round =>
    obtain ⟨k, D, m, hk, rfl, H1, H2, H3⟩ := hrel
    have hzr := H1.out.2.2.2.size
    have hzw := H2.out.2.2.2.2
    by_cases hlt : k < n
    · have hkL : k < L.length := by have := HN.out; omega
      obtain ⟨b, o, hbo, hbl, hc0, hc1⟩ := ow_at (HL.out.below H1.out.2.2.2) hkL
      have HC := Keep.mk (fun (X : World) (hX : Below wr.heap.size wr X) => ow_at ((HL.out.below H1.out.2.2.2).below hX) hkL)
      have HW := Keep.mk (written_cons m k L hkL _ rfl)
      generalize hgo : L[k] = ow at *
      subst hbo
      have HCC : Keep (∀ X, Below wr.heap.size wr X → X.cell? ⟨b, o + k * 2, none⟩ = some (.int .i64 ow.k) ∧ X.cell? ⟨b, o + k * 2 + 1, none⟩ = some (.int .u8 (ow.f.toNat : Int))) := ⟨fun X hX => by
        obtain ⟨b', o', e, _, h0, h1⟩ := HC.out X hX
        injection e with e
        injection e with e2 e3
        subst e2 e3
        exact ⟨h0, h1⟩⟩
      have HWA := Keep.mk (fun (X : World) (hX : Below wr.heap.size wr X) (Ab : Option Addr) (nb cb : Nat) (hr : RB X Ab nb cb (List.replicate 64 ow.f)) => retXE (write_any D ow.k Ab nb cb (List.replicate 64 ow.f) (K + k) X (H1.out.1.ok.below hX) hr (by rw [H1.out.1.m_]; exact H1.out.2.2.1) (by omega) (by have := H2.out.2.2.1; rw [← H1.out.1.m_] at this; exact this) (by have := H2.out.2.2.2.1; rw [← H1.out.1.m_] at this; exact this)))
      rw [H1.out.1.m_] at HWA
      have HWL := Keep.mk (fun h0 => write_left (m := m) (s := ow.k) (l := List.replicate 64 ow.f) h0 H2.out.2.2.1 H2.out.2.2.2.1)
      have HWF := Keep.mk (Dv.write_fits H1.out.2.2.1 ow.k (List.replicate 64 ow.f))
      generalize Dv.write m ow.k (List.replicate 64 ow.f) = r at *
      obtain ⟨m1, q⟩ := r
      simp only at HW HWA HWL HWF
      have HBLK := Keep.mk (fun (X : World) => block_any ow.f (ow.f.toNat : Int) rfl X)
      have hk0 : (0 : Int) ≤ (k : Int) := by omega
      have hk1 : (k : Int) < (n : Int) := by omega
      clear HC hc0 hc1 hgo hbl
      go_upto_region 4 with (fail)
      have KS : Keep (∀ X, Below wr.heap.size wr X → (X.cell? ⟨w.heap.size, 0, none⟩ = some (.slice D.a D.n D.c) ∧ X.cell? ⟨w.heap.size, 1, none⟩ = some (.slice D.pa D.pn D.pc) ∧ X.cell? ⟨w.heap.size, 2, none⟩ = some (.int .i64 D.left) ∧ X.cell? ⟨w.heap.size, 3, none⟩ = some (.bool D.down)) ∧ X.cell? ⟨b, o + k * 2, none⟩ = some (.int .i64 ow.k) ∧ X.cell? ⟨b, o + k * 2 + 1, none⟩ = some (.int .u8 (ow.f.toNat : Int))) := ⟨fun X hX => ⟨(H1.out.1.below hX).cs, HCC.out X hX⟩⟩
      go_cut [8, 9] from 10 to 39 (fun s5 s6 X => ∃ (b5 : Nat) (D5 : Dk), s5 = .pointer (some ⟨b5, 0, none⟩) ∧ s6 = .int .i64 q ∧ wr.heap.size ≤ b5 ∧ BxD X b5 D5 m1 ∧ Below wr.heap.size wr X ∧ ∀ b, b < wr.heap.size → D5.Av b)
      case first =>
        go_region_held3 (fun X => (X.cell? ⟨w.heap.size, 0, none⟩ = some (.slice D.a D.n D.c) ∧ X.cell? ⟨w.heap.size, 1, none⟩ = some (.slice D.pa D.pn D.pc) ∧ X.cell? ⟨w.heap.size, 2, none⟩ = some (.int .i64 D.left) ∧ X.cell? ⟨w.heap.size, 3, none⟩ = some (.bool D.down)) ∧ X.cell? ⟨b, o + k * 2, none⟩ = some (.int .i64 ow.k) ∧ X.cell? ⟨b, o + k * 2 + 1, none⟩ = some (.int .u8 (ow.f.toNat : Int)))
          (first | exact KS.out _ HDN.out | exact KS.out _ (HDN.out.alloc HDN.out.size _) | exact KS.out _ HDB.out | exact KS.out _ (HDB.out.alloc HDB.out.size _) | exact KS.out _ (below_draws _ _ 1) | exact KS.out _ ((below_alloc1 _ _).trans (below_draws _ _ 1)) | exact KS.out _ ((((HDN.out.setCell (by have := HDB.out.size; first | exact Nat.le_refl _ | (simp; done) | omega) _).setCell (by have := HDB.out.size; first | exact Nat.le_refl _ | (simp; done) | omega) _).setCell (by have := HDB.out.size; first | exact Nat.le_refl _ | (simp; done) | omega) _).setCell (by have := HDB.out.size; first | exact Nat.le_refl _ | (simp; done) | omega) _))
          (first
            | (go_at_call 31; ((refine (HBLK.out _).mono ?_); rintro e wb ⟨Ab, nb, cb, rfl, hr, ha, hb⟩; have HR := Keep.mk hr; first | (have HDB : Hid (Below wr.heap.size wr wb) := below_next (below_draws _ _ 1) hb (Nat.le_refl _); have BN := True.intro) | (have HDB : Hid (Below wr.heap.size wr wb) := below_next ((below_alloc1 _ _).trans (below_draws _ _ 1)) hb (Nat.le_refl _); have BN := Keep.mk (((Bx.new wr [.slice none 0 0, .slice none 0 0, .int .i64 0, .bool false] 25).drewN 1).below hb)); clear hr ha hb))
            | (go_at_call 13; (first
                | ((refine (HWA.out _ HDB.out Ab nb cb HR.out).mono ?_); rintro e wn ⟨D5, rfl, hok, hm, hb, hav⟩; (first | (have BM := Keep.mk (BN.out.below hb); have m0 := BM.out.cell 0 _ rfl; have m1' := BM.out.cell 1 _ rfl; have m2 := BM.out.cell 2 _ rfl; have m3 := BM.out.cell 3 _ rfl; have mf := BM.out.fz) | (have BM := True.intro)); have HDN : Hid (Below wr.heap.size wr wn) := below_next HDB.out hb (Nat.le_refl _); have HOK := Keep.mk hok; have HM := Keep.mk hm; have HAW := Keep.mk hav; have HBB := Keep.mk hb; clear hok hm hb hav)
                | ((refine (HWA.out _ (HDB.out.alloc HDB.out.size _) Ab nb cb (RB.below HR.out (below_alloc1 _ _))).mono ?_); rintro e wn ⟨D5, rfl, hok, hm, hb, hav⟩; have BM := Keep.mk ((Bx.new wb [.slice none 0 0, .slice none 0 0, .int .i64 0, .bool false] 25).below hb); have m0 := BM.out.cell 0 _ rfl; have m1' := BM.out.cell 1 _ rfl; have m2 := BM.out.cell 2 _ rfl; have m3 := BM.out.cell 3 _ rfl; have mf := BM.out.fz; have HDN : Hid (Below wr.heap.size wr wn) := below_next (HDB.out.alloc HDB.out.size _) hb (Nat.le_refl _); have HOK := Keep.mk hok; have HM := Keep.mk hm; have HAW := Keep.mk hav; have HBB := Keep.mk hb; clear hok hm hb hav))))
        all_goals go_wp2
        all_goals go_meet
        all_goals
          have hzb := HDB.out.size
          have hzn := HDN.out.size
          have hav2 : ∀ b, b < wr.heap.size → D5.Av b := fun b hb => HAW.out b (by first | omega | (simp; omega)) trivial
          first
            | (have hx := BN.out.lt
               refine ⟨_, D5, rfl, rfl, Nat.le_refl _, BxD.set BM.out HOK.out HM.out ?_, (((HDN.out.setCell (Nat.le_refl _) _).setCell (Nat.le_refl _) _).setCell (Nat.le_refl _) _).setCell (Nat.le_refl _) _, hav2⟩
               exact HAW.out _ hx trivial)
            | (have hx := BM.out.lt
               refine ⟨_, D5, rfl, rfl, hzb, BxD.set BM.out HOK.out HM.out ?_, (((HDN.out.setCell hzb _).setCell hzb _).setCell hzb _).setCell hzb _, hav2⟩
               exact HAW.out _ (by simp) trivial)
            | exact ⟨_, D5, rfl, rfl, hzn, BxD.new HOK.out HM.out, HDN.out.alloc hzn _, hav2⟩
      case rest =>
        obtain ⟨X1, hX1⟩ : ∃ X1, X1 = wc := ⟨_, rfl⟩
        subst hX1
        obtain ⟨b5, D5, rfl, rfl, hl5, h5, hb5, hav5⟩ := hcut
        have H5 := Keep.mk h5
        have HA5 := Keep.mk hav5
        have HB5 := Lib.hid hb5
        have HBX := Lib.hid (below_next H1.out.2.2.2 hb5 (Nat.le_refl _))
        have HD5 := Keep.mk (H1.out.1.below hb5)
        have HO5 := Keep.mk (H1.out.2.1.below hb5)
        have hz5 := hb5.size
        have hl5x := h5.bx.lt
        have hne1 : b5 ≠ w.heap.size := by omega
        have hne2 : b5 ≠ w.heap.size + 1 := by omega
        clear h5 hav5 hb5 KS HCC HWA
        by_cases hq : q = 23
        · subst hq
          rw [if_pos rfl] at HW
          have HWR := Keep.mk (H3.out.trans HW.out)
          have hof := off_set4 X1 (w.heap.size + 1) (.slice D5.a D5.n D5.c) (.slice D5.pa D5.pn D5.pc) (.int .i64 D5.left) (.bool D5.down)
          have HOF := Keep.mk hof
          have HOX := Keep.mk (HO5.out.set4 (.slice D5.a D5.n D5.c) (.slice D5.pa D5.pn D5.pc) (.int .i64 D5.left) (.bool D5.down))
          obtain ⟨c0, c1, c2, c3⟩ := H5.out.cs
          have o0 := HO5.out.cell 0 _ rfl
          have o1 := HO5.out.cell 1 _ rfl
          have o2 := HO5.out.cell 2 _ rfl
          have o3 := HO5.out.cell 3 _ rfl
          have of := HO5.out.fz
          clear hof
          go_wp2
          have p0 := HOX.out.cell 0 _ rfl
          have p1 := HOX.out.cell 1 _ rfl
          have p2 := HOX.out.cell 2 _ rfl
          have p3 := HOX.out.cell 3 _ rfl
          refine bodyPost_ret (v := .tuple #[.agg #[.slice D5.a D5.n D5.c, .slice D5.pa D5.pn D5.pc, .int .i64 D5.left, .bool D5.down], .int .i64 (k : Int), .int .i64 23]) (by simp [results, Try.results29, go_sem, p0, p1, p2, p3]) rfl ?_
          rw [HWR.out]
          refine ⟨D5, rfl, H5.out.ok.off HOF.out (fun t ht => ?_), H5.out.m_, HBX.out.trans (HOF.out.below (by omega) (fun t ht => ?_)), fun b hb _ => HA5.out b (by omega)⟩
          · simp only [List.mem_singleton] at ht
            rw [ht]
            exact HA5.out _ (by omega)
          · simp only [List.mem_singleton] at ht
            omega
        · have e5 : (q == 23) = false := by simpa using hq
          rw [if_neg hq] at HW
          by_cases hq0 : q = 0
          · subst hq0
            rw [if_pos rfl] at HW
            have HWR := Keep.mk (H3.out.trans HW.out)
            have HLF := Keep.mk (HWL.out rfl)
            have HOF := Keep.mk (off_set4 X1 w.heap.size (.slice D5.a D5.n D5.c) (.slice D5.pa D5.pn D5.pc) (.int .i64 D5.left) (.bool D5.down))
            have HST := Keep.mk (BxD.set HD5.out.bx H5.out.ok H5.out.m_ (HA5.out _ (by omega)))
            obtain ⟨c0, c1, c2, c3⟩ := H5.out.cs
            have o0 := HD5.out.bx.cell 0 _ rfl
            have o1 := HD5.out.bx.cell 1 _ rfl
            have o2 := HD5.out.bx.cell 2 _ rfl
            have o3 := HD5.out.bx.cell 3 _ rfl
            have of := HD5.out.bx.fz
            clear hq
            go_wp2
            go_roundw
            case rel =>
              exact ⟨k + 1, D5, m1, by omega, by go_num, ⟨⟨HST.out, HO5.out.off HOF.out (by simp), HWF.out, HBX.out.trans (HOF.out.below (by omega) (fun t ht => by simp only [List.mem_singleton] at ht; omega))⟩⟩, ⟨⟨fun b hb _ => HA5.out b (by omega), fun b hb _ => HA5.out b (by omega), HLF.out.1, HLF.out.2, Nat.le_trans (Nat.le_trans hzw hz5) HOF.out.size⟩⟩, HWR⟩
            case measure => simp [intOf]; omega
          · have e6 : (q == 0) = false := by simpa using hq0
            rw [if_neg hq0] at HW
            have HWR := Keep.mk (H3.out.trans HW.out)
            clear hq hq0
            go_wp2
            go_roundw
            case rel =>
              exact ⟨k + 1, D, m, by omega, by go_num, ⟨⟨HD5.out, HO5.out, H1.out.2.2.1.mono (by omega), HBX.out⟩⟩, ⟨⟨H2.out.1, H2.out.2.1, H2.out.2.2.1, H2.out.2.2.2.1, Nat.le_trans hzw hz5⟩⟩, HWR⟩
            case measure => simp [intOf]; omega
    · obtain rfl : n = k := by omega
      have hfin : Dv.written d.m 0 (L.map Ow.m) = (m, n, 0) := by rw [H3.out, List.drop_of_length_le (by have := HN.out; omega)]; rfl
      have HWR := Keep.mk hfin
      have HOF := Keep.mk (off_set4 wr (w.heap.size + 1) (.slice D.a D.n D.c) (.slice D.pa D.pn D.pc) (.int .i64 D.left) (.bool D.down))
      have HOX := Keep.mk (H1.out.2.1.set4 (.slice D.a D.n D.c) (.slice D.pa D.pn D.pc) (.int .i64 D.left) (.bool D.down))
      obtain ⟨c0, c1, c2, c3⟩ := H1.out.1.cs
      have o0 := H1.out.2.1.cell 0 _ rfl
      have o1 := H1.out.2.1.cell 1 _ rfl
      have o2 := H1.out.2.1.cell 2 _ rfl
      have o3 := H1.out.2.1.cell 3 _ rfl
      have of := H1.out.2.1.fz
      clear hfin
      go_wp2
      have p0 := HOX.out.cell 0 _ rfl
      have p1 := HOX.out.cell 1 _ rfl
      have p2 := HOX.out.cell 2 _ rfl
      have p3 := HOX.out.cell 3 _ rfl
      refine bodyPost_ret (v := .tuple #[.agg #[.slice D.a D.n D.c, .slice D.pa D.pn D.pc, .int .i64 D.left, .bool D.down], .int .i64 (n : Int), .int .i64 0]) (by simp [results, Try.results29, go_sem, p0, p1, p2, p3]) rfl ?_
      rw [HWR.out]
      refine ⟨D, rfl, H1.out.1.ok.off HOF.out (fun t ht => ?_), H1.out.1.m_, H1.out.2.2.2.trans (HOF.out.below hzr (fun t ht => ?_)), H2.out.2.1⟩
      · simp only [List.mem_singleton] at ht
        rw [ht]
        exact H2.out.1 _ hz1 (by omega)
      · simp only [List.mem_singleton] at ht
        omega
end Go.Proofs.Ytpekbcoclmhcnaa
