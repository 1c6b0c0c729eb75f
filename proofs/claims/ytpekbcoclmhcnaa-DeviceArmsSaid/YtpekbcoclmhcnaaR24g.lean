/- The reference's Write. -/
import Derived.Test.YtpekbcoclmhcnaaR24e
namespace Go.Proofs.Ytpekbcoclmhcnaa
open Go.RowKit Go.Joins

theorem GP.empty (w : World) (t : TypeId) : GP (w.alloc (.cells #[] t)) w.heap.size (some ⟨w.heap.size, 0, none⟩) 0 0 [] :=
  ⟨tgt_empty w w.heap.size t _ 2, (fun s hs => by cases hs), (fun s hs => by cases hs), fun a h => by injection h with h; rw [← h]; simp⟩
theorem away_new' {s : Sl} {w : World} (h : s.Ok w) : s.Away ((Value.slice (some ⟨w.heap.size, 0, none⟩) 0 0).ownBlock) := fun hn a ha hg => by
  have h1 := h.lt hn ha
  have h2 : w.heap.size = a.block := by simpa [Value.ownBlock] using hg
  omega
theorem write_len (d : Dk) (w : World) (h : d.Ok w) : d.m.sectors.length = d.n := by simp [Dk.m, h.sec.len]

/-- Write's ways, the fuse parted. -/
theorem write_cases3 (d : Dk) (s : Int) (b : List UInt8) :
    (d.m.down = true ∧ Dv.write d.m s b = (d.m, 23)) ∨ (d.m.down = false ∧ Dv.has d.m.sectors.length s = false ∧ Dv.write d.m s b = (Dv.Disk.zero, 2)) ∨ (d.m.down = false ∧ Dv.has d.m.sectors.length s = true ∧ b.length ≠ 64 ∧ Dv.write d.m s b = (Dv.Disk.zero, 1)) ∨
    (d.m.down = false ∧ Dv.has d.m.sectors.length s = true ∧ b.length = 64 ∧ (d.left == 0) = true ∧ decide (0 < d.left) = false ∧ d.left ≤ 0 ∧ Dv.write d.m s b = (⟨d.m.sectors, d.m.pending ++ [(s, b)], d.left, true⟩, 23)) ∨
    (d.m.down = false ∧ Dv.has d.m.sectors.length s = true ∧ b.length = 64 ∧ (d.left == 0) = false ∧ decide (0 < d.left) = true ∧ 1 ≤ d.left ∧ Dv.write d.m s b = (⟨d.m.sectors, d.m.pending ++ [(s, b)], d.left - 1, false⟩, 0)) ∨
    (d.m.down = false ∧ Dv.has d.m.sectors.length s = true ∧ b.length = 64 ∧ (d.left == 0) = false ∧ decide (0 < d.left) = false ∧ d.left ≤ 0 ∧ Dv.write d.m s b = (⟨d.m.sectors, d.m.pending ++ [(s, b)], d.left, false⟩, 0)) := by
  have hml : d.m.left = d.left := rfl
  rcases Dv.write_cases d.m s b with h | h | h | ⟨h0, h1, h2, h3, hw⟩ | ⟨h0, h1, h2, h3, hw⟩
  · exact .inl h
  · exact .inr (.inl h)
  · exact .inr (.inr (.inl h))
  · rw [hml] at h3
    exact .inr (.inr (.inr (.inl ⟨h0, h1, h2, by simp [h3], by simp [h3], by omega, by rw [hw, h3]⟩)))
  · rw [hml] at h3 hw
    by_cases hp : 0 < d.left
    · rw [if_pos hp] at hw
      exact .inr (.inr (.inr (.inr (.inl ⟨h0, h1, h2, by simpa using h3, by simpa using hp, by omega, hw⟩))))
    · rw [if_neg hp] at hw
      exact .inr (.inr (.inr (.inr (.inr ⟨h0, h1, h2, by simpa using h3, by simpa using hp, by omega, hw⟩))))
set_option maxHeartbeats 6000000 in
set_option maxRecDepth 100000 in
theorem rwrite_any (d : Dk) (s : Int) (A : Option Addr) (n c : Nat) (l : List UInt8) (K : Nat) (w : World) (h : d.Ok w) (hl : RB w A n c l) (hf : Dv.Fits K d.m) (hK : K ≤ 100000) (hLo : -9223372036854775808 ≤ d.left) (hHi : d.left ≤ 9223372036854775807) :
    Calls Try.prog 14 #[.agg #[.slice d.a d.n d.c, .slice d.pa d.pn d.pc, .int .i64 d.left, .bool d.down], .int .i64 s, .slice A n c] w (RetKE w d.Av (Dv.write d.m s l)) := by
  have HD := Keep.mk h
  have HL := Keep.mk hl
  have hn := write_len d w h
  have hll := hl.len
  have hpn := h.pen.len
  have hnp : d.pn ≤ 100000 := by have := hf.np; simp [Dk.m, hpn] at this; omega
  have HPL := Keep.mk hpn
  have hB : Hid (∀ u, Below w.heap.size w ((w.alloc (.cells #[.slice d.a d.n d.c, .slice d.pa d.pn d.pc, .int .i64 d.left, .bool d.down] 25)).alloc u)) := fun u => (below_alloc1 _ _).alloc (by simp) _
  clear h hl hf hpn
  rcases write_cases3 d s l with ⟨h0, hw⟩ | ⟨h0, h1, hw⟩ | ⟨h0, h1, h2, hw⟩ | ⟨h0, h1, h2, h3, h4, h5, hw⟩ | ⟨h0, h1, h2, h3, h4, h5, hw⟩ | ⟨h0, h1, h2, h3, h4, h5, hw⟩
  · have hdn : d.down = true := h0
    have HW := Keep.mk hw
    rw [HW.out]
    rw [hdn] at hB
    rw [hdn]
    have HDN := Keep.mk hdn
    clear h0 hw hn hdn
    go_enter Try.func14, Try.ntmps14
    go_wp2
    refine bodyPost_ret (v := .tuple #[.agg #[.slice d.a d.n d.c, .slice d.pa d.pn d.pc, .int .i64 d.left, .bool true], .int .i64 23]) (by simp [results, Try.results14, go_sem]) rfl ?_
    exact ⟨d, by unfold Dk.v; rw [HDN.out], HD.out.below (hB.out _), rfl, hB.out _, fun b _ hb => hb⟩
  · have hdn : d.down = false := h0
    rw [hn] at h1
    have HW := Keep.mk hw
    have HH := Keep.mk h1
    rw [HW.out]
    rw [hdn] at hB
    rw [hdn]
    clear h0 hw hn hdn h1
    go_enter Try.func14, Try.ntmps14
    go_wp2_with fail
    refine (there_any d.a d.n d.c d.pa d.pn d.pc d.left false s _).mono ?_
    rw [HH.out]
    rintro e w1 ⟨rfl, hb1⟩
    have HB1 := Lib.hid (below_next (hB.out _) hb1 (Nat.le_refl _))
    have OX := Keep.mk ((Bx.new (w.alloc (.cells #[.slice d.a d.n d.c, .slice d.pa d.pn d.pc, .int .i64 d.left, .bool false] 25)) [.slice none 0 0, .slice none 0 0, .int .i64 0, .bool false] 25).below hb1)
    rw [World.size_alloc] at OX
    clear hb1
    have o0 := OX.out.cell 0 _ rfl
    have o1 := OX.out.cell 1 _ rfl
    have o2 := OX.out.cell 2 _ rfl
    have o3 := OX.out.cell 3 _ rfl
    have of := OX.out.fz
    go_wp2
    refine bodyPost_ret (v := .tuple #[.agg #[.slice none 0 0, .slice none 0 0, .int .i64 0, .bool false], .int .i64 2]) (by simp [results, Try.results14, go_sem, o0, o1, o2, o3]) rfl ?_
    exact ⟨Dk.zero, rfl, Dk.zero_ok _, rfl, HB1.out.trans ((off_set4 w1 (w.heap.size + 1) _ _ _ _).below (HB1.out.size) (by simp)), fun b _ _ => Dk.zero_av b⟩
  · have hdn : d.down = false := h0
    rw [hn] at h1
    have hn64 : ((n : Int) != 64) = true := by rw [bne_iff_ne]; omega
    have HW := Keep.mk hw
    have HH := Keep.mk h1
    rw [HW.out]
    rw [hdn] at hB
    rw [hdn]
    clear h0 hw hn hdn h1
    go_enter Try.func14, Try.ntmps14
    go_wp2_with fail
    refine (there_any d.a d.n d.c d.pa d.pn d.pc d.left false s _).mono ?_
    rw [HH.out]
    rintro e w1 ⟨rfl, hb1⟩
    have HB1 := Lib.hid (below_next (hB.out _) hb1 (Nat.le_refl _))
    have OX := Keep.mk ((Bx.new (w.alloc (.cells #[.slice d.a d.n d.c, .slice d.pa d.pn d.pc, .int .i64 d.left, .bool false] 25)) [.slice none 0 0, .slice none 0 0, .int .i64 0, .bool false] 25).below hb1)
    rw [World.size_alloc] at OX
    clear hb1
    have o0 := OX.out.cell 0 _ rfl
    have o1 := OX.out.cell 1 _ rfl
    have o2 := OX.out.cell 2 _ rfl
    have o3 := OX.out.cell 3 _ rfl
    have of := OX.out.fz
    go_wp2
    refine bodyPost_ret (v := .tuple #[.agg #[.slice none 0 0, .slice none 0 0, .int .i64 0, .bool false], .int .i64 1]) (by simp [results, Try.results14, go_sem, o0, o1, o2, o3]) rfl ?_
    exact ⟨Dk.zero, rfl, Dk.zero_ok _, rfl, HB1.out.trans ((off_set4 w1 (w.heap.size + 1) _ _ _ _).below (HB1.out.size) (by simp)), fun b _ _ => Dk.zero_av b⟩
  all_goals
    have hdn : d.down = false := h0
    rw [hn] at h1
    have hn64 : ((n : Int) != 64) = false := by rw [bne_eq_false_iff_eq]; omega
    have hn200 : n ≤ 200 := by omega
    have HW := Keep.mk hw
    have HH := Keep.mk h1
    rw [hdn] at hB
    rw [hdn]
    clear h0 hw hn hdn h1 h2
    go_enter Try.func14, Try.ntmps14
    go_wp2_with fail
    refine (there_any d.a d.n d.c d.pa d.pn d.pc d.left false s _).mono ?_
    rw [HH.out]
    rintro e w1 ⟨rfl, hb1⟩
    have HB1 := Lib.hid (below_next (hB.out _) hb1 (Nat.le_refl _))
    have IX := Keep.mk (((Bx.new w [.slice d.a d.n d.c, .slice d.pa d.pn d.pc, .int .i64 d.left, .bool false] 25).alloc (.cells #[.slice none 0 0, .slice none 0 0, .int .i64 0, .bool false] 25)).below hb1)
    have OX := Keep.mk ((Bx.new (w.alloc (.cells #[.slice d.a d.n d.c, .slice d.pa d.pn d.pc, .int .i64 d.left, .bool false] 25)) [.slice none 0 0, .slice none 0 0, .int .i64 0, .bool false] 25).below hb1)
    rw [World.size_alloc] at OX
    clear hb1
    have i0 := IX.out.cell 0 _ rfl
    have i1 := IX.out.cell 1 _ rfl
    have i2 := IX.out.cell 2 _ rfl
    have i3 := IX.out.cell 3 _ rfl
    go_upto_region 8 with (fail)
    have HB8 : Hid (Below w1.heap.size w1 (w1.alloc (.cells #[.slice d.a d.n d.c, .slice d.pa d.pn d.pc, .int .i64 d.left, .bool false] 25))) := below_alloc1 _ _
    have PX := Keep.mk (Bx.new w1 [.slice d.a d.n d.c, .slice d.pa d.pn d.pc, .int .i64 d.left, .bool false] 25)
    generalize w1.alloc (.cells #[.slice d.a d.n d.c, .slice d.pa d.pn d.pc, .int .i64 d.left, .bool false] 25) = w8 at *
    have IX8 := Keep.mk (IX.out.below HB8.out)
    have OX8 := Keep.mk (OX.out.below HB8.out)
    have HBW := Lib.hid (below_next HB1.out HB8.out (Nat.le_refl _))
    have hz1 := HB1.out.size
    have hz8 := HB8.out.size
    have hol := OX8.out.lt
    have hpl := PX.out.lt
    have hi1 := IX.out.lt
    have hol1 := OX.out.lt
    clear i0 i1 i2 i3 IX OX HB1
    have i1 := (IX8.out.alloc (.cells #[] 53)).cell 1 _ rfl
    have HG8 := Keep.mk (GP.empty w8 53)
    have HP8 := Keep.mk ((HD.out.pen.below HBW.out).below (below_alloc1 w8 (.cells #[] 53)))
    have hl8 : w.heap.size + 1 < w8.heap.size := by omega
    have hB8 : Hid (Below w8.heap.size w8 (w8.alloc (.cells #[] 53))) := below_alloc1 _ _
    go_upto_region 9 with (first
      | (at_builtin; refine wpList_append_app _ rfl (.tmp 22) (.tmp 24) 23 rfl w8.heap.size 53 (.agg #[.int .i64 0, .slice none 0 0]) 2 32 Try.underlying23 wr_info rfl (by decide) (by decide) (.slice (some ⟨w8.heap.size, 0, none⟩) 0 0) 0 [] rfl HG8.out.tgt d.pa d.pn d.pc (d.P.flatMap Pe.cells) rfl HP8.out.rd (pe_one _) (by omega) (by simp) ?_; intro A1 c1 w9 ha; have HA1 := Keep.mk ha; have hg9 := GP.app (P := []) (Q := d.P) HG8.out (by simpa using ha) HP8.out.ok (fun p hp => away_new' ((HD.out.pen.below HBW.out).ok p hp)); have HG9 := Keep.mk hg9; have hb9 := ha.below; have HB9 := Lib.hid (hB8.out.trans hb9); clear ha hg9 hb9)
      | (go_at_call 35; refine (own_any A n c l _ ((HL.out.below HBW.out).below HB9.out) (by omega)).mono ?_; rintro e w10 ⟨A2, n2, c2, rfl, hr2, ha2, hb2⟩; have HR2 := Keep.mk hr2; have HA2 := Keep.mk ha2; have HB10 := Lib.hid hb2; have HG10 := Keep.mk (HG9.out.below hb2); clear hr2 ha2 hb2)
      | (at_builtin; refine wpList_append_app _ rfl (.tmp 25) (.tmp 30) 23 rfl w8.heap.size 53 (.agg #[.int .i64 0, .slice none 0 0]) 2 32 Try.underlying23 wr_info rfl (by decide) (by decide) (.slice A1 d.pn c1) d.pn (d.P.flatMap Pe.cells) rfl (HG10.out.below (below_alloc1 _ _)).tgt (some ⟨w10.heap.size, 0, none⟩) 1 1 [.int .i64 s, .slice A2 n2 c2] rfl (rd_two w10 _ _ _) (by simp [Value.oneCell']) (by omega) (by have := HB9.out.size; have := HB10.out.size; simp; omega) ?_; intro A3 c3 w11 ha; have HA3 := Keep.mk ha; have hb11 := ha.below; have HB11 : Hid (Below w8.heap.size w8 w11) := (HB9.out.trans (HB10.out.mono HB9.out.size)).trans (((below_alloc1 _ _).mono (Nat.le_trans HB9.out.size HB10.out.size)).trans hb11); have PX11 := Keep.mk (PX.out.below HB11.out); have p1 := PX11.out.cell 1 _ rfl; have pf := PX11.out.fz 1; clear ha hb11))
    clear p1 pf i1
    have HG11 := Keep.mk (GP.app (P := d.P) (Q := [(⟨s, ⟨A2, n2, c2, l⟩⟩ : Pe)]) (HG10.out.below (below_alloc1 _ _)) (by simpa [Pe.cells, Sl.v] using HA3.out) (fun p hp => by simp only [List.mem_singleton] at hp; subst hp; exact Sl.Ok.below (s := ⟨A2, n2, c2, l⟩) HR2.out (below_alloc1 _ _)) (fun p hp => by simp only [List.mem_singleton] at hp; subst hp; exact away_new HG9.out.lt HA2.out))
    have HA : Keep (∀ a, A3 = some a → w8.heap.size ≤ a.block) := ⟨fun a ha => by
      have z9 := HB9.out.size
      have z10 := HB10.out.size
      rcases HA3.out.at_ a ha with h | h
      · cases hA1 : A1 with
        | none => rw [hA1] at h; simp [Value.ownBlock] at h
        | some x =>
          rw [hA1] at h
          have h2 : x.block = a.block := by simpa [Value.ownBlock] using h
          rcases HA1.out.at_ x hA1 with h3 | h3
          · have h4 : w8.heap.size = x.block := by simpa [Value.ownBlock] using h3
            omega
          · have := h3.1
            simp at this
            omega
      · have := h.1
        simp at this
        omega⟩
    have FIN : Keep (∀ X lf dn ek, Off [w.heap.size + 1, w1.heap.size] w11 X → RetKE w d.Av (⟨d.m.sectors, d.m.pending ++ [(s, l)], lf, dn⟩, ek) (.returned (.tuple #[.agg #[.slice d.a d.n d.c, .slice A3 (d.pn + 1) c3, .int .i64 lf, .bool dn], .int .i64 ek])) X) := ⟨fun X lf dn ek hX => by
      have hbw := HBW.out.trans (HB11.out.mono HBW.out.size)
      have z9 := HB9.out.size
      have hDX := ((HD.out.below HBW.out).sec.below HB11.out).off hX (fun b hb hn a ha => ?_) (fun b hb t ht hn a ha => ?_)
      · refine ⟨⟨d.a, d.n, d.c, d.S, A3, d.pn + 1, c3, d.P ++ [⟨s, ⟨A2, n2, c2, l⟩⟩], lf, dn⟩, rfl, ⟨hDX, HG11.out.rp.off hX (fun b hb _ a ha => ?_) (fun b hb p hp hn a ha => ?_)⟩, ?_, hbw.trans (hX.below hbw.size (by simp; omega)), fun b hb hI => ⟨hI.a_, hI.s_, fun _ a ha => ?_, fun p hp hn a ha => ?_⟩⟩
        · have h1 := HA.out a ha
          simp only [List.mem_cons, List.not_mem_nil, or_false] at hb
          omega
        · simp only [List.mem_cons, List.not_mem_nil, or_false] at hb
          rcases List.mem_append.1 hp with hp | hp
          · have := Rd.lt (HD.out.pen.ok p hp) hn ha
            omega
          · simp only [List.mem_singleton] at hp
            subst hp
            have := HA2.out a ha
            omega
        · simp [Dk.m, Pe.m]
        · have h1 := HA.out a ha
          omega
        · rcases List.mem_append.1 hp with hp | hp
          · exact hI.q_ p hp hn a ha
          · simp only [List.mem_singleton] at hp
            subst hp
            have := HA2.out a ha
            omega
      · have := Rd.lt HD.out.sec.rd hn ha
        simp only [List.mem_cons, List.not_mem_nil, or_false] at hb
        omega
      · have := Rd.lt (HD.out.sec.ok t ht) hn ha
        simp only [List.mem_cons, List.not_mem_nil, or_false] at hb
        omega⟩
    rw [HW.out]
    have IX11 := Keep.mk (IX8.out.below HB11.out)
    have OX11 := Keep.mk (OX8.out.below HB11.out)
    have i2 := IX11.out.cell 2 _ rfl
    have o0 := OX11.out.cell 0 _ rfl
    have o1 := OX11.out.cell 1 _ rfl
    have o2 := OX11.out.cell 2 _ rfl
    have o3 := OX11.out.cell 3 _ rfl
    have of := OX11.out.fz
    have p0 := PX11.out.cell 0 _ rfl
    have p1 := PX11.out.cell 1 _ rfl
    have p2 := PX11.out.cell 2 _ rfl
    have p3 := PX11.out.cell 3 _ rfl
    have pf := PX11.out.fz
    have hl11 := OX11.out.lt
    have hm11 := PX11.out.lt
    clear HA3 HA1 HG11 HG10 HG9 HG8 HP8 HR2
    go_wp2
    first
      | (have ht : (d.left == 0) = true := by assumption
         refine bodyPost_ret (v := .tuple #[.agg #[.slice d.a d.n d.c, .slice A3 (d.pn + 1) c3, .int .i64 d.left, .bool true], .int .i64 23]) ?_ rfl ?_
         · simp [results, Try.results14, go_sem, o0, o1, o2, o3]
         · rw [HW.out]
           refine FIN.out _ d.left true 23 ?_
           exact (((((((Off.refl _ w11).setCell (by simp) _).setCell (by simp) _).setCell (by simp) _).setCell (by simp) _).setCell (by simp) _).setCell (by simp) _))
      | (have ht : decide (0 < d.left) = true := by assumption
         refine bodyPost_ret (v := .tuple #[.agg #[.slice d.a d.n d.c, .slice A3 (d.pn + 1) c3, .int .i64 (d.left - 1), .bool false], .int .i64 0]) ?_ rfl ?_
         · simp [results, Try.results14, go_sem, o0, o1, o2, o3]
         · rw [HW.out]
           refine FIN.out _ (d.left - 1) false 0 ?_
           exact (((((((Off.refl _ w11).setCell (by simp) _).setCell (by simp) _).setCell (by simp) _).setCell (by simp) _).setCell (by simp) _).setCell (by simp) _))
      | (have ht : decide (0 < d.left) = false := by assumption
         refine bodyPost_ret (v := .tuple #[.agg #[.slice d.a d.n d.c, .slice A3 (d.pn + 1) c3, .int .i64 d.left, .bool false], .int .i64 0]) ?_ rfl ?_
         · simp [results, Try.results14, go_sem, o0, o1, o2, o3]
         · rw [HW.out]
           refine FIN.out _ d.left false 0 ?_
           exact ((((((Off.refl _ w11).setCell (by simp) _).setCell (by simp) _).setCell (by simp) _).setCell (by simp) _).setCell (by simp) _))
end Go.Proofs.Ytpekbcoclmhcnaa
