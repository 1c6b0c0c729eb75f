/- The device: its reading and writing. -/
import Derived.Test.YtjficpdfofmcnaaDoorBed4
import Derived.Test.YtjficpdfofmcnaaDoorBed5
import Derived.Deep.RegionLaw
/- device.Read, Arm. -/
namespace Go.Proofs.YtjficpdfofmcnaaDoor
open Go.RowKit Go.Joins

theorem splice_all {α : Type} (L cs : List α) (h : L.length = cs.length) : splice L 0 cs = cs := by
  unfold splice
  rw [List.take_zero, List.nil_append, Nat.zero_add, ← h, List.drop_length, List.append_nil]
theorem wh_rb {w : World} {b n : Nat} {t : TypeId} {l : List UInt8} (h : Wh w b t (l.map bv)) (hl : l.length = n) (hn : n ≤ 1000000) : RB w (some ⟨b, 0, none⟩) n n l :=
  h.rd (by simp [hl]) (Nat.le_refl _) (by unfold maxLen; omega) (fun j u hu => by rw [Nat.zero_add]; exact hu)

set_option maxHeartbeats 2000000 in
theorem read_any (d : Dk) (s : Int) (K : Nat) (w : World) (h : d.Ok w) (hf : Dv.Fits K d.m) :
    Calls Tryd.prog 42 #[.agg #[.slice d.a d.n d.c, .slice d.pa d.pn d.pc, .int .i64 d.left, .bool d.down], .int .i64 s] w (RetBE w (Dv.read d.m s).1 (Dv.read d.m s).2) := by
  have HD := Keep.mk h
  have HF := Keep.mk hf
  have hn := h.sec.len
  have hpn := h.pen.len
  have hSn : d.m.sectors.length = d.n := by simp [Dk.m, hn]
  have hbig := Nat.le_trans h.pen.cap h.pen.big
  unfold maxLen at hbig
  have hB : Hid (Below w.heap.size w (w.alloc (.cells #[.slice d.a d.n d.c, .slice d.pa d.pn d.pc, .int .i64 d.left, .bool d.down] 25))) := below_alloc1 _ _
  clear h hf
  cases hdn : d.down
  · have hm : d.m.down = false := hdn
    rw [hdn] at hB
    by_cases hh : Dv.has d.n s = true
    · have hin : 0 ≤ s ∧ s < (d.n : Int) := by simpa [Dv.has] using hh
      obtain ⟨i, rfl⟩ := Int.eq_ofNat_of_zero_le hin.1
      have hi : i < d.S.length := by omega
      have HX : Keep (Dv.read d.m (i : Int) = (Dv.content d.S[i].l (i : Int) (d.P.map Pe.m), 0)) := ⟨by
        rw [Dv.read, hm, hSn, hh]
        simp [Dk.m, List.getD, List.getElem?_eq_getElem hi]⟩
      have HH := Keep.mk hh
      have HPN := Keep.mk hpn
      have hsl : d.S[i].l.length ≤ 200 := HF.out.ss _ (List.mem_map.2 ⟨_, List.getElem_mem hi, rfl⟩)
      have HSL := Keep.mk hsl
      have HPS : Keep (∀ p ∈ d.P, p.s.l.length ≤ 200) := ⟨fun p hp => HF.out.sp p.m (List.mem_map.2 ⟨p, hp, rfl⟩)⟩
      have HAT : Keep (∀ X, Below w.heap.size w X → ∃ b o, d.a = some ⟨b, o, none⟩ ∧ X.cell? ⟨b, o + i, none⟩ = some (.slice d.S[i].a d.S[i].n d.S[i].c)) := ⟨fun X hX => by
        obtain ⟨b, o, hb, hbl, hck, hr⟩ := (HD.out.sec.below hX).at_ (k := i) hi
        exact ⟨b, o, hb, hck⟩⟩
      have HSI := Keep.mk (HD.out.sec.ok _ (List.getElem_mem hi))
      rw [HX.out]
      generalize d.S[i] = si at *
      clear hh hSn hm hn hdn hpn hsl hi
      go_enter Tryd.func42, Tryd.ntmps42
      go_wp2_with fail
      refine (has_any d.a d.n d.c d.pa d.pn d.pc d.left false (i : Int) _).mono ?_
      rw [HH.out]
      rintro e w1 ⟨rfl, hb1⟩
      have IX1 := Keep.mk ((Bx.new w [.slice d.a d.n d.c, .slice d.pa d.pn d.pc, .int .i64 d.left, .bool false] 25).below hb1)
      have HB1 := Lib.hid (below_next hB.out hb1 (Nat.le_refl _))
      clear hb1
      obtain ⟨b, o, hb, hck⟩ := HAT.out _ HB1.out
      have i0 := IX1.out.cell 0 _ rfl
      have i1 := IX1.out.cell 1 _ rfl
      rw [hb] at i0
      obtain ⟨hin0, hin1⟩ := hin
      clear hb
      go_wp2
      clear i0 i1 hck
      go_loopw [6, 23] (fun v i' wr => ∃ (k : Nat) (s : Sl), k ≤ d.pn ∧ i' = .int .i64 k ∧ v = .slice s.a s.n s.c ∧ Keep (s.Ok w ∧ s.l = Dv.content si.l (i : Int) ((d.P.map Pe.m).take k) ∧ s.l.length ≤ 200) ∧ Below w1.heap.size w1 wr) (fun _ i' _ => d.pn - (intOf i').toNat)
      case atStart => exact ⟨0, si, Nat.zero_le _, rfl, rfl, ⟨HSI.out, rfl, HSL.out⟩, Below.refl _ _⟩
      case round =>
        obtain ⟨k, s, hk, rfl, rfl, hq, hb⟩ := hrel
        have HB2 := Lib.hid hb
        have HBW := Lib.hid (below_next HB1.out hb (Nat.le_refl _))
        clear hb
        by_cases hlt : k < d.pn
        · have hkP : k < d.P.length := by have := HPN.out; omega
          obtain ⟨b2, o2, hb2, hbl2, hck, hck1, hr⟩ := (HD.out.pen.below HBW.out).at_ (k := k) hkP
          have HCT := Keep.mk (content_take si.l (i : Int) d.P k hkP)
          have HPK := Keep.mk (HD.out.pen.ok _ (List.getElem_mem hkP))
          have HPL := Keep.mk (HPS.out _ (List.getElem_mem hkP))
          generalize d.P[k] = pk at *
          rw [hb2]
          clear hr hb2
          by_cases hx : pk.k = (i : Int)
          · have e1 : (pk.k == (i : Int)) = true := by simpa using hx
            have HX1 := Keep.mk hx
            clear hx
            go_wp2
            go_roundw
            case rel => exact ⟨k + 1, pk.s, by omega, by go_num, rfl, ⟨HPK.out, by rw [HCT.out, if_pos HX1.out], HPL.out⟩, HB2.out.alloc HB2.out.size _⟩
            case measure => simp [intOf]; omega
          · have e1 : (pk.k == (i : Int)) = false := by simpa using hx
            have HX1 := Keep.mk hx
            clear hx
            go_wp2
            go_roundw
            case rel => exact ⟨k + 1, s, by omega, by go_num, rfl, ⟨hq.out.1, by rw [HCT.out, if_neg HX1.out]; exact hq.out.2.1, hq.out.2.2⟩, HB2.out.alloc HB2.out.size _⟩
            case measure => simp [intOf]; omega
        · have hkk : d.pn = k := by omega
          have hfin : s.l = Dv.content si.l (i : Int) (d.P.map Pe.m) := by
            have := hq.out.2.1
            rwa [List.take_of_length_le (by have := HPN.out; simp; omega)] at this
          have HFI := Keep.mk hfin
          have hsn := RB.len hq.out.1
          have hs2 := hq.out.2.2
          have hn2 : s.n ≤ 200 := by omega
          have HSN := Keep.mk hsn
          have HRB := Keep.mk (hq.out.1.below HBW.out)
          clear hfin hsn hs2 hq
          have hmk := run_make_row' (P := Tryd.prog) 26 5 (.int .u8 0) 1 Tryd.underlying26 u8_info rfl .i64 .i64 s.n (by omega) (by omega)
          have HWN : Keep (Wh (wr.alloc (.cells (madeCells #[.int .u8 0] s.n) 5)) wr.heap.size 5 (List.replicate s.n (.int .u8 0))) := ⟨by rw [made_one]; exact Wh.new wr _ _⟩
          go_wp2_with (refine wpList_copy_off rfl (.tmp 37) (.tmp 38) 26 26 rfl 5 Tryd.underlying26 u8_one (some ⟨wr.heap.size, 0, none⟩) s.a s.n s.n s.n s.c rfl rfl wr.heap.size 0 (List.replicate s.n (.int .u8 0)) 5 HWN.out (s.l.map bv) (Rd.below HRB.out (below_alloc1 _ _)) (Nat.le_refl _) (fun _ => rfl) (by simp) (bv_one _) ?_; intro w3 hF3 ho3; have HF3 := Keep.mk hF3; have HO3 := Keep.mk ho3; clear hF3 ho3)
          go_ret2
          have hF := HF3.out
          rw [splice_all _ _ (by simp [HSN.out])] at hF
          refine ⟨some ⟨wr.heap.size, 0, none⟩, s.n, s.n, rfl, ?_, HBW.out.trans (((below_alloc1 _ _).mono HBW.out.size).trans (HO3.out.below (by have := HBW.out.size; simp; omega) (by have := HBW.out.size; simp; omega)))⟩
          rw [← HFI.out]
          exact wh_rb hF HSN.out (by omega)
    · have hh0 : Dv.has d.n s = false := by simpa using hh
      have HX : Keep (Dv.read d.m s = ([], 2)) := ⟨by simp [Dv.read, hm, hSn, hh0]⟩
      have HH := Keep.mk hh0
      clear hh hh0 hSn hm hn
      rw [HX.out]
      go_enter Tryd.func42, Tryd.ntmps42
      go_wp2_with (go_at_call 65; refine (has_any d.a d.n d.c d.pa d.pn d.pc d.left false s _).mono ?_; rw [HH.out]; rintro e w1 ⟨rfl, hb1⟩; have HB1 := Lib.hid (below_next hB.out hb1 (Nat.le_refl _)); clear hb1)
      go_ret2
      exact ⟨none, 0, 0, rfl, RB.none_ _, HB1.out⟩
  · have hm : d.m.down = true := hdn
    have HX : Keep (Dv.read d.m s = ([], 23)) := ⟨by simp [Dv.read, hm]⟩
    rw [HX.out]
    rw [hdn] at hB
    clear hm hSn hdn
    go_enter Tryd.func42, Tryd.ntmps42
    go_wp2
    go_ret2
    exact ⟨none, 0, 0, rfl, RB.none_ _, hB.out⟩

end Go.Proofs.YtjficpdfofmcnaaDoor

/- The two New's. -/
namespace Go.Proofs.YtjficpdfofmcnaaDoor
open Go.RowKit Go.Joins

/-- A sector of zero bytes. -/
def zs : List UInt8 := List.replicate 64 0
theorem zs_len : zs.length = 64 := by simp [zs]
theorem run_make64 (w : World) : (Instr.makeSlice 26 (.int .i64 64) (.int .i64 64)).run Tryd.prog w = .ok (.slice (some ⟨w.heap.size, 0, none⟩) 64 64) (w.alloc (.cells (zs.map bv).toArray 5)) := by
  have h := run_make_row' (P := Tryd.prog) 26 5 (.int .u8 0) 1 Tryd.underlying26 u8_info rfl .i64 .i64 64 (by omega) (by omega) w
  rw [made_one] at h
  have e : (zs.map bv) = List.replicate 64 (.int .u8 0) := by simp [zs, bv]
  rw [e]
  exact h
theorem GS.set {w : World} {base : Nat} {A : Option Addr} {n c : Nat} {S : List Sl} (h : GS w base A n c S) {p : Addr} (hp : p.block < base) (hA : ∀ a, A = some a → base ≤ a.block) (hs : ∀ s ∈ S, ∀ a, s.a = some a → base ≤ a.block) (v : Value) : GS (w.setCell p v) base A n c S := by
  refine ⟨?_, fun s hh => (h.ok s hh).off ((Off.refl [p.block] w).setCell (by simp) v) (fun b hb _ a ha => by have := hs s hh a ha; simp at hb; omega), h.away, fun a ha => by simpa [World.setCell] using h.lt a ha⟩
  rcases h.tgt with ⟨A', e, hr⟩ | ho
  · injection e with e1 e2 e3
    subst e1 e3
    exact .inl ⟨A, rfl, hr.set_other (fun a ha => by have := hA a ha; omega) v⟩
  · exact .inr (ownsRow_set ho hp v)
theorem new_bad {n : Int} (h : n < 1 ∨ 4096 < n) : Dv.new n = (Dv.Disk.zero, 2) := by unfold Dv.new; rw [if_pos h]
theorem new_good {n : Nat} (h1 : 1 ≤ n) (h2 : n ≤ 4096) : Dv.new (n : Int) = (⟨List.replicate n zs, [], -1, false⟩, 0) := by
  unfold Dv.new
  rw [if_neg (by omega)]
  rfl


set_option maxHeartbeats 1000000 in
theorem rnew_any (n : Int) (w : World) : Calls Tryd.prog 45 #[.int .i64 n] w (RetKE w (fun _ => True) (Dv.new n)) := by
  by_cases h1 : n < 1
  · have e1 : decide (n < 1) = true := decide_eq_true h1
    have HX := Keep.mk (new_bad (.inl h1))
    rw [HX.out]
    go_enter Tryd.func45, Tryd.ntmps45
    go_wp2
    refine bodyPost_ret (v := .tuple #[.agg #[.slice none 0 0, .slice none 0 0, .int .i64 0, .bool false], .int .i64 2]) (by simp [results, Tryd.results45, go_sem]) rfl ?_
    exact ⟨Dk.zero, rfl, Dk.zero_ok _, rfl, below_alloc1 _ _, fun b _ _ => Dk.zero_av b⟩
  · by_cases h2 : 4096 < n
    · have e1 : decide (n < 1) = false := decide_eq_false h1
      have e2 : decide (4096 < n) = true := decide_eq_true h2
      have HX := Keep.mk (new_bad (.inr h2))
      rw [HX.out]
      go_enter Tryd.func45, Tryd.ntmps45
      go_wp2
      refine bodyPost_ret (v := .tuple #[.agg #[.slice none 0 0, .slice none 0 0, .int .i64 0, .bool false], .int .i64 2]) (by simp [results, Tryd.results45, go_sem]) rfl ?_
      exact ⟨Dk.zero, rfl, Dk.zero_ok _, rfl, below_alloc1 _ _, fun b _ _ => Dk.zero_av b⟩
    · obtain ⟨m, rfl⟩ := Int.eq_ofNat_of_zero_le (show 0 ≤ n by omega)
      have e1 : decide ((m : Int) < 1) = false := decide_eq_false h1
      have e2 : decide (4096 < (m : Int)) = false := decide_eq_false h2
      have HX := Keep.mk (new_good (n := m) (by omega) (by omega))
      have hm : m ≤ 4096 := by omega
      rw [HX.out]
      have OX0 := Keep.mk (Bx.new (w.alloc (.cells #[.slice none 0 0, .slice none 0 0, .int .i64 0, .bool false] 25)) [.slice none 0 0, .slice none 0 0, .int .i64 (-1), .bool false] 25)
      rw [World.size_alloc] at OX0
      have UX0 := Keep.mk ((Bx.new w [.slice none 0 0, .slice none 0 0, .int .i64 0, .bool false] 25).alloc (.cells #[.slice none 0 0, .slice none 0 0, .int .i64 (-1), .bool false] 25))
      have HB0 : Hid (Below w.heap.size w ((w.alloc (.cells #[.slice none 0 0, .slice none 0 0, .int .i64 0, .bool false] 25)).alloc (.cells #[.slice none 0 0, .slice none 0 0, .int .i64 (-1), .bool false] 25))) := (below_alloc1 _ _).alloc (by simp) _
      have hz0 : w.heap.size + 2 = ((w.alloc (.cells #[.slice none 0 0, .slice none 0 0, .int .i64 0, .bool false] 25)).alloc (.cells #[.slice none 0 0, .slice none 0 0, .int .i64 (-1), .bool false] 25)).heap.size := by simp
      go_enter Tryd.func45, Tryd.ntmps45
      go_wp2
      generalize (w.alloc (.cells #[.slice none 0 0, .slice none 0 0, .int .i64 0, .bool false] 25)).alloc (.cells #[.slice none 0 0, .slice none 0 0, .int .i64 (-1), .bool false] 25) = w1 at *
      have HZ0 := Keep.mk hz0
      clear hz0 h1 h2
      go_loopw [5] (fun i wr => ∃ (k : Nat) (A' : Option Addr) (c' : Nat) (L : List Sl), k ≤ m ∧ i = .int .i64 k ∧ GS wr (w.heap.size + 2) A' k c' L ∧ L.map (·.l) = List.replicate k zs ∧ Bx wr (w.heap.size + 1) [.slice A' k c', .slice none 0 0, .int .i64 (-1), .bool false] ∧ Bx wr w.heap.size [.slice none 0 0, .slice none 0 0, .int .i64 0, .bool false] ∧ Below w.heap.size w wr ∧ Keep ((∀ a, A' = some a → w.heap.size + 2 ≤ a.block) ∧ ∀ s ∈ L, ∀ a, s.a = some a → w.heap.size + 2 ≤ a.block)) (fun i _ => m - (intOf i).toNat)
      case atStart => exact ⟨0, none, 0, [], Nat.zero_le _, rfl, GS.nil _ _, rfl, OX0.out, UX0.out, HB0.out, ⟨(fun a h => by cases h), (fun s h => by cases h)⟩⟩
      case round =>
        clear OX0 UX0 HB0
        obtain ⟨k, A', c', L, hk, rfl, hg, hL, hox, hux, hb, HNW⟩ := hrel
        have UX := Keep.mk hux
        have hul := hux.lt
        clear hux
        have HG := Keep.mk hg
        have HL := Keep.mk hL
        have OX := Keep.mk hox
        have HB := Lib.hid hb
        have hol := hox.lt
        clear hg hL hox hb
        by_cases hlt : k < m
        · have o0 := OX.out.cell 0 _ rfl
          have hmk := run_make64
          go_upto_region 7 with (fail)
          have HBW : Hid (Below wr.heap.size wr ((wr.alloc (.cells (zs.map bv).toArray 5)).alloc (.cells #[.slice (some ⟨wr.heap.size, 0, none⟩) 64 64] 26)).drew) := ((below_alloc1 _ _).alloc (by simp) _).trans (below_draws _ _ 1)
          have hrd := rd_one (wr.alloc (.cells (zs.map bv).toArray 5)) (.slice (some ⟨wr.heap.size, 0, none⟩) 64 64) 26
          rw [World.size_alloc] at hrd
          have HRD : Keep (Rd ((wr.alloc (.cells (zs.map bv).toArray 5)).alloc (.cells #[.slice (some ⟨wr.heap.size, 0, none⟩) 64 64] 26)).drew 1 (some ⟨wr.heap.size + 1, 0, none⟩) 1 1 [.slice (some ⟨wr.heap.size, 0, none⟩) 64 64]) := ⟨hrd.drewN 1⟩
          have HZB : Keep (RB ((wr.alloc (.cells (zs.map bv).toArray 5)).alloc (.cells #[.slice (some ⟨wr.heap.size, 0, none⟩) 64 64] 26)).drew (some ⟨wr.heap.size, 0, none⟩) 64 64 zs) := ⟨(wh_rb ((Wh.new wr 5 (zs.map bv)).below (below_alloc1 _ _)) zs_len (by omega)).below (below_draws _ _ 1)⟩
          clear hrd
          go_region_law (refine step_append_app _ (by rfl) (.tmp 20) (.tmp 22) 22 (by rfl) (w.heap.size + 2) 26 (.slice none 0 0) 1 24 Tryd.underlying22 sl_info rfl (by decide) (by decide) (.slice A' k c') k (L.map Sl.v) (by rfl) (HG.out.below HBW.out).tgt (some ⟨wr.heap.size + 1, 0, none⟩) 1 1 [.slice (some ⟨wr.heap.size, 0, none⟩) 64 64] (by rfl) HRD.out (by simp [Value.oneCell']) (by omega) (by have := HBW.out.size; omega) ?_; intro A3 c3 w3 ha; have HA3 := Keep.mk ha; have OX3 := Keep.mk ((OX.out.below HBW.out).below' ha.below (Nat.lt_succ_self _)); have o30 := OX3.out.cell 0 _ rfl; have of3 := OX3.out.fz 0; clear ha)
          all_goals
            have hsz := HBW.out.size
            have hz1 := HB.out.size
            have hnA : ∀ a, A3 = some a → w.heap.size + 2 ≤ a.block := fun a ha => by
              rcases HA3.out.at_ a ha with h | h
              · cases hA' : A' with
                | none => rw [hA'] at h; simp [Value.ownBlock] at h
                | some a' =>
                  have h1 := HNW.out.1 a' hA'
                  rw [hA'] at h
                  have h2 : a'.block = a.block := by simpa [Value.ownBlock] using h
                  omega
              · have := h.1
                omega
            have hnS : ∀ s ∈ L ++ [(⟨some ⟨wr.heap.size, 0, none⟩, 64, 64, zs⟩ : Sl)], ∀ a, s.a = some a → w.heap.size + 2 ≤ a.block := fun s hs a ha => by
              rcases List.mem_append.1 hs with hs | hs
              · exact HNW.out.2 s hs a ha
              · simp only [List.mem_singleton] at hs
                subst hs
                injection ha with ha
                rw [← ha]
                exact hol
            have hgs := GS.app (s := ⟨some ⟨wr.heap.size, 0, none⟩, 64, 64, zs⟩) (HG.out.below HBW.out) HA3.out HZB.out (away_new HG.out.lt (fun a ha => by injection ha with ha; rw [← ha]; exact Nat.le_refl _))
            have HGS := Keep.mk (hgs.set (p := ⟨w.heap.size + 1, 0, none⟩) (Nat.lt_succ_self _) hnA hnS (.slice A3 (k + 1) c3))
            have OX4 := Keep.mk (OX3.out.set (j := 0) (by simp) (.slice A3 (k + 1) c3))
            simp only [List.set_cons_zero] at OX4
            have HB4 : Hid (Below w.heap.size w (w3.setCell ⟨w.heap.size + 1, 0, none⟩ (.slice A3 (k + 1) c3))) := ((HB.out.trans (HBW.out.mono hz1)).trans (HA3.out.below.mono (by omega))).setCell (by simp) _
            have UX4 := Keep.mk (((UX.out.below HBW.out).below' HA3.out.below (by omega)).other (p := ⟨w.heap.size + 1, 0, none⟩) (by simp) (.slice A3 (k + 1) c3))
            have HNA := Keep.mk hnA
            have HNS := Keep.mk hnS
            clear hgs hnA hnS o30 of3
            go_wp2
            go_roundw
            case rel => exact ⟨k + 1, A3, c3, _, by omega, by go_num, HGS.out, by rw [List.map_append, HL.out, List.replicate_succ']; rfl, OX4.out, UX4.out, HB4.out, ⟨⟨HNA.out, HNS.out⟩⟩⟩
            case measure => simp [intOf]; omega
        · obtain rfl : m = k := by omega
          have o0 := OX.out.cell 0 _ rfl
          have o1 := OX.out.cell 1 _ rfl
          have o2 := OX.out.cell 2 _ rfl
          have o3 := OX.out.cell 3 _ rfl
          have u0 := UX.out.cell 0 _ rfl
          have u1 := UX.out.cell 1 _ rfl
          have u2 := UX.out.cell 2 _ rfl
          have u3 := UX.out.cell 3 _ rfl
          have uf := UX.out.fz
          go_wp2
          refine bodyPost_ret (v := .tuple #[.agg #[.slice A' m c', .slice none 0 0, .int .i64 (-1), .bool false], .int .i64 0]) (by simp [results, Tryd.results45, go_sem, u0, u1, u2, u3]) rfl ?_
          have hX : Off [w.heap.size] wr _ := off_set4 wr w.heap.size (.slice A' m c') (.slice none 0 0) (.int .i64 (-1)) (.bool false)
          refine ⟨⟨A', m, c', L, none, 0, 0, [], -1, false⟩, rfl, ⟨HG.out.rs.off hX (fun b hb _ a ha => ?_) (fun b hb s hs _ a ha => ?_), RP.none_ _⟩, ?_, HB.out.trans (hX.below HB.out.size (by simp)), fun b hb _ => ⟨fun _ a ha => ?_, fun s hs _ a ha => ?_, (fun h => absurd h (by simp)), (fun p hp => by cases hp)⟩⟩
          · have := HNW.out.1 a ha
            simp at hb
            omega
          · have := HNW.out.2 s hs a ha
            simp at hb
            omega
          · simp only [Dk.m, HL.out]
            rfl
          · have := HNW.out.1 a ha
            omega
          · have := HNW.out.2 s hs a ha
            omega
end Go.Proofs.YtjficpdfofmcnaaDoor

/- device.Flush, Write. -/
namespace Go.Proofs.YtjficpdfofmcnaaDoor
open Go.RowKit Go.Joins

set_option maxHeartbeats 1000000 in
theorem flush_any (d : Dk) (K : Nat) (w : World) (h : d.Ok w) (hf : Dv.Fits K d.m) (hK : K ≤ 1000) :
    Calls Tryd.prog 60 #[.agg #[.slice d.a d.n d.c, .slice d.pa d.pn d.pc, .int .i64 d.left, .bool d.down]] w (RetKE w (fun _ => True) (Dv.flush d.m)) := by
  have HF := Keep.mk (fun (X : World) (hX : Below w.heap.size w X) => settle_flush (fun _ => true) d K X (h.below hX) hf hK (fun i Y _ _ => flush1_any i Y))
  have hB : Hid (Below w.heap.size w ((w.alloc (.cells #[.slice d.a d.n d.c, .slice d.pa d.pn d.pc, .int .i64 d.left, .bool d.down] 25)).alloc (.cells #[.slice none 0 0, .slice none 0 0, .int .i64 0, .bool false] 25))) := (below_alloc1 _ _).alloc (by simp) _
  clear h hf
  cases hdn : d.down
  · have hm : d.m.down = false := hdn
    have HX : Keep (Dv.flush d.m = (⟨Dv.settle d.m.sectors (Dv.keptq (fun _ => true) 0 d.m.pending), [], d.left, false⟩, 0)) := ⟨by simp [Dv.flush, hm, Dv.keptq_true]; rfl⟩
    rw [hdn] at HF hB
    have HOX := Keep.mk (Bx.new (w.alloc (.cells #[.slice d.a d.n d.c, .slice d.pa d.pn d.pc, .int .i64 d.left, .bool false] 25)) [.slice none 0 0, .slice none 0 0, .int .i64 0, .bool false] 25)
    rw [World.size_alloc] at HOX
    have hol := HOX.out.lt
    have hz := hB.out.size
    clear hm hdn
    rw [HX.out]
    go_enter Tryd.func60, Tryd.ntmps60
    go_wp2_with fail
    refine (HF.out _ hB.out).mono ?_
    rintro e w1 ⟨D, rfl, hok, hm, hb, hav⟩
    have OX1 := Keep.mk (HOX.out.below hb)
    have HB1 := Lib.hid (below_next hB.out hb (Nat.le_refl _))
    have HK := Keep.mk hok
    have HM := Keep.mk hm
    have HAV : Keep (∀ b, b < w.heap.size + 2 → D.Av b) := ⟨fun b hb => hav b (by simpa using hb) trivial⟩
    have o0 := OX1.out.cell 0 _ rfl
    have o1 := OX1.out.cell 1 _ rfl
    have o2 := OX1.out.cell 2 _ rfl
    have o3 := OX1.out.cell 3 _ rfl
    have of := OX1.out.fz
    clear hok hm hb hav HF
    unfold Dk.v
    go_wp2
    refine bodyPost_ret (v := .tuple #[.agg #[.slice D.a D.n D.c, .slice D.pa D.pn D.pc, .int .i64 D.left, .bool D.down], .int .i64 0]) (by simp [results, Tryd.results60, go_sem, o0, o1, o2, o3]) rfl ?_
    have hX : Off [w.heap.size + 1] w1 _ := off_set4 w1 (w.heap.size + 1) (.slice D.a D.n D.c) (.slice D.pa D.pn D.pc) (.int .i64 D.left) (.bool D.down)
    exact ⟨D, rfl, HK.out.off hX (fun b hb => HAV.out b (by simp at hb; omega)), HM.out, HB1.out.trans (hX.below HB1.out.size (by simp)), fun b hb _ => HAV.out b (by omega)⟩
  · have hm : d.m.down = true := hdn
    have HX : Keep (Dv.flush d.m = (Dv.Disk.zero, 23)) := ⟨by simp [Dv.flush, hm]⟩
    rw [HX.out]
    rw [hdn] at hB
    clear hm hdn HF
    go_enter Tryd.func60, Tryd.ntmps60
    go_wp2
    refine bodyPost_ret (v := .tuple #[.agg #[.slice none 0 0, .slice none 0 0, .int .i64 0, .bool false], .int .i64 23]) (by simp [results, Tryd.results60, go_sem]) rfl ?_
    exact ⟨Dk.zero, rfl, Dk.zero_ok _, rfl, hB.out, fun b _ _ => Dk.zero_av b⟩

set_option maxHeartbeats 2000000 in
set_option maxRecDepth 100000 in
theorem write_any (d : Dk) (s : Int) (A : Option Addr) (n c : Nat) (l : List UInt8) (K : Nat) (w : World) (h : d.Ok w) (hl : RB w A n c l) (hf : Dv.Fits K d.m) (hK : K ≤ 1000) (hLo : -9223372036854775808 ≤ d.left) (hHi : d.left ≤ 9223372036854775807) :
    Calls Tryd.prog 59 #[.agg #[.slice d.a d.n d.c, .slice d.pa d.pn d.pc, .int .i64 d.left, .bool d.down], .int .i64 s, .slice A n c] w (RetKE w (fun _ => True) (Dv.write d.m s l)) := by
  have HF := Keep.mk (fun (X : World) (hX : Below w.heap.size w X) => fresh_any d K X (h.below hX) hf hK)
  have HL := Keep.mk hl
  have hn := write_len d w h
  have hll := hl.len
  have hB : Hid (Below w.heap.size w ((w.alloc (.cells #[.slice d.a d.n d.c, .slice d.pa d.pn d.pc, .int .i64 d.left, .bool d.down] 25)).alloc (.cells #[.slice none 0 0, .slice none 0 0, .int .i64 0, .bool false] 25))) := (below_alloc1 _ _).alloc (by simp) _
  have HIX := Keep.mk ((Bx.new w [.slice d.a d.n d.c, .slice d.pa d.pn d.pc, .int .i64 d.left, .bool d.down] 25).alloc (.cells #[.slice none 0 0, .slice none 0 0, .int .i64 0, .bool false] 25))
  have HOX := Keep.mk (Bx.new (w.alloc (.cells #[.slice d.a d.n d.c, .slice d.pa d.pn d.pc, .int .i64 d.left, .bool d.down] 25)) [.slice none 0 0, .slice none 0 0, .int .i64 0, .bool false] 25)
  rw [World.size_alloc] at HOX
  clear h hl hf
  rcases write_cases3 d s l with ⟨h0, hw⟩ | ⟨h0, h1, hw⟩ | ⟨h0, h1, h2, hw⟩ | ⟨h0, h1, h2, h3, h4, h5, hw⟩ | ⟨h0, h1, h2, h3, h4, h5, hw⟩ | ⟨h0, h1, h2, h3, h4, h5, hw⟩
  · have hdn : d.down = true := h0
    have HW := Keep.mk hw
    rw [HW.out]
    rw [hdn] at hB HF HOX HIX
    rw [hdn]
    clear h0 hw hn hdn HIX
    go_enter Tryd.func59, Tryd.ntmps59
    go_wp2_with fail
    refine (HF.out _ hB.out).mono ?_
    rintro e w1 hret
    obtain ⟨D, rfl, hok, hm, hb, hav⟩ := hret.k
    have OX1 := Keep.mk (HOX.out.below hb)
    have HB1 := Lib.hid (below_next hB.out hb (Nat.le_refl _))
    have HK := Keep.mk hok
    have HM := Keep.mk hm
    have HAV : Keep (∀ b, b < w.heap.size + 2 → D.Av b) := ⟨fun b hb => hav b (by simpa using hb) trivial⟩
    have o0 := OX1.out.cell 0 _ rfl
    have o1 := OX1.out.cell 1 _ rfl
    have o2 := OX1.out.cell 2 _ rfl
    have o3 := OX1.out.cell 3 _ rfl
    have of := OX1.out.fz
    clear hret hok hm hb hav HF
    unfold Dk.v
    go_wp2
    refine bodyPost_ret (v := .tuple #[.agg #[.slice D.a D.n D.c, .slice D.pa D.pn D.pc, .int .i64 D.left, .bool D.down], .int .i64 23]) (by simp [results, Tryd.results59, go_sem, o0, o1, o2, o3]) rfl ?_
    have hX : Off [w.heap.size + 1] w1 _ := off_set4 w1 (w.heap.size + 1) (.slice D.a D.n D.c) (.slice D.pa D.pn D.pc) (.int .i64 D.left) (.bool D.down)
    exact ⟨D, rfl, HK.out.off hX (fun b hb => HAV.out b (by simp at hb; omega)), HM.out, HB1.out.trans (hX.below HB1.out.size (by simp)), fun b hb _ => HAV.out b (by omega)⟩
  · have hdn : d.down = false := h0
    rw [hn] at h1
    have HW := Keep.mk hw
    have HH := Keep.mk h1
    rw [HW.out]
    rw [hdn] at hB HOX
    rw [hdn]
    clear h0 hw hn hdn h1 HF HIX
    go_enter Tryd.func59, Tryd.ntmps59
    go_wp2_with fail
    refine (has_any d.a d.n d.c d.pa d.pn d.pc d.left false s _).mono ?_
    rw [HH.out]
    rintro e w1 ⟨rfl, hb1⟩
    have HB1 := Lib.hid (below_next hB.out hb1 (Nat.le_refl _))
    have OX := Keep.mk (HOX.out.below hb1)
    clear hb1
    have o0 := OX.out.cell 0 _ rfl
    have o1 := OX.out.cell 1 _ rfl
    have o2 := OX.out.cell 2 _ rfl
    have o3 := OX.out.cell 3 _ rfl
    have of := OX.out.fz
    go_wp2
    refine bodyPost_ret (v := .tuple #[.agg #[.slice none 0 0, .slice none 0 0, .int .i64 0, .bool false], .int .i64 2]) (by simp [results, Tryd.results59, go_sem, o0, o1, o2, o3]) rfl ?_
    exact ⟨Dk.zero, rfl, Dk.zero_ok _, rfl, HB1.out.trans ((off_set4 w1 (w.heap.size + 1) _ _ _ _).below (HB1.out.size) (by simp)), fun b _ _ => Dk.zero_av b⟩
  · have hdn : d.down = false := h0
    rw [hn] at h1
    have hn64 : ((n : Int) != 64) = true := by rw [bne_iff_ne]; omega
    have HW := Keep.mk hw
    have HH := Keep.mk h1
    rw [HW.out]
    rw [hdn] at hB HOX
    rw [hdn]
    clear h0 hw hn hdn h1 HF HIX
    go_enter Tryd.func59, Tryd.ntmps59
    go_wp2_with fail
    refine (has_any d.a d.n d.c d.pa d.pn d.pc d.left false s _).mono ?_
    rw [HH.out]
    rintro e w1 ⟨rfl, hb1⟩
    have HB1 := Lib.hid (below_next hB.out hb1 (Nat.le_refl _))
    have OX := Keep.mk (HOX.out.below hb1)
    clear hb1
    have o0 := OX.out.cell 0 _ rfl
    have o1 := OX.out.cell 1 _ rfl
    have o2 := OX.out.cell 2 _ rfl
    have o3 := OX.out.cell 3 _ rfl
    have of := OX.out.fz
    go_wp2
    refine bodyPost_ret (v := .tuple #[.agg #[.slice none 0 0, .slice none 0 0, .int .i64 0, .bool false], .int .i64 1]) (by simp [results, Tryd.results59, go_sem, o0, o1, o2, o3]) rfl ?_
    exact ⟨Dk.zero, rfl, Dk.zero_ok _, rfl, HB1.out.trans ((off_set4 w1 (w.heap.size + 1) _ _ _ _).below (HB1.out.size) (by simp)), fun b _ _ => Dk.zero_av b⟩
  all_goals
    have hdn : d.down = false := h0
    rw [hn] at h1
    have hn64 : ((n : Int) != 64) = false := by rw [bne_eq_false_iff_eq]; omega
    have hn200 : n ≤ 200 := by omega
    have HW := Keep.mk hw
    have HH := Keep.mk h1
    have HLL := Keep.mk hll
    have HDN := Keep.mk hdn
    rw [hdn] at hB HOX HF HIX
    rw [hdn]
    clear h0 hw hn hdn h1 h2
    go_enter Tryd.func59, Tryd.ntmps59
    go_wp2_with fail
    refine (has_any d.a d.n d.c d.pa d.pn d.pc d.left false s _).mono ?_
    rw [HH.out]
    rintro e w1 ⟨rfl, hb1⟩
    have HB1 := Lib.hid (below_next hB.out hb1 (Nat.le_refl _))
    have IX := Keep.mk (HIX.out.below hb1)
    have OX := Keep.mk (HOX.out.below hb1)
    clear hb1
    have i0 := IX.out.cell 0 _ rfl
    have i1 := IX.out.cell 1 _ rfl
    have i2 := IX.out.cell 2 _ rfl
    have i3 := IX.out.cell 3 _ rfl
    have hz1 := HB1.out.size
    have hol := OX.out.lt
    go_wp2_with fail
    refine (HF.out _ HB1.out).mono ?_
    rintro e w2 ⟨R, Q, F, off, nn, pn, cur, ps, qs, rfl, hfq, hpl, hql, hn1, hpn1, hps, hqs, hb⟩
    have OX2 := Keep.mk (OX.out.below hb)
    have IX2 := Keep.mk (IX.out.below hb)
    have HB2 := Lib.hid (below_next HB1.out hb (Nat.le_refl _))
    have FQ2 := Keep.mk hfq
    have HPL := Keep.mk hpl
    have HQL := Keep.mk hql
    have HPS := Keep.mk hps
    have HQS := Keep.mk hqs
    clear hfq hpl hql hps hqs hb i0 i1 i2 i3 OX IX HF HIX HOX
    have o0 := OX2.out.cell 0 _ rfl
    have o1 := OX2.out.cell 1 _ rfl
    have o2 := OX2.out.cell 2 _ rfl
    have o3 := OX2.out.cell 3 _ rfl
    have of := OX2.out.fz
    go_upto_region 8 with (fail)
    clear o0 o1 o2 o3 of
    have HO3 := Keep.mk (off_set4 w2 (w.heap.size + 1) (.slice (some ⟨R, 0, none⟩) nn nn) (.slice (some ⟨Q, 0, none⟩) pn pn) (.int .i64 d.m.left) (.bool d.m.down))
    have OX3 := Keep.mk (OX2.out.set4 (.slice (some ⟨R, 0, none⟩) nn nn) (.slice (some ⟨Q, 0, none⟩) pn pn) (.int .i64 d.m.left) (.bool d.m.down))
    generalize (((w2.setCell ⟨w.heap.size + 1, 0, none⟩ (.slice (some ⟨R, 0, none⟩) nn nn)).setCell ⟨w.heap.size + 1, 1, none⟩ (.slice (some ⟨Q, 0, none⟩) pn pn)).setCell ⟨w.heap.size + 1, 2, none⟩ (.int .i64 d.m.left)).setCell ⟨w.heap.size + 1, 3, none⟩ (.bool d.m.down) = w3 at *
    rw [show d.m.left = d.left from rfl, show d.m.down = d.down from rfl, HDN.out] at OX3
    have FQ3 := Keep.mk (FQ2.out.off HO3.out (by simp; omega))
    have IX3 := Keep.mk (IX2.out.off HO3.out (by simp))
    have HB3 := Lib.hid (HB2.out.trans (HO3.out.below (B := w.heap.size) HB2.out.size (by simp)))
    have hz3 := HB3.out.size
    have hol3 := OX3.out.lt
    clear FQ2 HB2 OX2 IX2 HO3
    have HL3 := Keep.mk (HL.out.below HB3.out)
    have HQR := FQ3.out.rp HQL.out (by omega)
    have HRQ := Keep.mk HQR
    clear HQR
    have hmk := run_make_row' (P := Tryd.prog) 26 5 (.int .u8 0) 1 Tryd.underlying26 u8_info rfl .i64 .i64 n (by omega) (by omega)
    have HWN : Keep (Wh (w3.alloc (.cells (madeCells #[.int .u8 0] n) 5)) w3.heap.size 5 (List.replicate n (.int .u8 0))) := ⟨by rw [made_one]; exact Wh.new w3 _ _⟩
    go_upto_region 10 with (refine wpList_copy_off rfl (.tmp 30) (.tmp 31) 26 26 rfl 5 Tryd.underlying26 u8_one (some ⟨w3.heap.size, 0, none⟩) A n n n c rfl rfl w3.heap.size 0 (List.replicate n (.int .u8 0)) 5 HWN.out (l.map bv) (Rd.below HL3.out (below_alloc1 _ _)) (Nat.le_refl _) (fun _ => rfl) (by simp) (bv_one _) ?_; intro w4 hF4 ho4; have HF4 := Keep.mk hF4; have HO4 := Keep.mk ho4; clear hF4 ho4)
    have hF := HF4.out
    rw [splice_all _ _ (by simp [HLL.out])] at hF
    have HFD := Keep.mk (wh_rb hF HLL.out (by omega))
    have HC4 : Hid (Below w3.heap.size w3 w4) := (below_alloc1 _ _).trans (HO4.out.below (by simp) (by simp))
    have FQ4 := Keep.mk (FQ3.out.below HC4.out)
    have OX4 := Keep.mk (OX3.out.below HC4.out)
    have IX4 := Keep.mk (IX3.out.below HC4.out)
    have HRQ4 := Keep.mk (HRQ.out.below HC4.out)
    have HB4 := Lib.hid (below_next HB3.out HC4.out (Nat.le_refl _))
    have hz4 := HC4.out.size
    have hgl : w3.heap.size < w4.heap.size := by have := HO4.out.size; simp at this; omega
    clear hF HF4 HO4 HWN hmk FQ3 OX3 IX3 HRQ HL3
    have o1 := (OX4.out.alloc (.cells #[.int .i64 s, .slice (some ⟨w3.heap.size, 0, none⟩) n n] 79)).cell 1 _ rfl
    have o1' := OX4.out.cell 1 _ rfl
    go_upto_region 11 with (at_builtin; refine wpList_append_app _ rfl (.tmp 34) (.tmp 38) 23 rfl (w4.heap.size + 1) 79 (.agg #[.int .i64 0, .slice none 0 0]) 2 32 Tryd.underlying23 wr_info rfl (by decide) (by decide) (.slice (some ⟨Q, 0, none⟩) pn pn) pn (qs.flatMap Pe.cells) rfl (.inl ⟨_, rfl, Rd.below HRQ4.out.rd (below_alloc1 _ _)⟩) (some ⟨w4.heap.size, 0, none⟩) 1 1 [.int .i64 s, .slice (some ⟨w3.heap.size, 0, none⟩) n n] rfl (rd_two w4 _ _ _) (by simp [Value.oneCell']) (by omega) (by simp) ?_; intro A3 c3 w5 ha; have HA3 := Keep.mk ha; have HC5 : Hid (Below w4.heap.size w4 w5) := (below_alloc1 _ _).trans (ha.below.mono (by simp)); have OX5 := Keep.mk (OX4.out.below HC5.out); have q1 := OX5.out.cell 1 _ rfl; have qf := OX5.out.fz; clear ha)
    clear o1 o1' q1 qf
    have HO6 : Keep (Off [w.heap.size + 1] w5 (w5.setCell ⟨w.heap.size + 1, 1, none⟩ (.slice A3 (pn + 1) c3))) := ⟨(Off.refl _ _).setCell (by simp) _⟩
    have OX6 := Keep.mk (OX5.out.set (j := 1) (by simp) (.slice A3 (pn + 1) c3))
    simp only [List.set_cons_zero, List.set_cons_succ] at OX6
    generalize w5.setCell ⟨w.heap.size + 1, 1, none⟩ (.slice A3 (pn + 1) c3) = w6 at *
    have HB5 := Lib.hid (below_next HB4.out HC5.out (Nat.le_refl _))
    have IX6 := Keep.mk ((IX4.out.below HC5.out).off HO6.out (by simp))
    have FIN : Keep (∀ X lf dn ek, Off [w.heap.size + 1] w6 X → RetKE w (fun _ => True) (⟨d.m.sectors, d.m.pending ++ [(s, l)], lf, dn⟩, ek) (.returned (.tuple #[.agg #[.slice (some ⟨R, 0, none⟩) nn nn, .slice A3 (pn + 1) c3, .int .i64 lf, .bool dn], .int .i64 ek])) X) := ⟨fun X lf dn ek hX6 => by
      have hX := HO6.out.trans hX6
      have hq5 := (FQ4.out.below HC5.out).off hX (by simp; omega)
      have hlQ := FQ4.out.lQ
      have hrd : Rd w5 2 A3 (pn + 1) c3 ((qs ++ [(⟨s, ⟨some ⟨w3.heap.size, 0, none⟩, n, n, l⟩⟩ : Pe)]).flatMap Pe.cells) := by
        obtain ⟨A', c', e, hr⟩ := HA3.out.tgt.rd
        injection e with e1 _ e3
        subst e1 e3
        simpa [Pe.cells, Sl.v] using hr
      have hAlt : ∀ a, A3 = some a → w.heap.size + 1 < a.block := fun a ha => by
        rcases HA3.out.at_ a ha with h | h
        · have h2 : Q = a.block := by simpa [Value.ownBlock] using h
          omega
        · have := h.1
          simp at this
          omega
      have hrd2 := hrd.off hX (fun _ a ha hb => by have := hAlt a ha; simp at hb; omega)
      have hnew : Sl.Ok X ⟨some ⟨w3.heap.size, 0, none⟩, n, n, l⟩ := Sl.Ok.off (s := ⟨some ⟨w3.heap.size, 0, none⟩, n, n, l⟩) (Sl.Ok.below (s := ⟨some ⟨w3.heap.size, 0, none⟩, n, n, l⟩) HFD.out HC5.out) hX (fun b hb _ a ha => by injection ha with ha; rw [← ha]; simp at hb; show w3.heap.size ≠ b; omega)
      refine ⟨⟨some ⟨R, 0, none⟩, nn, nn, ps, A3, pn + 1, c3, qs ++ [⟨s, ⟨some ⟨w3.heap.size, 0, none⟩, n, n, l⟩⟩], lf, dn⟩, rfl, ⟨hq5.rs HPL.out (by show nn ≤ 100000; omega), ⟨hrd2, fun p hp => ?_⟩⟩, ?_, HB5.out.trans (hX.below HB5.out.size (by simp)), fun b hb _ => ?_⟩
      · rcases List.mem_append.1 hp with hp | hp
        · exact (hq5.qc p hp).ok hq5.rF
        · simp only [List.mem_singleton] at hp
          subst hp
          exact hnew
      · simp only [Dk.m, List.map_append, HPS.out, HQS.out]
        rfl
      · have hav := FQ4.out.av (b := b) (by omega) nn pn lf dn
        refine ⟨hav.a_, hav.s_, fun _ a ha => by have := hAlt a ha; omega, fun p hp => ?_⟩
        rcases List.mem_append.1 hp with hp | hp
        · exact hav.q_ p hp
        · simp only [List.mem_singleton] at hp
          subst hp
          intro _ a ha
          injection ha with ha
          rw [← ha]
          show w3.heap.size ≠ b
          omega⟩
    clear HA3 HFD FQ4 OX5 OX4 IX4 HRQ4 HC4 HC5 HB4 HB3 HL
    have i2 := IX6.out.cell 2 _ rfl
    have o0 := OX6.out.cell 0 _ rfl
    have o1 := OX6.out.cell 1 _ rfl
    have o2 := OX6.out.cell 2 _ rfl
    have o3 := OX6.out.cell 3 _ rfl
    have of := OX6.out.fz
    go_wp2
    first
      | (have ht : (d.left == 0) = true := by assumption
         refine bodyPost_ret (v := .tuple #[.agg #[.slice (some ⟨R, 0, none⟩) nn nn, .slice A3 (pn + 1) c3, .int .i64 d.left, .bool true], .int .i64 23]) ?_ rfl ?_
         · simp [results, Tryd.results59, go_sem, o0, o1, o2, o3]
         · rw [HW.out]
           refine FIN.out _ d.left true 23 ?_
           repeat (refine Off.setCell ?_ (by simp) _)
           exact Off.refl _ _)
      | (have ht : decide (0 < d.left) = true := by assumption
         refine bodyPost_ret (v := .tuple #[.agg #[.slice (some ⟨R, 0, none⟩) nn nn, .slice A3 (pn + 1) c3, .int .i64 (d.left - 1), .bool false], .int .i64 0]) ?_ rfl ?_
         · simp [results, Tryd.results59, go_sem, o0, o1, o2, o3]
         · rw [HW.out]
           refine FIN.out _ (d.left - 1) false 0 ?_
           repeat (refine Off.setCell ?_ (by simp) _)
           exact Off.refl _ _)
      | (have ht : decide (0 < d.left) = false := by assumption
         refine bodyPost_ret (v := .tuple #[.agg #[.slice (some ⟨R, 0, none⟩) nn nn, .slice A3 (pn + 1) c3, .int .i64 d.left, .bool false], .int .i64 0]) ?_ rfl ?_
         · simp [results, Tryd.results59, go_sem, o0, o1, o2, o3]
         · rw [HW.out]
           refine FIN.out _ d.left false 0 ?_
           repeat (refine Off.setCell ?_ (by simp) _)
           exact Off.refl _ _)
end Go.Proofs.YtjficpdfofmcnaaDoor
