/- The two New's. -/
import Derived.Test.YtpekbcoclmhcnaaDev2
import Derived.Deep.RegionLaw
namespace Go.Proofs.Ytpekbcoclmhcnaa
open Go.RowKit Go.Joins

/-- A sector of zero bytes. -/
def zs : List UInt8 := List.replicate 64 0
theorem zs_len : zs.length = 64 := by simp [zs]
theorem run_make64 (w : World) : (Instr.makeSlice 26 (.int .i64 64) (.int .i64 64)).run Try.prog w = .ok (.slice (some ⟨w.heap.size, 0, none⟩) 64 64) (w.alloc (.cells (zs.map bv).toArray 5)) := by
  have h := run_make_row' (P := Try.prog) 26 5 (.int .u8 0) 1 Try.underlying26 u8_info rfl .i64 .i64 64 (by omega) (by omega) w
  rw [made_one] at h
  have e : (zs.map bv) = List.replicate 64 (.int .u8 0) := by simp [zs, bv]
  rw [e]
  exact h
theorem GS.set {w : World} {base : Nat} {A : Option Addr} {n c : Nat} {S : List Sl} (h : GS w base A n c S) {p : Addr} (hp : p.block < base) (hA : ∀ a, A = some a → base ≤ a.block) (hs : ∀ s ∈ S, ∀ a, s.a = some a → base ≤ a.block) (v : Value) : GS (w.setCell p v) base A n c S := by
  refine ⟨?_, fun s hh => (h.ok s hh).off ((Off.refl [p.block] w).setCell (by simp) v) (fun b hb _ a ha => by have := hs s hh a ha; simp at hb; omega), h.away, fun a ha => by simpa [World.setCell] using h.lt a ha⟩
  rcases h.tgt with ⟨A', e, hr⟩ | ho
  · injection e with e1 e2 e3
    subst e1 e3
    exact .inl ⟨A, rfl, hr.set_other (fun a ha => by have := hA a ha; omega) v⟩
  · exact .inr (ownsRow_set ho hp v)
theorem new_bad {n : Int} (h : n < 1 ∨ 4096 < n) : Dv.new n = (Dv.Disk.zero, 2) := by unfold Dv.new; rw [if_pos h]
theorem new_good {n : Nat} (h1 : 1 ≤ n) (h2 : n ≤ 4096) : Dv.new (n : Int) = (⟨List.replicate n zs, [], -1, false⟩, 0) := by
  unfold Dv.new
  rw [if_neg (by omega)]
  rfl

set_option maxHeartbeats 1000000 in
theorem new_any (n : Int) (w : World) : Calls Try.prog 19 #[.int .i64 n] w (RetKE w (fun _ => True) (Dv.new n)) := by
  by_cases h1 : n < 1
  · have e1 : decide (n < 1) = true := decide_eq_true h1
    have HX := Keep.mk (new_bad (.inl h1))
    rw [HX.out]
    go_enter Try.func19, Try.ntmps19
    go_wp2
    refine bodyPost_ret (v := .tuple #[.agg #[.slice none 0 0, .slice none 0 0, .int .i64 0, .bool false], .int .i64 2]) (by simp [results, Try.results19, go_sem]) rfl ?_
    exact ⟨Dk.zero, rfl, Dk.zero_ok _, rfl, below_alloc1 _ _, fun b _ _ => Dk.zero_av b⟩
  · by_cases h2 : 4096 < n
    · have e1 : decide (n < 1) = false := decide_eq_false h1
      have e2 : decide (4096 < n) = true := decide_eq_true h2
      have HX := Keep.mk (new_bad (.inr h2))
      rw [HX.out]
      go_enter Try.func19, Try.ntmps19
      go_wp2
      refine bodyPost_ret (v := .tuple #[.agg #[.slice none 0 0, .slice none 0 0, .int .i64 0, .bool false], .int .i64 2]) (by simp [results, Try.results19, go_sem]) rfl ?_
      exact ⟨Dk.zero, rfl, Dk.zero_ok _, rfl, below_alloc1 _ _, fun b _ _ => Dk.zero_av b⟩
    · obtain ⟨m, rfl⟩ := Int.eq_ofNat_of_zero_le (show 0 ≤ n by omega)
      have e1 : decide ((m : Int) < 1) = false := decide_eq_false h1
      have e2 : decide (4096 < (m : Int)) = false := decide_eq_false h2
      have HX := Keep.mk (new_good (n := m) (by omega) (by omega))
      have hm : m ≤ 4096 := by omega
      rw [HX.out]
      have OX0 := Keep.mk (Bx.new w [.slice none 0 0, .slice none 0 0, .int .i64 (-1), .bool false] 25)
      have HB0 : Hid (Below w.heap.size w (w.alloc (.cells #[.slice none 0 0, .slice none 0 0, .int .i64 (-1), .bool false] 25))) := below_alloc1 _ _
      have hz0 : w.heap.size + 1 = (w.alloc (.cells #[.slice none 0 0, .slice none 0 0, .int .i64 (-1), .bool false] 25)).heap.size := by simp
      go_enter Try.func19, Try.ntmps19
      go_wp2
      generalize w.alloc (.cells #[.slice none 0 0, .slice none 0 0, .int .i64 (-1), .bool false] 25) = w1 at *
      have HZ0 := Keep.mk hz0
      clear hz0 h1 h2
      go_loopw [13] (fun i wr => ∃ (k : Nat) (A' : Option Addr) (c' : Nat) (L : List Sl), k ≤ m ∧ i = .int .i64 k ∧ GS wr (w.heap.size + 1) A' k c' L ∧ L.map (·.l) = List.replicate k zs ∧ Bx wr w.heap.size [.slice A' k c', .slice none 0 0, .int .i64 (-1), .bool false] ∧ Below w.heap.size w wr ∧ Keep ((∀ a, A' = some a → w.heap.size + 1 ≤ a.block) ∧ ∀ s ∈ L, ∀ a, s.a = some a → w.heap.size + 1 ≤ a.block)) (fun i _ => m - (intOf i).toNat)
      case atStart => exact ⟨0, none, 0, [], Nat.zero_le _, rfl, GS.nil _ _, rfl, OX0.out, HB0.out, ⟨(fun a h => by cases h), (fun s h => by cases h)⟩⟩
      case round =>
        clear OX0 HB0
        obtain ⟨k, A', c', L, hk, rfl, hg, hL, hox, hb, HNW⟩ := hrel
        have HG := Keep.mk hg
        have HL := Keep.mk hL
        have OX := Keep.mk hox
        have HB := Lib.hid hb
        have hol := hox.lt
        clear hg hL hox hb
        by_cases hlt : k < m
        · have o0 := OX.out.cell 0 _ rfl
          have hmk := run_make64
          go_upto_region 6 with (fail)
          have HBW : Hid (Below wr.heap.size wr ((wr.alloc (.cells (zs.map bv).toArray 5)).alloc (.cells #[.slice (some ⟨wr.heap.size, 0, none⟩) 64 64] 26)).drew) := ((below_alloc1 _ _).alloc (by simp) _).trans (below_draws _ _ 1)
          have hrd := rd_one (wr.alloc (.cells (zs.map bv).toArray 5)) (.slice (some ⟨wr.heap.size, 0, none⟩) 64 64) 26
          rw [World.size_alloc] at hrd
          have HRD : Keep (Rd ((wr.alloc (.cells (zs.map bv).toArray 5)).alloc (.cells #[.slice (some ⟨wr.heap.size, 0, none⟩) 64 64] 26)).drew 1 (some ⟨wr.heap.size + 1, 0, none⟩) 1 1 [.slice (some ⟨wr.heap.size, 0, none⟩) 64 64]) := ⟨hrd.drewN 1⟩
          have HZB : Keep (RB ((wr.alloc (.cells (zs.map bv).toArray 5)).alloc (.cells #[.slice (some ⟨wr.heap.size, 0, none⟩) 64 64] 26)).drew (some ⟨wr.heap.size, 0, none⟩) 64 64 zs) := ⟨(wh_rb ((Wh.new wr 5 (zs.map bv)).below (below_alloc1 _ _)) zs_len (by omega)).below (below_draws _ _ 1)⟩
          clear hrd
          go_region_law (refine step_append_app _ (by rfl) (.tmp 16) (.tmp 18) 22 (by rfl) (w.heap.size + 1) 26 (.slice none 0 0) 1 24 Try.underlying22 sl_info rfl (by decide) (by decide) (.slice A' k c') k (L.map Sl.v) (by rfl) (HG.out.below HBW.out).tgt (some ⟨wr.heap.size + 1, 0, none⟩) 1 1 [.slice (some ⟨wr.heap.size, 0, none⟩) 64 64] (by rfl) HRD.out (by simp [Value.oneCell']) (by omega) (by have := HBW.out.size; omega) ?_; intro A3 c3 w3 ha; have HA3 := Keep.mk ha; have OX3 := Keep.mk ((OX.out.below HBW.out).below' ha.below (Nat.lt_succ_self _)); have o30 := OX3.out.cell 0 _ rfl; have of3 := OX3.out.fz 0; clear ha)
          all_goals
            have hsz := HBW.out.size
            have hz1 := HB.out.size
            have hnA : ∀ a, A3 = some a → w.heap.size + 1 ≤ a.block := fun a ha => by
              rcases HA3.out.at_ a ha with h | h
              · cases hA' : A' with
                | none => rw [hA'] at h; simp [Value.ownBlock] at h
                | some a' =>
                  have h1 := HNW.out.1 a' hA'
                  rw [hA'] at h
                  have h2 : a'.block = a.block := by simpa [Value.ownBlock] using h
                  omega
              · have := h.1
                omega
            have hnS : ∀ s ∈ L ++ [(⟨some ⟨wr.heap.size, 0, none⟩, 64, 64, zs⟩ : Sl)], ∀ a, s.a = some a → w.heap.size + 1 ≤ a.block := fun s hs a ha => by
              rcases List.mem_append.1 hs with hs | hs
              · exact HNW.out.2 s hs a ha
              · simp only [List.mem_singleton] at hs
                subst hs
                injection ha with ha
                rw [← ha]
                exact hol
            have hgs := GS.app (s := ⟨some ⟨wr.heap.size, 0, none⟩, 64, 64, zs⟩) (HG.out.below HBW.out) HA3.out HZB.out (away_new HG.out.lt (fun a ha => by injection ha with ha; rw [← ha]; exact Nat.le_refl _))
            have HGS := Keep.mk (hgs.set (p := ⟨w.heap.size, 0, none⟩) (Nat.lt_succ_self _) hnA hnS (.slice A3 (k + 1) c3))
            have OX4 := Keep.mk (OX3.out.set (j := 0) (by simp) (.slice A3 (k + 1) c3))
            simp only [List.set_cons_zero] at OX4
            have HB4 : Hid (Below w.heap.size w (w3.setCell ⟨w.heap.size, 0, none⟩ (.slice A3 (k + 1) c3))) := ((HB.out.trans (HBW.out.mono hz1)).trans (HA3.out.below.mono (Nat.le_succ _))).setCell (Nat.le_refl _) _
            have HNA := Keep.mk hnA
            have HNS := Keep.mk hnS
            clear hgs hnA hnS o30 of3
            go_wp2
            go_roundw
            case rel => exact ⟨k + 1, A3, c3, _, by omega, by go_num, HGS.out, by rw [List.map_append, HL.out, List.replicate_succ']; rfl, OX4.out, HB4.out, ⟨⟨HNA.out, HNS.out⟩⟩⟩
            case measure => simp [intOf]; omega
        · obtain rfl : m = k := by omega
          have o0 := OX.out.cell 0 _ rfl
          have o1 := OX.out.cell 1 _ rfl
          have o2 := OX.out.cell 2 _ rfl
          have o3 := OX.out.cell 3 _ rfl
          have of := OX.out.fz
          go_wp2
          refine bodyPost_ret (v := .tuple #[.agg #[.slice A' m c', .slice none 0 0, .int .i64 (-1), .bool false], .int .i64 0]) (by simp [results, Try.results19, go_sem, o0, o1, o2, o3]) rfl ?_
          have hX : Off [w.heap.size] wr _ := off_set4 wr w.heap.size (.slice A' m c') (.slice none 0 0) (.int .i64 (-1)) (.bool false)
          refine ⟨⟨A', m, c', L, none, 0, 0, [], -1, false⟩, rfl, ⟨HG.out.rs.off hX (fun b hb _ a ha => ?_) (fun b hb s hs _ a ha => ?_), RP.none_ _⟩, ?_, HB.out.trans (hX.below HB.out.size (by simp)), fun b hb _ => ⟨fun _ a ha => ?_, fun s hs _ a ha => ?_, (fun h => absurd h (by simp)), (fun p hp => by cases hp)⟩⟩
          · have := HNW.out.1 a ha
            simp at hb
            omega
          · have := HNW.out.2 s hs a ha
            simp at hb
            omega
          · simp only [Dk.m, HL.out]
            rfl
          · have := HNW.out.1 a ha
            omega
          · have := HNW.out.2 s hs a ha
            omega

set_option maxHeartbeats 1000000 in
theorem rnew_any (n : Int) (w : World) : Calls Try.prog 20 #[.int .i64 n] w (RetKE w (fun _ => True) (Dv.new n)) := by
  by_cases h1 : n < 1
  · have e1 : decide (n < 1) = true := decide_eq_true h1
    have HX := Keep.mk (new_bad (.inl h1))
    rw [HX.out]
    go_enter Try.func20, Try.ntmps20
    go_wp2
    refine bodyPost_ret (v := .tuple #[.agg #[.slice none 0 0, .slice none 0 0, .int .i64 0, .bool false], .int .i64 2]) (by simp [results, Try.results20, go_sem]) rfl ?_
    exact ⟨Dk.zero, rfl, Dk.zero_ok _, rfl, below_alloc1 _ _, fun b _ _ => Dk.zero_av b⟩
  · by_cases h2 : 4096 < n
    · have e1 : decide (n < 1) = false := decide_eq_false h1
      have e2 : decide (4096 < n) = true := decide_eq_true h2
      have HX := Keep.mk (new_bad (.inr h2))
      rw [HX.out]
      go_enter Try.func20, Try.ntmps20
      go_wp2
      refine bodyPost_ret (v := .tuple #[.agg #[.slice none 0 0, .slice none 0 0, .int .i64 0, .bool false], .int .i64 2]) (by simp [results, Try.results20, go_sem]) rfl ?_
      exact ⟨Dk.zero, rfl, Dk.zero_ok _, rfl, below_alloc1 _ _, fun b _ _ => Dk.zero_av b⟩
    · obtain ⟨m, rfl⟩ := Int.eq_ofNat_of_zero_le (show 0 ≤ n by omega)
      have e1 : decide ((m : Int) < 1) = false := decide_eq_false h1
      have e2 : decide (4096 < (m : Int)) = false := decide_eq_false h2
      have HX := Keep.mk (new_good (n := m) (by omega) (by omega))
      have hm : m ≤ 4096 := by omega
      rw [HX.out]
      have OX0 := Keep.mk (Bx.new (w.alloc (.cells #[.slice none 0 0, .slice none 0 0, .int .i64 0, .bool false] 25)) [.slice none 0 0, .slice none 0 0, .int .i64 (-1), .bool false] 25)
      rw [World.size_alloc] at OX0
      have UX0 := Keep.mk ((Bx.new w [.slice none 0 0, .slice none 0 0, .int .i64 0, .bool false] 25).alloc (.cells #[.slice none 0 0, .slice none 0 0, .int .i64 (-1), .bool false] 25))
      have HB0 : Hid (Below w.heap.size w ((w.alloc (.cells #[.slice none 0 0, .slice none 0 0, .int .i64 0, .bool false] 25)).alloc (.cells #[.slice none 0 0, .slice none 0 0, .int .i64 (-1), .bool false] 25))) := (below_alloc1 _ _).alloc (by simp) _
      have hz0 : w.heap.size + 2 = ((w.alloc (.cells #[.slice none 0 0, .slice none 0 0, .int .i64 0, .bool false] 25)).alloc (.cells #[.slice none 0 0, .slice none 0 0, .int .i64 (-1), .bool false] 25)).heap.size := by simp
      go_enter Try.func20, Try.ntmps20
      go_wp2
      generalize (w.alloc (.cells #[.slice none 0 0, .slice none 0 0, .int .i64 0, .bool false] 25)).alloc (.cells #[.slice none 0 0, .slice none 0 0, .int .i64 (-1), .bool false] 25) = w1 at *
      have HZ0 := Keep.mk hz0
      clear hz0 h1 h2
      go_loopw [5] (fun i wr => ∃ (k : Nat) (A' : Option Addr) (c' : Nat) (L : List Sl), k ≤ m ∧ i = .int .i64 k ∧ GS wr (w.heap.size + 2) A' k c' L ∧ L.map (·.l) = List.replicate k zs ∧ Bx wr (w.heap.size + 1) [.slice A' k c', .slice none 0 0, .int .i64 (-1), .bool false] ∧ Bx wr w.heap.size [.slice none 0 0, .slice none 0 0, .int .i64 0, .bool false] ∧ Below w.heap.size w wr ∧ Keep ((∀ a, A' = some a → w.heap.size + 2 ≤ a.block) ∧ ∀ s ∈ L, ∀ a, s.a = some a → w.heap.size + 2 ≤ a.block)) (fun i _ => m - (intOf i).toNat)
      case atStart => exact ⟨0, none, 0, [], Nat.zero_le _, rfl, GS.nil _ _, rfl, OX0.out, UX0.out, HB0.out, ⟨(fun a h => by cases h), (fun s h => by cases h)⟩⟩
      case round =>
        clear OX0 UX0 HB0
        obtain ⟨k, A', c', L, hk, rfl, hg, hL, hox, hux, hb, HNW⟩ := hrel
        have UX := Keep.mk hux
        have hul := hux.lt
        clear hux
        have HG := Keep.mk hg
        have HL := Keep.mk hL
        have OX := Keep.mk hox
        have HB := Lib.hid hb
        have hol := hox.lt
        clear hg hL hox hb
        by_cases hlt : k < m
        · have o0 := OX.out.cell 0 _ rfl
          have hmk := run_make64
          go_upto_region 7 with (fail)
          have HBW : Hid (Below wr.heap.size wr ((wr.alloc (.cells (zs.map bv).toArray 5)).alloc (.cells #[.slice (some ⟨wr.heap.size, 0, none⟩) 64 64] 26)).drew) := ((below_alloc1 _ _).alloc (by simp) _).trans (below_draws _ _ 1)
          have hrd := rd_one (wr.alloc (.cells (zs.map bv).toArray 5)) (.slice (some ⟨wr.heap.size, 0, none⟩) 64 64) 26
          rw [World.size_alloc] at hrd
          have HRD : Keep (Rd ((wr.alloc (.cells (zs.map bv).toArray 5)).alloc (.cells #[.slice (some ⟨wr.heap.size, 0, none⟩) 64 64] 26)).drew 1 (some ⟨wr.heap.size + 1, 0, none⟩) 1 1 [.slice (some ⟨wr.heap.size, 0, none⟩) 64 64]) := ⟨hrd.drewN 1⟩
          have HZB : Keep (RB ((wr.alloc (.cells (zs.map bv).toArray 5)).alloc (.cells #[.slice (some ⟨wr.heap.size, 0, none⟩) 64 64] 26)).drew (some ⟨wr.heap.size, 0, none⟩) 64 64 zs) := ⟨(wh_rb ((Wh.new wr 5 (zs.map bv)).below (below_alloc1 _ _)) zs_len (by omega)).below (below_draws _ _ 1)⟩
          clear hrd
          go_region_law (refine step_append_app _ (by rfl) (.tmp 20) (.tmp 22) 22 (by rfl) (w.heap.size + 2) 26 (.slice none 0 0) 1 24 Try.underlying22 sl_info rfl (by decide) (by decide) (.slice A' k c') k (L.map Sl.v) (by rfl) (HG.out.below HBW.out).tgt (some ⟨wr.heap.size + 1, 0, none⟩) 1 1 [.slice (some ⟨wr.heap.size, 0, none⟩) 64 64] (by rfl) HRD.out (by simp [Value.oneCell']) (by omega) (by have := HBW.out.size; omega) ?_; intro A3 c3 w3 ha; have HA3 := Keep.mk ha; have OX3 := Keep.mk ((OX.out.below HBW.out).below' ha.below (Nat.lt_succ_self _)); have o30 := OX3.out.cell 0 _ rfl; have of3 := OX3.out.fz 0; clear ha)
          all_goals
            have hsz := HBW.out.size
            have hz1 := HB.out.size
            have hnA : ∀ a, A3 = some a → w.heap.size + 2 ≤ a.block := fun a ha => by
              rcases HA3.out.at_ a ha with h | h
              · cases hA' : A' with
                | none => rw [hA'] at h; simp [Value.ownBlock] at h
                | some a' =>
                  have h1 := HNW.out.1 a' hA'
                  rw [hA'] at h
                  have h2 : a'.block = a.block := by simpa [Value.ownBlock] using h
                  omega
              · have := h.1
                omega
            have hnS : ∀ s ∈ L ++ [(⟨some ⟨wr.heap.size, 0, none⟩, 64, 64, zs⟩ : Sl)], ∀ a, s.a = some a → w.heap.size + 2 ≤ a.block := fun s hs a ha => by
              rcases List.mem_append.1 hs with hs | hs
              · exact HNW.out.2 s hs a ha
              · simp only [List.mem_singleton] at hs
                subst hs
                injection ha with ha
                rw [← ha]
                exact hol
            have hgs := GS.app (s := ⟨some ⟨wr.heap.size, 0, none⟩, 64, 64, zs⟩) (HG.out.below HBW.out) HA3.out HZB.out (away_new HG.out.lt (fun a ha => by injection ha with ha; rw [← ha]; exact Nat.le_refl _))
            have HGS := Keep.mk (hgs.set (p := ⟨w.heap.size + 1, 0, none⟩) (Nat.lt_succ_self _) hnA hnS (.slice A3 (k + 1) c3))
            have OX4 := Keep.mk (OX3.out.set (j := 0) (by simp) (.slice A3 (k + 1) c3))
            simp only [List.set_cons_zero] at OX4
            have HB4 : Hid (Below w.heap.size w (w3.setCell ⟨w.heap.size + 1, 0, none⟩ (.slice A3 (k + 1) c3))) := ((HB.out.trans (HBW.out.mono hz1)).trans (HA3.out.below.mono (by omega))).setCell (by simp) _
            have UX4 := Keep.mk (((UX.out.below HBW.out).below' HA3.out.below (by omega)).other (p := ⟨w.heap.size + 1, 0, none⟩) (by simp) (.slice A3 (k + 1) c3))
            have HNA := Keep.mk hnA
            have HNS := Keep.mk hnS
            clear hgs hnA hnS o30 of3
            go_wp2
            go_roundw
            case rel => exact ⟨k + 1, A3, c3, _, by omega, by go_num, HGS.out, by rw [List.map_append, HL.out, List.replicate_succ']; rfl, OX4.out, UX4.out, HB4.out, ⟨⟨HNA.out, HNS.out⟩⟩⟩
            case measure => simp [intOf]; omega
        · obtain rfl : m = k := by omega
          have o0 := OX.out.cell 0 _ rfl
          have o1 := OX.out.cell 1 _ rfl
          have o2 := OX.out.cell 2 _ rfl
          have o3 := OX.out.cell 3 _ rfl
          have u0 := UX.out.cell 0 _ rfl
          have u1 := UX.out.cell 1 _ rfl
          have u2 := UX.out.cell 2 _ rfl
          have u3 := UX.out.cell 3 _ rfl
          have uf := UX.out.fz
          go_wp2
          refine bodyPost_ret (v := .tuple #[.agg #[.slice A' m c', .slice none 0 0, .int .i64 (-1), .bool false], .int .i64 0]) (by simp [results, Try.results20, go_sem, u0, u1, u2, u3]) rfl ?_
          have hX : Off [w.heap.size] wr _ := off_set4 wr w.heap.size (.slice A' m c') (.slice none 0 0) (.int .i64 (-1)) (.bool false)
          refine ⟨⟨A', m, c', L, none, 0, 0, [], -1, false⟩, rfl, ⟨HG.out.rs.off hX (fun b hb _ a ha => ?_) (fun b hb s hs _ a ha => ?_), RP.none_ _⟩, ?_, HB.out.trans (hX.below HB.out.size (by simp)), fun b hb _ => ⟨fun _ a ha => ?_, fun s hs _ a ha => ?_, (fun h => absurd h (by simp)), (fun p hp => by cases hp)⟩⟩
          · have := HNW.out.1 a ha
            simp at hb
            omega
          · have := HNW.out.2 s hs a ha
            simp at hb
            omega
          · simp only [Dk.m, HL.out]
            rfl
          · have := HNW.out.1 a ha
            omega
          · have := HNW.out.2 s hs a ha
            omega
end Go.Proofs.Ytpekbcoclmhcnaa
