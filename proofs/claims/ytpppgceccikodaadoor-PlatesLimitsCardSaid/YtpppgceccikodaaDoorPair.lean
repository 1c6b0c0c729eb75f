/- plates.pair and the reference's two. -/
import Derived.Test.YtpppgceccikodaaDoorPlt
import Derived.Test.YtpppgceccikodaaDoorInt
import Derived.Test.YtpppgceccikodaaDoorRef02b
namespace Go.Proofs.YtpppgceccikodaaDoor
open Go.RowKit Go.Joins

/-- What plates.pair leaves: two numbers, and what is behind them. -/
def RetP (w0 w : World) (l : List UInt8) (e : Ending) (w' : World) : Prop := ∃ A n c, e = .returned (.tuple #[.agg #[.int .i64 (Pl.two l).1, .int .i64 (Pl.two l).2.1], .slice A n c, .int .i64 (Pl.two l).2.2.2]) ∧ RB w0 A n c (if (Pl.two l).2.2.2 = 0 then l.drop (Pl.two l).2.2.1 else []) ∧ Below w.heap.size w w'

set_option maxHeartbeats 1000000 in
theorem pair_any (A : Option Addr) (n c : Nat) (l : List UInt8) (w0 w : World) (hl : RB w0 A n c l) (hb0 : Below w0.heap.size w0 w) : Calls Tryd.prog 33 #[.slice A n c] w (RetP w0 w l) := by
  have HB0 := Lib.hid hb0
  clear hb0
  have hcap := hl.cap
  have hlen := hl.len
  have HL := Lib.hid hl
  clear hl
  go_enter Tryd.func33, Tryd.ntmps33
  go_wp2
  go_loopw [0, 9] (fun v i wr => ∃ (a b : Int) (A' : Option Addr) (n' c' : Nat) (r : List UInt8), v = .slice A' n' c' ∧ RB w0 A' n' c' r ∧ wr = w.alloc (.cells #[.int .i64 a, .int .i64 b] 51) ∧
    ((i = .int .i64 0 ∧ a = 0 ∧ b = 0 ∧ r = l) ∨ (i = .int .i64 1 ∧ b = 0 ∧ ∃ u, V.dec l = (a, u, 0) ∧ r = l.drop u) ∨ (i = .int .i64 2 ∧ ∃ u, Pl.two l = (a, b, u, 0) ∧ r = l.drop u))) (fun _ i _ => 2 - (intOf i).toNat)
  case atStart => exact ⟨0, 0, A, n, c, l, rfl, HL.out, rfl, .inl ⟨rfl, rfl, rfl, rfl⟩⟩
  case round =>
    obtain ⟨a, b, A', n', c', r, rfl, hr, rfl, h⟩ := hrel
    have HR := Lib.hid hr
    have hn' := hr.len
    have hc' := hr.cap
    have HR1 : Hid (∀ o, RB (w.alloc o) A' n' c' r) := fun o => (hr.below HB0.out).below (below_alloc1 _ _)
    have HI : Hid (∀ o, Calls Tryd.prog 43 #[.slice A' n' c'] (w.alloc o) (RetD (w.alloc o) (V.dec r))) := fun o => int_any A' n' c' r _ (HR1.out o)
    clear hr
    have hb1 : Hid (∀ o, Below w.heap.size w (w.alloc o)) := fun o => below_alloc1 _ _
    rcases h with ⟨rfl, rfl, rfl, rfl⟩ | ⟨rfl, rfl, u, hu, hru⟩ | ⟨rfl, u, hu, hru⟩
    · obtain ⟨d1, d2, d3, hd⟩ : ∃ d1 d2 d3, V.dec r = (d1, d2, d3) := ⟨_, _, _, rfl⟩
      rw [hd] at HI
      by_cases h3 : d3 = 0
      · subst h3
        have hok := V.dec_ok hd
        have hsl := run_from_b A' n' c' d2 (d2 : Int) rfl (by omega)
        have HC : Hid (RB w0 (cutA A' d2 c' 1) (n' - d2) (c' - d2) (r.drop d2)) := by
          have h := HR.out.cut (i := d2) (j := n') (m := c') (by omega) (Nat.le_refl _) hc' (Nat.le_refl _)
          rwa [List.take_of_length_le (by omega)] at h
        have HD := Keep.mk hd
        have hd2 : d2 ≤ n' := by omega
        clear hok hd
        go_wp2_with fail
        refine (HI.out _).mono ?_
        rintro e w' ⟨rfl, rfl⟩
        go_wp2
        go_roundw
        case rel => exact ⟨d1, 0, _, _, _, _, rfl, HC.out, rfl, .inr (.inl ⟨rfl, rfl, d2, HD.out, rfl⟩)⟩
        case measure => simp [intOf]
      · have b3 : (d3 != 0) = true := by simp [h3]
        have HT := Keep.mk (Pl.two_e1 hd h3)
        have H3 := Keep.mk h3
        clear hd h3
        go_wp2_with fail
        refine (HI.out _).mono ?_
        rintro e w' ⟨rfl, rfl⟩
        go_wp2
        refine bodyPost_ret (v := .tuple #[.agg #[.int .i64 0, .int .i64 0], .slice none 0 0, .int .i64 d3]) (by simp [results, Tryd.results33, go_sem]) rfl ?_
        refine ⟨none, 0, 0, by rw [HT.out], ?_, hb1.out _⟩
        rw [HT.out, if_neg H3.out]
        exact RB.none_ _
    · obtain ⟨d1, d2, d3, hd⟩ : ∃ d1 d2 d3, V.dec r = (d1, d2, d3) := ⟨_, _, _, rfl⟩
      rw [hd] at HI
      have HRU := Keep.mk hru
      have HU := Keep.mk hu
      clear hru hu
      by_cases h3 : d3 = 0
      · subst h3
        have hok := V.dec_ok hd
        have hsl := run_from_b A' n' c' d2 (d2 : Int) rfl (by omega)
        have HC : Hid (RB w0 (cutA A' d2 c' 1) (n' - d2) (c' - d2) (r.drop d2)) := by
          have h := HR.out.cut (i := d2) (j := n') (m := c') (by omega) (Nat.le_refl _) hc' (Nat.le_refl _)
          rwa [List.take_of_length_le (by omega)] at h
        have HT := Keep.mk (Pl.two_mk HU.out (by rw [← HRU.out]; exact hd))
        have hd2 : d2 ≤ n' := by omega
        have HDD : Keep (r.drop d2 = l.drop (u + d2)) := ⟨by rw [HRU.out, List.drop_drop]⟩
        clear hok hd
        go_wp2_with fail
        refine (HI.out _).mono ?_
        rintro e w' ⟨rfl, rfl⟩
        go_wp2
        go_roundw
        case rel => exact ⟨a, d1, _, _, _, _, rfl, HC.out, rfl, .inr (.inr ⟨rfl, u + d2, HT.out, HDD.out⟩)⟩
        case measure => simp [intOf]
      · have b3 : (d3 != 0) = true := by simp [h3]
        have HT := Keep.mk (Pl.two_e2 HU.out (by rw [← HRU.out]; exact hd) h3)
        have H3 := Keep.mk h3
        clear hd h3
        go_wp2_with fail
        refine (HI.out _).mono ?_
        rintro e w' ⟨rfl, rfl⟩
        go_wp2
        refine bodyPost_ret (v := .tuple #[.agg #[.int .i64 0, .int .i64 0], .slice none 0 0, .int .i64 d3]) (by simp [results, Tryd.results33, go_sem]) rfl ?_
        refine ⟨none, 0, 0, by rw [HT.out], ?_, hb1.out _⟩
        rw [HT.out, if_neg H3.out]
        exact RB.none_ _
    · have HT := Keep.mk hu
      have HRU := Keep.mk hru
      clear hu hru
      go_wp2
      refine bodyPost_ret (v := .tuple #[.agg #[.int .i64 a, .int .i64 b], .slice A' n' c', .int .i64 0]) (by simp [results, Tryd.results33, go_sem]) rfl ?_
      refine ⟨A', n', c', by rw [HT.out], ?_, hb1.out _⟩
      rw [HT.out, if_pos rfl, ← HRU.out]
      exact HR.out

/-- What the reference's two leaves. -/
def RetQ (w0 w : World) (l : List UInt8) (e : Ending) (w' : World) : Prop := ∃ A n c, e = .returned (.tuple #[.int .i64 (Pl.two l).1, .int .i64 (Pl.two l).2.1, .slice A n c, .int .i64 (Pl.two l).2.2.2]) ∧ RB w0 A n c (if (Pl.two l).2.2.2 = 0 then l.drop (Pl.two l).2.2.1 else []) ∧ Below w.heap.size w w'
theorem results_tmp4' {fn : Func} {t u v x : Tmp} (h : fn.results = #[.tmp t, .tmp u, .tmp v, .tmp x]) (tmps : Array Value) (P : Program) (w : World) :
    (results fn tmps).run P w = .ok (.tuple #[tmps.getD t undef, tmps.getD u undef, tmps.getD v undef, tmps.getD x undef]) w := by simp [results, h]
set_option maxHeartbeats 1000000 in
theorem two_any (A : Option Addr) (n c : Nat) (l : List UInt8) (w0 w : World) (hl : RB w0 A n c l) (hb0 : Below w0.heap.size w0 w) : Calls Tryd.prog 35 #[.slice A n c] w (RetQ w0 w l) := by
  have hcap := hl.cap
  have hlen := hl.len
  have hbig := hl.big
  unfold maxLen at hbig
  have HL := Lib.hid hl
  obtain ⟨d1, d2, d3, hd⟩ : ∃ d1 d2 d3, V.dec l = (d1, d2, d3) := ⟨_, _, _, rfl⟩
  have HI : Hid (Calls Tryd.prog 44 #[.slice A n c] w (RetD w (V.dec l))) := rint_any A n c l w (hl.below hb0)
  rw [hd] at HI
  clear hl
  by_cases h3 : d3 = 0
  · subst h3
    have hok := V.dec_ok hd
    have hsl := run_from_b A n c d2 (d2 : Int) rfl (by omega)
    have HC : Hid (RB w0 (cutA A d2 c 1) (n - d2) (c - d2) (l.drop d2)) := by
      have h := HL.out.cut (i := d2) (j := n) (m := c) (by omega) (Nat.le_refl _) hcap (Nat.le_refl _)
      rwa [List.take_of_length_le (by omega)] at h
    obtain ⟨f1, f2, f3, hf⟩ : ∃ f1 f2 f3, V.dec (l.drop d2) = (f1, f2, f3) := ⟨_, _, _, rfl⟩
    have HI2 := Lib.hid (rint_any _ _ _ _ w (HC.out.below hb0))
    rw [hf] at HI2
    have hd2 : d2 ≤ n := by omega
    by_cases h4 : f3 = 0
    · subst h4
      have hok2 := V.dec_ok hf
      rw [List.length_drop] at hok2
      have hdf : d2 + f2 ≤ n := by omega
      have HT := Keep.mk (Pl.two_mk hd hf)
      have hsl2 := run_from_b A n c (d2 + f2) ((d2 : Int) + (f2 : Int)) (by simp) hdf
      have HC2 : Hid (RB w0 (cutA A (d2 + f2) c 1) (n - (d2 + f2)) (c - (d2 + f2)) (l.drop (d2 + f2))) := by
        have h := HL.out.cut (i := d2 + f2) (j := n) (m := c) (by omega) (Nat.le_refl _) hcap (Nat.le_refl _)
        rwa [List.take_of_length_le (by omega)] at h
      have hwrap : IntKind.i64.wrap ((d2 : Int) + (f2 : Int)) = (d2 : Int) + (f2 : Int) := IntWalk.i64_in _ (by omega)
      clear hok hok2 hd hf
      go_enter Tryd.func35, Tryd.ntmps35
      go_wp2_with fail
      refine HI.out.mono ?_
      rintro e w' ⟨rfl, rfl⟩
      go_wp2_with fail
      refine HI2.out.mono ?_
      rintro e w' ⟨rfl, rfl⟩
      go_wp2
      go_quiet (fail)
      go_wp2
      refine bodyPost_ret (results_tmp4' rfl _ _ _) rfl ?_
      refine ⟨cutA A (d2 + f2) c 1, n - (d2 + f2), c - (d2 + f2), by rw [HT.out]; rfl, ?_, below_draws _ _ _⟩
      rw [HT.out, if_pos rfl]
      exact HC2.out
    · have b4 : (f3 != 0) = true := by simp [h4]
      have HT := Keep.mk (Pl.two_e2 hd hf h4)
      have H4 := Keep.mk h4
      clear hok hd hf h4
      go_enter Tryd.func35, Tryd.ntmps35
      go_wp2_with fail
      refine HI.out.mono ?_
      rintro e w' ⟨rfl, rfl⟩
      go_wp2_with fail
      refine HI2.out.mono ?_
      rintro e w' ⟨rfl, rfl⟩
      go_wp2
      refine bodyPost_ret (results_tmp4' rfl _ _ _) rfl ?_
      refine ⟨none, 0, 0, by rw [HT.out]; rfl, ?_, Below.refl _ _⟩
      rw [HT.out, if_neg H4.out]
      exact RB.none_ _
  · have b3 : (d3 != 0) = true := by simp [h3]
    have HT := Keep.mk (Pl.two_e1 hd h3)
    have H3 := Keep.mk h3
    clear hd h3
    go_enter Tryd.func35, Tryd.ntmps35
    go_wp2_with fail
    refine HI.out.mono ?_
    rintro e w' ⟨rfl, rfl⟩
    go_wp2
    refine bodyPost_ret (results_tmp4' rfl _ _ _) rfl ?_
    refine ⟨none, 0, 0, by rw [HT.out]; rfl, ?_, Below.refl _ _⟩
    rw [HT.out, if_neg H3.out]
    exact RB.none_ _
end Go.Proofs.YtpppgceccikodaaDoor
