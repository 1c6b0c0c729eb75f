/- The reference's Check; Total; Same. -/
import Derived.Test.YtpppgceccikodaaDoorPlates
namespace Go.Proofs.YtpppgceccikodaaDoor
open Go.RowKit Go.Joins

theorem sized_true (x y : Int) (w : World) (h : (Pl.side x && Pl.side y) = true) : Calls Tryd.prog 28 #[.int .i64 x, .int .i64 y] w fun e w' => e = .returned (.bool true) ∧ w = w' := by
  simp [Pl.side] at h
  obtain ⟨⟨h1, h2⟩, h3, h4⟩ := h
  go_enter Tryd.func28, Tryd.ntmps28
  go_wp2
  go_ret
  exact ⟨rfl, rfl⟩
theorem sized_false (x y : Int) (w : World) (h : (Pl.side x && Pl.side y) = false) : Calls Tryd.prog 28 #[.int .i64 x, .int .i64 y] w fun e w' => e = .returned (.bool false) ∧ w = w' := by
  simp [Pl.side] at h
  by_cases h1 : 1 ≤ x
  · by_cases h2 : x ≤ 256
    · by_cases h3 : 1 ≤ y
      · have h4 : ¬ y ≤ 256 := by omega
        clear h
        go_enter Tryd.func28, Tryd.ntmps28
        go_wp2
        go_ret
        exact ⟨rfl, rfl⟩
      · clear h
        go_enter Tryd.func28, Tryd.ntmps28
        go_wp2
        go_ret
        exact ⟨rfl, rfl⟩
    · clear h
      go_enter Tryd.func28, Tryd.ntmps28
      go_wp2
      go_ret
      exact ⟨rfl, rfl⟩
  · clear h
    go_enter Tryd.func28, Tryd.ntmps28
    go_wp2
    go_ret
    exact ⟨rfl, rfl⟩

set_option maxHeartbeats 1000000 in
theorem rcheck_any (W H : Int) (A : Option Addr) (n c : Nat) (l : List Int) (w : World) (hl : RI w A n c l) :
    Calls Tryd.prog 12 #[plv W H A n c] w fun e w' => e = .returned (.int .i64 (Pl.check W H l)) ∧ Below w.heap.size w w' := by
  have hlen := hl.len
  have hbig := Nat.le_trans hl.cap hl.big
  unfold maxLen at hbig
  unfold plv
  have HL := Lib.hid hl
  clear hl
  cases h12 : (Pl.side W && Pl.side H) with
  | false =>
    have HC : Keep (Pl.check W H l = 2) := ⟨by unfold Pl.check; rw [h12]; simp⟩
    have HS := Lib.hid (fun w => sized_false W H w h12)
    clear h12
    go_enter Tryd.func12, Tryd.ntmps12
    go_wp2_with fail
    refine (HS.out _).mono ?_
    rintro e w' ⟨rfl, rfl⟩
    go_wp2
    go_ret
    exact ⟨by rw [HC.out]; rfl, below_alloc1 _ _⟩
  | true =>
      have HS := Lib.hid (fun w => sized_true W H w h12)
      obtain ⟨h1, h2⟩ : Pl.side W = true ∧ Pl.side H = true := by simpa using h12
      clear h12
      have hm := Pl.side_mul (w := W) (h := H) (by simpa [Pl.side] using h1) (by simpa [Pl.side] using h2)
      obtain ⟨hm1, hm2⟩ := hm
      by_cases h3 : (n : Int) = W * H
      · have HC : Keep (Pl.check W H l = if l.all Pl.ink then 0 else 2) := ⟨check_take h1 h2 h3 hlen⟩
        have b3 : ((n : Int) != W * H) = false := by simp [h3]
        clear h1 h2 h3
        go_enter Tryd.func12, Tryd.ntmps12
        go_wp2_with fail
        refine (HS.out _).mono ?_
        rintro e w' ⟨rfl, rfl⟩
        go_wp2
        go_loop [3] (fun i => ∃ k : Nat, k ≤ n ∧ i = .int .i64 k ∧ (l.take k).all Pl.ink = true) (fun i => n - (intOf i).toNat)
        case atStart => exact ⟨0, Nat.zero_le _, rfl, rfl⟩
        case round =>
          obtain ⟨k, hk, rfl, ha⟩ := hrel
          have HA := Keep.mk ha
          clear ha
          by_cases hlt : k < n
          · obtain ⟨b, o, rfl, hbl, hck0⟩ := HL.out.at_ (k := k) (by omega)
            have hck : (w.alloc (.cells #[.int .i64 W, .int .i64 H, .slice (some ⟨b, o, none⟩) n c] 24)).cell? ⟨b, o + k, none⟩ = some (.int .i64 l[k]) := by rw [World.cell?_alloc_past _ _ _ hbl]; exact hck0
            have HT : Keep (Pl.ink l[k] = true → (l.take (k + 1)).all Pl.ink = true) := ⟨all_take (by omega) HA.out⟩
            have HN : Keep (Pl.ink l[k] = false → l.all Pl.ink = false) := ⟨all_not (by omega)⟩
            generalize l[k] = y at *
            clear hck0
            by_cases hy0 : y < 0
            · have HF : Keep (l.all Pl.ink = false) := ⟨HN.out (by simp [Pl.ink]; omega)⟩
              go_wp2
              go_ret
              exact ⟨by rw [HC.out, HF.out]; rfl, below_alloc1 _ _⟩
            · by_cases hy1 : 100 < y
              · have HF : Keep (l.all Pl.ink = false) := ⟨HN.out (by simp [Pl.ink]; omega)⟩
                go_wp2
                go_ret
                exact ⟨by rw [HC.out, HF.out]; rfl, below_alloc1 _ _⟩
              · have HF : Keep ((l.take (k + 1)).all Pl.ink = true) := ⟨HT.out (by simp [Pl.ink]; omega)⟩
                go_wp2
                go_round
                case rel => exact ⟨k + 1, by omega, by go_num, HF.out⟩
                case measure => simp [intOf]; omega
          · have HF : Keep (l.all Pl.ink = true) := ⟨by have h := HA.out; rwa [List.take_of_length_le (by omega)] at h⟩
            go_wp2
            go_ret
            exact ⟨by rw [HC.out, HF.out]; rfl, below_alloc1 _ _⟩
      · have HC : Keep (Pl.check W H l = 1) := ⟨by unfold Pl.check; rw [h1, h2, hlen]; simp [h3]⟩
        have b3 : ((n : Int) != W * H) = true := by simp [h3]
        clear h1 h2 h3
        go_enter Tryd.func12, Tryd.ntmps12
        go_wp2_with fail
        refine (HS.out _).mono ?_
        rintro e w' ⟨rfl, rfl⟩
        go_wp2
        go_ret
        exact ⟨by rw [HC.out]; rfl, below_alloc1 _ _⟩

theorem sum_take (l : List Int) (k : Nat) (h : k < l.length) : (l.take (k + 1)).sum = (l.take k).sum + l[k] := by
  rw [List.take_succ_eq_append_getElem h, List.sum_append]
  simp
theorem sum_bound (l : List Int) (hl : ∀ x ∈ l, 0 ≤ x ∧ x ≤ 100) : 0 ≤ l.sum ∧ l.sum ≤ 100 * l.length := by
  induction l with
  | nil => simp
  | cons x l ih =>
    have h1 := hl x (by simp)
    have h2 := ih (fun y hy => hl y (by simp [hy]))
    rw [List.sum_cons, List.length_cons]
    omega

set_option maxHeartbeats 1000000 in
theorem total_any (W H : Int) (A : Option Addr) (n c : Nat) (l : List Int) (w : World) (hl : RI w A n c l) :
    Calls Tryd.prog 13 #[plv W H A n c] w fun e w' => e = .returned (.int .i64 (Pl.total W H l)) ∧ Below w.heap.size w w' := by
  have hlen := hl.len
  have HK := Lib.hid (fun w (h : RI w A n c l) => check_any W H A n c l w h)
  unfold plv at *
  have HL := Lib.hid hl
  clear hl
  by_cases h0 : Pl.check W H l = 0
  · obtain ⟨hw, hh, hs, hi⟩ := Pl.check_ok h0
    have hm := Pl.side_mul hw hh
    have hn : n ≤ 65536 := by omega
    have HT : Keep (Pl.total W H l = l.sum) := ⟨by unfold Pl.total; rw [h0]; simp⟩
    have HI : Keep (∀ x ∈ l, 0 ≤ x ∧ x ≤ 100) := ⟨hi⟩
    rw [h0] at HK
    clear h0 hw hh hs hi hm
    go_enter Tryd.func13, Tryd.ntmps13
    go_wp2_with fail
    refine (HK.out _ (HL.out.below (below_alloc1 _ _))).mono ?_
    rintro e w1 ⟨rfl, hb⟩
    have HB : Hid (Below w.heap.size w w1) := (below_alloc1 _ _).trans (hb.mono (by simp))
    have HBB := Lib.hid hb
    have k2 : w1.cell? ⟨w.heap.size, 2, none⟩ = some (.slice A n c) := by rw [hb.cell (p := ⟨w.heap.size, 2, none⟩) (by simp)]; simp
    have hz : w.heap.size < w1.heap.size := by have := hb.size; simp at this; omega
    clear hb
    go_wp2
    go_loop [2, 11] (fun t i => ∃ k : Nat, k ≤ n ∧ i = .int .i64 k ∧ t = .int .i64 (l.take k).sum) (fun t i => n - (intOf i).toNat)
    case atStart => exact ⟨0, Nat.zero_le _, rfl, rfl⟩
    case round =>
      obtain ⟨k, hk, rfl, rfl⟩ := hrel
      have hsb := sum_bound (l.take k) (fun x hx => HI.out x (List.mem_of_mem_take hx))
      have hlk : (l.take k).length ≤ k := List.length_take_le _ _
      by_cases hlt : k < n
      · obtain ⟨b, o, rfl, hbl, hck⟩ := (HL.out.below HB.out).at_ (k := k) (by omega)
        have HS : Keep ((l.take (k + 1)).sum = (l.take k).sum + l[k]) := ⟨sum_take l k (by omega)⟩
        have hy := HI.out l[k] (List.getElem_mem _)
        generalize l[k] = y at *
        generalize hq : (l.take k).sum = q at *
        clear hq
        go_wp2
        go_round
        case rel => exact ⟨k + 1, by omega, by go_num, by rw [HS.out]⟩
        case measure => simp [intOf]; omega
      · have HF : Keep ((l.take k).sum = l.sum) := ⟨by rw [List.take_of_length_le (by omega)]⟩
        clear hsb hlk
        go_wp2
        go_ret
        exact ⟨by rw [HT.out, ← HF.out]; rfl, HB.out⟩
  · have b0 : (Pl.check W H l != 0) = true := by simp [h0]
    have HT : Keep (Pl.total W H l = 0) := ⟨by unfold Pl.total; rw [if_pos h0]⟩
    generalize Pl.check W H l = q at *
    clear h0
    go_enter Tryd.func13, Tryd.ntmps13
    go_wp2_with fail
    refine (HK.out _ (HL.out.below (below_alloc1 _ _))).mono ?_
    rintro e w1 ⟨rfl, hb⟩
    have HB : Hid (Below w.heap.size w w1) := (below_alloc1 _ _).trans (hb.mono (by simp))
    clear hb
    go_wp2
    go_ret
    exact ⟨by rw [HT.out]; rfl, HB.out⟩

set_option maxHeartbeats 1000000 in
theorem rtotal_any (W H : Int) (A : Option Addr) (n c : Nat) (l : List Int) (w : World) (hl : RI w A n c l) :
    Calls Tryd.prog 14 #[plv W H A n c] w fun e w' => e = .returned (.int .i64 (Pl.total W H l)) ∧ Below w.heap.size w w' := by
  have hlen := hl.len
  have HK := Lib.hid (fun w (h : RI w A n c l) => rcheck_any W H A n c l w h)
  unfold plv at *
  have HL := Lib.hid hl
  clear hl
  by_cases h0 : Pl.check W H l = 0
  · obtain ⟨hw, hh, hs, hi⟩ := Pl.check_ok h0
    have hm := Pl.side_mul hw hh
    have hn : n ≤ 65536 := by omega
    have HT : Keep (Pl.total W H l = l.sum) := ⟨by unfold Pl.total; rw [h0]; simp⟩
    have HI : Keep (∀ x ∈ l, 0 ≤ x ∧ x ≤ 100) := ⟨hi⟩
    rw [h0] at HK
    clear h0 hw hh hs hi hm
    go_enter Tryd.func14, Tryd.ntmps14
    go_wp2_with fail
    refine (HK.out _ (HL.out.below (below_alloc1 _ _))).mono ?_
    rintro e w1 ⟨rfl, hb⟩
    have HB : Hid (Below w.heap.size w w1) := (below_alloc1 _ _).trans (hb.mono (by simp))
    have HBB := Lib.hid hb
    have k2 : w1.cell? ⟨w.heap.size, 2, none⟩ = some (.slice A n c) := by rw [hb.cell (p := ⟨w.heap.size, 2, none⟩) (by simp)]; simp
    have hz : w.heap.size < w1.heap.size := by have := hb.size; simp at this; omega
    clear hb
    go_wp2
    go_loop [3, 4] (fun t i => ∃ k : Nat, k ≤ n ∧ i = .int .i64 k ∧ t = .int .i64 (l.take k).sum) (fun t i => n - (intOf i).toNat)
    case atStart => exact ⟨0, Nat.zero_le _, rfl, rfl⟩
    case round =>
      obtain ⟨k, hk, rfl, rfl⟩ := hrel
      have hsb := sum_bound (l.take k) (fun x hx => HI.out x (List.mem_of_mem_take hx))
      have hlk : (l.take k).length ≤ k := List.length_take_le _ _
      by_cases hlt : k < n
      · obtain ⟨b, o, rfl, hbl, hck⟩ := (HL.out.below HB.out).at_ (k := k) (by omega)
        have HS : Keep ((l.take (k + 1)).sum = (l.take k).sum + l[k]) := ⟨sum_take l k (by omega)⟩
        have hy := HI.out l[k] (List.getElem_mem _)
        generalize l[k] = y at *
        generalize hq : (l.take k).sum = q at *
        clear hq
        go_wp2
        go_round
        case rel => exact ⟨k + 1, by omega, by go_num, by rw [HS.out]⟩
        case measure => simp [intOf]; omega
      · have HF : Keep ((l.take k).sum = l.sum) := ⟨by rw [List.take_of_length_le (by omega)]⟩
        clear hsb hlk
        go_wp2
        go_ret
        exact ⟨by rw [HT.out, ← HF.out]; rfl, HB.out⟩
  · have b0 : (Pl.check W H l != 0) = true := by simp [h0]
    have HT : Keep (Pl.total W H l = 0) := ⟨by unfold Pl.total; rw [if_pos h0]⟩
    generalize Pl.check W H l = q at *
    clear h0
    go_enter Tryd.func14, Tryd.ntmps14
    go_wp2_with fail
    refine (HK.out _ (HL.out.below (below_alloc1 _ _))).mono ?_
    rintro e w1 ⟨rfl, hb⟩
    have HB : Hid (Below w.heap.size w w1) := (below_alloc1 _ _).trans (hb.mono (by simp))
    clear hb
    go_wp2
    go_ret
    exact ⟨by rw [HT.out]; rfl, HB.out⟩

set_option maxHeartbeats 1000000 in
/-- The reference's Same, at two plates that are equal. -/
theorem psame_true (W H : Int) (A : Option Addr) (n c : Nat) (B : Option Addr) (m d : Nat) (l : List Int) (w : World) (hl : RI w A n c l) (hl' : RI w B m d l) :
    Calls Tryd.prog 19 #[plv W H A n c, plv W H B m d] w fun e w' => e = .returned (.bool true) ∧ Below w.heap.size w w' := by
  have hlen := hl.len
  have hlen' := hl'.len
  have hbig := Nat.le_trans hl.cap hl.big
  unfold maxLen at hbig
  unfold plv
  obtain rfl : n = m := by omega
  have h0 : ((n : Int) != (n : Int)) = false := by simp
  have h1 : (W != W) = false := by simp
  have h2 : (H != H) = false := by simp
  have HL := Lib.hid hl
  have HL' := Lib.hid hl'
  clear hl hl'
  go_enter Tryd.func19, Tryd.ntmps19
  go_wp2
  have HB : Hid (Below w.heap.size w ((w.alloc (.cells #[.int .i64 W, .int .i64 H, .slice A n c] 24)).alloc (.cells #[.int .i64 W, .int .i64 H, .slice B n d] 24))) := (below_alloc1 _ _).alloc (by simp) _
  have c1 : ((w.alloc (.cells #[.int .i64 W, .int .i64 H, .slice A n c] 24)).alloc (.cells #[.int .i64 W, .int .i64 H, .slice B n d] 24)).cell? ⟨w.heap.size, 2, none⟩ = some (.slice A n c) := by simp
  have c2 : ((w.alloc (.cells #[.int .i64 W, .int .i64 H, .slice A n c] 24)).alloc (.cells #[.int .i64 W, .int .i64 H, .slice B n d] 24)).cell? ⟨w.heap.size + 1, 2, none⟩ = some (.slice B n d) := by simp
  generalize (w.alloc (.cells #[.int .i64 W, .int .i64 H, .slice A n c] 24)).alloc (.cells #[.int .i64 W, .int .i64 H, .slice B n d] 24) = w1 at *
  go_loopw [5] (fun i wr => ∃ k q : Nat, k ≤ n ∧ i = .int .i64 k ∧ wr = w1.drewN q) (fun i _ => n - (intOf i).toNat)
  case atStart => exact ⟨0, 0, Nat.zero_le _, rfl, rfl⟩
  case round =>
    obtain ⟨k, q, hk, rfl, rfl⟩ := hrel
    by_cases hlt : k < n
    · obtain ⟨b, o, rfl, _, hck⟩ := (HL.out.below HB.out).at_ (k := k) (by omega)
      obtain ⟨b', o', rfl, _, hck'⟩ := (HL'.out.below HB.out).at_ (k := k) (by omega)
      generalize l[k] = y at *
      have hy : (y != y) = false := by simp
      go_wp2
      go_quiet (fail)
      go_wp2
      go_roundw
      case rel => exact ⟨k + 1, _, by omega, by go_num, rfl⟩
      case measure => simp [intOf]; omega
    · go_wp2
      go_ret
      exact ⟨rfl, HB.out.trans (below_draws _ _ _)⟩
end Go.Proofs.YtpppgceccikodaaDoor
