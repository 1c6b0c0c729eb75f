/- plates.Check, plates.Total and the reference's. -/
import Derived.Test.YtpppgceccikodaaDoorInts
import Derived.Test.YtpppgceccikodaaDoorPlt
import Derived.Deep.QuietTactic
import Derived.BigQuiet
namespace Go.Proofs.YtpppgceccikodaaDoor
open Go.RowKit Go.Joins

/-- A plate as a value. -/
def plv (W H : Int) (A : Option Addr) (n c : Nat) : Value := .agg #[.int .i64 W, .int .i64 H, .slice A n c]

theorem side_true (x : Int) (w : World) (h : Pl.side x = true) : Calls Tryd.prog 27 #[.int .i64 x] w fun e w' => e = .returned (.bool true) ∧ w = w' := by
  simp [Pl.side] at h
  obtain ⟨h1, h2⟩ := h
  go_enter Tryd.func27, Tryd.ntmps27
  go_wp2
  go_ret
  exact ⟨rfl, rfl⟩
theorem side_false (x : Int) (w : World) (h : Pl.side x = false) : Calls Tryd.prog 27 #[.int .i64 x] w fun e w' => e = .returned (.bool false) ∧ w = w' := by
  simp [Pl.side] at h
  by_cases h1 : 1 ≤ x
  · have h2 : ¬ x ≤ 256 := by omega
    clear h
    go_enter Tryd.func27, Tryd.ntmps27
    go_wp2
    go_ret
    exact ⟨rfl, rfl⟩
  · clear h
    go_enter Tryd.func27, Tryd.ntmps27
    go_wp2
    go_ret
    exact ⟨rfl, rfl⟩

theorem check_take {W H : Int} {l : List Int} {n : Nat} (h1 : Pl.side W = true) (h2 : Pl.side H = true) (h3 : (n : Int) = W * H) (hl : l.length = n) : Pl.check W H l = if l.all Pl.ink then 0 else 2 := by
  unfold Pl.check
  rw [h1, h2, hl]
  simp [h3]
theorem all_take {l : List Int} {k : Nat} (h : k < l.length) (ha : (l.take k).all Pl.ink = true) (hk : Pl.ink l[k] = true) : (l.take (k + 1)).all Pl.ink = true := by
  rw [List.take_succ_eq_append_getElem h, List.all_append, ha]
  simp [hk]
theorem all_not {l : List Int} {k : Nat} (h : k < l.length) (hk : Pl.ink l[k] = false) : l.all Pl.ink = false := by
  rw [← Bool.not_eq_true, List.all_eq_true]
  intro ha
  have := ha l[k] (List.getElem_mem h)
  rw [hk] at this
  cases this

set_option maxHeartbeats 1000000 in
theorem check_any (W H : Int) (A : Option Addr) (n c : Nat) (l : List Int) (w : World) (hl : RI w A n c l) :
    Calls Tryd.prog 11 #[plv W H A n c] w fun e w' => e = .returned (.int .i64 (Pl.check W H l)) ∧ Below w.heap.size w w' := by
  have hlen := hl.len
  have hbig := Nat.le_trans hl.cap hl.big
  unfold maxLen at hbig
  unfold plv
  have HL := Lib.hid hl
  clear hl
  cases h1 : Pl.side W with
  | false =>
    have HC : Keep (Pl.check W H l = 2) := ⟨by unfold Pl.check; rw [h1]; simp⟩
    have HS := Lib.hid (fun w => side_false W w h1)
    clear h1
    go_enter Tryd.func11, Tryd.ntmps11
    go_wp2_with fail
    refine (HS.out _).mono ?_
    rintro e w' ⟨rfl, rfl⟩
    go_wp2
    go_ret
    exact ⟨by rw [HC.out]; rfl, below_alloc1 _ _⟩
  | true =>
    cases h2 : Pl.side H with
    | false =>
      have HC : Keep (Pl.check W H l = 2) := ⟨by unfold Pl.check; rw [h1, h2]; simp⟩
      have HS := Lib.hid (fun w => side_true W w h1)
      have HS2 := Lib.hid (fun w => side_false H w h2)
      clear h1 h2
      go_enter Tryd.func11, Tryd.ntmps11
      go_wp2_with fail
      refine (HS.out _).mono ?_
      rintro e w' ⟨rfl, rfl⟩
      go_wp2_with fail
      refine (HS2.out _).mono ?_
      rintro e w' ⟨rfl, rfl⟩
      go_wp2
      go_ret
      exact ⟨by rw [HC.out]; rfl, below_alloc1 _ _⟩
    | true =>
      have HS := Lib.hid (fun w => side_true W w h1)
      have HS2 := Lib.hid (fun w => side_true H w h2)
      have hm := Pl.side_mul (w := W) (h := H) (by simpa [Pl.side] using h1) (by simpa [Pl.side] using h2)
      obtain ⟨hm1, hm2⟩ := hm
      by_cases h3 : (n : Int) = W * H
      · have HC : Keep (Pl.check W H l = if l.all Pl.ink then 0 else 2) := ⟨check_take h1 h2 h3 hlen⟩
        have b3 : ((n : Int) != W * H) = false := by simp [h3]
        clear h1 h2 h3
        go_enter Tryd.func11, Tryd.ntmps11
        go_wp2_with fail
        refine (HS.out _).mono ?_
        rintro e w' ⟨rfl, rfl⟩
        go_wp2_with fail
        refine (HS2.out _).mono ?_
        rintro e w' ⟨rfl, rfl⟩
        go_wp2
        go_loop [27] (fun i => ∃ k : Nat, k ≤ n ∧ i = .int .i64 k ∧ (l.take k).all Pl.ink = true) (fun i => n - (intOf i).toNat)
        case atStart => exact ⟨0, Nat.zero_le _, rfl, rfl⟩
        case round =>
          obtain ⟨k, hk, rfl, ha⟩ := hrel
          have HA := Keep.mk ha
          clear ha
          by_cases hlt : k < n
          · obtain ⟨b, o, rfl, hbl, hck0⟩ := HL.out.at_ (k := k) (by omega)
            have hck : (w.alloc (.cells #[.int .i64 W, .int .i64 H, .slice (some ⟨b, o, none⟩) n c] 24)).cell? ⟨b, o + k, none⟩ = some (.int .i64 l[k]) := by rw [World.cell?_alloc_past _ _ _ hbl]; exact hck0
            have HT : Keep (Pl.ink l[k] = true → (l.take (k + 1)).all Pl.ink = true) := ⟨all_take (by omega) HA.out⟩
            have HN : Keep (Pl.ink l[k] = false → l.all Pl.ink = false) := ⟨all_not (by omega)⟩
            generalize l[k] = y at *
            clear hck0
            by_cases hy0 : y < 0
            · have HF : Keep (l.all Pl.ink = false) := ⟨HN.out (by simp [Pl.ink]; omega)⟩
              go_wp2
              go_ret
              exact ⟨by rw [HC.out, HF.out]; rfl, below_alloc1 _ _⟩
            · by_cases hy1 : 100 < y
              · have HF : Keep (l.all Pl.ink = false) := ⟨HN.out (by simp [Pl.ink]; omega)⟩
                go_wp2
                go_ret
                exact ⟨by rw [HC.out, HF.out]; rfl, below_alloc1 _ _⟩
              · have HF : Keep ((l.take (k + 1)).all Pl.ink = true) := ⟨HT.out (by simp [Pl.ink]; omega)⟩
                go_wp2
                go_round
                case rel => exact ⟨k + 1, by omega, by go_num, HF.out⟩
                case measure => simp [intOf]; omega
          · have HF : Keep (l.all Pl.ink = true) := ⟨by have h := HA.out; rwa [List.take_of_length_le (by omega)] at h⟩
            go_wp2
            go_ret
            exact ⟨by rw [HC.out, HF.out]; rfl, below_alloc1 _ _⟩
      · have HC : Keep (Pl.check W H l = 1) := ⟨by unfold Pl.check; rw [h1, h2, hlen]; simp [h3]⟩
        have b3 : ((n : Int) != W * H) = true := by simp [h3]
        clear h1 h2 h3
        go_enter Tryd.func11, Tryd.ntmps11
        go_wp2_with fail
        refine (HS.out _).mono ?_
        rintro e w' ⟨rfl, rfl⟩
        go_wp2_with fail
        refine (HS2.out _).mono ?_
        rintro e w' ⟨rfl, rfl⟩
        go_wp2
        go_ret
        exact ⟨by rw [HC.out]; rfl, below_alloc1 _ _⟩
end Go.Proofs.YtpppgceccikodaaDoor
