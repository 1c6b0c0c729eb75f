/- Comparing slices, element by element. -/
import Derived.Test.YtogigdikpllieaaInts
import Derived.Deep.QuietTactic
import Derived.BigQuiet
namespace Go.Proofs.Ytogigdikpllieaa
open Go.RowKit Go.Joins

/-- mapsheets/mapsheetsref02.Same -/
theorem same2_any (A : Option Addr) (n c : Nat) (l : List UInt8) (B : Option Addr) (m d : Nat) (l' : List UInt8) (w : World) (hl : RB w A n c l) (hl' : RB w B m d l') :
    Calls Try.prog 13 #[.slice A n c, .slice B m d] w fun e w' => e = .returned (.bool (decide (l = l'))) ∧ ∃ k, w' = w.drewN k := by
  have hlen := hl.len
  have hlen' := hl'.len
  have hbig := Nat.le_trans hl.cap hl.big
  unfold maxLen at hbig
  by_cases hnm : n = m
  · subst hnm
    have h0 : ((n : Int) != (n : Int)) = false := by simp
    have HL := Lib.hid hl
    have HL' := Lib.hid hl'
    clear hl hl'
    go_enter Try.func13, Try.ntmps13
    go_wp2
    go_loopw [5] (fun i wr => ∃ k q : Nat, k ≤ n ∧ i = .int .i64 k ∧ l.take k = l'.take k ∧ wr = w.drewN q) (fun i _ => n - (intOf i).toNat)
    case atStart => exact ⟨0, 0, Nat.zero_le _, rfl, by simp, rfl⟩
    case round =>
      obtain ⟨k, q, hk, rfl, heq, rfl⟩ := hrel
      have HE := Lib.hid heq
      clear heq
      by_cases hlt : k < n
      · obtain ⟨b, o, rfl, _, hck⟩ := HL.out.at_ (k := k) (by omega)
        obtain ⟨b', o', rfl, _, hck'⟩ := HL'.out.at_ (k := k) (by omega)
        by_cases hx : l[k] = l'[k]
        · have h1 : ((l[k].toNat : Int) != (l'[k].toNat : Int)) = false := by simp [hx]
          have HX := Lib.hid hx
          clear hx
          go_wp2
          go_quiet (fail)
          go_wp2
          go_roundw
          case rel =>
            refine ⟨k + 1, _, by omega, by go_num, ?_, rfl⟩
            rw [List.take_succ_eq_append_getElem (by omega), List.take_succ_eq_append_getElem (by omega), HE.out, HX.out]
          case measure => simp [intOf]; omega
        · have h1 : ((l[k].toNat : Int) != (l'[k].toNat : Int)) = true := by
            simp only [bne_iff_ne, ne_eq]
            intro h
            exact hx (UInt8.toNat_inj.1 (by omega))
          have HX : Hid (decide (l = l') = false) := by
            refine decide_eq_false fun h => hx ?_
            subst h
            rfl
          clear hx
          go_wp2
          go_quiet (fail)
          go_wp2
          go_ret
          exact ⟨by rw [HX.out]; rfl, _, by rw [World.drewN_drewN]⟩
      · have HX : Hid (decide (l = l') = true) := by
          have heq := HE.out
          rw [List.take_of_length_le (by omega), List.take_of_length_le (by omega)] at heq
          exact decide_eq_true heq
        go_wp2
        go_ret
        exact ⟨by rw [HX.out]; rfl, _, rfl⟩
  · have h0 : ((n : Int) != (m : Int)) = true := by simp; omega
    have HX : Hid (decide (l = l') = false) := by
      refine decide_eq_false fun h => hnm ?_
      rw [← hlen, ← hlen', h]
    go_enter Try.func13, Try.ntmps13
    go_wp2
    go_ret
    exact ⟨by rw [HX.out]; rfl, 0, rfl⟩
/-- The same, where the two are known to be equal. -/
theorem same2_true (A : Option Addr) (n c : Nat) (B : Option Addr) (m d : Nat) (l : List UInt8) (w : World) (hl : RB w A n c l) (hl' : RB w B m d l) :
    Calls Try.prog 13 #[.slice A n c, .slice B m d] w fun e w' => e = .returned (.bool true) ∧ ∃ k, w' = w.drewN k :=
  (same2_any A n c l B m d l w hl hl').mono fun _ _ ⟨he, hw⟩ => ⟨by simpa using he, hw⟩

/-- mapsheets/mapsheetsref02.SameInts -/
theorem sameInts_any (A : Option Addr) (n c : Nat) (l : List Int) (B : Option Addr) (m d : Nat) (l' : List Int) (w : World) (hl : RI w A n c l) (hl' : RI w B m d l') :
    Calls Try.prog 25 #[.slice A n c, .slice B m d] w fun e w' => e = .returned (.bool (decide (l = l'))) ∧ ∃ k, w' = w.drewN k := by
  have hlen := hl.len
  have hlen' := hl'.len
  have hbig := Nat.le_trans hl.cap hl.big
  unfold maxLen at hbig
  by_cases hnm : n = m
  · subst hnm
    have h0 : ((n : Int) != (n : Int)) = false := by simp
    have HL := Lib.hid hl
    have HL' := Lib.hid hl'
    clear hl hl'
    go_enter Try.func25, Try.ntmps25
    go_wp2
    go_loopw [5] (fun i wr => ∃ k q : Nat, k ≤ n ∧ i = .int .i64 k ∧ l.take k = l'.take k ∧ wr = w.drewN q) (fun i _ => n - (intOf i).toNat)
    case atStart => exact ⟨0, 0, Nat.zero_le _, rfl, by simp, rfl⟩
    case round =>
      obtain ⟨k, q, hk, rfl, heq, rfl⟩ := hrel
      have HE := Lib.hid heq
      clear heq
      by_cases hlt : k < n
      · obtain ⟨b, o, rfl, _, hck⟩ := HL.out.at_ (k := k) (by omega)
        obtain ⟨b', o', rfl, _, hck'⟩ := HL'.out.at_ (k := k) (by omega)
        by_cases hx : l[k] = l'[k]
        · have h1 : (l[k] != l'[k]) = false := by simp [hx]
          have HX := Lib.hid hx
          clear hx
          go_wp2
          go_quiet (fail)
          go_wp2
          go_roundw
          case rel =>
            refine ⟨k + 1, _, by omega, by go_num, ?_, rfl⟩
            rw [List.take_succ_eq_append_getElem (by omega), List.take_succ_eq_append_getElem (by omega), HE.out, HX.out]
          case measure => simp [intOf]; omega
        · have h1 : (l[k] != l'[k]) = true := by
            simp only [bne_iff_ne, ne_eq]
            intro h
            exact hx h
          have HX : Hid (decide (l = l') = false) := by
            refine decide_eq_false fun h => hx ?_
            subst h
            rfl
          clear hx
          go_wp2
          go_quiet (fail)
          go_wp2
          go_ret
          exact ⟨by rw [HX.out]; rfl, _, by rw [World.drewN_drewN]⟩
      · have HX : Hid (decide (l = l') = true) := by
          have heq := HE.out
          rw [List.take_of_length_le (by omega), List.take_of_length_le (by omega)] at heq
          exact decide_eq_true heq
        go_wp2
        go_ret
        exact ⟨by rw [HX.out]; rfl, _, rfl⟩
  · have h0 : ((n : Int) != (m : Int)) = true := by simp; omega
    have HX : Hid (decide (l = l') = false) := by
      refine decide_eq_false fun h => hnm ?_
      rw [← hlen, ← hlen', h]
    go_enter Try.func25, Try.ntmps25
    go_wp2
    go_ret
    exact ⟨by rw [HX.out]; rfl, 0, rfl⟩
/-- The same, where the two are known to be equal. -/
theorem sameInts_true (A : Option Addr) (n c : Nat) (B : Option Addr) (m d : Nat) (l : List Int) (w : World) (hl : RI w A n c l) (hl' : RI w B m d l) :
    Calls Try.prog 25 #[.slice A n c, .slice B m d] w fun e w' => e = .returned (.bool true) ∧ ∃ k, w' = w.drewN k :=
  (sameInts_any A n c l B m d l w hl hl').mono fun _ _ ⟨he, hw⟩ => ⟨by simpa using he, hw⟩
end Go.Proofs.Ytogigdikpllieaa
