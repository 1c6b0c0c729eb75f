/- The laws of chapter 2 that need no reference. -/
import Derived.Test.YtogigdikpllieaaAwake02
namespace Go.Proofs.Ytogigdikpllieaa
open Go.RowKit Go.Joins

theorem size_law (x : Int) (n1 k : Nat) (hx : V.In x) (hl : (V.enc x).length = n1) (hk : 1 ≤ k) (hk9 : k ≤ 9) :
    ∃ b : Int, wrap64 (2 ^ (7 * k - 1)) = b ∧ wrap64 (-b) = -b ∧ (n1 ≤ k ↔ (-b ≤ x ∧ x < b)) := by
  have hle : (2 : Nat) ^ (7 * k - 1) ≤ 2 ^ 62 := Nat.pow_le_pow_right (by decide) (by omega)
  have h62 : (2 : Nat) ^ 62 = 4611686018427387904 := by decide
  have e : ((2 : Int) ^ (7 * k - 1)) = ((2 ^ (7 * k - 1) : Nat) : Int) := by simp
  have h := V.enc_size hx hk hk9
  have hp : (128 : Nat) ^ k = 2 * 2 ^ (7 * k - 1) := by
    rw [show (128 : Nat) = 2 ^ 7 from rfl, ← Nat.pow_mul, ← Nat.pow_succ', show (7 * k - 1).succ = 7 * k by omega]
  rw [hl, hp, V.zig_bound] at h
  refine ⟨((2 ^ (7 * k - 1) : Nat) : Int), ?_, ?_, h⟩
  · rw [e]; exact IntWalk.wrap64_in _ (by omega)
  · exact IntWalk.wrap64_in _ (by omega)

set_option maxHeartbeats 4000000 in
theorem law_sizes (x : Int) (w : World) (hx : V.In x) : Calls Try.prog 9 #[.int .i64 x] w fun e w' => e = .returned (.bool true) ∧ Below w.heap.size w w' := by
  have hc := putInt_any none 0 0 [] x w (RB.none_ _) hx (by omega)
  have HX : Keep (V.In x) := ⟨hx⟩
  clear hx
  go_enter Try.func9, Try.ntmps9
  go_wp2_with fail
  refine hc.mono ?_
  rintro e w1 ⟨A1, n1, c1, rfl, hr, hb⟩
  have hlen : (V.enc x).length = n1 := hr.rb.len
  have HLN : Keep ((V.enc x).length = n1) := ⟨hlen⟩
  have hn := V.enc_length HX.out
  rw [hlen] at hn
  have HB1 := Lib.hid hb
  clear hc hr hb hlen
  go_wp2
  go_loop [4] (fun v => ∃ k : Nat, 1 ≤ k ∧ k ≤ 10 ∧ v = .int .i64 k) (fun v => 10 - (intOf v).toNat)
  case atStart => exact ⟨1, by omega, by omega, rfl⟩
  case round =>
    obtain ⟨k, hk1, hk10, rfl⟩ := hrel
    by_cases hlt : k ≤ 9
    · obtain ⟨b, hb1, hb2, hiff⟩ := size_law x n1 k HX.out HLN.out hk1 hlt
      by_cases hs : n1 ≤ k
      · obtain ⟨h1, h2⟩ := hiff.1 hs
        go_wp2
        go_round
        case rel => exact ⟨k + 1, by omega, by omega, by go_num⟩
        case measure => simp [intOf]; omega
      · by_cases h1 : -b ≤ x
        · have h2 : ¬ x < b := fun h => hs (hiff.2 ⟨h1, h⟩)
          go_wp2
          go_round
          case rel => exact ⟨k + 1, by omega, by omega, by go_num⟩
          case measure => simp [intOf]; omega
        · go_wp2
          go_round
          case rel => exact ⟨k + 1, by omega, by omega, by go_num⟩
          case measure => simp [intOf]; omega
    · go_wp2_with fail
      refine (awake_any _).mono ?_
      rintro e w2 ⟨rfl, hb⟩
      have HB2 : Hid (Below w.heap.size w w2) := HB1.out.trans (hb.mono HB1.out.size)
      clear hb
      go_wp2
      go_ret
      exact ⟨rfl, HB2.out⟩
end Go.Proofs.Ytogigdikpllieaa
