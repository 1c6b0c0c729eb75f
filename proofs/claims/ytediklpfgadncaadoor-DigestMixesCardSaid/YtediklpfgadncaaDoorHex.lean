/- The reference's Hex. -/
import Derived.Test.YtediklpfgadncaaDoorRef03
namespace Go.Proofs.YtediklpfgadncaaDoor
open Go.RowKit Go.Joins

theorem letter_cut (j : Nat) (hj : j < 16) : letters.extract j (j + 1) = ⟨#[M.digit j]⟩ := by
  have : ∀ i : Fin 16, letters.extract i.1 (i.1 + 1) = ⟨#[M.digit i.1]⟩ := by decide
  exact this ⟨j, hj⟩
theorem hex_drop (d k : Nat) (hk : k < 16) : (M.hexL d).drop (16 - (k + 1)) = M.digit (d / 16 ^ k % 16) :: (M.hexL d).drop (16 - k) := by
  have hl : (M.hexL d).length = 16 := by simp [M.hexL]
  have h1 : 16 - (k + 1) < (M.hexL d).length := by omega
  rw [List.drop_eq_getElem_cons h1, show 16 - (k + 1) + 1 = 16 - k by omega]
  congr 1
  simp only [M.hexL, List.getElem_map, List.getElem_range, M.hexAt]
  rw [show 15 - (16 - (k + 1)) = k by omega]
theorem hex_step (d k j y : Nat) (t : ByteArray) (hk : k < 16) (hj : j < 16) (hy : y = d / 16 ^ k) (hyj : y % 16 = j) (ht : t = ⟨((M.hexL d).drop (16 - k)).toArray⟩) :
    letters.extract j (j + 1) ++ t = ⟨((M.hexL d).drop (16 - (k + 1))).toArray⟩ := by
  rw [letter_cut j hj, hex_drop d k hk, ← hy, hyj, ht]
  apply ByteArray.ext
  rw [ByteArray.data_append]
  simp
/-- mapsheetsref03.Hex -/
theorem rhex_any (d : Nat) (w : World) (h1 : d < 18446744073709551616) :
    Calls Tryd.prog 16 #[.int .u64 d] w fun e w' => e = .returned (.string ⟨(M.hexL d).toArray⟩) ∧ w = w' := by
  go_enter Tryd.func16, Tryd.ntmps16
  go_wp2
  go_loop [0, 3, 4] (fun x s i => ∃ (k y : Nat) (t : ByteArray), k ≤ 16 ∧ i = .int .i64 k ∧ x = .int .u64 (y : Int) ∧ s = .string t ∧ y = d / 16 ^ k ∧ t = ⟨((M.hexL d).drop (16 - k)).toArray⟩) (fun _ _ i => 16 - (intOf i).toNat)
  case atStart => exact ⟨0, d, _, Nat.zero_le _, rfl, rfl, rfl, by simp, by simp [M.hexL]⟩
  case round =>
    obtain ⟨k, y, t, hk, rfl, rfl, rfl, hy, ht⟩ := hrel
    have HY := Lib.hid hy
    have HT := Lib.hid ht
    have hts : t.size = k := by rw [ht]; simp [M.hexL, ByteArray.size]; omega
    have HTS := Lib.hid hts
    have hts' : t.size ≤ 16 := by omega
    clear hts
    by_cases hlt : k < 16
    · obtain ⟨j, hj, hjl⟩ : ∃ j : Nat, y % 16 = j ∧ j < 16 := ⟨_, rfl, Nat.mod_lt _ (by decide)⟩
      have HJ := Lib.hid hj
      have HQ : Hid (IntKind.u64.wrap ((y : Int) / 16) = ((y / 16 : Nat) : Int)) := by
        have : d / 16 ^ k ≤ d := Nat.div_le_self _ _
        show _ = _
        rw [IntKind.wrap_u64]
        omega
      clear hy ht
      go_wp2
      go_round
      case rel =>
        refine ⟨k + 1, y / 16, _, by omega, by go_num, by rw [HQ.out], rfl, ?_, hex_step d k j y t hlt hjl HY.out HJ.out HT.out⟩
        rw [HY.out, Nat.div_div_eq_div_mul, Nat.pow_succ]
      case measure => simp [intOf]; omega
    · obtain rfl : k = 16 := by omega
      clear hy ht
      go_wp2
      go_ret
      exact ⟨by rw [HT.out]; simp, rfl⟩
end Go.Proofs.YtediklpfgadncaaDoor
