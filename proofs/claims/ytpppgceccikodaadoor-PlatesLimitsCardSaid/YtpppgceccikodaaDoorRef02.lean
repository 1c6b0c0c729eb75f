/- The contracts of the reference's functions of chapter 2. -/
import Derived.Test.YtpppgceccikodaaDoorInt
namespace Go.Proofs.YtpppgceccikodaaDoor
open Go.RowKit Go.Joins

theorem rzig_neg {x : Int} (h : V.In x) (hn : x < 0) : IntKind.u64.wrap (IntKind.u64.wrap (2 * IntKind.u64.wrap (-(x + 1))) + 1) = ((V.zig x : Nat) : Int) := by
  obtain ⟨h1, h2⟩ := h
  rw [IntKind.wrap_u64, IntKind.wrap_u64, IntKind.wrap_u64]
  unfold V.zig
  rw [if_pos hn]
  omega
theorem rzig_pos {x : Int} (h : V.In x) (hn : ¬ x < 0) : IntKind.u64.wrap (2 * IntKind.u64.wrap x) = ((V.zig x : Nat) : Int) := by
  obtain ⟨h1, h2⟩ := h
  rw [IntKind.wrap_u64, IntKind.wrap_u64]
  unfold V.zig
  rw [if_neg hn]
  omega
theorem rdigit (z : Nat) : IntKind.u8.wrap (((z : Int) % 128) + 128) = ((updig z).toNat : Int) := by
  unfold updig
  rw [UInt8.toNat_ofNat', IntKind.wrap_u8]
  omega
set_option maxHeartbeats 4000000 in
/-- mapsheetsref02.PutInt, from the loop on: what is left to write is 'uvar f z'. -/
theorem rputInt_any (A : Option Addr) (n c : Nat) (l : List UInt8) (x : Int) (w : World) (hl : RB w A n c l) (hx : V.In x) (hroom : n + 10 ≤ 140737488355328) :
    Calls Tryd.prog 31 #[.slice A n c, .int .i64 x] w (RetT w w.heap.size (l ++ V.enc x)) := by
  have HX : Keep (V.In x) := ⟨hx⟩
  have HL := Lib.hid hl
  have hlen := hl.len
  clear hl
  by_cases hneg : x < 0
  · have e1 : wrap64 (x + 1) = x + 1 := IntWalk.wrap64_in _ (by unfold V.In at hx; omega)
    have e2 : wrap64 (-(x + 1)) = -(x + 1) := IntWalk.wrap64_in _ (by unfold V.In at hx; omega)
    clear hx
    go_enter Tryd.func31, Tryd.ntmps31
    go_wp2_with (at_builtin; refine append_b _ rfl (.tmp 18) (.tmp 19) rfl w.heap.size _ 0 0 [] rfl (tb_empty _ _) A n c l rfl (HL.out.below (below_alloc1 _ _)) (by omega) (by simp) ?_; intro A2 n2 c2 w2 ht hb; have hn2 : l.length = n2 := ht.len; have HO := Lib.hid ht; have HB2 : Hid (Below w.heap.size w w2) := (below_alloc1 _ _).trans hb; obtain rfl : n = n2 := (by omega); clear ht hb hn2)
    rw [rzig_neg HX.out hneg]
    go_loopw [5, 6] (fun u v wr => ∃ (f z : Nat) (A' : Option Addr) (n' c' : Nat) (d : List UInt8), u = .int .u64 (z : Int) ∧ v = .slice A' n' c' ∧ TB wr w.heap.size A' n' c' (l ++ d) ∧ V.enc x = d ++ V.uvar f z ∧ z < 128 ^ (f + 1) ∧ d.length + f = 9 ∧ z < 18446744073709551616 ∧ Below w.heap.size w wr) (fun u _ _ => (intOf u).toNat)
    case atStart => exact ⟨9, V.zig x, A2, n, c2, [], rfl, rfl, by simpa using HO.out, rfl, Nat.lt_of_lt_of_le (V.zig_lt HX.out) (by decide), rfl, V.zig_lt HX.out, HB2.out⟩
    case round =>
      obtain ⟨f, z, A', n', c', d, rfl, rfl, ht, he, hz, hdf, hz64, hb⟩ := hrel
      have hn' : n' ≤ n + 9 := by
        have := ht.len
        rw [List.length_append] at this
        omega
      have hbs := hb.size
      have HT := Lib.hid ht
      have HE : Keep (V.enc x = d ++ V.uvar f z) := ⟨he⟩
      have HZ : Keep (z < 128 ^ (f + 1)) := ⟨hz⟩
      have HD := Lib.hid hdf
      have HB := Lib.hid hb
      have H64 : Keep (z < 18446744073709551616) := ⟨hz64⟩
      clear ht he hz hdf hb hz64
      by_cases hlt : z < 128
      · obtain ⟨y, rfl⟩ : ∃ y : UInt8, z = y.toNat := ⟨UInt8.ofNat z, by rw [UInt8.toNat_ofNat']; omega⟩
        have hd : decide ((128 : Int) ≤ (y.toNat : Int)) = false := by simp; omega
        have HU : Keep (V.uvar f y.toNat = [y]) := ⟨by rw [V.uvar_small f _ hlt]; simp⟩
        go_wp2_with (at_builtin; refine append_b1 _ rfl (.tmp 32) (.tmp 35) rfl w.heap.size A' n' c' _ rfl (HT.out.below (below_alloc1 _ _)) _ 1 1 [y] rfl (rb_one _ _) (by omega) (by omega) (by simp; omega) ?_; intro A2 n2 c2 w2 ht hb; have HT2 := Lib.hid ht; have HB3 := Lib.hid hb; clear ht hb)
        go_ret
        refine ⟨A2, n2, c2, rfl, ?_, (HB.out.alloc hbs _).trans HB3.out⟩
        rw [HE.out, HU.out, ← List.append_assoc]
        exact HT2.out
      · have h1 := rdigit z
        have h2 : IntKind.u64.wrap ((z : Int) / 128) = ((z / 128 : Nat) : Int) := by have := H64.out; rw [IntKind.wrap_u64]; omega
        have hd : decide ((128 : Int) ≤ (z : Int)) = true := by simp; omega
        have hf : ∃ g, f = g + 1 := by
          cases f with
          | zero => have := HZ.out; simp at this; omega
          | succ g => exact ⟨g, rfl⟩
        obtain ⟨g, rfl⟩ := hf
        have HU : Keep (V.uvar (g + 1) z = updig z :: V.uvar g (z / 128)) := ⟨V.uvar_big g z hlt⟩
        go_wp2_with (at_builtin; refine append_b _ rfl (.tmp 23) (.tmp 28) rfl w.heap.size A' n' c' _ rfl (HT.out.below (below_alloc1 _ _)) _ 1 1 [updig z] rfl (rb_one _ _) (by omega) (by simp; omega) ?_; intro A2 n2 c2 w2 ht hb; have HT2 := Lib.hid ht; have HB3 := Lib.hid hb; clear ht hb)
        go_roundw
        case rel =>
          refine ⟨g, z / 128, A2, n2, c2, d ++ [updig z], ?_, rfl, ?_, ?_, ?_, ?_, (by have := H64.out; omega), (HB.out.alloc hbs _).trans HB3.out⟩
          · simp
          · rw [← List.append_assoc]; exact HT2.out
          · rw [HE.out, HU.out]; simp
          · have := HZ.out; rw [Nat.pow_succ] at this; omega
          · have := HD.out; simp; omega
        case measure => simp [intOf]; omega
  · clear hx
    go_enter Tryd.func31, Tryd.ntmps31
    go_wp2_with (at_builtin; refine append_b _ rfl (.tmp 18) (.tmp 19) rfl w.heap.size _ 0 0 [] rfl (tb_empty _ _) A n c l rfl (HL.out.below (below_alloc1 _ _)) (by omega) (by simp) ?_; intro A2 n2 c2 w2 ht hb; have hn2 : l.length = n2 := ht.len; have HO := Lib.hid ht; have HB2 : Hid (Below w.heap.size w w2) := (below_alloc1 _ _).trans hb; obtain rfl : n = n2 := (by omega); clear ht hb hn2)
    rw [rzig_pos HX.out (by omega)]
    go_loopw [5, 6] (fun u v wr => ∃ (f z : Nat) (A' : Option Addr) (n' c' : Nat) (d : List UInt8), u = .int .u64 (z : Int) ∧ v = .slice A' n' c' ∧ TB wr w.heap.size A' n' c' (l ++ d) ∧ V.enc x = d ++ V.uvar f z ∧ z < 128 ^ (f + 1) ∧ d.length + f = 9 ∧ z < 18446744073709551616 ∧ Below w.heap.size w wr) (fun u _ _ => (intOf u).toNat)
    case atStart => exact ⟨9, V.zig x, A2, n, c2, [], rfl, rfl, by simpa using HO.out, rfl, Nat.lt_of_lt_of_le (V.zig_lt HX.out) (by decide), rfl, V.zig_lt HX.out, HB2.out⟩
    case round =>
      obtain ⟨f, z, A', n', c', d, rfl, rfl, ht, he, hz, hdf, hz64, hb⟩ := hrel
      have hn' : n' ≤ n + 9 := by
        have := ht.len
        rw [List.length_append] at this
        omega
      have hbs := hb.size
      have HT := Lib.hid ht
      have HE : Keep (V.enc x = d ++ V.uvar f z) := ⟨he⟩
      have HZ : Keep (z < 128 ^ (f + 1)) := ⟨hz⟩
      have HD := Lib.hid hdf
      have HB := Lib.hid hb
      have H64 : Keep (z < 18446744073709551616) := ⟨hz64⟩
      clear ht he hz hdf hb hz64
      by_cases hlt : z < 128
      · obtain ⟨y, rfl⟩ : ∃ y : UInt8, z = y.toNat := ⟨UInt8.ofNat z, by rw [UInt8.toNat_ofNat']; omega⟩
        have hd : decide ((128 : Int) ≤ (y.toNat : Int)) = false := by simp; omega
        have HU : Keep (V.uvar f y.toNat = [y]) := ⟨by rw [V.uvar_small f _ hlt]; simp⟩
        go_wp2_with (at_builtin; refine append_b1 _ rfl (.tmp 32) (.tmp 35) rfl w.heap.size A' n' c' _ rfl (HT.out.below (below_alloc1 _ _)) _ 1 1 [y] rfl (rb_one _ _) (by omega) (by omega) (by simp; omega) ?_; intro A2 n2 c2 w2 ht hb; have HT2 := Lib.hid ht; have HB3 := Lib.hid hb; clear ht hb)
        go_ret
        refine ⟨A2, n2, c2, rfl, ?_, (HB.out.alloc hbs _).trans HB3.out⟩
        rw [HE.out, HU.out, ← List.append_assoc]
        exact HT2.out
      · have h1 := rdigit z
        have h2 : IntKind.u64.wrap ((z : Int) / 128) = ((z / 128 : Nat) : Int) := by have := H64.out; rw [IntKind.wrap_u64]; omega
        have hd : decide ((128 : Int) ≤ (z : Int)) = true := by simp; omega
        have hf : ∃ g, f = g + 1 := by
          cases f with
          | zero => have := HZ.out; simp at this; omega
          | succ g => exact ⟨g, rfl⟩
        obtain ⟨g, rfl⟩ := hf
        have HU : Keep (V.uvar (g + 1) z = updig z :: V.uvar g (z / 128)) := ⟨V.uvar_big g z hlt⟩
        go_wp2_with (at_builtin; refine append_b _ rfl (.tmp 23) (.tmp 28) rfl w.heap.size A' n' c' _ rfl (HT.out.below (below_alloc1 _ _)) _ 1 1 [updig z] rfl (rb_one _ _) (by omega) (by simp; omega) ?_; intro A2 n2 c2 w2 ht hb; have HT2 := Lib.hid ht; have HB3 := Lib.hid hb; clear ht hb)
        go_roundw
        case rel =>
          refine ⟨g, z / 128, A2, n2, c2, d ++ [updig z], ?_, rfl, ?_, ?_, ?_, ?_, (by have := H64.out; omega), (HB.out.alloc hbs _).trans HB3.out⟩
          · simp
          · rw [← List.append_assoc]; exact HT2.out
          · rw [HE.out, HU.out]; simp
          · have := HZ.out; rw [Nat.pow_succ] at this; omega
          · have := HD.out; simp; omega
        case measure => simp [intOf]; omega
end Go.Proofs.YtpppgceccikodaaDoor
