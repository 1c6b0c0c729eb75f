/- digest.Open and what it rests on. -/
import Derived.Test.YtpppgceccikodaaDoorDig
import Derived.Deep.RegionHeld3
namespace Go.Proofs.YtpppgceccikodaaDoor
open Go.RowKit Go.Joins

theorem run_eq4 (w : World) (a0 a1 a2 a3 b0 b1 b2 b3 : Int) :
    (Op.equalIn 10000 61 (.agg #[.int .u8 a0, .int .u8 a1, .int .u8 a2, .int .u8 a3]) (.agg #[.int .u8 b0, .int .u8 b1, .int .u8 b2, .int .u8 b3])).run Tryd.prog w
      = .ok (a0 == b0 && a1 == b1 && a2 == b2 && a3 == b3) w := by
  obtain ⟨i0, hi0, hz0, hz1, hz2⟩ := info_parts u8_info
  have pa : (isAgg 5).run Tryd.prog w = .ok false w := by simp [isAgg, run_underlying Tryd.underlying5]
  have p0 : ∀ (xs : Array Value) (k : Nat) (v : Value), xs[k]? = some v → (part 5 xs k).run Tryd.prog w = .ok v w := by
    intro xs k v h
    simp [part, pa, h]
  have e0 : ∀ a b : Int, (Op.equalIn 9999 5 (.int .u8 a) (.int .u8 b)).run Tryd.prog w = .ok (a == b) w := fun a b => run_equalIn_int w 9998 5 .u8 .u8 a b Tryd.underlying5
  rw [show 10000 = 9999 + 1 from rfl, Op.equalIn]
  simp only [Sem.run_bind, run_underlying Tryd.underlying61, sizeOf, typeInfo, Result.andThen_ok, Std.Legacy.Range.forIn_eq_forIn_range']
  simp [hi0, hz1, show List.range' 0 4 = [0, 1, 2, 3] from rfl, List.forIn_cons, p0, e0]
  by_cases h0 : a0 = b0 <;> by_cases h1 : a1 = b1 <;> by_cases h2 : a2 = b2 <;> by_cases h3 : a3 = b3 <;> simp [h0, h1, h2, h3]

/-- '[4]byte(s)' of a slice of four bytes. -/
theorem run_arrayAt4 (A : Option Addr) (c : Nat) (w : World) : (Instr.arrayAt 61 (.slice A 4 c)).run Tryd.prog w = .ok (.pointer A) w := by
  simp [Instr.arrayAt, run_underlying Tryd.underlying61]
/-- slices.Clone at bytes -/
theorem clone_any (A : Option Addr) (n c : Nat) (l : List UInt8) (w : World) (hl : RB w A n c l) (hroom : n ≤ 140737488355328) :
    Calls Tryd.prog 42 #[.slice A n c] w (RetB w l) := by
  have HL := Lib.hid hl
  clear hl
  cases A with
  | none =>
    have k1 := @Lib.run_eql_slice_nil Tryd.prog
    have hc : c = 0 := Rd.nil HL.out rfl
    have hn : n = 0 := by have := HL.out.cap; omega
    have hl0 : l = [] := List.eq_nil_of_length_eq_zero (HL.out.len.trans hn)
    subst hl0 hn hc
    go_enter Tryd.func42, Tryd.ntmps42
    go_wp2
    go_ret
    exact ⟨none, 0, 0, rfl, RB.none_ _, Below.refl _ _⟩
  | some a =>
    have k1 := @Lib.run_eql_slice_nil Tryd.prog
    go_enter Tryd.func42, Tryd.ntmps42
    go_wp2_with (at_builtin; refine append_b _ rfl (.tmp 5) (.tmp 6) rfl w.heap.size _ 0 0 [] rfl (tb_empty _ _) _ n c l rfl (HL.out.below (below_alloc1 _ _)) (by omega) (by simp) ?_; intro A' n' c' w2 ht hb; have HT2 := Lib.hid ht; have HB2 := Lib.hid hb; clear ht hb)
    go_ret
    exact ⟨A', n', c', rfl, HT2.out.rb, (below_alloc1 _ _).trans HB2.out⟩

/-- digest.Open of fewer than four bytes. -/
theorem open_short (A : Option Addr) (n c : Nat) (w : World) (hn : n < 4) : Calls Tryd.prog 32 #[.slice A n c] w (RetBE w [] 5) := by
  go_enter Tryd.func32, Tryd.ntmps32
  go_wp2
  go_ret2
  exact ⟨none, 0, 0, rfl, RB.none_ _, Below.refl _ _⟩

theorem last4 (l : List UInt8) (h : 4 ≤ l.length) : ∃ b0 b1 b2 b3, l.drop (l.length - 4) = [b0, b1, b2, b3] ∧ l[l.length - 4]? = some b0 ∧ l[l.length - 4 + 1]? = some b1 ∧ l[l.length - 4 + 2]? = some b2 ∧ l[l.length - 4 + 3]? = some b3 := by
  have hl : (l.drop (l.length - 4)).length = 4 := by rw [List.length_drop]; omega
  match hd : l.drop (l.length - 4), hl with
  | [b0, b1, b2, b3], _ =>
    refine ⟨b0, b1, b2, b3, rfl, ?_, ?_, ?_, ?_⟩
    all_goals
      first
      | (have := congrArg (fun x => x[0]?) hd; simpa [List.getElem?_drop] using this)
      | (have := congrArg (fun x => x[1]?) hd; simpa [List.getElem?_drop] using this)
      | (have := congrArg (fun x => x[2]?) hd; simpa [List.getElem?_drop] using this)
      | (have := congrArg (fun x => x[3]?) hd; simpa [List.getElem?_drop] using this)

/-- digest.Open of at least four bytes. -/
theorem open_long (A : Option Addr) (n c : Nat) (l : List UInt8) (w : World) (hl : RB w A n c l) (ht : Tab w) (hn : 4 ≤ n) (hroom : n ≤ 140737488355328) :
    Calls Tryd.prog 32 #[.slice A n c] w
      (if M.be4 (M.crc (l.take (n - 4))) = l.drop (n - 4) then RetBE w (l.take (n - 4)) 0 else RetBE w [] 6) := by
  have hlen := hl.len
  have hcap := hl.cap
  have hbig := hl.big
  obtain ⟨b, o, rfl, hbl, hcell⟩ := Rd.mem hl (by omega)
  obtain ⟨b0, b1, b2, b3, hd, g0, g1, g2, g3⟩ := last4 l (by omega)
  rw [hlen] at hd g0 g1 g2 g3
  have c0 := hcell (n - 4) (bv b0) (by rw [List.getElem?_map, g0]; rfl)
  have c1 := hcell (n - 4 + 1) (bv b1) (by rw [List.getElem?_map, g1]; rfl)
  have c2 := hcell (n - 4 + 2) (bv b2) (by rw [List.getElem?_map, g2]; rfl)
  have c3 := hcell (n - 4 + 3) (bv b3) (by rw [List.getElem?_map, g3]; rfl)
  obtain ⟨a0, a1, a2, a3, h4⟩ : ∃ a0 a1 a2 a3, M.be4 (M.crc (l.take (n - 4))) = [a0, a1, a2, a3] := ⟨_, _, _, _, rfl⟩
  have hm : RB w (some ⟨b, o, none⟩) (n - 4) c (l.take (n - 4)) := by
    have := hl.cut (i := 0) (j := n - 4) (m := c) (by omega) (by omega) (by omega) (by omega)
    simpa [cutA_zero] using this
  have mk := mark_any (some ⟨b, o, none⟩) (n - 4) c (l.take (n - 4))
  rw [h4] at mk
  simp only [List.map_cons, List.map_nil, bv, ← Nat.add_assoc] at mk c0 c1 c2 c3
  rw [hd, h4]
  have e8 : ∀ W, (Op.equalIn 10000 61 (.agg #[.int .u8 (a0.toNat : Int), .int .u8 (a1.toNat : Int), .int .u8 (a2.toNat : Int), .int .u8 (a3.toNat : Int)]) (.agg #[.int .u8 (b0.toNat : Int), .int .u8 (b1.toNat : Int), .int .u8 (b2.toNat : Int), .int .u8 (b3.toNat : Int)])).run Tryd.prog W
      = .ok (decide ([a0, a1, a2, a3] = [b0, b1, b2, b3])) W := by
    intro W
    rw [run_eq4]
    congr 1
    have t : ∀ x y : UInt8, ((x.toNat : Int) == (y.toNat : Int)) = decide (x = y) := by
      intro x y
      by_cases h : x = y
      · simp [h]
      · simp [h, UInt8.toNat_inj, Int.natCast_inj]
    rw [t, t, t, t]
    simp only [List.cons.injEq, and_true, Bool.decide_and, Bool.and_assoc]
  have E8 := Lib.hid e8
  have MK := Lib.hid mk
  have HM := Lib.hid hm
  have HT := Lib.hid ht
  clear hm mk ht hcell g0 g1 g2 g3 hd h4 hlen hl e8
  unfold maxLen at hbig
  by_cases heq : [a0, a1, a2, a3] = [b0, b1, b2, b3]
  all_goals
    have e8 := E8.out
    simp only [heq, if_true, if_false, decide_true, decide_false] at e8 ⊢
    have HE := Lib.hid heq
    clear heq
    go_enter Tryd.func32, Tryd.ntmps32
    go_wp2
    have e1 : IntKind.i64.wrap ((n : Int) - 4) = (n : Int) - 4 := IntWalk.i64_in _ (by omega)
    have e2 : (0 : Int) ≤ (n : Int) - 4 := by omega
    have e3 : (n : Int) - 4 ≤ (n : Int) := by omega
    have e4 : ((n : Int) - 4).toNat = n - 4 := by omega
    have e5 : ¬ c = n - 4 := by omega
    have e6 : n - (n - 4) = 4 := by omega
    have e7 := run_arrayAt4
    go_region_held3 (fun W => W.cell? ⟨b, o + (n - 4), none⟩ = some (.int .u8 (b0.toNat : Int)) ∧ W.cell? ⟨b, o + (n - 4) + 1, none⟩ = some (.int .u8 (b1.toNat : Int)) ∧ W.cell? ⟨b, o + (n - 4) + 2, none⟩ = some (.int .u8 (b2.toNat : Int)) ∧ W.cell? ⟨b, o + (n - 4) + 3, none⟩ = some (.int .u8 (b3.toNat : Int)))
      (first | exact ⟨c0, c1, c2, c3⟩ | exact ⟨(hb.cell (p := ⟨b, _, none⟩) hbl).trans c0, (hb.cell (p := ⟨b, _, none⟩) hbl).trans c1, (hb.cell (p := ⟨b, _, none⟩) hbl).trans c2, (hb.cell (p := ⟨b, _, none⟩) hbl).trans c3⟩)
      (first | (go_at_call 41; refine (MK.out _ (HM.out.below (below_draws _ _ 1)) (HT.out.below (below_draws _ _ 1))).mono ?_; rintro e w' ⟨rfl, hb⟩))
    all_goals
      clear e1 e2 e3 e4 e5 e6 e7 e8 c0 c1 c2 c3
      have HB : Hid (Below w.heap.size w w') := (below_draws _ _ 1).trans hb
      clear hb
  · go_wp2_with (go_at_call 42; refine (clone_any _ _ _ _ _ (HM.out.below HB.out) (by omega)).mono ?_; rintro e w2 ⟨A', n', c', rfl, hr, hb2⟩)
    go_ret2
    exact ⟨A', n', c', rfl, hr, HB.out.trans (hb2.mono HB.out.size)⟩
  · go_wp2_with (go_at_call 42; refine (clone_any _ _ _ _ _ (HM.out.below HB.out) (by omega)).mono ?_; rintro e w2 ⟨A', n', c', rfl, hr, hb2⟩)
    go_ret2
    exact ⟨A', n', c', rfl, hr, HB.out.trans (hb2.mono HB.out.size)⟩
  · go_wp2
    go_ret2
    exact ⟨none, 0, 0, rfl, RB.none_ _, HB.out⟩
  · go_wp2
    go_ret2
    exact ⟨none, 0, 0, rfl, RB.none_ _, HB.out⟩
end Go.Proofs.YtpppgceccikodaaDoor
