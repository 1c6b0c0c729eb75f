/- The reference's Pack. -/
import Derived.Test.YtpppgceccikodaaDoorPack
import Derived.Test.YtpppgceccikodaaDoorRef02
import Derived.Test.YtpppgceccikodaaDoorRef03
namespace Go.Proofs.YtpppgceccikodaaDoor
open Go.RowKit Go.Joins

theorem rpack_err (W H : Int) (A : Option Addr) (n c : Nat) (l : List Int) (w : World) (hl : RI w A n c l) (h0 : Pl.check W H l ≠ 0) :
    Calls Tryd.prog 16 #[plv W H A n c] w (RetBE w [] (Pl.check W H l)) := by
  have HK := Lib.hid (fun w (h : RI w A n c l) => rcheck_any W H A n c l w h)
  have HL := Lib.hid hl
  unfold plv at *
  have b0 : (Pl.check W H l != 0) = true := by simp [h0]
  generalize Pl.check W H l = q at *
  clear h0 hl
  go_enter Tryd.func16, Tryd.ntmps16
  go_wp2_with fail
  refine (HK.out _ (HL.out.below (below_alloc1 _ _))).mono ?_
  rintro e w1 ⟨rfl, hb⟩
  have HB : Hid (Below w.heap.size w w1) := (below_alloc1 _ _).trans (hb.mono (by simp))
  clear hb
  go_wp2
  go_ret2
  exact ⟨none, 0, 0, rfl, RB.none_ _, HB.out⟩

set_option maxHeartbeats 8000000 in
theorem rpack_ok (W H : Int) (A : Option Addr) (n c : Nat) (l : List Int) (w : World) (hl : RI w A n c l) (h0 : Pl.check W H l = 0) :
    Calls Tryd.prog 16 #[plv W H A n c] w (RetBE w (Pl.pack W H l) 0) := by
  have HK := Lib.hid (fun w (h : RI w A n c l) => rcheck_any W H A n c l w h)
  rw [h0] at HK
  have hlen := hl.len
  obtain ⟨hw, hh, hs, hi⟩ := Pl.check_ok h0
  have hm := Pl.side_mul hw hh
  have hn : n ≤ 65536 := by omega
  have hn1 : 1 ≤ n := by omega
  have HIW : Keep (V.In W) := ⟨by unfold V.In; omega⟩
  have HIH : Keep (V.In H) := ⟨by unfold V.In; omega⟩
  have HI : Keep (∀ x ∈ l, 0 ≤ x ∧ x ≤ 100) := ⟨hi⟩
  have HL := Lib.hid hl
  unfold plv at *
  clear h0 hl hw hh hs hi hm
  go_enter Tryd.func16, Tryd.ntmps16
  go_wp2_with fail
  refine (HK.out _ (HL.out.below (below_alloc1 _ _))).mono ?_
  rintro e w1 ⟨rfl, hb⟩
  have HB1 : Hid (Below w.heap.size w w1) := (below_alloc1 _ _).trans (hb.mono (by simp))
  have BX1 := Keep.mk ((BoxP.mk_ w W H A n c 24).below hb)
  clear hb
  have KP : Hid (∀ X, Below w1.heap.size w1 X → X.cell? ⟨w.heap.size, 0, none⟩ = some (.int .i64 W) ∧ X.cell? ⟨w.heap.size, 1, none⟩ = some (.int .i64 H)) := fun X h => ⟨(BX1.out.below h).w0, (BX1.out.below h).w1⟩
  go_wp2
  go_region_held3 (fun X => X.cell? ⟨w.heap.size, 0, none⟩ = some (.int .i64 W) ∧ X.cell? ⟨w.heap.size, 1, none⟩ = some (.int .i64 H))
    (first | exact KP.out _ HB3.out | exact KP.out _ HB2.out | exact KP.out _ (below_draws _ _ 1))
    (first
      | (go_at_call 31; ((with_reducible refine (rputInt_any none 0 0 [] W _ (RB.none_ _) HIW.out ?_).mono ?_); omega; rintro e w2 ⟨A2, n2, q2, rfl, ho, hb⟩; have hn2 : n2 ≤ 10 := (by have h1 := ho.rb.len; have h2 := (V.enc_length HIW.out).2; rw [List.nil_append] at h1; omega); have HB2 : Hid (Below w1.heap.size w1 w2) := (below_draws _ _ 1).trans (hb.mono (below_draws 0 _ 1).size); have HR2 : Hid (RB w2 A2 n2 q2 (V.enc W)) := ho.rb; clear ho hb))
      | (go_at_call 31; ((with_reducible refine (rputInt_any A2 n2 q2 _ H _ HR2.out HIH.out ?_).mono ?_); omega; rintro e w3 ⟨A3, n3, q3, rfl, ho, hb⟩; have hn3 : n3 ≤ 20 := (by have h1 := ho.rb.len; have h2 := (V.enc_length HIH.out).2; have h3 := HR2.out.len; rw [List.length_append] at h1; omega); have HB3 : Hid (Below w1.heap.size w1 w3) := HB2.out.trans (hb.mono HB2.out.size); have HR3 : Hid (RB w3 A3 n3 q3 (V.enc W ++ V.enc H)) := ho.rb; clear ho hb)))
  have BX3 := Keep.mk (BX1.out.below HB3.out)
  have HBW : Hid (Below w.heap.size w w3) := HB1.out.trans (HB3.out.mono HB1.out.size)
  clear KP HR2 HB2 hn2 HB3 BX1 HB1
  go_wp2
  go_loopw [5, 6, 7] (fun v f i wr => ∃ (j k : Nat) (A' : Option Addr) (n' c' : Nat) (q : List UInt8) (y : Int), 1 ≤ j ∧ j ≤ n + 1 ∧ k < j ∧ i = .int .i64 j ∧ f = .int .i64 k ∧ v = .slice A' n' c' ∧ RB wr A' n' c' q ∧ Pl.body W H l = q ++ Pl.packed (l.drop k) ∧ n' ≤ 20 + 20 * k ∧ (k < n → l[k]? = some y ∧ j ≤ n ∧ (∀ u, u < j - k → l[k + u]? = some y)) ∧ Below w.heap.size w wr ∧ BoxP wr w.heap.size W H A n c) (fun _ _ i _ => n + 1 - (intOf i).toNat)
  case atStart => exact ⟨1, 0, A3, n3, q3, _, l[0], Nat.le_refl _, by omega, by omega, rfl, rfl, rfl, HR3.out, rfl, by omega, (fun _ => ⟨List.getElem?_eq_getElem _, hn1, fun u hu => by obtain rfl : u = 0 := (by omega); exact List.getElem?_eq_getElem _⟩), HBW.out, BX3.out⟩
  case round =>
    obtain ⟨i, k, A', n', c', q, y, hi1, hin, hki, rfl, rfl, rfl, hr, hbd, hn', hy, hb, hx⟩ := hrel
    have HR := Lib.hid hr
    have HBD := Keep.mk hbd
    have HB := Lib.hid hb
    have BX := Keep.mk hx
    have HY := Keep.mk hy
    have c2 := hx.w2
    have hz := hx.lt
    clear hr hbd hb hx HR3 HBW BX3 hn3 hy
    by_cases hle : i ≤ n
    · obtain ⟨hyk, _, heq⟩ := HY.out (by omega)
      have HE := Keep.mk heq
      obtain ⟨b, o, rfl, hbl, hck⟩ := (HL.out.below HB.out).at_ (k := k) (by omega)
      obtain rfl : l[k] = y := by rw [List.getElem?_eq_getElem (by omega)] at hyk; exact Option.some.inj hyk
      have HIV : Keep (V.In l[k]) := ⟨by have := HI.out l[k] (List.getElem_mem _); unfold V.In; omega⟩
      clear hyk heq
      by_cases hend : i = n
      · have HEND : Keep (l[i]? ≠ some l[k]) := ⟨by rw [List.getElem?_eq_none (by omega)]; simp⟩
        have HNEXT : Keep (i < n → l[i]? = some (0 : Int) ∧ i + 1 ≤ n ∧ (∀ u, u < i + 1 - i → l[i + u]? = some (0 : Int))) := ⟨fun h => absurd h (by omega)⟩
        generalize l[k] = y at *
        have d1 : ((i : Int) == (n : Int)) = true := by simp; omega
        clear hend
        have HIM : Keep (V.In ((i : Int) - (k : Int))) := ⟨by unfold V.In; omega⟩
        have HRUN : Keep (Pl.body W H l = (q ++ V.enc ((i : Int) - (k : Int)) ++ V.enc y) ++ Pl.packed (l.drop i)) := ⟨by
          have h := Pl.run_at l k (i - k) y (by omega) HE.out (by rw [show k + (i - k) = i by omega]; exact HEND.out)
          rw [show k + (i - k) = i by omega, show ((i - k : Nat) : Int) = (i : Int) - (k : Int) by omega] at h
          rw [HBD.out, h]
          simp only [List.append_assoc]⟩
        have hwrap : IntKind.i64.wrap ((i : Int) - (k : Int)) = (i : Int) - (k : Int) := IntWalk.i64_in _ (by omega)
        go_wp2
        go_quiet (fail)
        go_wp2
        have i1 : (0 : Int) ≤ (k : Int) := by omega
        have i2 : (k : Int) < (n : Int) := by omega
        obtain ⟨wq, hwq⟩ : ∃ wq : World, wq = wr.drewN nq := ⟨_, rfl⟩
        have HQ : Hid (Below wr.heap.size wr wq) := by rw [hwq]; exact below_draws _ _ _
        rw [← hwq]
        clear hwq
        have KP : Hid (∀ X, Below wr.heap.size wr X → X.cell? ⟨w.heap.size, 2, none⟩ = some (.slice (some ⟨b, o, none⟩) n c) ∧ X.cell? ⟨b, o + k, none⟩ = some (.int .i64 y)) := fun X h => ⟨(BX.out.below h).w2, (h.cell (p := ⟨_, _, none⟩) hbl).trans hck⟩
        go_region_held3 (fun X => X.cell? ⟨w.heap.size, 2, none⟩ = some (.slice (some ⟨b, o, none⟩) n c) ∧ X.cell? ⟨b, o + k, none⟩ = some (.int .i64 y))
          (first | exact KP.out _ HB6.out | exact KP.out _ HB5.out | exact KP.out _ HQ.out.drew | exact KP.out _ (HQ.out.trans (below_draws _ _ 1)))
          (first
            | (go_at_call 31; ((with_reducible refine (rputInt_any A' n' c' q _ _ ?_ HIM.out ?_).mono ?_); (exact HR.out.below (HQ.out.trans (below_draws _ _ 1))); omega; rintro e w5 ⟨A5, n5, q5, rfl, ho, hb⟩; have hn5 : n5 ≤ n' + 10 := (by have h1 := ho.rb.len; have h2 := (V.enc_length HIM.out).2; have h3 := HR.out.len; rw [List.length_append] at h1; omega); have HB5 : Hid (Below wr.heap.size wr w5) := (HQ.out.trans (below_draws _ _ 1)).trans (hb.mono (HQ.out.trans (below_draws _ _ 1)).size); have HR5 : Hid (RB w5 A5 n5 q5 (q ++ V.enc ((i : Int) - (k : Int)))) := ho.rb; clear ho hb))
            | (go_at_call 31; ((with_reducible refine (rputInt_any A5 n5 q5 _ y _ HR5.out HIV.out ?_).mono ?_); omega; rintro e w6 ⟨A6, n6, q6, rfl, ho, hb⟩; have hn6 : n6 ≤ n' + 20 := (by have h1 := ho.rb.len; have h2 := (V.enc_length HIV.out).2; have h3 := HR5.out.len; rw [List.length_append] at h1; omega); have HB6 : Hid (Below wr.heap.size wr w6) := HB5.out.trans (hb.mono HB5.out.size); have HR6 : Hid (RB w6 A6 n6 q6 (q ++ V.enc ((i : Int) - (k : Int)) ++ V.enc y)) := ho.rb; clear ho hb)))
        go_wp2
        go_roundw
        case rel => exact ⟨i + 1, i, A6, n6, q6, _, _, by omega, by omega, by omega, by go_num, rfl, rfl, HR6.out, HRUN.out, by omega, HNEXT.out, HB.out.trans (HB6.out.mono HB.out.size), BX.out.below HB6.out⟩
        case measure => simp [intOf]; omega
      · have d1 : ((i : Int) == (n : Int)) = false := by simp; omega
        obtain ⟨b', o', he, _, hcm⟩ := (HL.out.below HB.out).at_ (k := i) (by omega)
        obtain ⟨rfl, rfl⟩ : b = b' ∧ o = o' := by injection he with he; injection he with h1 h2; exact ⟨h1, h2⟩
        clear he
        have HM : Keep (l[i]? = some l[i]) := ⟨List.getElem?_eq_getElem _⟩
        generalize hgy : l[k] = y at *
        generalize l[i] = z at *
        clear hgy
        have hlt : i < n := by omega
        clear hend
        by_cases hyz : z = y
        · subst hyz
          have d2 : (z != z) = false := by simp
          have HNX : Keep (k < n → l[k]? = some z ∧ i + 1 ≤ n ∧ (∀ u, u < i + 1 - k → l[k + u]? = some z)) := ⟨fun _ => ⟨by have := HE.out 0 (by omega); simpa using this, by omega, fun u hu => by
            rcases Nat.lt_or_ge u (i - k) with h | h
            · exact HE.out u h
            · obtain rfl : u = i - k := by omega
              rw [show k + (i - k) = i by omega]; exact HM.out⟩⟩
          go_wp2
          go_quiet (fail)
          go_wp2
          go_roundw
          case rel => exact ⟨i + 1, k, A', n', c', q, z, by omega, by omega, by omega, by go_num, rfl, rfl, HR.out.below (below_draws _ _ _), HBD.out, hn', HNX.out, HB.out.trans (below_draws _ _ _), BX.out.below (below_draws _ _ _)⟩
          case measure => simp [intOf]; omega
        · have d2 : (z != y) = true := by simp [hyz]
          have HEND : Keep (l[i]? ≠ some y) := ⟨by rw [HM.out]; intro h; exact hyz (Option.some.inj h)⟩
          have HNEXT : Keep (i < n → l[i]? = some z ∧ i + 1 ≤ n ∧ (∀ u, u < i + 1 - i → l[i + u]? = some z)) := ⟨fun _ => ⟨HM.out, by omega, fun u hu => by obtain rfl : u = 0 := (by omega); exact HM.out⟩⟩
          clear hyz
          have HIM : Keep (V.In ((i : Int) - (k : Int))) := ⟨by unfold V.In; omega⟩
          have HRUN : Keep (Pl.body W H l = (q ++ V.enc ((i : Int) - (k : Int)) ++ V.enc y) ++ Pl.packed (l.drop i)) := ⟨by
            have h := Pl.run_at l k (i - k) y (by omega) HE.out (by rw [show k + (i - k) = i by omega]; exact HEND.out)
            rw [show k + (i - k) = i by omega, show ((i - k : Nat) : Int) = (i : Int) - (k : Int) by omega] at h
            rw [HBD.out, h]
            simp only [List.append_assoc]⟩
          have hwrap : IntKind.i64.wrap ((i : Int) - (k : Int)) = (i : Int) - (k : Int) := IntWalk.i64_in _ (by omega)
          go_wp2
          go_quiet (fail)
          go_wp2
          have i1 : (0 : Int) ≤ (k : Int) := by omega
          have i2 : (k : Int) < (n : Int) := by omega
          obtain ⟨wq, hwq⟩ : ∃ wq : World, wq = wr.drewN nq := ⟨_, rfl⟩
          have HQ : Hid (Below wr.heap.size wr wq) := by rw [hwq]; exact below_draws _ _ _
          rw [← hwq]
          clear hwq
          have KP : Hid (∀ X, Below wr.heap.size wr X → X.cell? ⟨w.heap.size, 2, none⟩ = some (.slice (some ⟨b, o, none⟩) n c) ∧ X.cell? ⟨b, o + k, none⟩ = some (.int .i64 y)) := fun X h => ⟨(BX.out.below h).w2, (h.cell (p := ⟨_, _, none⟩) hbl).trans hck⟩
          go_region_held3 (fun X => X.cell? ⟨w.heap.size, 2, none⟩ = some (.slice (some ⟨b, o, none⟩) n c) ∧ X.cell? ⟨b, o + k, none⟩ = some (.int .i64 y))
            (first | exact KP.out _ HB6.out | exact KP.out _ HB5.out | exact KP.out _ HQ.out.drew | exact KP.out _ (HQ.out.trans (below_draws _ _ 1)))
            (first
              | (go_at_call 31; ((with_reducible refine (rputInt_any A' n' c' q _ _ ?_ HIM.out ?_).mono ?_); (exact HR.out.below (HQ.out.trans (below_draws _ _ 1))); omega; rintro e w5 ⟨A5, n5, q5, rfl, ho, hb⟩; have hn5 : n5 ≤ n' + 10 := (by have h1 := ho.rb.len; have h2 := (V.enc_length HIM.out).2; have h3 := HR.out.len; rw [List.length_append] at h1; omega); have HB5 : Hid (Below wr.heap.size wr w5) := (HQ.out.trans (below_draws _ _ 1)).trans (hb.mono (HQ.out.trans (below_draws _ _ 1)).size); have HR5 : Hid (RB w5 A5 n5 q5 (q ++ V.enc ((i : Int) - (k : Int)))) := ho.rb; clear ho hb))
              | (go_at_call 31; ((with_reducible refine (rputInt_any A5 n5 q5 _ y _ HR5.out HIV.out ?_).mono ?_); omega; rintro e w6 ⟨A6, n6, q6, rfl, ho, hb⟩; have hn6 : n6 ≤ n' + 20 := (by have h1 := ho.rb.len; have h2 := (V.enc_length HIV.out).2; have h3 := HR5.out.len; rw [List.length_append] at h1; omega); have HB6 : Hid (Below wr.heap.size wr w6) := HB5.out.trans (hb.mono HB5.out.size); have HR6 : Hid (RB w6 A6 n6 q6 (q ++ V.enc ((i : Int) - (k : Int)) ++ V.enc y)) := ho.rb; clear ho hb)))
          go_wp2
          go_roundw
          case rel => exact ⟨i + 1, i, A6, n6, q6, _, _, by omega, by omega, by omega, by go_num, rfl, rfl, HR6.out, HRUN.out, by omega, HNEXT.out, HB.out.trans (HB6.out.mono HB.out.size), BX.out.below HB6.out⟩
          case measure => simp [intOf]; omega
    · have hkn : ¬ k < n := fun h => by have := (HY.out h).2.1; omega
      have HF : Keep (Pl.body W H l = q) := ⟨by rw [HBD.out, List.drop_of_length_le (by omega), Pl.packed_nil, List.append_nil]⟩
      have hk1 : k ≤ 65537 := by omega
      go_wp2_with fail
      refine (rseal_any A' n' c' q _ HR.out (by omega)).mono ?_
      rintro e w5 ⟨A5, n5, q5, rfl, ho, hb⟩
      have HR5 := Lib.hid ho
      have HB5 : Hid (Below w.heap.size w w5) := HB.out.trans (hb.mono HB.out.size)
      clear ho hb
      go_wp2
      go_ret2
      exact ⟨A5, n5, q5, rfl, by unfold Pl.pack; rw [HF.out]; exact HR5.out, HB5.out⟩
end Go.Proofs.YtpppgceccikodaaDoor
