/- plates.Pack. -/
import Derived.Test.YtpppgceccikodaaDoorPlates2
import Derived.Test.YtpppgceccikodaaDoorInt
import Derived.Test.YtpppgceccikodaaDoorDig
namespace Go.Proofs.YtpppgceccikodaaDoor
open Go.RowKit Go.Joins

/-- A plate lies in block b. -/
structure BoxP (w : World) (b : Nat) (W H : Int) (A : Option Addr) (n c : Nat) : Prop where
  w0 : w.cell? ⟨b, 0, none⟩ = some (.int .i64 W)
  w1 : w.cell? ⟨b, 1, none⟩ = some (.int .i64 H)
  w2 : w.cell? ⟨b, 2, none⟩ = some (.slice A n c)
  lt : b < w.heap.size
theorem BoxP.below {w w' : World} {b : Nat} {W H : Int} {A : Option Addr} {n c : Nat} (h : BoxP w b W H A n c) (hb : Below w.heap.size w w') : BoxP w' b W H A n c :=
  ⟨(hb.cell (p := ⟨_, _, none⟩) h.lt).trans h.w0, (hb.cell (p := ⟨_, _, none⟩) h.lt).trans h.w1, (hb.cell (p := ⟨_, _, none⟩) h.lt).trans h.w2, Nat.lt_of_lt_of_le h.lt hb.size⟩
theorem BoxP.mk_ (w : World) (W H : Int) (A : Option Addr) (n c : Nat) (t : TypeId) : BoxP (w.alloc (.cells #[.int .i64 W, .int .i64 H, .slice A n c] t)) w.heap.size W H A n c :=
  ⟨by simp, by simp, by simp, by simp⟩

theorem pack_err (W H : Int) (A : Option Addr) (n c : Nat) (l : List Int) (w : World) (hl : RI w A n c l) (h0 : Pl.check W H l ≠ 0) :
    Calls Tryd.prog 15 #[plv W H A n c] w (RetBE w [] (Pl.check W H l)) := by
  have HK := Lib.hid (fun w (h : RI w A n c l) => check_any W H A n c l w h)
  have HL := Lib.hid hl
  unfold plv at *
  have b0 : (Pl.check W H l != 0) = true := by simp [h0]
  generalize Pl.check W H l = q at *
  clear h0 hl
  go_enter Tryd.func15, Tryd.ntmps15
  go_wp2_with fail
  refine (HK.out _ (HL.out.below (below_alloc1 _ _))).mono ?_
  rintro e w1 ⟨rfl, hb⟩
  have HB : Hid (Below w.heap.size w w1) := (below_alloc1 _ _).trans (hb.mono (by simp))
  clear hb
  go_wp2
  go_ret2
  exact ⟨none, 0, 0, rfl, RB.none_ _, HB.out⟩

set_option maxHeartbeats 4000000 in
theorem pack_ok (W H : Int) (A : Option Addr) (n c : Nat) (l : List Int) (w : World) (hl : RI w A n c l) (ht : Tab w) (h0 : Pl.check W H l = 0) :
    Calls Tryd.prog 15 #[plv W H A n c] w (RetBE w (Pl.pack W H l) 0) := by
  have HK := Lib.hid (fun w (h : RI w A n c l) => check_any W H A n c l w h)
  rw [h0] at HK
  have hlen := hl.len
  obtain ⟨hw, hh, hs, hi⟩ := Pl.check_ok h0
  have hm := Pl.side_mul hw hh
  have hn : n ≤ 65536 := by omega
  have hn1 : 1 ≤ n := by omega
  have HIW : Keep (V.In W) := ⟨by unfold V.In; omega⟩
  have HIH : Keep (V.In H) := ⟨by unfold V.In; omega⟩
  have HI : Keep (∀ x ∈ l, 0 ≤ x ∧ x ≤ 100) := ⟨hi⟩
  have HL := Lib.hid hl
  have HTB : Keep (Tab w) := ⟨ht⟩
  unfold plv at *
  clear h0 hl ht hw hh hs hi hm
  go_enter Tryd.func15, Tryd.ntmps15
  go_wp2_with fail
  refine (HK.out _ (HL.out.below (below_alloc1 _ _))).mono ?_
  rintro e w1 ⟨rfl, hb⟩
  have HB1 : Hid (Below w.heap.size w w1) := (below_alloc1 _ _).trans (hb.mono (by simp))
  have BX1 := Keep.mk ((BoxP.mk_ w W H A n c 24).below hb)
  have c0 := BX1.out.w0
  have hz := BX1.out.lt
  clear hb
  go_wp2_with fail
  refine (putInt_any none 0 0 [] W w1 (RB.none_ _) HIW.out (by omega)).mono ?_
  rintro e w2 ⟨A2, n2, q2, rfl, ho, hb⟩
  have hn2 : n2 ≤ 10 := by have h1 := ho.rb.len; have h2 := (V.enc_length HIW.out).2; rw [List.nil_append] at h1; omega
  have HR2 : Hid (RB w2 A2 n2 q2 (V.enc W)) := ho.rb
  have HB2 : Hid (Below w.heap.size w w2) := HB1.out.trans (hb.mono HB1.out.size)
  have BX2 := Keep.mk (BX1.out.below hb)
  clear c0 hz
  have c1 := BX2.out.w1
  have hz := BX2.out.lt
  clear hb ho HB1 BX1
  go_wp2_with fail
  refine (putInt_any A2 n2 q2 _ H w2 HR2.out HIH.out (by omega)).mono ?_
  rintro e w3 ⟨A3, n3, q3, rfl, ho, hb⟩
  have hn3 : n3 ≤ 20 := by have h1 := ho.rb.len; have h2 := (V.enc_length HIH.out).2; have h3 := HR2.out.len; rw [List.length_append] at h1; omega
  have HR3 : Hid (RB w3 A3 n3 q3 (V.enc W ++ V.enc H)) := ho.rb
  have HB3 : Hid (Below w.heap.size w w3) := HB2.out.trans (hb.mono HB2.out.size)
  have BX3 := Keep.mk (BX2.out.below hb)
  clear c1 hz hb ho HB2 BX2 HR2 hn2
  go_wp2
  go_loopw [2, 4] (fun v i wr => ∃ (k : Nat) (A' : Option Addr) (n' c' : Nat) (q : List UInt8), k ≤ n ∧ i = .int .i64 k ∧ v = .slice A' n' c' ∧ RB wr A' n' c' q ∧ Pl.body W H l = q ++ Pl.packed (l.drop k) ∧ n' ≤ 20 + 20 * k ∧ Below w.heap.size w wr ∧ BoxP wr w.heap.size W H A n c) (fun _ i _ => n - (intOf i).toNat)
  case atStart => exact ⟨0, A3, n3, q3, _, Nat.zero_le _, rfl, rfl, HR3.out, rfl, by omega, HB3.out, BX3.out⟩
  case round =>
    obtain ⟨k, A', n', c', q, hk, rfl, rfl, hr, hbd, hn', hb, hx⟩ := hrel
    have HR := Lib.hid hr
    have HBD := Keep.mk hbd
    have HB := Lib.hid hb
    have BX := Keep.mk hx
    have c2 := hx.w2
    have hz := hx.lt
    clear hr hbd hb hx HR3 HB3 BX3 hn3
    by_cases hlt : k < n
    · obtain ⟨b, o, rfl, hbl, hck⟩ := (HL.out.below HB.out).at_ (k := k) (by omega)
      have HV : Keep (l[k]? = some l[k]) := ⟨List.getElem?_eq_getElem _⟩
      have HIV : Keep (V.In l[k]) := ⟨by have := HI.out l[k] (List.getElem_mem _); unfold V.In; omega⟩
      generalize l[k] = y at *
      go_wp2
      obtain ⟨wo, rfl⟩ : ∃ wo : World, wo = wr := ⟨_, rfl⟩
      go_loopw [5] (fun t wr => ∃ (m p : Nat), 1 ≤ m ∧ k + m ≤ n ∧ t = .int .i64 m ∧ (∀ j, j < m → l[k + j]? = some y) ∧ wr = wo.drewN p) (fun t _ => n - (intOf t).toNat)
      case atStart => exact ⟨1, 0, Nat.le_refl _, by omega, rfl, (fun j hj => by obtain rfl : j = 0 := (by omega); exact HV.out), rfl⟩
      case round =>
        obtain ⟨m, p, hm1, hm2, rfl, heq, rfl⟩ := hrel
        have HE := Keep.mk heq
        clear heq
        by_cases hlt2 : k + m < n
        · obtain ⟨b', o', he, _, hcm⟩ := (HL.out.below HB.out).at_ (k := k + m) (by omega)
          obtain ⟨rfl, rfl⟩ : b = b' ∧ o = o' := by injection he with he; injection he with h1 h2; exact ⟨h1, h2⟩
          clear he
          have HM : Keep (l[k + m]? = some l[k + m]) := ⟨List.getElem?_eq_getElem _⟩
          generalize l[k + m] = z at *
          have d1 : decide ((k : Int) + (m : Int) < (n : Int)) = true := by simp; omega
          by_cases hyz : z = y
          · subst hyz
            have d2 : (z == z) = true := by simp
            go_wp2
            go_quiet (fail)
            go_wp2
            go_roundw
            case rel => exact ⟨m + 1, _, by omega, by omega, by go_num, (fun j hj => by rcases Nat.lt_succ_iff_lt_or_eq.1 hj with hj | rfl; exact HE.out j hj; exact HM.out), rfl⟩
            case measure => simp [intOf]; omega
          · have d2 : (z == y) = false := by simp [hyz]
            have HEND : Keep (l[k + m]? ≠ some y) := ⟨by rw [HM.out]; intro h; exact hyz (Option.some.inj h)⟩
            clear hyz
            have HIM : Keep (V.In (m : Int)) := ⟨by unfold V.In; omega⟩
            have HRUN : Keep (Pl.body W H l = (q ++ V.enc (m : Int) ++ V.enc y) ++ Pl.packed (l.drop (k + m))) := ⟨by
              rw [HBD.out, Pl.run_at l k m y hm1 HE.out HEND.out]
              simp only [List.append_assoc]⟩
            go_wp2
            go_quiet (fail)
            go_wp2_with fail
            refine (putInt_any A' n' c' q (m : Int) _ (HR.out.below (below_draws _ _ _)) HIM.out (by omega)).mono ?_
            rintro e w5 ⟨A5, n5, q5, rfl, ho, hb⟩
            have hn5 : n5 ≤ n' + 10 := by have h1 := ho.rb.len; have h2 := (V.enc_length HIM.out).2; have h3 := HR.out.len; rw [List.length_append] at h1; omega
            have HB45 : Hid (Below wo.heap.size wo w5) := (below_draws _ _ _).trans (hb.mono (below_draws 0 _ _).size)
            have HR5 : Hid (RB w5 A5 n5 q5 (q ++ V.enc (m : Int))) := ho.rb
            have HB5 : Hid (Below w.heap.size w w5) := HB.out.trans (HB45.out.mono HB.out.size)
            have BX5 := Keep.mk (BX.out.below HB45.out)
            have hck5 : w5.cell? ⟨b, o + k, none⟩ = some (.int .i64 y) := (HB45.out.cell (p := ⟨_, _, none⟩) hbl).trans hck
            have c52 := BX5.out.w2
            have hz5 := BX5.out.lt
            clear ho hb
            go_wp2_with fail
            refine (putInt_any A5 n5 q5 _ y w5 HR5.out HIV.out (by omega)).mono ?_
            rintro e w6 ⟨A6, n6, q6, rfl, ho, hb⟩
            have hn6 : n6 ≤ n' + 20 := by have h1 := ho.rb.len; have h2 := (V.enc_length HIV.out).2; have h3 := HR5.out.len; rw [List.length_append] at h1; omega
            have HR6 : Hid (RB w6 A6 n6 q6 (q ++ V.enc (m : Int) ++ V.enc y)) := ho.rb
            have HB6 : Hid (Below w.heap.size w w6) := HB5.out.trans (hb.mono HB5.out.size)
            have BX6 := Keep.mk (BX5.out.below hb)
            clear ho hb
            go_wp2
            go_roundw
            case rel => exact ⟨k + m, A6, n6, q6, _, hm2, by go_num, rfl, HR6.out, HRUN.out, by omega, HB6.out, BX6.out⟩
            case measure => simp [intOf]; omega
        · have d1 : decide ((k : Int) + (m : Int) < (n : Int)) = false := by simp; omega
          have HEND : Keep (l[k + m]? ≠ some y) := ⟨by rw [List.getElem?_eq_none (by omega)]; simp⟩
          have HIM : Keep (V.In (m : Int)) := ⟨by unfold V.In; omega⟩
          have HRUN : Keep (Pl.body W H l = (q ++ V.enc (m : Int) ++ V.enc y) ++ Pl.packed (l.drop (k + m))) := ⟨by
            rw [HBD.out, Pl.run_at l k m y hm1 HE.out HEND.out]
            simp only [List.append_assoc]⟩
          go_wp2
          go_quiet (fail)
          go_wp2_with fail
          refine (putInt_any A' n' c' q (m : Int) _ (HR.out.below (below_draws _ _ _)) HIM.out (by omega)).mono ?_
          rintro e w5 ⟨A5, n5, q5, rfl, ho, hb⟩
          have hn5 : n5 ≤ n' + 10 := by have h1 := ho.rb.len; have h2 := (V.enc_length HIM.out).2; have h3 := HR.out.len; rw [List.length_append] at h1; omega
          have HB45 : Hid (Below wo.heap.size wo w5) := (below_draws _ _ _).trans (hb.mono (below_draws 0 _ _).size)
          have HR5 : Hid (RB w5 A5 n5 q5 (q ++ V.enc (m : Int))) := ho.rb
          have HB5 : Hid (Below w.heap.size w w5) := HB.out.trans (HB45.out.mono HB.out.size)
          have BX5 := Keep.mk (BX.out.below HB45.out)
          have hck5 : w5.cell? ⟨b, o + k, none⟩ = some (.int .i64 y) := (HB45.out.cell (p := ⟨_, _, none⟩) hbl).trans hck
          have c52 := BX5.out.w2
          have hz5 := BX5.out.lt
          clear ho hb
          go_wp2_with fail
          refine (putInt_any A5 n5 q5 _ y w5 HR5.out HIV.out (by omega)).mono ?_
          rintro e w6 ⟨A6, n6, q6, rfl, ho, hb⟩
          have hn6 : n6 ≤ n' + 20 := by have h1 := ho.rb.len; have h2 := (V.enc_length HIV.out).2; have h3 := HR5.out.len; rw [List.length_append] at h1; omega
          have HR6 : Hid (RB w6 A6 n6 q6 (q ++ V.enc (m : Int) ++ V.enc y)) := ho.rb
          have HB6 : Hid (Below w.heap.size w w6) := HB5.out.trans (hb.mono HB5.out.size)
          have BX6 := Keep.mk (BX5.out.below hb)
          clear ho hb
          go_wp2
          go_roundw
          case rel => exact ⟨k + m, A6, n6, q6, _, hm2, by go_num, rfl, HR6.out, HRUN.out, by omega, HB6.out, BX6.out⟩
          case measure => simp [intOf]; omega
    · obtain rfl : k = n := by omega
      have HF : Keep (Pl.body W H l = q) := ⟨by rw [HBD.out, List.drop_of_length_le (by omega), Pl.packed_nil, List.append_nil]⟩
      go_wp2_with fail
      refine (seal_any A' n' c' q _ HR.out (HTB.out.below HB.out) (by omega)).mono ?_
      rintro e w5 ⟨A5, n5, q5, rfl, ho, hb⟩
      have HR5 := Lib.hid ho
      have HB5 : Hid (Below w.heap.size w w5) := HB.out.trans (hb.mono HB.out.size)
      clear ho hb
      go_wp2
      go_ret2
      exact ⟨A5, n5, q5, rfl, by unfold Pl.pack; rw [HF.out]; exact HR5.out, HB5.out⟩
end Go.Proofs.YtpppgceccikodaaDoor
