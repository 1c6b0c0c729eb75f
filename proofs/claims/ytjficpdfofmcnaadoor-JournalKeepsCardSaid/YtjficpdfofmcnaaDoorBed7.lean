/- The journal: sectors, heads, titles. -/
import Derived.Test.YtjficpdfofmcnaaDoorBed6
import Derived.Test.YtjficpdfofmcnaaDoorBed2
import Derived.Test.YtjficpdfofmcnaaDoorBed3
import Derived.Test.YtjficpdfofmcnaaDoorBed1
import Derived.Deep.RegionHeld3
import Derived.Deep.CutRange
import Derived.RegionTactic
import Derived.BigQuiet
import Derived.Deep.QuietTactic
/- The journal's sector, sectors, head, title.sector; bytes.Equal. -/
namespace Go.Proofs.YtjficpdfofmcnaaDoor
open Go.RowKit Go.Joins

theorem ret_int {k : IntKind} {a b : Int} (h : a = b) : Ending.returned (.int k a) = .returned (.int k b) := by rw [h]
theorem splice_sec (k : UInt8) (l : List UInt8) (_h : l.length ≤ 63) : splice ((zs.map bv).set 0 (bv k)) 1 (l.map bv) = (Jn.sec k l).map bv := by
  have e : (zs.map bv).set 0 (bv k) = bv k :: (List.replicate 63 (0 : UInt8)).map bv := rfl
  rw [e]
  unfold splice Jn.sec
  simp only [List.take_succ_cons, List.take_zero, List.length_map, List.map_cons, List.map_append]
  rw [show 1 + l.length = l.length + 1 by omega, List.drop_succ_cons, ← List.map_drop, List.drop_replicate]
  simp
theorem cut_new (b : Nat) : cutA (some ⟨b, 0, none⟩) 1 64 1 = some ⟨b, 1, none⟩ := by
  unfold cutA
  simp [Addr.add]

set_option maxHeartbeats 1000000 in
theorem sector_any (k : UInt8) (A : Option Addr) (n c : Nat) (l : List UInt8) (w : World) (hl : RB w A n c l) (hn : l.length ≤ 63) :
    Calls Tryd.prog 36 #[.int .u8 (k.toNat : Int), .slice A n c] w (RetB w (Jn.sec k l)) := by
  have hmk := run_make64 w
  have hln := hl.len
  have HWN : Keep (Wh (w.alloc (.cells (zs.map bv).toArray 5)) w.heap.size 5 (zs.map bv)) := ⟨Wh.new w 5 (zs.map bv)⟩
  have HL := Keep.mk (hl.below (below_alloc1 w (.cells (zs.map bv).toArray 5)))
  have HB0 : Hid (Below w.heap.size w (w.alloc (.cells (zs.map bv).toArray 5))) := below_alloc1 _ _
  have HN := Keep.mk hn
  have HZ := Keep.mk (below_alloc1 w (.cells (zs.map bv).toArray 5)).size
  have hlt := HWN.out.lt
  have hn63 : n ≤ 63 := by omega
  have HLN := Keep.mk hln
  have HRL := Keep.mk hl
  have hsl := fun (X : World) => run_from_b (some ⟨w.heap.size, 0, none⟩) 64 64 1 1 rfl (by decide) X
  clear hl hn hln
  go_enter Tryd.func36, Tryd.ntmps36
  go_upto_region 2 with (fail)
  clear hmk
  have c0 := HWN.out.cell 0
  have f0 := HWN.out.bx.fz 0
  have HW1 := Keep.mk (HWN.out.set (j := 0) (bv k))
  have HO1 : Keep (Off [w.heap.size] (w.alloc (.cells (zs.map bv).toArray 5)) ((w.alloc (.cells (zs.map bv).toArray 5)).setCell ⟨w.heap.size, 0, none⟩ (bv k))) := ⟨(Off.refl _ _).setCell (by simp) _⟩
  generalize w.alloc (.cells (zs.map bv).toArray 5) = w1 at *
  rw [show (zs.map bv)[0]? = some (.int .u8 0) from rfl] at c0
  go_upto_region 3 with (fail)
  have HB1 : Hid (Below w.heap.size w (w1.setCell ⟨w.heap.size, 0, none⟩ (bv k))) := HB0.out.setCell (Nat.le_refl _) _
  have HL1 := Keep.mk (HRL.out.below HB1.out)
  clear c0 f0 HO1 hsl
  go_wp2_with (refine wpList_copy_off rfl (.tmp 11) (.tmp 12) 26 26 rfl 5 Tryd.underlying26 u8_one (some ⟨w.heap.size, 1, none⟩) A 63 63 n c rfl rfl w.heap.size 1 ((zs.map bv).set 0 (bv k)) 5 HW1.out (l.map bv) HL1.out hn63 (fun _ => rfl) (by simp [zs]; omega) (bv_one l) ?_; intro w2 hF2 ho2; have HF2 := Keep.mk hF2; have HO2 := Keep.mk ho2; clear hF2 ho2)
  go_ret
  have hF := HF2.out
  rw [splice_sec k l HN.out] at hF
  exact ⟨some ⟨w.heap.size, 0, none⟩, 64, 64, rfl, wh_rb hF (Jn.sec_length HN.out) (by omega), HB1.out.trans (HO2.out.below HB1.out.size (by simp))⟩

/-- bytes.Equal -/
theorem equal_any (A : Option Addr) (n c : Nat) (l : List UInt8) (B : Option Addr) (m d : Nat) (l' : List UInt8) (w : World) (hl : RB w A n c l) (hl' : RB w B m d l') :
    Calls Tryd.prog 67 #[.slice A n c, .slice B m d] w fun e w' => e = .returned (.bool (decide (l = l'))) ∧ w = w' := by
  have h1 := run_string_rb (P := Tryd.prog) w 26 5 9 Tryd.underlying26 Tryd.underlying5 Tryd.underlying9 A n c l hl
  have h2 := run_string_rb (P := Tryd.prog) w 26 5 9 Tryd.underlying26 Tryd.underlying5 Tryd.underlying9 B m d l' hl'
  clear hl hl'
  go_enter Tryd.func67, Tryd.ntmps67
  go_wp2
  go_ret
  refine ⟨congrArg (fun b => Ending.returned (.bool b)) ?_, rfl⟩
  rw [Bool.eq_iff_iff]
  simp

/-- sectors -/
theorem sectors_any (l : Nat) (w : World) (hl : l ≤ 9223372036854775807) : Calls Tryd.prog 32 #[.int .i64 (l : Int)] w fun e w' => e = .returned (.int .i64 (Jn.sectors l : Int)) ∧ w = w' := by
  have hs : Jn.sectors l = l / 63 + if 0 < l % 63 then 1 else 0 := by unfold Jn.sectors; split <;> omega
  have HS := Keep.mk hs
  clear hs
  by_cases h : 0 < l % 63
  · have e1 : decide ((0 : Int) < (l : Int) % 63) = true := decide_eq_true (by omega)
    have e2 : decide (0 < l % 63) = true := decide_eq_true h
    go_enter Tryd.func32, Tryd.ntmps32
    go_wp2
    go_ret
    exact ⟨ret_int (by rw [HS.out, if_pos h]; omega), rfl⟩
  · have e1 : decide ((0 : Int) < (l : Int) % 63) = false := decide_eq_false (by omega)
    have e2 : decide (0 < l % 63) = false := decide_eq_false h
    go_enter Tryd.func32, Tryd.ntmps32
    go_wp2
    go_ret
    exact ⟨ret_int (by rw [HS.out, if_neg h]; omega), rfl⟩

/-- head -/
theorem head_any (e : Int) (w : World) (he : V.In e) (ht : Tab w) : Calls Tryd.prog 44 #[.int .i64 e] w (RetB w (Jn.headB e)) := by
  have HE := Keep.mk he
  have HT := Keep.mk ht
  have CP := Keep.mk (putInt_any none 0 0 [] e w (RB.none_ w) he (by omega))
  clear he ht
  go_enter Tryd.func44, Tryd.ntmps44
  go_wp2_with fail
  refine CP.out.mono ?_
  rintro e1 w1 ⟨A1, n1, c1, rfl, ho, hb⟩
  have HB1 := Lib.hid hb
  have hr := ho.rb
  rw [List.nil_append] at hr
  have hel := V.enc_length HE.out
  have hln := hr.len
  have CS := Keep.mk (seal_any A1 n1 c1 _ w1 hr (HT.out.below hb) (by omega))
  clear ho hb hr hln
  go_wp2_with fail
  refine CS.out.mono ?_
  rintro e2 w2 ⟨A2, n2, c2, rfl, hr, hb⟩
  have HB2 := Lib.hid (below_next HB1.out hb (Nat.le_refl _))
  have CC := Keep.mk (sector_any 3 A2 n2 c2 _ w2 hr (Jn.head_len HE.out))
  clear hr hb hel
  go_wp2_with fail
  refine CC.out.mono ?_
  rintro e3 w3 ⟨A3, n3, c3, rfl, hr, hb⟩
  have HR := Keep.mk hr
  have HB3 := Lib.hid (below_next HB2.out hb (Nat.le_refl _))
  clear hr hb
  go_wp2
  go_ret
  exact ⟨A3, n3, c3, rfl, HR.out, HB3.out⟩

/-- title.sector -/
theorem tit_take (e n l s : Int) (k : Nat) (h : k < 4) : ∃ x, ([e, n, l, s] : List Int)[k]? = some x ∧ x ∈ ([e, n, l, s] : List Int) ∧ (([e, n, l, s] : List Int).take (k + 1)).flatMap V.enc = (([e, n, l, s] : List Int).take k).flatMap V.enc ++ V.enc x := by
  have hk : k < ([e, n, l, s] : List Int).length := h
  exact ⟨([e, n, l, s] : List Int)[k], List.getElem?_eq_getElem hk, List.getElem_mem hk, by rw [List.take_succ_eq_append_getElem hk, List.flatMap_append]; simp only [List.flatMap_cons, List.flatMap_nil, List.append_nil]⟩
theorem tit_ins {e n l s : Int} (h1 : V.In e) (h2 : V.In n) (h3 : V.In l) (h4 : V.In s) : V.Ins [e, n, l, s] := by
  intro x hx
  simp at hx
  rcases hx with rfl | rfl | rfl | rfl <;> assumption
theorem tit_all (e n l s : Int) : (([e, n, l, s] : List Int).take 4).flatMap V.enc = Jn.title4 e n l s := by simp [Jn.title4]

set_option maxHeartbeats 1000000 in
theorem title_any (e n l s : Int) (w : World) (h1 : V.In e) (h2 : V.In n) (h3 : V.In l) (h4 : V.In s) (ht : Tab w) :
    Calls Tryd.prog 39 #[.agg #[.int .i64 e, .int .i64 n, .int .i64 l, .int .i64 s]] w (RetB w (Jn.titleB e n l s)) := by
  have HT := Keep.mk ht
  have HI := Keep.mk (tit_ins h1 h2 h3 h4)
  have HTL := Keep.mk (Jn.title_len h1 h2 h3 h4)
  have HB0 : Hid (Below w.heap.size w (w.alloc (.cells #[.int .i64 e, .int .i64 n, .int .i64 l, .int .i64 s] 62))) := below_alloc1 _ _
  clear ht h1 h2 h3 h4
  go_enter Tryd.func39, Tryd.ntmps39
  go_upto_region 2 with (fail)
  generalize e1 : w.alloc (.cells #[.int .i64 e, .int .i64 n, .int .i64 l, .int .i64 s] 62) = w1 at *
  have i0 : w1.cell? ⟨w.heap.size, 0, none⟩ = some (.int .i64 e) := by rw [← e1]; exact (Bx.new w [.int .i64 e, .int .i64 n, .int .i64 l, .int .i64 s] 62).cell 0 _ rfl
  have i1 : w1.cell? ⟨w.heap.size, 1, none⟩ = some (.int .i64 n) := by rw [← e1]; exact (Bx.new w [.int .i64 e, .int .i64 n, .int .i64 l, .int .i64 s] 62).cell 1 _ rfl
  have i2 : w1.cell? ⟨w.heap.size, 2, none⟩ = some (.int .i64 l) := by rw [← e1]; exact (Bx.new w [.int .i64 e, .int .i64 n, .int .i64 l, .int .i64 s] 62).cell 2 _ rfl
  have i3 : w1.cell? ⟨w.heap.size, 3, none⟩ = some (.int .i64 s) := by rw [← e1]; exact (Bx.new w [.int .i64 e, .int .i64 n, .int .i64 l, .int .i64 s] 62).cell 3 _ rfl
  clear e1
  go_wp2
  clear i0 i1 i2 i3
  have HX := Keep.mk (Bx.new w1 [.int .i64 e, .int .i64 n, .int .i64 l, .int .i64 s] 3)
  have HB2 : Hid (Below w.heap.size w (w1.alloc (.cells #[.int .i64 e, .int .i64 n, .int .i64 l, .int .i64 s] 3))) := HB0.out.alloc HB0.out.size _
  generalize w1.alloc (.cells #[.int .i64 e, .int .i64 n, .int .i64 l, .int .i64 s] 3) = w2 at *
  go_loopw [3, 16] (fun v i wr => ∃ (k n' : Nat) (A' : Option Addr) (c' : Nat), k ≤ 4 ∧ i = .int .i64 k ∧ v = .slice A' n' c' ∧ Keep (RB wr A' n' c' ((([e, n, l, s] : List Int).take k).flatMap V.enc)) ∧ Keep (Below w2.heap.size w2 wr)) (fun _ i _ => 4 - (intOf i).toNat)
  case atStart => exact ⟨0, 0, none, 0, Nat.zero_le _, rfl, rfl, ⟨RB.none_ _⟩, ⟨Below.refl _ _⟩⟩
  case round =>
    obtain ⟨k, n', A', c', hk, rfl, rfl, HR, HB⟩ := hrel
    have hfl := V.flat_length (x := ([e, n, l, s] : List Int).take k) (fun x hx => HI.out x (List.mem_of_mem_take hx))
    have hln := HR.out.len
    have hn40 : n' ≤ 40 := by rw [List.length_take] at hfl; omega
    clear hfl hln
    by_cases hlt : k < 4
    · obtain ⟨x, hx, hxm, htk⟩ := tit_take e n l s k hlt
      have ck := (HX.out.below HB.out).cell k (.int .i64 x) (by
        have h := congrArg (Option.map iv) hx
        rw [← List.getElem?_map] at h
        exact h)
      have HTK := Keep.mk htk
      have CP := Keep.mk (putInt_any A' n' c' _ x wr HR.out (HI.out x hxm) (by omega))
      clear hx hxm htk
      have hk0 : (0 : Int) ≤ (k : Int) := by omega
      have hk4 : (k : Int) < 4 := by omega
      go_wp2_with fail
      refine CP.out.mono ?_
      rintro e3 w3 ⟨A3, n3, c3, rfl, ho, hb⟩
      have HR3 := Keep.mk ho.rb
      have HB3 := Keep.mk (below_next HB.out hb (Nat.le_refl _))
      clear ho hb ck
      go_wp2
      go_roundw
      case rel => exact ⟨k + 1, n3, A3, c3, by omega, by go_num, rfl, ⟨by rw [HTK.out]; exact HR3.out⟩, HB3⟩
      case measure => simp [intOf]; omega
    · obtain rfl : k = 4 := by omega
      have HR4 := HR.out
      rw [tit_all] at HR4
      have HB4 := Lib.hid (below_next HB2.out HB.out (Nat.le_refl _))
      have CS := Keep.mk (seal_any A' n' c' _ wr HR4 (HT.out.below HB4.out) (by omega))
      clear HR4 HR HB
      go_wp2_with fail
      refine CS.out.mono ?_
      rintro e5 w5 ⟨A5, n5, c5, rfl, hr, hb⟩
      have HB5 := Lib.hid (below_next HB4.out hb (Nat.le_refl _))
      have CC := Keep.mk (sector_any 1 A5 n5 c5 _ w5 hr HTL.out)
      clear hr hb
      go_wp2_with fail
      refine CC.out.mono ?_
      rintro e6 w6 ⟨A6, n6, c6, rfl, hr, hb⟩
      have HR6 := Keep.mk hr
      have HB6 := Lib.hid (below_next HB5.out hb (Nat.le_refl _))
      clear hr hb
      go_wp2
      go_ret
      exact ⟨A6, n6, c6, rfl, HR6.out, HB6.out⟩
end Go.Proofs.YtjficpdfofmcnaaDoor

/- The reference's sector, sectors, head, title. -/
namespace Go.Proofs.YtjficpdfofmcnaaDoor
open Go.RowKit Go.Joins

/-- How long a slice is. -/
def sliceLen : Value → Nat
  | .slice _ n _ => n
  | _ => 0
theorem sec_fill (k : UInt8) (l : List UInt8) (j : Nat) (h : 1 + l.length + j = 64) : [k] ++ l ++ List.replicate j 0 = Jn.sec k l := by
  rw [show j = 63 - l.length by omega]
  simp [Jn.sec]

set_option maxHeartbeats 1000000 in
theorem rsector_any (k : UInt8) (x : Int) (hx : x = (k.toNat : Int)) (A : Option Addr) (n c : Nat) (l : List UInt8) (w : World) (hl : RB w A n c l) (hn : l.length ≤ 63) :
    Calls Tryd.prog 51 #[.int .u8 x, .slice A n c] w (RetB w (Jn.sec k l)) := by
  subst hx
  have HL := Keep.mk (hl.below (below_alloc1 w (.cells #[.int .u8 (k.toNat : Int)] 5)))
  have HB0 : Hid (Below w.heap.size w (w.alloc (.cells #[.int .u8 (k.toNat : Int)] 5))) := below_alloc1 _ _
  have HO := Keep.mk (TB.full (base := w.heap.size) (rb_one w k))
  have hln := hl.len
  have hn63 : n ≤ 63 := by omega
  have HLN := Keep.mk hln
  clear hl hn hln
  go_enter Tryd.func51, Tryd.ntmps51
  go_wp2_with (at_builtin; refine append_b _ rfl (.tmp 8) (.tmp 9) rfl w.heap.size _ 1 1 [k] rfl HO.out A n c l rfl HL.out (by omega) HB0.out.size ?_; intro A2 n2 c2 w2 ht hb; have HT2 := Keep.mk ht; have HB2 : Hid (Below w.heap.size w w2) := HB0.out.trans hb; clear ht hb)
  go_loopw [5] (fun v wr => ∃ (j n' : Nat) (A' : Option Addr) (c' : Nat), v = .slice A' n' c' ∧ 1 + n + j ≤ 64 ∧ n' = 1 + n + j ∧ Keep (TB wr w.heap.size A' n' c' ([k] ++ l ++ List.replicate j 0)) ∧ Keep (Below w.heap.size w wr)) (fun v _ => 64 - sliceLen v)
  case atStart => exact ⟨0, n2, A2, c2, rfl, by omega, by have := HT2.out.len; have := HLN.out; simp at *; omega, ⟨by simpa using HT2.out⟩, ⟨HB2.out⟩⟩
  case round =>
    obtain ⟨j, n', A', c', rfl, hj, hn', HT, HB⟩ := hrel
    by_cases hlt : n' < 64
    · have HZ := Keep.mk (rb_one wr 0)
      have HN' := Keep.mk hn'
      clear hn'
      go_wp2_with (at_builtin; refine append_b _ rfl (.tmp 14) (.tmp 15) rfl w.heap.size A' n' c' _ rfl (HT.out.below (below_alloc1 _ _)) (some ⟨wr.heap.size, 0, none⟩) 1 1 [0] rfl HZ.out (by omega) (by have := HB.out.size; simp; omega) ?_; intro A4 n4 c4 w4 ht hb; have HT4 := Keep.mk ht; have HB4 := Keep.mk hb; clear ht hb)
      go_roundw
      case rel => exact ⟨j + 1, n4, A4, c4, rfl, by have := HN'.out; omega, by have h1 := HT4.out.len; have h2 := HT.out.len; have h3 := HLN.out; have h4 := HN'.out; simp at h1 h2; omega, ⟨by have h := HT4.out; rw [List.append_assoc, ← List.replicate_succ'] at h; exact h⟩, ⟨HB.out.trans (((below_alloc1 _ _).mono HB.out.size).trans HB4.out)⟩⟩
      case measure =>
        have h1 := HT4.out.len
        have h2 := HT.out.len
        simp [sliceLen] at h1 h2 ⊢
        omega
    · have HF : Keep ([k] ++ l ++ List.replicate j 0 = Jn.sec k l) := ⟨sec_fill k l j (by have := HLN.out; omega)⟩
      go_wp2
      go_ret
      exact ⟨A', n', c', rfl, by rw [← HF.out]; exact HT.out.rb, HB.out⟩

/-- sectors -/
theorem rsectors_any (l : Nat) (w : World) (hl : l ≤ 9223372036854775807) : Calls Tryd.prog 69 #[.int .i64 (l : Int)] w fun e w' => e = .returned (.int .i64 (Jn.sectors l : Int)) ∧ w = w' := by
  have hs : Jn.sectors l = l / 63 + if 0 < l % 63 then 1 else 0 := by unfold Jn.sectors; split <;> omega
  have HS := Keep.mk hs
  clear hs
  by_cases h : 0 < l % 63
  · have e1 : decide ((0 : Int) < (l : Int) % 63) = true := decide_eq_true (by omega)
    have e2 : decide (0 < l % 63) = true := decide_eq_true h
    go_enter Tryd.func69, Tryd.ntmps69
    go_wp2
    go_ret
    exact ⟨ret_int (by rw [HS.out, if_pos h]; omega), rfl⟩
  · have e1 : decide ((0 : Int) < (l : Int) % 63) = false := decide_eq_false (by omega)
    have e2 : decide (0 < l % 63) = false := decide_eq_false h
    go_enter Tryd.func69, Tryd.ntmps69
    go_wp2
    go_ret
    exact ⟨ret_int (by rw [HS.out, if_neg h]; omega), rfl⟩

/-- head -/
theorem rhead_any (e : Int) (w : World) (he : V.In e) : Calls Tryd.prog 53 #[.int .i64 e] w (RetB w (Jn.headB e)) := by
  have HE := Keep.mk he
  have CP := Keep.mk (rputInt_any none 0 0 [] e w (RB.none_ w) he (by omega))
  clear he
  go_enter Tryd.func53, Tryd.ntmps53
  go_wp2_with fail
  refine CP.out.mono ?_
  rintro e1 w1 ⟨A1, n1, c1, rfl, ho, hb⟩
  have HB1 := Lib.hid hb
  have hr := ho.rb
  rw [List.nil_append] at hr
  have hel := V.enc_length HE.out
  have hln := hr.len
  have CS := Keep.mk (rseal_any A1 n1 c1 _ w1 hr (by omega))
  clear ho hb hr hln
  go_wp2_with fail
  refine CS.out.mono ?_
  rintro e2 w2 ⟨A2, n2, c2, rfl, hr, hb⟩
  have HB2 := Lib.hid (below_next HB1.out hb (Nat.le_refl _))
  have CC := Keep.mk (rsector_any 3 3 rfl A2 n2 c2 _ w2 hr (Jn.head_len HE.out))
  clear hr hb hel
  go_wp2_with fail
  refine CC.out.mono ?_
  rintro e3 w3 ⟨A3, n3, c3, rfl, hr, hb⟩
  have HR := Keep.mk hr
  have HB3 := Lib.hid (below_next HB2.out hb (Nat.le_refl _))
  clear hr hb
  go_wp2
  go_ret
  exact ⟨A3, n3, c3, rfl, HR.out, HB3.out⟩

/-- title -/
theorem rtitle_any (e n l s : Int) (w : World) (h1 : V.In e) (h2 : V.In n) (h3 : V.In l) (h4 : V.In s) :
    Calls Tryd.prog 55 #[.int .i64 e, .int .i64 n, .int .i64 l, .int .i64 s] w (RetB w (Jn.titleB e n l s)) := by
  have HTL := Keep.mk (Jn.title_len h1 h2 h3 h4)
  have H2 := Keep.mk h2
  have H3 := Keep.mk h3
  have H4 := Keep.mk h4
  have g1 := V.enc_length h1
  have g2 := V.enc_length h2
  have g3 := V.enc_length h3
  have g4 := V.enc_length h4
  have HG : Keep ((V.enc e).length ≤ 10 ∧ (V.enc n).length ≤ 10 ∧ (V.enc l).length ≤ 10 ∧ (V.enc s).length ≤ 10) := ⟨g1.2, g2.2, g3.2, g4.2⟩
  have CP := Keep.mk (rputInt_any none 0 0 [] e w (RB.none_ w) h1 (by omega))
  clear h1 h2 h3 h4 g1 g2 g3 g4
  go_enter Tryd.func55, Tryd.ntmps55
  go_wp2_with fail
  refine CP.out.mono ?_
  rintro e1 w1 ⟨A1, n1, c1, rfl, ho, hb⟩
  have HB1 := Lib.hid hb
  have hr := ho.rb
  rw [List.nil_append] at hr
  have C2 := Keep.mk (rputInt_any A1 n1 c1 _ n w1 hr H2.out (by have := HG.out; have := hr.len; omega))
  clear ho hb hr CP
  go_wp2_with fail
  refine C2.out.mono ?_
  rintro e2 w2 ⟨A2, n2, c2, rfl, ho, hb⟩
  have HB2 := Lib.hid (below_next HB1.out hb (Nat.le_refl _))
  have C3 := Keep.mk (rputInt_any A2 n2 c2 _ l w2 ho.rb H3.out (by have := HG.out; have h := ho.rb.len; simp at h; omega))
  clear ho hb C2
  go_wp2_with fail
  refine C3.out.mono ?_
  rintro e3 w3 ⟨A3, n3, c3, rfl, ho, hb⟩
  have HB3 := Lib.hid (below_next HB2.out hb (Nat.le_refl _))
  have C4 := Keep.mk (rputInt_any A3 n3 c3 _ s w3 ho.rb H4.out (by have := HG.out; have h := ho.rb.len; simp at h; omega))
  clear ho hb C3
  go_wp2_with fail
  refine C4.out.mono ?_
  rintro e4 w4 ⟨A4, n4, c4, rfl, ho, hb⟩
  have HB4 := Lib.hid (below_next HB3.out hb (Nat.le_refl _))
  have CS := Keep.mk (rseal_any A4 n4 c4 _ w4 ho.rb (by have := HG.out; have h := ho.rb.len; simp at h; omega))
  clear ho hb C4
  go_wp2_with fail
  refine CS.out.mono ?_
  rintro e5 w5 ⟨A5, n5, c5, rfl, hr, hb⟩
  have HB5 := Lib.hid (below_next HB4.out hb (Nat.le_refl _))
  have CC := Keep.mk (rsector_any 1 1 rfl A5 n5 c5 _ w5 hr HTL.out)
  clear hr hb CS
  go_wp2_with fail
  refine CC.out.mono ?_
  rintro e6 w6 ⟨A6, n6, c6, rfl, hr, hb⟩
  have HR := Keep.mk hr
  have HB6 := Lib.hid (below_next HB5.out hb (Nat.le_refl _))
  clear hr hb
  go_wp2
  go_ret
  exact ⟨A6, n6, c6, rfl, HR.out, HB6.out⟩
end Go.Proofs.YtjficpdfofmcnaaDoor

/- The journal's readHead; the reference's epoch. -/
namespace Go.Proofs.YtjficpdfofmcnaaDoor
open Go.RowKit Go.Joins

/-- What readHead leaves. -/
def RetH (w : World) (r : Int × Bool) (e : Ending) (w' : World) : Prop := e = .returned (.tuple #[.int .i64 r.1, .bool r.2]) ∧ Below w.heap.size w w'
theorem dec_pair (l : List UInt8) : ∃ n k q, V.dec l = (n, k, q) := ⟨_, _, _, rfl⟩
theorem rb_from {w : World} {A : Option Addr} {n c : Nat} {l : List UInt8} (h : RB w A n c l) {i : Nat} (hi : i ≤ n) : RB w (cutA A i c 1) (n - i) (c - i) (l.drop i) := by
  have hc := h.cap
  have h1 := h.cut (i := i) (j := n) (m := c) hi (Nat.le_refl _) hc (Nat.le_refl _)
  rwa [List.take_of_length_le (by rw [h.len]; exact Nat.le_refl _)] at h1

set_option maxHeartbeats 1000000 in
theorem readHead_any (A : Option Addr) (n c : Nat) (l : List UInt8) (w : World) (hl : RB w A n c l) (ht : Tab w) :
    Calls Tryd.prog 43 #[.slice A n c] w (RetH w (Jn.readHead l)) := by
  have hln := hl.len
  by_cases h64 : n = 64
  · subst h64
    have hsl := fun (X : World) => run_from_b A 64 c 1 1 rfl (by decide) X
    have CI := Keep.mk (int_any _ _ _ _ w (rb_from hl (i := 1) (by decide)))
    have HL := Keep.mk hl
    have HT := Keep.mk ht
    have hin := Jn.dec_in (l.drop 1)
    obtain ⟨x, k, q, hd⟩ := dec_pair (l.drop 1)
    have hrh : Jn.readHead l = if q ≠ 0 ∨ x < 1 ∨ 1073741824 < x then (0, false) else if l = Jn.headB x then (x, true) else (0, false) := by
      unfold Jn.readHead
      rw [if_neg (by rw [hln]; decide), hd]
    rw [hd] at CI hin
    have HIN := Keep.mk hin
    have HRH := Keep.mk hrh
    rw [hrh]
    clear hl ht hin hd hrh hln
    by_cases hq : q = 0
    · subst hq
      by_cases h1 : x < 1
      · have e1 : decide (x < 1) = true := decide_eq_true h1
        rw [if_pos (.inr (.inl h1))]
        go_enter Tryd.func43, Tryd.ntmps43
        go_wp2_with fail
        refine CI.out.mono ?_
        rintro e w1 ⟨rfl, rfl⟩
        go_wp2
        go_ret2
        exact ⟨rfl, Below.refl _ _⟩
      · have e1 : decide (x < 1) = false := decide_eq_false h1
        by_cases h2 : 1073741824 < x
        · have e2 : decide (1073741824 < x) = true := decide_eq_true h2
          rw [if_pos (.inr (.inr h2))]
          go_enter Tryd.func43, Tryd.ntmps43
          go_wp2_with fail
          refine CI.out.mono ?_
          rintro e w1 ⟨rfl, rfl⟩
          go_wp2
          go_ret2
          exact ⟨rfl, Below.refl _ _⟩
        · have e2 : decide (1073741824 < x) = false := decide_eq_false h2
          have CH := Keep.mk (head_any x w HIN.out HT.out)
          rw [if_neg (by omega)]
          by_cases hh : l = Jn.headB x
          all_goals
            have CE := Keep.mk (fun (X : World) (hX : Below w.heap.size w X) (A2 : Option Addr) (n2 c2 : Nat) (hr : RB X A2 n2 c2 (Jn.headB x)) => equal_any A 64 c l A2 n2 c2 _ X (HL.out.below hX) hr)
            first | rw [decide_eq_true hh] at CE | rw [decide_eq_false hh] at CE
            first | rw [if_pos hh] | rw [if_neg hh]
            have HH := Keep.mk hh
            clear hh HRH
            go_enter Tryd.func43, Tryd.ntmps43
            go_wp2_with fail
            refine CI.out.mono ?_
            rintro e w1 ⟨rfl, rfl⟩
            go_wp2_with fail
            refine CH.out.mono ?_
            rintro e w2 ⟨A2, n2, c2, rfl, hr, hb⟩
            have HB2 := Lib.hid hb
            have CQ := Keep.mk (CE.out w2 hb A2 n2 c2 hr)
            clear hr hb
            go_wp2_with fail
            refine CQ.out.mono ?_
            rintro e w3 ⟨rfl, rfl⟩
            go_wp2
            go_ret2
            exact ⟨rfl, HB2.out⟩
    · have e0 : (q != 0) = true := by simpa using hq
      rw [if_pos (.inl hq)]
      clear hq
      go_enter Tryd.func43, Tryd.ntmps43
      go_wp2_with fail
      refine CI.out.mono ?_
      rintro e w1 ⟨rfl, rfl⟩
      go_wp2
      go_ret2
      exact ⟨rfl, Below.refl _ _⟩
  · have e1 : ((n : Int) != 64) = true := by rw [bne_iff_ne]; omega
    have hr : Jn.readHead l = (0, false) := by unfold Jn.readHead; rw [if_pos (by omega)]
    rw [hr]
    clear hl ht hr hln h64
    go_enter Tryd.func43, Tryd.ntmps43
    go_wp2
    go_ret2
    exact ⟨rfl, Below.refl _ _⟩
end Go.Proofs.YtjficpdfofmcnaaDoor

/- The journal's readTitle. -/
namespace Go.Proofs.YtjficpdfofmcnaaDoor
open Go.RowKit Go.Joins

def tc (r : List UInt8) (k : Nat) : List Value := [.int .i64 (Jn.tv r k 0), .int .i64 (Jn.tv r k 1), .int .i64 (Jn.tv r k 2), .int .i64 (Jn.tv r k 3)]
theorem tv_next (r : List UInt8) (k j : Nat) (h : j ≠ k) : Jn.tv r (k + 1) j = Jn.tv r k j := by
  unfold Jn.tv
  by_cases hj : j < k
  · rw [if_pos hj, if_pos (by omega)]
  · rw [if_neg hj, if_neg (by omega)]
theorem tc_set (r : List UInt8) (k : Nat) (h : k < 4) : (tc r k).set k (.int .i64 (V.dec (Jn.st r k)).1) = tc r (k + 1) := by
  unfold tc
  have e : Jn.tv r (k + 1) k = (V.dec (Jn.st r k)).1 := Jn.tv_at (Nat.lt_succ_self _)
  have o := fun j (hj : j ≠ k) => tv_next r k j hj
  rw [← e]
  clear e
  have hc : k = 0 ∨ k = 1 ∨ k = 2 ∨ k = 3 := by omega
  rcases hc with rfl | rfl | rfl | rfl
  · rw [o 1 (by decide), o 2 (by decide), o 3 (by decide)]; rfl
  · rw [o 0 (by decide), o 2 (by decide), o 3 (by decide)]; rfl
  · rw [o 0 (by decide), o 1 (by decide), o 3 (by decide)]; rfl
  · rw [o 0 (by decide), o 1 (by decide), o 2 (by decide)]; rfl
theorem tc_zero (r : List UInt8) : tc r 0 = [.int .i64 0, .int .i64 0, .int .i64 0, .int .i64 0] := by simp [tc, Jn.tv]
/-- What readTitle leaves. -/
def RetT4 (w : World) (l : List UInt8) (e : Ending) (w' : World) : Prop := ∃ (t0 t1 t2 t3 : Int) (ok : Bool), e = .returned (.tuple #[.agg #[.int .i64 t0, .int .i64 t1, .int .i64 t2, .int .i64 t3], .bool ok]) ∧ Below w.heap.size w w' ∧
  ((ok = true ∧ Jn.titleOf l = some (t0, t1, t2, t3)) ∨ (ok = false ∧ Jn.titleOf l = none))
theorem tc_get (r : List UInt8) (k : Nat) (h : k < 4) : (tc r k)[k]? = some (.int .i64 (Jn.tv r k k)) := by
  have hc : k = 0 ∨ k = 1 ∨ k = 2 ∨ k = 3 := by omega
  rcases hc with rfl | rfl | rfl | rfl <;> rfl
theorem ptr_get (b k : Nat) (h : k < 4) : ([.pointer (some ⟨b, 0, none⟩), .pointer (some ⟨b, 1, none⟩), .pointer (some ⟨b, 2, none⟩), .pointer (some ⟨b, 3, none⟩)] : List Value)[k]? = some (.pointer (some ⟨b, k, none⟩)) := by
  match k, h with
  | 0, _ => rfl
  | 1, _ => rfl
  | 2, _ => rfl
  | 3, _ => rfl

set_option maxHeartbeats 2000000 in
theorem readTitle_any (A : Option Addr) (n c : Nat) (l : List UInt8) (w : World) (hl : RB w A n c l) (ht : Tab w) :
    Calls Tryd.prog 76 #[.slice A n c] w (RetT4 w l) := by
  have hln := hl.len
  have IX := Keep.mk (Bx.new w [.int .i64 0, .int .i64 0, .int .i64 0, .int .i64 0] 62)
  have HB0 : Hid (Below w.heap.size w (w.alloc (.cells #[.int .i64 0, .int .i64 0, .int .i64 0, .int .i64 0] 62))) := below_alloc1 _ _
  by_cases h64 : n = 64
  · subst h64
    have hsl := fun (X : World) => run_from_b A 64 c 1 1 rfl (by decide) X
    have HR1 := Keep.mk (rb_from hl (i := 1) (by decide))
    have HL := Keep.mk hl
    have HT := Keep.mk ht
    have HLN := Keep.mk hln
    clear hl ht hln
    obtain ⟨r, hr⟩ : ∃ r, r = l.drop 1 := ⟨_, rfl⟩
    rw [← hr] at HR1
    have HRD := Keep.mk hr
    clear hr
    go_enter Tryd.func76, Tryd.ntmps76
    go_wp2
    clear hsl
    have PX := Keep.mk (Bx.new (w.alloc (.cells #[.int .i64 0, .int .i64 0, .int .i64 0, .int .i64 0] 62)) [.pointer (some ⟨w.heap.size, 0, none⟩), .pointer (some ⟨w.heap.size, 1, none⟩), .pointer (some ⟨w.heap.size, 2, none⟩), .pointer (some ⟨w.heap.size, 3, none⟩)] 102)
    have HB1 : Hid (Below w.heap.size w ((w.alloc (.cells #[.int .i64 0, .int .i64 0, .int .i64 0, .int .i64 0] 62)).alloc (.cells #[.pointer (some ⟨w.heap.size, 0, none⟩), .pointer (some ⟨w.heap.size, 1, none⟩), .pointer (some ⟨w.heap.size, 2, none⟩), .pointer (some ⟨w.heap.size, 3, none⟩)] 102))) := HB0.out.alloc HB0.out.size _
    have IX1 := Keep.mk (IX.out.alloc (.cells #[.pointer (some ⟨w.heap.size, 0, none⟩), .pointer (some ⟨w.heap.size, 1, none⟩), .pointer (some ⟨w.heap.size, 2, none⟩), .pointer (some ⟨w.heap.size, 3, none⟩)] 102))
    rw [World.size_alloc] at PX
    generalize (w.alloc (.cells #[.int .i64 0, .int .i64 0, .int .i64 0, .int .i64 0] 62)).alloc (.cells #[.pointer (some ⟨w.heap.size, 0, none⟩), .pointer (some ⟨w.heap.size, 1, none⟩), .pointer (some ⟨w.heap.size, 2, none⟩), .pointer (some ⟨w.heap.size, 3, none⟩)] 102) = w2 at *
    rw [← tc_zero r] at IX1
    clear IX HB0
    go_loopw [4, 22] (fun v i wr => ∃ (k n' : Nat) (A' : Option Addr) (c' : Nat), k ≤ 4 ∧ i = .int .i64 k ∧ v = .slice A' n' c' ∧ Keep (RB w A' n' c' (Jn.st r k)) ∧ Keep (Bx wr w.heap.size (tc r k) ∧ Bx wr (w.heap.size + 1) [.pointer (some ⟨w.heap.size, 0, none⟩), .pointer (some ⟨w.heap.size, 1, none⟩), .pointer (some ⟨w.heap.size, 2, none⟩), .pointer (some ⟨w.heap.size, 3, none⟩)] ∧ Below w.heap.size w wr) ∧ Keep (∀ j, j < k → (V.dec (Jn.st r j)).2.2 = 0)) (fun _ i _ => 4 - (intOf i).toNat)
    case atStart => exact ⟨0, 63, cutA A 1 c 1, c - 1, Nat.zero_le _, rfl, rfl, ⟨HR1.out⟩, ⟨⟨IX1.out, PX.out, HB1.out⟩⟩, ⟨fun j hj => absurd hj (Nat.not_lt_zero _)⟩⟩
    case round =>
      obtain ⟨k, n', A', c', hk, rfl, rfl, HR, HX, HE⟩ := hrel
      by_cases hlt : k < 4
      · have pk := HX.out.2.1.cell k _ (ptr_get w.heap.size k hlt)
        have tk := HX.out.1.cell k _ (tc_get r k hlt)
        have fk := HX.out.1.fz
        have hk0 : (0 : Int) ≤ (k : Int) := by omega
        have hk4 : (k : Int) < 4 := by omega
        have CI := int_any A' n' c' _ wr (HR.out.below HX.out.2.2)
        have hus := Jn.dec_used (Jn.st r k)
        have hln := HR.out.len
        have HST : Keep (Jn.st r (k + 1) = (Jn.st r k).drop (V.dec (Jn.st r k)).2.1) := ⟨rfl⟩
        have HSE := Keep.mk (tc_set r k hlt)
        have HDN := Keep.mk (fun h => Jn.dec4_none hlt (r := r) h)
        have HEN : Keep ((V.dec (Jn.st r k)).2.2 = 0 → ∀ j, j < k + 1 → (V.dec (Jn.st r j)).2.2 = 0) := ⟨fun h j hj => by
          by_cases hjk : j < k
          · exact HE.out j hjk
          · obtain rfl : j = k := by omega
            exact h⟩
        generalize V.dec (Jn.st r k) = d at *
        obtain ⟨x, u, q⟩ := d
        simp only at hus HST HSE HDN HEN
        have CIK := Keep.mk CI
        have hun : u ≤ n' := by omega
        clear CI hus hln
        by_cases hq : q = 0
        · subst hq
          have hsl := fun (X : World) => run_from_b A' n' c' u (u : Int) rfl hun X
          have hu0 : (0 : Int) ≤ (u : Int) := by omega
          have hu1 : (u : Int) ≤ (n' : Int) := by omega
          go_wp2_with fail
          refine CIK.out.mono ?_
          rintro e w3 ⟨rfl, rfl⟩
          go_wp2
          go_region
          all_goals
            go_wp2
            go_roundw
            case rel => exact ⟨k + 1, n' - u, cutA A' u c' 1, c' - u, by omega, by go_num, rfl, ⟨by rw [HST.out]; exact rb_from HR.out hun⟩, ⟨⟨by rw [← HSE.out]; exact (HX.out.1.set (j := k) (by simp [tc]; omega) _).drewN 1, (HX.out.2.1.other (p := ⟨w.heap.size, k, none⟩) (by simp) _).drewN 1, (HX.out.2.2.setCell (Nat.le_refl _) _).trans (below_draws _ _ 1)⟩⟩, ⟨HEN.out trivial⟩⟩
            case measure => simp [intOf]; omega
        · have e0 : (q != 0) = true := by simpa using hq
          have HNN : Keep (Jn.titleOf l = none) := ⟨Jn.titleOf_none (by rw [← HRD.out]; exact HDN.out hq)⟩
          clear hq
          have i0 := HX.out.1.cell 0 _ rfl
          have i1 := HX.out.1.cell 1 _ rfl
          have i2 := HX.out.1.cell 2 _ rfl
          have i3 := HX.out.1.cell 3 _ rfl
          go_wp2_with fail
          refine CIK.out.mono ?_
          rintro e w3 ⟨rfl, rfl⟩
          go_wp2
          refine bodyPost_ret (v := .tuple #[.agg #[.int .i64 (Jn.tv r k 0), .int .i64 (Jn.tv r k 1), .int .i64 (Jn.tv r k 2), .int .i64 (Jn.tv r k 3)], .bool false]) (by simp [results, Tryd.results76, go_sem, i0, i1, i2, i3]) rfl ?_
          exact ⟨_, _, _, _, false, rfl, HX.out.2.2.trans ((off_set4 wr w.heap.size _ _ _ _).below HX.out.2.2.size (by simp)), .inr ⟨rfl, HNN.out⟩⟩
      · obtain rfl : k = 4 := by omega
        have HTO : Keep (Jn.titleOf l = if l = Jn.titleB (Jn.tv r 4 0) (Jn.tv r 4 1) (Jn.tv r 4 2) (Jn.tv r 4 3) then some (Jn.tv r 4 0, Jn.tv r 4 1, Jn.tv r 4 2, Jn.tv r 4 3) else none) := ⟨Jn.titleOf_some HLN.out (by rw [← HRD.out]; exact Jn.dec4_some HE.out)⟩
        have CT := Keep.mk (fun (X : World) (hX : Below w.heap.size w X) => title_any (Jn.tv r 4 0) (Jn.tv r 4 1) (Jn.tv r 4 2) (Jn.tv r 4 3) X (Jn.tv_in _ _ _) (Jn.tv_in _ _ _) (Jn.tv_in _ _ _) (Jn.tv_in _ _ _) (HT.out.below hX))
        have CE := Keep.mk (fun (X : World) (hX : Below w.heap.size w X) (A2 : Option Addr) (n2 c2 : Nat) (hr : RB X A2 n2 c2 (Jn.titleB (Jn.tv r 4 0) (Jn.tv r 4 1) (Jn.tv r 4 2) (Jn.tv r 4 3))) => equal_any A 64 c l A2 n2 c2 _ X (HL.out.below hX) hr)
        have KQ : Keep (∀ X, Bx X w.heap.size (tc r 4) → X.cell? ⟨w.heap.size, 0, none⟩ = some (.int .i64 (Jn.tv r 4 0)) ∧ X.cell? ⟨w.heap.size, 1, none⟩ = some (.int .i64 (Jn.tv r 4 1)) ∧ X.cell? ⟨w.heap.size, 2, none⟩ = some (.int .i64 (Jn.tv r 4 2)) ∧ X.cell? ⟨w.heap.size, 3, none⟩ = some (.int .i64 (Jn.tv r 4 3))) := ⟨fun X h => ⟨h.cell 0 _ rfl, h.cell 1 _ rfl, h.cell 2 _ rfl, h.cell 3 _ rfl⟩⟩
        have HXC : Keep (Bx wr.drew w.heap.size (tc r 4)) := ⟨HX.out.1.drewN 1⟩
        have HC : Hid (Below w.heap.size w wr.drew) := HX.out.2.2.trans (below_draws _ _ 1)
        have fk := HX.out.1.fz
        have hlw := HX.out.1.lt
        obtain ⟨ok, hok⟩ : ∃ ok, ok = decide (l = Jn.titleB (Jn.tv r 4 0) (Jn.tv r 4 1) (Jn.tv r 4 2) (Jn.tv r 4 3)) := ⟨_, rfl⟩
        rw [← hok] at CE
        have HOK := Keep.mk hok
        clear hok hk hlt
        go_upto_region 12 with (fail)
        go_cut [3] from 42 to 46 (fun s3 X => s3 = .bool ok ∧ Bx X w.heap.size (tc r 4) ∧ Below w.heap.size w X)
        case first =>
          go_region_held3 (fun X => X.cell? ⟨w.heap.size, 0, none⟩ = some (.int .i64 (Jn.tv r 4 0)) ∧ X.cell? ⟨w.heap.size, 1, none⟩ = some (.int .i64 (Jn.tv r 4 1)) ∧ X.cell? ⟨w.heap.size, 2, none⟩ = some (.int .i64 (Jn.tv r 4 2)) ∧ X.cell? ⟨w.heap.size, 3, none⟩ = some (.int .i64 (Jn.tv r 4 3)))
            (first | exact KQ.out _ HXC.out | exact KQ.out _ (Bx.set4 HXC.out _ _ _ _))
            (first
              | (go_at_call 39; (first | (refine (CT.out _ HC.out).mono ?_) | (refine (CT.out _ ((((HC.out.setCell (Nat.le_refl _) _).setCell (Nat.le_refl _) _).setCell (Nat.le_refl _) _).setCell (Nat.le_refl _) _)).mono ?_)); rintro e wn ⟨A5, n5, c5, rfl, hr, hb⟩; have HR5 := Keep.mk hr; (first | (have HXN := Keep.mk (HXC.out.below hb); have HCN : Hid (Below w.heap.size w wn) := below_next HC.out hb (Nat.le_refl _)) | (have HXN := Keep.mk ((Bx.set4 HXC.out (.int .i64 (Jn.tv r 4 0)) (.int .i64 (Jn.tv r 4 1)) (.int .i64 (Jn.tv r 4 2)) (.int .i64 (Jn.tv r 4 3))).below hb); have HCN : Hid (Below w.heap.size w wn) := below_next ((((HC.out.setCell (Nat.le_refl _) _).setCell (Nat.le_refl _) _).setCell (Nat.le_refl _) _).setCell (Nat.le_refl _) _) hb (Nat.le_refl _))); clear HXC HC hr hb; have HXC := HXN; have HC := HCN; have fk := HXC.out.fz; have hlw := HXC.out.lt; clear HXN HCN)
              | (go_at_call 67; (first | ((refine (CE.out _ HC.out A5 n5 c5 HR5.out).mono ?_); rintro e wn ⟨rfl, rfl⟩) | ((refine (CE.out _ ((((HC.out.setCell (Nat.le_refl _) _).setCell (Nat.le_refl _) _).setCell (Nat.le_refl _) _).setCell (Nat.le_refl _) _) A5 n5 c5 (RB.below' HR5.out)).mono ?_); rintro e wn ⟨rfl, rfl⟩))))
          all_goals go_wp2
          all_goals go_meet
          all_goals exact ⟨rfl, Bx.set4 HXC.out _ _ _ _, ((((HC.out.setCell (Nat.le_refl _) _).setCell (Nat.le_refl _) _).setCell (Nat.le_refl _) _).setCell (Nat.le_refl _) _)⟩
        case rest =>
          obtain ⟨rfl, hx, hb⟩ := hcut
          have HXE := Keep.mk hx
          have HBE := Lib.hid hb
          have i0 := hx.cell 0 _ rfl
          have i1 := hx.cell 1 _ rfl
          have i2 := hx.cell 2 _ rfl
          have i3 := hx.cell 3 _ rfl
          clear hx hb
          go_wp2
          refine bodyPost_ret (v := .tuple #[.agg #[.int .i64 (Jn.tv r 4 0), .int .i64 (Jn.tv r 4 1), .int .i64 (Jn.tv r 4 2), .int .i64 (Jn.tv r 4 3)], .bool ok]) (by simp [results, Tryd.results76, go_sem, i0, i1, i2, i3]) rfl ?_
          refine ⟨_, _, _, _, ok, rfl, HBE.out, ?_⟩
          rw [HTO.out]
          by_cases hh : l = Jn.titleB (Jn.tv r 4 0) (Jn.tv r 4 1) (Jn.tv r 4 2) (Jn.tv r 4 3)
          · rw [if_pos hh]
            exact .inl ⟨by rw [HOK.out]; exact decide_eq_true hh, rfl⟩
          · rw [if_neg hh]
            exact .inr ⟨by rw [HOK.out]; exact decide_eq_false hh, rfl⟩
  · have e1 : ((n : Int) != 64) = true := by rw [bne_iff_ne]; omega
    have HTO : Keep (Jn.titleOf l = none) := ⟨by unfold Jn.titleOf; rw [if_pos (by omega)]⟩
    have i0 := IX.out.cell 0 _ rfl
    have i1 := IX.out.cell 1 _ rfl
    have i2 := IX.out.cell 2 _ rfl
    have i3 := IX.out.cell 3 _ rfl
    have fz := IX.out.fz
    clear hl ht hln h64
    go_enter Tryd.func76, Tryd.ntmps76
    go_wp2
    refine bodyPost_ret (v := .tuple #[.agg #[.int .i64 0, .int .i64 0, .int .i64 0, .int .i64 0], .bool false]) (by simp [results, Tryd.results76, go_sem]) rfl ?_
    refine ⟨0, 0, 0, 0, false, rfl, ?_, .inr ⟨rfl, HTO.out⟩⟩
    exact HB0.out
end Go.Proofs.YtjficpdfofmcnaaDoor

/- The reference's epoch, named. -/
namespace Go.Proofs.YtjficpdfofmcnaaDoor
open Go.RowKit Go.Joins

/-- The reference's Same of bytes. -/
theorem rsame_any (A : Option Addr) (n c : Nat) (l : List UInt8) (B : Option Addr) (m d : Nat) (l' : List UInt8) (w : World) (hl : RB w A n c l) (hl' : RB w B m d l') :
    Calls Tryd.prog 72 #[.slice A n c, .slice B m d] w fun e w' => e = .returned (.bool (decide (l = l'))) ∧ Below w.heap.size w w' :=
  (same_any A n c l B m d l' w hl hl').mono fun _ _ ⟨he, k, hw⟩ => ⟨he, by rw [hw]; exact below_draws _ _ _⟩

set_option maxHeartbeats 1000000 in
theorem repoch_any (A : Option Addr) (n c : Nat) (l : List UInt8) (w : World) (hl : RB w A n c l) :
    Calls Tryd.prog 49 #[.slice A n c] w fun e w' => e = .returned (.int .i64 (Jn.readHead l).1) ∧ Below w.heap.size w w' := by
  have hln := hl.len
  by_cases h64 : n = 64
  · subst h64
    have hsl := fun (X : World) => run_from_b A 64 c 1 1 rfl (by decide) X
    have CI := Keep.mk (rint_any _ _ _ _ w (rb_from hl (i := 1) (by decide)))
    have HL := Keep.mk hl
    have hin := Jn.dec_in (l.drop 1)
    obtain ⟨x, k, q, hd⟩ := dec_pair (l.drop 1)
    have hrh : (Jn.readHead l).1 = if x < 1 ∨ 1073741824 < x then 0 else if l = Jn.headB x then x else 0 := by
      unfold Jn.readHead
      rw [if_neg (by rw [hln]; decide), hd]
      simp only
      by_cases hq : q = 0
      · by_cases hx : x < 1 ∨ 1073741824 < x
        · rw [if_pos (.inr hx), if_pos hx]
        · rw [if_neg (by omega), if_neg hx]
          split <;> rfl
      · have h0 : x = 0 := by
          rcases V.dec_err (l := l.drop 1) (by rw [hd]; exact hq) with h | h <;> rw [hd] at h <;> exact congrArg Prod.fst h
        rw [if_pos (.inl hq), if_pos (.inl (by omega))]
    rw [hd] at CI hin
    have HIN := Keep.mk hin
    rw [hrh]
    clear hl hin hd hrh hln
    by_cases h1 : x < 1
    · have e1 : decide (x < 1) = true := decide_eq_true h1
      rw [if_pos (.inl h1)]
      go_enter Tryd.func49, Tryd.ntmps49
      go_wp2_with fail
      refine CI.out.mono ?_
      rintro e w1 ⟨rfl, rfl⟩
      go_wp2
      go_ret
      exact ⟨rfl, Below.refl _ _⟩
    · have e1 : decide (x < 1) = false := decide_eq_false h1
      by_cases h2 : 1073741824 < x
      · have e2 : decide (1073741824 < x) = true := decide_eq_true h2
        rw [if_pos (.inr h2)]
        go_enter Tryd.func49, Tryd.ntmps49
        go_wp2_with fail
        refine CI.out.mono ?_
        rintro e w1 ⟨rfl, rfl⟩
        go_wp2
        go_ret
        exact ⟨rfl, Below.refl _ _⟩
      · have e2 : decide (1073741824 < x) = false := decide_eq_false h2
        have CH := Keep.mk (rhead_any x w HIN.out)
        rw [if_neg (by omega)]
        by_cases hh : l = Jn.headB x
        all_goals
          have CE := Keep.mk (fun (X : World) (hX : Below w.heap.size w X) (A2 : Option Addr) (n2 c2 : Nat) (hr : RB X A2 n2 c2 (Jn.headB x)) => rsame_any A 64 c l A2 n2 c2 _ X (HL.out.below hX) hr)
          first | rw [decide_eq_true hh] at CE | rw [decide_eq_false hh] at CE
          first | rw [if_pos hh] | rw [if_neg hh]
          have HH := Keep.mk hh
          clear hh
          go_enter Tryd.func49, Tryd.ntmps49
          go_wp2_with fail
          refine CI.out.mono ?_
          rintro e w1 ⟨rfl, rfl⟩
          go_wp2_with fail
          refine CH.out.mono ?_
          rintro e w2 ⟨A2, n2, c2, rfl, hr, hb⟩
          have HB2 := Lib.hid hb
          have CQ := Keep.mk (CE.out w2 hb A2 n2 c2 hr)
          clear hr hb
          go_wp2_with fail
          refine CQ.out.mono ?_
          rintro e w3 ⟨rfl, hb⟩
          have HB3 : Hid (Below w.heap.size w w3) := below_next HB2.out hb (Nat.le_refl _)
          clear hb
          go_wp2
          go_ret
          exact ⟨rfl, HB3.out⟩
  · have e1 : ((n : Int) != 64) = true := by rw [bne_iff_ne]; omega
    have hr : (Jn.readHead l).1 = 0 := by unfold Jn.readHead; rw [if_pos (by omega)]
    rw [hr]
    clear hl hr hln h64
    go_enter Tryd.func49, Tryd.ntmps49
    go_wp2
    go_ret
    exact ⟨rfl, Below.refl _ _⟩

theorem named_ok {x : Option (Int × Int)} {u v : Int} {p : Prop} [Decidable p] (hy : 0 ≤ u → p → x = some (u, v)) (hn : ¬ (0 ≤ u ∧ p) → x = none) (hv : 0 ≤ u) {ok : Bool} (hok : ok = decide p) : (ok = true ∧ x = some (u, v)) ∨ (ok = false ∧ x = none) := by
  subst hok
  by_cases hp : p
  · exact .inl ⟨decide_eq_true hp, hy hv hp⟩
  · exact .inr ⟨decide_eq_false hp, hn fun h => hp h.2⟩
/-- What named leaves. -/
def RetN (w : World) (r : Option (Int × Int)) (e : Ending) (w' : World) : Prop := ∃ (x y : Int) (ok : Bool), e = .returned (.tuple #[.int .i64 x, .int .i64 y, .bool ok]) ∧ Below w.heap.size w w' ∧ ((ok = true ∧ r = some (x, y)) ∨ (ok = false ∧ r = none))

set_option maxHeartbeats 2000000 in
theorem named_any (A : Option Addr) (n c : Nat) (l : List UInt8) (e m : Int) (w : World) (hl : RB w A n c l) (he : V.In e) (hm : V.In m) :
    Calls Tryd.prog 82 #[.slice A n c, .int .i64 e, .int .i64 m] w (RetN w (Jn.named l e m)) := by
  have hln := hl.len
  by_cases h64 : n = 64
  · subst h64
    have HL := Keep.mk hl
    have HE := Keep.mk he
    have HM := Keep.mk hm
    have HNY := Keep.mk (fun (u v : Int) => Jn.named_yes (u := u) (v := v) he hm hln)
    have HNN := Keep.mk (fun (u v : Int) => Jn.named_no (u := u) (v := v) he hm hln)
    have HLN := Keep.mk hln
    clear hl he hm hln
    obtain ⟨r, hr⟩ : ∃ r, r = l.drop 1 := ⟨_, rfl⟩
    rw [← hr] at HNY HNN
    have HRD := Keep.mk hr
    clear hr
    have IX : Keep (Bx (w.alloc (.cells #[.int .i64 0, .int .i64 0, .int .i64 0, .int .i64 0] 104)) w.heap.size (tc r 0)) := ⟨by rw [tc_zero]; exact Bx.new w [.int .i64 0, .int .i64 0, .int .i64 0, .int .i64 0] 104⟩
    have HB0 : Hid (Below w.heap.size w (w.alloc (.cells #[.int .i64 0, .int .i64 0, .int .i64 0, .int .i64 0] 104))) := below_alloc1 _ _
    go_enter Tryd.func82, Tryd.ntmps82
    go_wp2
    generalize w.alloc (.cells #[.int .i64 0, .int .i64 0, .int .i64 0, .int .i64 0] 104) = w2 at *
    go_loopw [9, 11] (fun v i wr => ∃ (k a : Nat), k ≤ 4 ∧ a ≤ 64 ∧ i = .int .i64 k ∧ v = .int .i64 a ∧ Keep (l.drop a = Jn.st r k) ∧ Keep (Bx wr w.heap.size (tc r k) ∧ Below w.heap.size w wr)) (fun _ i _ => 4 - (intOf i).toNat)
    case atStart => exact ⟨0, 1, Nat.zero_le _, by omega, rfl, rfl, ⟨HRD.out.symm⟩, ⟨⟨IX.out, HB0.out⟩⟩⟩
    case round =>
      obtain ⟨k, a, hk, ha, rfl, rfl, HR, HX⟩ := hrel
      by_cases hlt : k < 4
      · have tk := HX.out.1.cell k _ (tc_get r k hlt)
        have fk := HX.out.1.fz
        have hk0 : (0 : Int) ≤ (k : Int) := by omega
        have hk4 : (k : Int) < 4 := by omega
        have hrb := rb_from (HL.out.below HX.out.2) (i := a) ha
        rw [HR.out] at hrb
        have CI := rint_any _ _ _ _ wr hrb
        have hus := Jn.dec_used (Jn.st r k)
        have hdl : (Jn.st r k).length = 64 - a := by rw [← HR.out, List.length_drop, HLN.out]
        have HST : Keep (Jn.st r (k + 1) = (Jn.st r k).drop (V.dec (Jn.st r k)).2.1) := ⟨rfl⟩
        have HSE := Keep.mk (tc_set r k hlt)
        have hsl := fun (X : World) => run_from_b A 64 c a (a : Int) rfl ha X
        generalize V.dec (Jn.st r k) = d at *
        obtain ⟨x, u, q⟩ := d
        simp only at hus HST HSE
        have CIK := Keep.mk CI
        have hun : a + u ≤ 64 := by omega
        have ha0 : (0 : Int) ≤ (a : Int) := by omega
        have ha1 : (a : Int) ≤ 64 := by omega
        have HRN : Keep (l.drop (a + u) = Jn.st r (k + 1)) := ⟨by rw [HST.out, ← HR.out, List.drop_drop]⟩
        clear CI hus hdl hrb
        go_wp2_with fail
        refine CIK.out.mono ?_
        rintro e3 w3 ⟨rfl, rfl⟩
        go_wp2
        go_roundw
        case rel => exact ⟨k + 1, a + u, by omega, by omega, by go_num, by go_num, HRN, ⟨⟨by rw [← HSE.out]; exact HX.out.1.set (j := k) (by simp [tc]; omega) _, HX.out.2.setCell (Nat.le_refl _) _⟩⟩⟩
        case measure => simp [intOf]; omega
      · obtain rfl : k = 4 := by omega
        have HSQ : Keep (Jn.seq4 r = (Jn.tv r 4 2, Jn.tv r 4 3)) := ⟨by rw [Jn.tv_at (by decide), Jn.tv_at (by decide)]; rfl⟩
        have i2 := HX.out.1.cell 2 _ rfl
        have i3 := HX.out.1.cell 3 _ rfl
        have hlw := HX.out.1.lt
        by_cases hv : 0 ≤ Jn.tv r 4 2
        · have e5 : decide (0 ≤ Jn.tv r 4 2) = true := decide_eq_true hv
          have KQ : Keep (∀ X, Below wr.heap.size wr X → X.cell? ⟨w.heap.size, 2, none⟩ = some (.int .i64 (Jn.tv r 4 2)) ∧ X.cell? ⟨w.heap.size, 3, none⟩ = some (.int .i64 (Jn.tv r 4 3))) := ⟨fun X h => ⟨(HX.out.1.below h).cell 2 _ rfl, (HX.out.1.below h).cell 3 _ rfl⟩⟩
          have HC : Hid (Below wr.heap.size wr wr.drew) := below_draws _ _ 1
          have CT := Keep.mk (fun (X : World) => rtitle_any e m (Jn.tv r 4 2) (Jn.tv r 4 3) X HE.out HM.out (Jn.tv_in _ _ _) (Jn.tv_in _ _ _))
          have CE := Keep.mk (fun (X : World) (hX : Below w.heap.size w X) (A2 : Option Addr) (n2 c2 : Nat) (hr : RB X A2 n2 c2 (Jn.titleB e m (Jn.tv r 4 2) (Jn.tv r 4 3))) => rsame_any A 64 c l A2 n2 c2 _ X (HL.out.below hX) hr)
          have HBW := Lib.hid HX.out.2
          obtain ⟨ok, hok⟩ : ∃ ok, ok = decide (l = Jn.titleB e m (Jn.tv r 4 2) (Jn.tv r 4 3)) := ⟨_, rfl⟩
          rw [← hok] at CE
          have HRES := Keep.mk (named_ok (HNY.out _ _ HSQ.out) (HNN.out _ _ HSQ.out) hv hok)
          clear hok hk hlt
          go_upto_region 11 with (fail)
          go_region_held3 (fun X => X.cell? ⟨w.heap.size, 2, none⟩ = some (.int .i64 (Jn.tv r 4 2)) ∧ X.cell? ⟨w.heap.size, 3, none⟩ = some (.int .i64 (Jn.tv r 4 3)))
            (first | exact KQ.out _ HC.out)
            (first
              | (go_at_call 55; (refine (CT.out _).mono ?_); rintro e6 wn ⟨A5, n5, c5, rfl, hr, hb⟩; have HR5 := Keep.mk hr; have HC := Lib.hid (below_next HC.out hb (Nat.le_refl _)); clear hr hb)
              | (go_at_call 72; (refine (CE.out _ (HBW.out.trans (HC.out.mono HBW.out.size)) A5 n5 c5 HR5.out).mono ?_); rintro e6 wn ⟨rfl, hb⟩; have HC := Lib.hid (below_next HC.out hb (Nat.le_refl _)); clear hb))
          all_goals go_wp2
          all_goals go_ret3
          all_goals
            refine ⟨_, _, ok, rfl, HBW.out.trans (HC.out.mono HBW.out.size), ?_⟩
            exact HRES.out
        · have e5 : decide (0 ≤ Jn.tv r 4 2) = false := decide_eq_false hv
          have HNO : Keep (Jn.named l e m = none) := ⟨HNN.out _ _ HSQ.out fun h => hv h.1⟩
          have HBW := Lib.hid HX.out.2
          clear hv
          go_upto_region 11 with (fail)
          go_quiet (fail)
          go_wp2
          go_ret3
          exact ⟨_, _, false, rfl, HBW.out.trans (below_draws _ _ _), .inr ⟨rfl, HNO.out⟩⟩
  · have e1 : ((n : Int) != 64) = true := by rw [bne_iff_ne]; omega
    have HNO : Keep (Jn.named l e m = none) := ⟨Jn.named_short (by omega)⟩
    clear hl hln h64 he hm
    go_enter Tryd.func82, Tryd.ntmps82
    go_wp2
    go_ret3
    exact ⟨0, 0, false, rfl, Below.refl _ _, .inr ⟨rfl, HNO.out⟩⟩
end Go.Proofs.YtjficpdfofmcnaaDoor
