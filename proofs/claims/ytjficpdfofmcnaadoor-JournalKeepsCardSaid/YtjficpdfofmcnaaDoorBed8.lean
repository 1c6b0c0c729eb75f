/- The journal: records, Open, Records. -/
import Derived.Test.YtjficpdfofmcnaaDoorBed7
import Derived.Test.YtjficpdfofmcnaaDoorBed6
import Derived.Test.YtjficpdfofmcnaaDoorBed5
import Derived.IntWalk
import Derived.Test.YtjficpdfofmcnaaDoorBed4
import Derived.Test.YtjficpdfofmcnaaDoorBed1
/- The journal's record. -/
namespace Go.Proofs.YtjficpdfofmcnaaDoor
open Go.RowKit Go.Joins

/-- 's[:j]' of bytes. -/
theorem run_to_b (A : Option Addr) (n c j : Nat) (J : Int) (hJ : J = (j : Int)) (hjc : j ≤ c) (w : World) :
    (Instr.slice 26 (.slice A n c) none (some (.int .i64 J)) none).run Tryd.prog w = .ok (.slice A j c) w := by
  subst hJ
  rw [run_slice_h w 26 A n c (by rw [elem_bytes]; exact Tryd.underlying26) .i64 _ (by omega) (by omega), elem_bytes, size_u8]
  simp [sliced]
  intro _
  cases A <;> simp [Addr.add]
theorem ob_new {w : World} {base n c : Nat} {A : Option Addr} {l : List UInt8} (h : OB w base A n c l) : ∀ a, A = some a → base ≤ a.block := fun a ha => by
  subst ha
  exact (World.ownsRow.lt h a.block rfl).1
/-- What record leaves. -/
def RetR (w : World) (r : Option (List UInt8)) (e : Ending) (w' : World) : Prop := ∃ (A : Option Addr) (n c : Nat) (ok : Bool), e = .returned (.tuple #[.slice A n c, .bool ok]) ∧ Below w.heap.size w w' ∧ ((ok = true ∧ ∃ l, r = some l ∧ RB w' A n c l ∧ ∀ a, A = some a → w.heap.size ≤ a.block) ∨ (ok = false ∧ r = none))
theorem RetR.no {w w' : World} {r : Option (List UInt8)} {A : Option Addr} {n c : Nat} (h : r = none) (hb : Below w.heap.size w w') : RetR w r (.returned (.tuple #[.slice A n c, .bool false])) w' := ⟨A, n, c, false, rfl, hb, .inr ⟨rfl, h⟩⟩
/-- A device in a box, as the walk lays it. -/
structure BxK (w : World) (b : Nat) (d : Dk) : Prop where
  bx : Bx w b [.slice d.a d.n d.c, .slice d.pa d.pn d.pc, .int .i64 d.left, .bool d.down]
  ok : d.Ok w
theorem BxK.below {w w' : World} {b : Nat} {d : Dk} (h : BxK w b d) (hb : Below w.heap.size w w') : BxK w' b d := ⟨h.bx.below hb, h.ok.below hb⟩
theorem BxK.new {w : World} {d : Dk} (h : d.Ok w) : BxK (w.alloc (.cells #[.slice d.a d.n d.c, .slice d.pa d.pn d.pc, .int .i64 d.left, .bool d.down] 25)) w.heap.size d := ⟨Bx.new w [.slice d.a d.n d.c, .slice d.pa d.pn d.pc, .int .i64 d.left, .bool d.down] 25, h.below (below_alloc1 _ _)⟩
theorem BxK.cs {w : World} {b : Nat} {d : Dk} (h : BxK w b d) : w.cell? ⟨b, 0, none⟩ = some (.slice d.a d.n d.c) ∧ w.cell? ⟨b, 1, none⟩ = some (.slice d.pa d.pn d.pc) ∧ w.cell? ⟨b, 2, none⟩ = some (.int .i64 d.left) ∧ w.cell? ⟨b, 3, none⟩ = some (.bool d.down) :=
  ⟨h.bx.cell 0 _ rfl, h.bx.cell 1 _ rfl, h.bx.cell 2 _ rfl, h.bx.cell 3 _ rfl⟩
theorem dk_len {w : World} {d : Dk} (h : d.Ok w) : d.m.sectors.length = d.n := by have := h.sec.len; simpa [Dk.m] using this

set_option maxHeartbeats 4000000 in
set_option maxRecDepth 100000 in
theorem record_any (d : Dk) (a : Nat) (e m : Int) (K : Nat) (w : World) (h : d.Ok w) (hf : Dv.Fits K d.m) (hdn : d.down = false) (he : V.In e) (hm : V.In m) (ha : a ≤ d.n) (ht : Tab w) :
    Calls Tryd.prog 57 #[.agg #[.slice d.a d.n d.c, .slice d.pa d.pn d.pc, .int .i64 d.left, .bool d.down], .int .i64 (a : Int), .int .i64 e, .int .i64 m] w (RetR w (Jn.recOf d.m e m a)) := by
  have HF := Keep.mk hf
  have HT := Keep.mk ht
  have HE := Keep.mk he
  have HM := Keep.mk hm
  have hdl := dk_len h
  have hns : d.n ≤ 4096 := by have := hf.ns; omega
  have HDL := Keep.mk hdl
  have hmd : d.m.down = false := hdn
  have HMD := Keep.mk hmd
  have HDN := Keep.mk hdn
  have IX := Keep.mk (BxK.new h)
  have CR := Keep.mk (fun (X : World) (hX : Below w.heap.size w X) (i : Nat) (hi : i < d.n) => by
    have h1 := read_any d (i : Int) K X (h.below hX) hf
    rw [Jn.read_cont hmd (by omega), hdn] at h1
    exact h1)
  have HB0 : Hid (Below w.heap.size w (w.alloc (.cells #[.slice d.a d.n d.c, .slice d.pa d.pn d.pc, .int .i64 d.left, .bool d.down] 25))) := below_alloc1 _ _
  rw [hdn] at HB0
  have hbig := Nat.le_trans h.sec.cap h.sec.big
  unfold maxLen at hbig
  have ha0 : (0 : Int) ≤ (a : Int) := by omega
  by_cases hal : d.n ≤ a
  · have e1 : decide ((d.n : Int) ≤ (a : Int)) = true := decide_eq_true (by omega)
    have e2 : decide (d.n ≤ a) = true := decide_eq_true hal
    have HNO : Keep (Jn.recOf d.m e m a = none) := ⟨Jn.recOf_behind (by omega)⟩
    have i0 := IX.out.bx.cell 0 _ rfl
    rw [hdn] at i0 ⊢
    clear hf ht he hm h hmd hdn
    go_enter Tryd.func57, Tryd.ntmps57
    go_wp2
    go_ret2
    exact .no HNO.out HB0.out
  · have e1 : decide ((d.n : Int) ≤ (a : Int)) = false := decide_eq_false (by omega)
    have e2 : decide (d.n ≤ a) = false := decide_eq_false hal
    have hlt : a < d.n := by omega
    obtain ⟨i0, i1, i2, i3⟩ := IX.out.cs
    rw [hdn] at i0 i1 i2 i3 ⊢
    rw [hdn] at IX
    clear hf ht he hm h hmd hdn
    go_enter Tryd.func57, Tryd.ntmps57
    go_wp2_with fail
    refine (CR.out _ HB0.out a hlt).mono ?_
    rintro e1 w1 ⟨A1, n1, c1, rfl, hr, hb⟩
    have HR1 := Keep.mk hr
    have HB1 := Lib.hid (below_next HB0.out hb (Nat.le_refl _))
    have IX1 := Keep.mk (IX.out.below hb)
    have CT := Keep.mk (readTitle_any A1 n1 c1 _ w1 hr (HT.out.below HB1.out))
    clear hr hb i0 i1 i2 i3 IX
    go_wp2_with fail
    refine CT.out.mono ?_
    rintro e2 w2 ⟨t0, t1, t2, t3, ok, rfl, hb, ho⟩
    have HB2 := Lib.hid (below_next HB1.out hb (Nat.le_refl _))
    have IX2 := Keep.mk (IX1.out.below hb)
    have HO := Keep.mk ho
    have TX := Keep.mk (Bx.new w2 [.int .i64 t0, .int .i64 t1, .int .i64 t2, .int .i64 t3] 62)
    have IX3 := Keep.mk (IX2.out.below (below_alloc1 w2 (.cells #[.int .i64 t0, .int .i64 t1, .int .i64 t2, .int .i64 t3] 62)))
    have HB3 : Hid (Below w.heap.size w (w2.alloc (.cells #[.int .i64 t0, .int .i64 t1, .int .i64 t2, .int .i64 t3] 62))) := HB2.out.alloc HB2.out.size _
    clear hb ho IX1 HB1 CT
    go_upto_region 7 with (fail)
    generalize ew : w2.alloc (.cells #[.int .i64 t0, .int .i64 t1, .int .i64 t2, .int .i64 t3] 62) = w3 at *
    clear ew IX2 HR1
    obtain ⟨j0, j1, j2, j3⟩ : w3.cell? ⟨w2.heap.size, 0, none⟩ = some (.int .i64 t0) ∧ w3.cell? ⟨w2.heap.size, 1, none⟩ = some (.int .i64 t1) ∧ w3.cell? ⟨w2.heap.size, 2, none⟩ = some (.int .i64 t2) ∧ w3.cell? ⟨w2.heap.size, 3, none⟩ = some (.int .i64 t3) := ⟨TX.out.cell 0 _ rfl, TX.out.cell 1 _ rfl, TX.out.cell 2 _ rfl, TX.out.cell 3 _ rfl⟩
    have ho := HO.out
    clear HO
    rcases ho with ⟨rfl, hto⟩ | ⟨rfl, hto⟩
    · have HNM := Keep.mk (Jn.named_of (e := e) (n := m) hto)
      have HIN := Keep.mk (Jn.titleOf_is hto).2
      clear hto
      by_cases h0 : t0 = e
      · have b0 : (t0 != e) = false := by simp [h0]
        by_cases h1 : t1 = m
        · have b1 : (t1 != m) = false := by simp [h1]
          by_cases h2 : t2 < 0
          · have b2 : decide (t2 < 0) = true := decide_eq_true h2
            have HNO : Keep (Jn.recOf d.m e m a = none) := ⟨Jn.recOf_no (by rw [HNM.out, if_neg (by omega)])⟩
            clear h0 h1 h2
            go_wp2
            go_ret2
            exact .no HNO.out HB3.out
          · have b2 : decide (t2 < 0) = false := decide_eq_false h2
            obtain ⟨L, rfl⟩ : ∃ L : Nat, t2 = (L : Int) := ⟨t2.toNat, by omega⟩
            have HNS : Keep (Jn.named (Jn.cont d.m a) e m = some ((L : Int), t3)) := ⟨by rw [HNM.out, if_pos ⟨h0, h1, by omega⟩]⟩
            have hL : L ≤ 9223372036854775807 := by have := HIN.out.2.2.1; unfold V.In at this; omega
            have CS := Keep.mk (sectors_any L w3 hL)
            have hsl := Jn.sectors_lt L
            have hsg := Jn.sectors_le L
            have HSL : Keep (Jn.sectors L * 63 < L + 63 ∧ L ≤ Jn.sectors L * 63) := ⟨⟨hsl, hsg⟩⟩
            have hsb : Jn.sectors L ≤ 9223372036854775807 := by omega
            generalize hS : Jn.sectors L = S at *
            have HS := Keep.mk hS
            clear h0 h1 h2 HNM HIN hsl hsg hS
            go_wp2_with fail
            refine CS.out.mono ?_
            rintro e4 w4 ⟨rfl, rfl⟩
            obtain ⟨i0, i1, i2, i3⟩ := IX3.out.cs
            by_cases hmu : d.n - a - 1 < S
            · have b3 : decide ((d.n : Int) - (a : Int) - 1 < (S : Int)) = true := decide_eq_true (by omega)
              have HNO : Keep (Jn.recOf d.m e m a = none) := ⟨Jn.recOf_much HNS.out (by rw [HDL.out, Int.toNat_natCast, HS.out]; exact hmu)⟩
              clear i1 i2 i3
              go_wp2
              go_ret2
              exact .no HNO.out HB3.out
            · have b3 : decide ((d.n : Int) - (a : Int) - 1 < (S : Int)) = false := decide_eq_false (by omega)
              have hSn : a + 1 + S ≤ d.n := by omega
              clear i1 i2 i3
              go_wp2
              clear i0 j0 j1 j2 j3 CS hmu
              go_loopw [8, 68] (fun v i wr => ∃ (k n' : Nat) (A' : Option Addr) (c' : Nat) (cb : List UInt8), k ≤ S ∧ i = .int .i64 k ∧ v = .slice A' n' c' ∧ Keep (OB wr w3.heap.size A' n' c' cb ∧ Jn.body d.m (a + 1) k = some cb) ∧ Keep (Below w3.heap.size w3 wr)) (fun _ i _ => S - (intOf i).toNat)
              case atStart => exact ⟨0, 0, none, 0, [], Nat.zero_le _, rfl, rfl, ⟨OB.nil _ _, rfl⟩, ⟨Below.refl _ _⟩⟩
              case round =>
                obtain ⟨k, n', A', c', cb, hk, rfl, rfl, HT1, HB⟩ := hrel
                have HBW := Lib.hid (below_next HB3.out HB.out (Nat.le_refl _))
                have IX4 := Keep.mk (IX3.out.below HB.out)
                have TX4 := Keep.mk (TX.out.below HB.out)
                have hcl : n' = k * 63 := by have h1 := HT1.out.1.rb.len; have h2 := Jn.body_length _ _ _ _ HT1.out.2; omega
                have hn3 : n' ≤ 300000 := by omega
                have HCL := Keep.mk hcl
                clear hcl
                by_cases hks : k < S
                · have CRD := Keep.mk (CR.out wr HBW.out (a + 1 + k) (by omega))
                  have HBN := Keep.mk (Jn.body_next HT1.out.2)
                  have HNX := Keep.mk (fun (h : Jn.body d.m (a + 1) (k + 1) = none) => Jn.recOf_body HNS.out (by rw [Int.toNat_natCast, HS.out]; exact Jn.body_none _ _ h S hks))
                  have hadd : ((a + 1 + k : Nat) : Int) = (a : Int) + 1 + (k : Int) := by omega
                  rw [hadd] at CRD
                  clear hadd
                  generalize Jn.cont d.m (a + 1 + k) = b5 at *
                  obtain ⟨i0, i1, i2, i3⟩ := IX4.out.cs
                  rw [HDN.out] at i3
                  go_wp2_with fail
                  refine CRD.out.mono ?_
                  rintro e5 w5 ⟨A5, n5, c5, rfl, hr, hb⟩
                  have HR5 := Keep.mk hr
                  have HB5 := Lib.hid hb
                  have HBW5 := Lib.hid (below_next HBW.out hb (Nat.le_refl _))
                  have HB35 := Keep.mk (below_next HB.out hb (Nat.le_refl _))
                  have hl5 := hr.len
                  have HT5 := Keep.mk (HT1.out.1.below hb)
                  clear hb i0 i1 i2 i3 CRD
                  by_cases h64 : n5 = 64
                  · subst h64
                    obtain ⟨x, tl, rfl⟩ : ∃ x tl, b5 = x :: tl := by cases b5 with | nil => simp at hl5 | cons x tl => exact ⟨x, tl, rfl⟩
                    obtain ⟨bb, oo, rfl, hbl, hcell⟩ := hr.at_ (k := 0) (by simp)
                    rw [Nat.add_zero, List.getElem_cons_zero] at hcell
                    have HL5 := Keep.mk hl5
                    by_cases hx : x = 2
                    · have b4 : ((x.toNat : Int) != 2) = false := by rw [hx]; rfl
                      have HBY : Keep (Jn.body d.m (a + 1) (k + 1) = some (cb ++ tl)) := ⟨by rw [HBN.out, if_pos ⟨hl5, by rw [hx]; rfl⟩]; rfl⟩
                      have hsl := fun (X : World) => run_from_b (some ⟨bb, oo, none⟩) 64 c5 1 1 rfl (by decide) X
                      have HRT : Keep (RB w5 (cutA (some ⟨bb, oo, none⟩) 1 c5 1) 63 (c5 - 1) tl) := ⟨rb_from hr (i := 1) (by decide)⟩
                      have hc5 := hr.cap
                      clear hr hl5 hx
                      go_wp2_with (at_builtin; refine append_ob _ rfl (.tmp 93) (.tmp 95) rfl w3.heap.size A' n' c' cb rfl HT5.out (cutA (some ⟨bb, oo, none⟩) 1 c5 1) 63 (c5 - 1) tl rfl HRT.out (by omega) HB35.out.size ?_; intro A6 n6 c6 w6 ht hb; have HT6 := Keep.mk ht; have HB6 := Keep.mk hb; clear ht hb)
                      go_roundw
                      case rel => exact ⟨k + 1, n6, A6, c6, _, by omega, by go_num, rfl, ⟨HT6.out, HBY.out⟩, ⟨HB35.out.trans HB6.out⟩⟩
                      case measure => simp [intOf]; omega
                    · have b4 : ((x.toNat : Int) != 2) = true := by
                        rw [bne_iff_ne]
                        intro h
                        apply hx
                        have h2 : (2 : UInt8).toNat = 2 := rfl
                        exact UInt8.toNat_inj.1 (by omega)
                      have HNO : Keep (Jn.recOf d.m e m a = none) := ⟨HNX.out (by rw [HBN.out, if_neg (fun h => hx (by have := h.2; simpa using this))])⟩
                      clear hr hl5 hx
                      go_wp2
                      go_ret2
                      exact .no HNO.out HBW5.out
                  · have b4 : ((n5 : Int) != 64) = true := by rw [bne_iff_ne]; omega
                    have HNO : Keep (Jn.recOf d.m e m a = none) := ⟨HNX.out (by rw [HBN.out, if_neg (fun h => h64 (by have := h.1; omega))])⟩
                    clear hr hl5 h64
                    go_wp2
                    go_ret2
                    exact .no HNO.out HBW5.out
                · obtain rfl : k = S := by omega
                  have hLn : L ≤ n' := by have := HSL.out.2; have := HCL.out; omega
                  have j2 := TX4.out.cell 2 _ rfl
                  have hc' := HT1.out.1.rb.cap
                  have hsl := fun (X : World) => run_from_b A' n' c' L (L : Int) rfl hLn X
                  have HRT := Keep.mk (rb_from HT1.out.1.rb hLn)
                  have hL0 : (0 : Int) ≤ (L : Int) := by omega
                  have hL1 : (L : Int) ≤ (n' : Int) := by omega
                  obtain ⟨C, hC⟩ : ∃ C, C = cutA A' L c' 1 := ⟨_, rfl⟩
                  rw [← hC] at hsl HRT
                  have HCE := Keep.mk hC
                  clear hC
                  go_wp2
                  clear j2 hsl
                  go_loop [8, 103] (fun v i => ∃ j : Nat, j ≤ n' - L ∧ i = .int .i64 j ∧ v = .slice A' n' c' ∧ Keep (∀ x ∈ (cb.drop L).take j, x = 0)) (fun _ i => (n' - L) - (intOf i).toNat)
                  case atStart => exact ⟨0, Nat.zero_le _, rfl, rfl, ⟨fun x hx => by simp at hx⟩⟩
                  case round =>
                    obtain ⟨j, hj, rfl, rfl, HZ⟩ := hrel
                    by_cases hjt : j < n' - L
                    · have hjl : j < (cb.drop L).length := by have := HRT.out.len; omega
                      obtain ⟨bb, oo, rfl, hbl, hcell⟩ := HRT.out.at_ (k := j) hjl
                      have HTK : Keep ((cb.drop L).take (j + 1) = (cb.drop L).take j ++ [(cb.drop L)[j]]) := ⟨List.take_succ_eq_append_getElem hjl⟩
                      have HMM : Keep ((cb.drop L)[j] ∈ cb.drop L) := ⟨List.getElem_mem hjl⟩
                      have hj0 : (0 : Int) ≤ (j : Int) := by omega
                      have hj1 : (j : Int) < ((n' - L : Nat) : Int) := by omega
                      generalize (cb.drop L)[j] = x at *
                      by_cases hx : x = 0
                      · have b5 : ((x.toNat : Int) != 0) = false := by rw [hx]; rfl
                        have HX := Keep.mk hx
                        clear hx
                        go_wp2
                        go_round
                        case rel => exact ⟨j + 1, by omega, by go_num, rfl, ⟨fun y hy => by
                          rw [HTK.out] at hy
                          rcases List.mem_append.1 hy with hy | hy
                          · exact HZ.out y hy
                          · rw [List.mem_singleton.1 hy]; exact HX.out⟩⟩
                        case measure => simp [intOf]; omega
                      · have b5 : ((x.toNat : Int) != 0) = true := by
                          rw [bne_iff_ne]
                          intro h
                          apply hx
                          exact UInt8.toNat_inj.1 (by simpa using h)
                        have HNO : Keep (Jn.recOf d.m e m a = none) := ⟨Jn.recOf_tail HNS.out (by rw [Int.toNat_natCast, HS.out]; exact HT1.out.2) (fun h => hx (h.1 x (by rw [Int.toNat_natCast]; exact HMM.out)))⟩
                        clear hx
                        go_wp2
                        go_ret2
                        exact .no HNO.out HBW.out
                    · obtain rfl : j = n' - L := by omega
                      have HZA : Keep (∀ x ∈ cb.drop L, x = 0) := ⟨fun x hx => HZ.out x (by rwa [List.take_of_length_le (by have := HRT.out.len; omega)])⟩
                      have j2' := TX4.out.cell 2 _ rfl
                      have hcut := fun (X : World) => run_to_b A' n' c' L (L : Int) rfl (by omega) X
                      have HRC : Keep (RB wr A' L c' (cb.take L)) := ⟨by have h := HT1.out.1.rb.cut (i := 0) (j := L) (m := c') (Nat.zero_le _) hLn (by omega) (Nat.le_refl _); rw [cutA_zero] at h; exact h⟩
                      have CC := Keep.mk (crc_any A' L c' (cb.take L) wr.drew (HRC.out.below (below_draws _ _ 1)) (HT.out.below (HBW.out.trans (below_draws _ _ 1))))
                      go_upto_region 27 with (fail)
                      clear j2' hcut
                      have KS : Keep (∀ X, Below wr.heap.size wr X → X.cell? ⟨w2.heap.size, 3, none⟩ = some (.int .i64 t3)) := ⟨fun X hX => (TX4.out.below hX).cell 3 _ rfl⟩
                      go_region_held3 (fun X => X.cell? ⟨w2.heap.size, 3, none⟩ = some (.int .i64 t3))
                        (first | exact KS.out _ (below_draws _ _ 1))
                        ((go_at_call 38; (refine CC.out.mono ?_); rintro e7 wn ⟨rfl, rfl⟩))
                      go_wp2
                      go_ret2
                      by_cases hq : Jn.crcI (cb.take L) = t3
                      · have hy := Jn.recOf_yes (by have := HDL.out; omega) HNS.out (by rw [HDL.out, Int.toNat_natCast, HS.out]; omega) (by rw [Int.toNat_natCast, HS.out]; exact HT1.out.2) (by rw [Int.toNat_natCast]; exact HZA.out) (by rw [Int.toNat_natCast]; exact hq)
                        rw [Int.toNat_natCast] at hy
                        refine ⟨A', L, c', true, ?_, HBW.out.trans (below_draws _ _ 1), .inl ⟨rfl, _, hy, HRC.out.below (below_draws _ _ 1), fun x hx => Nat.le_trans HB3.out.size (ob_new HT1.out.1 x hx)⟩⟩
                        rw [← hq]
                        simp [Jn.crcI, w32]
                      · refine ⟨A', L, c', false, ?_, HBW.out.trans (below_draws _ _ 1), .inr ⟨rfl, Jn.recOf_tail HNS.out (by rw [Int.toNat_natCast, HS.out]; exact HT1.out.2) (fun h => hq (by have := h.2; rwa [Int.toNat_natCast] at this))⟩⟩
                        have hq2 : (w32 (M.crc (cb.take L)) == t3) = false := by simpa [Jn.crcI, w32] using hq
                        simp [hq2]
        · have b1 : (t1 != m) = true := by simp [h1]
          have HNO : Keep (Jn.recOf d.m e m a = none) := ⟨Jn.recOf_no (by rw [HNM.out, if_neg (by omega)])⟩
          clear h0 h1
          go_wp2
          go_ret2
          exact .no HNO.out HB3.out
      · have b0 : (t0 != e) = true := by simp [h0]
        have HNO : Keep (Jn.recOf d.m e m a = none) := ⟨Jn.recOf_no (by rw [HNM.out, if_neg (by omega)])⟩
        clear h0
        go_wp2
        go_ret2
        exact .no HNO.out HB3.out
    · have HNO : Keep (Jn.recOf d.m e m a = none) := ⟨Jn.recOf_no (Jn.named_none hto)⟩
      clear hto
      go_wp2
      go_ret2
      exact .no HNO.out HB3.out
end Go.Proofs.YtjficpdfofmcnaaDoor

/- The reference's record. -/
namespace Go.Proofs.YtjficpdfofmcnaaDoor
open Go.RowKit Go.Joins

theorem rb_mid {w : World} {A : Option Addr} {c n m : Nat} {l : List UInt8} (h : RB w A n c l) {i : Nat} (hi : i ≤ m) (hm : m ≤ n) : RB w (cutA A i c 1) (m - i) (c - i) ((l.take m).drop i) :=
  h.cut (i := i) (j := m) (m := c) hi hm (Nat.le_trans hm h.cap) (Nat.le_refl _)

set_option maxHeartbeats 4000000 in
set_option maxRecDepth 100000 in
theorem rrecord_any (d : Dk) (a : Nat) (e m : Int) (K : Nat) (w : World) (h : d.Ok w) (hf : Dv.Fits K d.m) (hdn : d.down = false) (he : V.In e) (hm : V.In m) (ha : a < d.n) :
    Calls Tryd.prog 68 #[.agg #[.slice d.a d.n d.c, .slice d.pa d.pn d.pc, .int .i64 d.left, .bool d.down], .int .i64 e, .int .i64 m, .int .i64 (a : Int)] w (RetR w (Jn.recOf d.m e m a)) := by
  have HE := Keep.mk he
  have HM := Keep.mk hm
  have hdl := dk_len h
  have hns : d.n ≤ 4096 := by have := hf.ns; omega
  have HDL := Keep.mk hdl
  have hmd : d.m.down = false := hdn
  have HDN := Keep.mk hdn
  have IX := Keep.mk (BxK.new h)
  have CR := Keep.mk (fun (X : World) (hX : Below w.heap.size w X) (i : Nat) (hi : i < d.n) => by
    have h1 := rread_any d (i : Int) K X (h.below hX) hf
    rw [Jn.read_cont hmd (by omega), hdn] at h1
    exact h1)
  have HB0 : Hid (Below w.heap.size w (w.alloc (.cells #[.slice d.a d.n d.c, .slice d.pa d.pn d.pc, .int .i64 d.left, .bool d.down] 25))) := below_alloc1 _ _
  rw [hdn] at HB0
  have hbig := Nat.le_trans h.sec.cap h.sec.big
  unfold maxLen at hbig
  have ha0 : (0 : Int) ≤ (a : Int) := by omega
  obtain ⟨i0, i1, i2, i3⟩ := IX.out.cs
  rw [hdn] at i0 i1 i2 i3 ⊢
  rw [hdn] at IX
  clear hf he hm h hmd hdn
  go_enter Tryd.func68, Tryd.ntmps68
  go_wp2_with fail
  refine (CR.out _ HB0.out a ha).mono ?_
  rintro e1 w1 ⟨A1, n1, c1, rfl, hr, hb⟩
  have HB1 := Lib.hid (below_next HB0.out hb (Nat.le_refl _))
  have IX1 := Keep.mk (IX.out.below hb)
  have CT := Keep.mk (named_any A1 n1 c1 _ e m w1 hr HE.out HM.out)
  clear hr hb i0 i1 i2 i3 IX
  go_wp2_with fail
  refine CT.out.mono ?_
  rintro e2 w2 ⟨x, t3, ok, rfl, hb, ho⟩
  have HB2 := Lib.hid (below_next HB1.out hb (Nat.le_refl _))
  have IX2 := Keep.mk (IX1.out.below hb)
  clear hb IX1 HB1 CT
  rcases ho with ⟨rfl, hto⟩ | ⟨rfl, hto⟩
  · obtain ⟨hti, hx0⟩ := Jn.named_is hto
    obtain ⟨L, rfl⟩ : ∃ L : Nat, x = (L : Int) := ⟨x.toNat, by omega⟩
    have hL : L ≤ 9223372036854775807 := by have := (Jn.titleOf_is hti).2.2.2.1; unfold V.In at this; omega
    have HNS := Keep.mk hto
    have CS := Keep.mk (fun (X : World) => rsectors_any L X hL)
    have hsl := Jn.sectors_lt L
    have hsg := Jn.sectors_le L
    have HSL : Keep (Jn.sectors L * 63 < L + 63 ∧ L ≤ Jn.sectors L * 63) := ⟨⟨hsl, hsg⟩⟩
    have hsb : Jn.sectors L ≤ 9223372036854775807 := by omega
    generalize hS : Jn.sectors L = S at *
    have HS := Keep.mk hS
    have KS : Keep (∀ X, Below w2.heap.size w2 X → X.cell? ⟨w.heap.size, 0, none⟩ = some (.slice d.a d.n d.c)) := ⟨fun X hX => (IX2.out.below hX).bx.cell 0 _ rfl⟩
    clear hto hti hx0 hsl hsg hS
    go_upto_region 3 with (fail)
    have HBD : Hid (Below w2.heap.size w2 w2.drew) := below_draws _ _ 1
    by_cases hmu : d.n - a - 1 < S
    · have b3 : decide ((d.n : Int) - (a : Int) - 1 < (S : Int)) = true := decide_eq_true (by omega)
      have HNO : Keep (Jn.recOf d.m e m a = none) := ⟨Jn.recOf_much HNS.out (by rw [HDL.out, Int.toNat_natCast, HS.out]; exact hmu)⟩
      clear hmu
      have hw1 : IntKind.i64.wrap ((d.n : Int) - (a : Int)) = (d.n : Int) - (a : Int) := IntWalk.i64_in _ ⟨by omega, by omega⟩
      have hw2 : IntKind.i64.wrap ((d.n : Int) - (a : Int) - 1) = (d.n : Int) - (a : Int) - 1 := by rw [IntWalk.i64_in _ ⟨by omega, by omega⟩]
      go_region_held3 (fun X => X.cell? ⟨w.heap.size, 0, none⟩ = some (.slice d.a d.n d.c))
        (first | exact KS.out _ HBD.out)
        ((go_at_call 69; (refine (CS.out _).mono ?_); rintro e7 wn ⟨rfl, rfl⟩))
      clear hw1 hw2
      go_wp2
      go_ret2
      exact .no HNO.out (HB2.out.trans (below_draws _ _ 1))
    · have b3 : decide ((d.n : Int) - (a : Int) - 1 < (S : Int)) = false := decide_eq_false (by omega)
      have hSn : a + 1 + S ≤ d.n := by omega
      clear hmu
      have hw1 : IntKind.i64.wrap ((d.n : Int) - (a : Int)) = (d.n : Int) - (a : Int) := IntWalk.i64_in _ ⟨by omega, by omega⟩
      have hw2 : IntKind.i64.wrap ((d.n : Int) - (a : Int) - 1) = (d.n : Int) - (a : Int) - 1 := by rw [IntWalk.i64_in _ ⟨by omega, by omega⟩]
      go_region_held3 (fun X => X.cell? ⟨w.heap.size, 0, none⟩ = some (.slice d.a d.n d.c))
        (first | exact KS.out _ HBD.out)
        ((go_at_call 69; (refine (CS.out _).mono ?_); rintro e7 wn ⟨rfl, rfl⟩))
      clear hw1 hw2
      go_wp2
      have HB3 : Hid (Below w.heap.size w w2.drew) := HB2.out.trans (below_draws _ _ 1)
      have IX3 := Keep.mk (IX2.out.below HBD.out)
      clear KS HBD HB2 IX2
      generalize w2.drew = w3 at *
      go_loopw [15, 16] (fun v i wr => ∃ (k n' : Nat) (A' : Option Addr) (c' : Nat) (cb : List UInt8), k ≤ S ∧ i = .int .i64 ((k : Int) + 1) ∧ v = .slice A' n' c' ∧ n' ≤ L ∧ Keep (OB wr w3.heap.size A' n' c' (cb.take L) ∧ Jn.body d.m (a + 1) k = some cb ∧ ∀ x ∈ cb.drop L, x = 0) ∧ Keep (Below w3.heap.size w3 wr)) (fun _ i _ => S + 1 - (intOf i).toNat)
      case atStart => exact ⟨0, 0, none, 0, [], Nat.zero_le _, rfl, rfl, Nat.zero_le _, ⟨by simpa using OB.nil _ _, rfl, by simp⟩, ⟨Below.refl _ _⟩⟩
      case round =>
        obtain ⟨k, n', A', c', cb, hk, rfl, rfl, hnL, HT1, HB⟩ := hrel
        have HBW := Lib.hid (below_next HB3.out HB.out (Nat.le_refl _))
        have IX4 := Keep.mk (IX3.out.below HB.out)
        have hcl : n' = min L (k * 63) := by have h1 := HT1.out.1.rb.len; have h2 := Jn.body_length _ _ _ _ HT1.out.2.1; rw [List.length_take, h2] at h1; omega
        have HCL := Keep.mk hcl
        have HBL := Keep.mk (Jn.body_length _ _ _ _ HT1.out.2.1)
        clear hcl
        by_cases hks : k < S
        · have hkL : k * 63 < L := by have := HSL.out.1; omega
          have hnk : n' = k * 63 := by have := HCL.out; omega
          have HNK := Keep.mk hnk
          have CRD := Keep.mk (CR.out wr HBW.out (a + 1 + k) (by omega))
          have HBN := Keep.mk (Jn.body_next HT1.out.2.1)
          have HNX := Keep.mk (fun (h : Jn.body d.m (a + 1) (k + 1) = none) => Jn.recOf_body HNS.out (by rw [Int.toNat_natCast, HS.out]; exact Jn.body_none _ _ h S hks))
          have hadd : ((a + 1 + k : Nat) : Int) = (a : Int) + ((k : Int) + 1) := by omega
          rw [hadd] at CRD
          have hn3 : n' ≤ 300000 := by omega
          have b6 : decide (S < k + 1) = false := decide_eq_false (by omega)
          have b7 : decide ((k : Int) + 1 ≤ (S : Int)) = true := decide_eq_true (by omega)
          clear hadd hnk hkL
          generalize Jn.cont d.m (a + 1 + k) = b5 at *
          obtain ⟨i0, i1, i2, i3⟩ := IX4.out.cs
          rw [HDN.out] at i3
          go_wp2_with (go_at_call 69; (refine (CS.out _).mono ?_); rintro e7 wn ⟨rfl, rfl⟩)
          refine CRD.out.mono ?_
          rintro e5 w5 ⟨A5, n5, c5, rfl, hr, hb⟩
          have HB5 := Lib.hid hb
          have HBW5 := Lib.hid (below_next HBW.out hb (Nat.le_refl _))
          have HB35 := Keep.mk (below_next HB.out hb (Nat.le_refl _))
          have hl5 := hr.len
          have HT5 := Keep.mk (HT1.out.1.below hb)
          clear hb CRD
          go_upto_region 11 with (fail)
          obtain ⟨mn, hmn⟩ : ∃ mn, mn = min 63 (L - n') := ⟨_, rfl⟩
          have hif : (if (L : Int) - (n' : Int) < 63 then (L : Int) - (n' : Int) else 63) = (mn : Int) := by split <;> omega
          rw [hif]
          have hm63 : mn ≤ 63 := by omega
          have HMN := Keep.mk hmn
          clear i0 i1 i2 i3 hif hmn
          by_cases h64 : n5 = 64
          · subst h64
            have b8 : ((64 : Int) != 64) = false := rfl
            obtain ⟨x, tl, rfl⟩ : ∃ x tl, b5 = x :: tl := by cases b5 with | nil => simp at hl5 | cons x tl => exact ⟨x, tl, rfl⟩
            have htl : tl.length = 63 := by simpa using hl5
            have hsl : ∀ X : World, (Instr.slice 26 (.slice A5 64 c5) (some (.int .i64 1)) (some (.int .i64 (1 + (mn : Int)))) none).run Tryd.prog X = .ok (.slice (cutA A5 1 c5 1) mn (c5 - 1)) X := fun X => by
              have h := run_cut_b A5 64 c5 1 (1 + mn) 1 (1 + (mn : Int)) rfl (by omega) (by omega) (by have := hr.cap; omega) X
              rwa [Nat.add_sub_cancel_left] at h
            have HRT : Keep (RB w5 (cutA A5 1 c5 1) mn (c5 - 1) (tl.take mn)) := ⟨by
              have h := rb_mid hr (i := 1) (m := 1 + mn) (by omega) (by omega)
              rw [Nat.add_sub_cancel_left] at h
              rw [show 1 + mn = mn + 1 by omega, List.take_succ_cons, List.drop_succ_cons, List.drop_zero] at h
              exact h⟩
            have htm : (tl.take mn).length ≤ 63 := by rw [List.length_take]; omega
            have CSE := Keep.mk (rsector_any 2 2 rfl _ _ _ _ w5 HRT.out htm)
            have CSA := Keep.mk (fun (X : World) (hX : Below w5.heap.size w5 X) (A6 : Option Addr) (n6 c6 : Nat) (h6 : RB X A6 n6 c6 (Jn.sec 2 (tl.take mn))) => rsame_any A5 64 c5 (x :: tl) A6 n6 c6 _ X (hr.below hX) h6)
            have HEQ := Keep.mk (Jn.sec_eq (x := x) htl hm63)
            have HST : Keep ((cb ++ tl).take L = cb.take L ++ tl.take mn ∧ (cb ++ tl).drop L = tl.drop mn) := ⟨Jn.rec_step HBL.out (by have := HSL.out.1; omega) htl (by rw [HMN.out, HNK.out])⟩
            have HTL := Keep.mk htl
            have HL5 := Keep.mk hl5
            clear hr hl5 htl htm
            by_cases hh : x :: tl = Jn.sec 2 (tl.take mn)
            · rw [decide_eq_true hh] at CSA
              have hpr := HEQ.out.1 hh
              have HPR := Keep.mk hpr
              have HBY : Keep (Jn.body d.m (a + 1) (k + 1) = some (cb ++ tl)) := ⟨by rw [HBN.out, if_pos ⟨HL5.out, by rw [hpr.1]; rfl⟩]; rfl⟩
              clear hh hpr
              go_wp2_with fail
              refine CSE.out.mono ?_
              rintro e6 w6 ⟨A6, n6, c6, rfl, hr, hb⟩
              have HB6 := Lib.hid hb
              have CSB := Keep.mk (CSA.out w6 hb A6 n6 c6 hr)
              have HT6 := Keep.mk (HT5.out.below hb)
              have HRT6 := Keep.mk (HRT.out.below hb)
              have HBW6 := Lib.hid (below_next HBW5.out hb (Nat.le_refl _))
              have HB36 := Keep.mk (below_next HB35.out hb (Nat.le_refl _))
              clear hr hb
              go_wp2_with fail
              refine CSB.out.mono ?_
              rintro e7 w7 ⟨rfl, hb⟩
              have HT7 := Keep.mk (HT6.out.below hb)
              have HRT7 := Keep.mk (HRT6.out.below hb)
              have HB37 := Keep.mk (below_next HB36.out hb (Nat.le_refl _))
              clear hb
              go_wp2_with (at_builtin; refine append_ob _ rfl (.tmp 79) (.tmp 83) rfl w3.heap.size A' n' c' (cb.take L) rfl HT7.out (cutA A5 1 c5 1) mn (c5 - 1) (tl.take mn) rfl HRT7.out (by omega) HB37.out.size ?_; intro A8 n8 c8 w8 ht hb; have HT8 := Keep.mk ht; have HB8 := Keep.mk hb; clear ht hb)
              go_roundw
              case rel => exact ⟨k + 1, n8, A8, c8, cb ++ tl, by omega, by go_num, rfl, by have h := HT8.out.rb.len; rw [← HST.out.1, List.length_take] at h; omega, ⟨by rw [HST.out.1]; exact HT8.out, HBY.out, by rw [HST.out.2]; exact HPR.out.2⟩, ⟨HB37.out.trans HB8.out⟩⟩
              case measure => simp [intOf]; omega
            · rw [decide_eq_false hh] at CSA
              have HNO : Keep (Jn.recOf d.m e m a = none) := ⟨by
                by_cases hx : x = 2
                · have hnz : ¬ ∀ y ∈ tl.drop mn, y = 0 := fun h => hh (HEQ.out.2 ⟨hx, h⟩)
                  have hlast : k + 1 = S := by
                    rcases Nat.lt_or_ge (k + 1) S with h | h
                    · exfalso
                      apply hnz
                      intro y hy
                      have h1 : mn = 63 := by have := HMN.out; have := HNK.out; have := HSL.out.1; omega
                      rw [h1, List.drop_of_length_le (by have := HTL.out; omega)] at hy
                      cases hy
                    · omega
                  refine Jn.recOf_tail (c := cb ++ tl) HNS.out ?_ (fun h => hnz ?_)
                  · rw [Int.toNat_natCast, HS.out, ← hlast, HBN.out, if_pos ⟨HL5.out, by rw [hx]; rfl⟩]
                    rfl
                  · rw [← HST.out.2]
                    have := h.1
                    rwa [Int.toNat_natCast] at this
                · exact HNX.out (by rw [HBN.out, if_neg (fun h => hx (by have := h.2; simpa using this))])⟩
              clear hh
              go_wp2_with fail
              refine CSE.out.mono ?_
              rintro e6 w6 ⟨A6, n6, c6, rfl, hr, hb⟩
              have CSB := Keep.mk (CSA.out w6 hb A6 n6 c6 hr)
              have HBW6 := Lib.hid (below_next HBW5.out hb (Nat.le_refl _))
              clear hr hb
              go_wp2_with fail
              refine CSB.out.mono ?_
              rintro e7 w7 ⟨rfl, hb⟩
              have HBW7 := Lib.hid (below_next HBW6.out hb (Nat.le_refl _))
              clear hb
              go_wp2
              go_ret2
              exact .no HNO.out HBW7.out
          · have b8 : ((n5 : Int) != 64) = true := by rw [bne_iff_ne]; omega
            have HNO : Keep (Jn.recOf d.m e m a = none) := ⟨HNX.out (by rw [HBN.out, if_neg (fun h => h64 (by have := h.1; omega))])⟩
            clear hr hl5 h64
            go_wp2
            go_ret2
            exact .no HNO.out HBW5.out
        · obtain rfl : k = S := by omega
          have b6 : decide (k < k + 1) = true := decide_eq_true (by omega)
          have b7 : decide ((k : Int) + 1 ≤ (k : Int)) = false := decide_eq_false (by omega)
          have HCC := Keep.mk (rcrc_any A' n' c' (cb.take L) wr HT1.out.1.rb)
          have hnL2 : n' = L := by have := HCL.out; have := HSL.out.2; omega
          have HNL := Keep.mk hnL2
          clear hnL2
          go_wp2_with (go_at_call 69; (refine (CS.out _).mono ?_); rintro e7 wn ⟨rfl, rfl⟩)
          refine HCC.out.mono ?_
          rintro e5 w5 ⟨rfl, rfl⟩
          go_wp2
          go_ret2
          by_cases hq : Jn.crcI (cb.take L) = t3
          · have hy := Jn.recOf_yes (by have := HDL.out; omega) HNS.out (by rw [HDL.out, Int.toNat_natCast, HS.out]; omega) (by rw [Int.toNat_natCast, HS.out]; exact HT1.out.2.1) (by rw [Int.toNat_natCast]; exact HT1.out.2.2) (by rw [Int.toNat_natCast]; exact hq)
            rw [Int.toNat_natCast] at hy
            refine ⟨A', n', c', true, ?_, HBW.out, .inl ⟨rfl, _, hy, HT1.out.1.rb, fun x hx => Nat.le_trans HB3.out.size (ob_new HT1.out.1 x hx)⟩⟩
            rw [← hq]
            simp [Jn.crcI, w32]
          · refine ⟨A', n', c', false, ?_, HBW.out, .inr ⟨rfl, Jn.recOf_tail HNS.out (by rw [Int.toNat_natCast, HS.out]; exact HT1.out.2.1) (fun h => hq (by have := h.2; rwa [Int.toNat_natCast] at this))⟩⟩
            have hq2 : (w32 (M.crc (cb.take L)) == t3) = false := by simpa [Jn.crcI, w32] using hq
            simp [hq2]
  · have HNO : Keep (Jn.recOf d.m e m a = none) := ⟨Jn.recOf_no hto⟩
    clear hto
    go_upto_region 3 with (fail)
    go_quiet (fail)
    go_wp2
    go_ret2
    exact .no HNO.out (HB2.out.trans (below_draws _ _ _))
end Go.Proofs.YtjficpdfofmcnaaDoor

/- The journal's fresh; words for journals in memory. -/
namespace Go.Proofs.YtjficpdfofmcnaaDoor
open Go.RowKit Go.Joins

/-- What returns a device, written out. -/
def RetX (w : World) (I : Nat → Prop) (m : Dv.Disk) (e : Ending) (w' : World) : Prop := ∃ d : Dk, e = .returned (.agg #[.slice d.a d.n d.c, .slice d.pa d.pn d.pc, .int .i64 d.left, .bool d.down]) ∧ d.Ok w' ∧ d.m = m ∧ Below w.heap.size w w' ∧ ∀ b, b < w.heap.size → I b → d.Av b
def RetXE (w : World) (I : Nat → Prop) (m : Dv.Disk × Int) (e : Ending) (w' : World) : Prop := ∃ d : Dk, e = .returned (.tuple #[.agg #[.slice d.a d.n d.c, .slice d.pa d.pn d.pc, .int .i64 d.left, .bool d.down], .int .i64 m.2]) ∧ d.Ok w' ∧ d.m = m.1 ∧ Below w.heap.size w w' ∧ ∀ b, b < w.heap.size → I b → d.Av b
theorem retX {P : Program} {f : FuncId} {args : Array Value} {w : World} {I : Nat → Prop} {m : Dv.Disk} (h : Calls P f args w (RetK w I m)) : Calls P f args w (RetX w I m) := h.mono fun _ _ h => h
theorem retXE {P : Program} {f : FuncId} {args : Array Value} {w : World} {I : Nat → Prop} {m : Dv.Disk × Int} (h : Calls P f args w (RetKE w I m)) : Calls P f args w (RetXE w I m) := h.mono fun _ _ h => h
/-- The journal as a value of mathematics. -/
structure Jl where
  d : Dv.Disk
  e : Int
  h : Int
  c : Int
def Jl.zero : Jl := ⟨Dv.Disk.zero, 0, 0, 0⟩
/-- A journal in memory. -/
structure Jk where
  d : Dk
  e : Int
  h : Int
  c : Int
def Jk.m (j : Jk) : Jl := ⟨j.d.m, j.e, j.h, j.c⟩
def Jk.zero : Jk := ⟨Dk.zero, 0, 0, 0⟩
theorem Jk.zero_m : Jk.zero.m = Jl.zero := rfl
/-- What returns a journal and an error. -/
def RetJE (w : World) (I : Nat → Prop) (m : Jl × Int) (e : Ending) (w' : World) : Prop := ∃ J : Jk, e = .returned (.tuple #[.agg #[.slice J.d.a J.d.n J.d.c, .slice J.d.pa J.d.pn J.d.pc, .int .i64 J.d.left, .bool J.d.down, .int .i64 J.e, .int .i64 J.h, .int .i64 J.c], .int .i64 m.2]) ∧ J.d.Ok w' ∧ J.m = m.1 ∧ Below w.heap.size w w' ∧ ∀ b, b < w.heap.size → I b → J.d.Av b
theorem off_set7 (w : World) (b : Nat) (x0 x1 x2 x3 x4 x5 x6 : Value) : Off [b] w (((((((w.setCell ⟨b, 0, none⟩ x0).setCell ⟨b, 1, none⟩ x1).setCell ⟨b, 2, none⟩ x2).setCell ⟨b, 3, none⟩ x3).setCell ⟨b, 4, none⟩ x4).setCell ⟨b, 5, none⟩ x5).setCell ⟨b, 6, none⟩ x6) :=
  (((off_set4 w b x0 x1 x2 x3).setCell (p := ⟨b, 4, none⟩) (by simp) x4).setCell (p := ⟨b, 5, none⟩) (by simp) x5).setCell (p := ⟨b, 6, none⟩) (by simp) x6
theorem Bx.set7 {w : World} {b : Nat} {a0 a1 a2 a3 a4 a5 a6 : Value} (h : Bx w b [a0, a1, a2, a3, a4, a5, a6]) (x0 x1 x2 x3 x4 x5 x6 : Value) :
    Bx (((((((w.setCell ⟨b, 0, none⟩ x0).setCell ⟨b, 1, none⟩ x1).setCell ⟨b, 2, none⟩ x2).setCell ⟨b, 3, none⟩ x3).setCell ⟨b, 4, none⟩ x4).setCell ⟨b, 5, none⟩ x5).setCell ⟨b, 6, none⟩ x6) b [x0, x1, x2, x3, x4, x5, x6] := by
  have := ((((((h.set (j := 0) (by simp) x0).set (j := 1) (by simp) x1).set (j := 2) (by simp) x2).set (j := 3) (by simp) x3).set (j := 4) (by simp) x4).set (j := 5) (by simp) x5).set (j := 6) (by simp) x6
  simpa only [List.set_cons_zero, List.set_cons_succ] using this

set_option maxHeartbeats 1000000 in
theorem jfresh_any (d : Dk) (K : Nat) (w : World) (h : d.Ok w) (hf : Dv.Fits K d.m) (hK : K ≤ 1000) :
    Calls Tryd.prog 31 #[.agg #[.slice d.a d.n d.c, .slice d.pa d.pn d.pc, .int .i64 d.left, .bool d.down]] w (RetX w (fun _ => True) d.m) := by
  have HA := Keep.mk (fun (X : World) (hX : Below w.heap.size w X) => retX (arm_any d d.left K X (h.below hX) hf hK))
  have IX := Keep.mk ((BxK.new h).below (below_alloc1 _ (.cells #[.slice none 0 0, .slice none 0 0, .int .i64 0, .bool false] 25)))
  have OX := Keep.mk (Bx.new (w.alloc (.cells #[.slice d.a d.n d.c, .slice d.pa d.pn d.pc, .int .i64 d.left, .bool d.down] 25)) [.slice none 0 0, .slice none 0 0, .int .i64 0, .bool false] 25)
  have HB0 : Hid (Below w.heap.size w ((w.alloc (.cells #[.slice d.a d.n d.c, .slice d.pa d.pn d.pc, .int .i64 d.left, .bool d.down] 25)).alloc (.cells #[.slice none 0 0, .slice none 0 0, .int .i64 0, .bool false] 25))) := (below_alloc1 _ _).alloc (by simp) _
  rw [World.size_alloc] at OX
  clear h hf
  go_enter Tryd.func31, Tryd.ntmps31
  go_upto_region 1 with (fail)
  generalize e1 : (w.alloc (.cells #[.slice d.a d.n d.c, .slice d.pa d.pn d.pc, .int .i64 d.left, .bool d.down] 25)).alloc (.cells #[.slice none 0 0, .slice none 0 0, .int .i64 0, .bool false] 25) = w1 at *
  clear e1
  obtain ⟨i0, i1, i2, i3⟩ := IX.out.cs
  go_wp2_with fail
  refine (HA.out w1 HB0.out).mono ?_
  rintro e w2 ⟨D, rfl, hok, hm, hb, hav⟩
  have HB2 := Lib.hid (below_next HB0.out hb (Nat.le_refl _))
  have DX := Keep.mk (BxK.new hok)
  have hal := below_alloc1 w2 (.cells #[.slice D.a D.n D.c, .slice D.pa D.pn D.pc, .int .i64 D.left, .bool D.down] 25)
  have IX3 := Keep.mk ((IX.out.below hb).below hal)
  have OX3 := Keep.mk ((OX.out.below hb).below hal)
  have HB3 := Lib.hid (below_next HB2.out hal (Nat.le_refl _))
  have HM := Keep.mk hm
  have HAV : Keep (∀ b, b < w1.heap.size → D.Av b) := ⟨fun b hb => hav b hb trivial⟩
  have HAN := Keep.mk (hok.av (b := w2.heap.size) (Nat.le_refl _))
  have HLT := Keep.mk (hb.size)
  have h2 := OX.out.lt
  have hsz2 := hb.size
  have hsz0 := HB0.out.size
  clear hok hm hb hav hal i0 i1 i2 i3 IX OX HB0 HB2
  go_upto_region 2 with (fail)
  generalize e3 : w2.alloc (.cells #[.slice D.a D.n D.c, .slice D.pa D.pn D.pc, .int .i64 D.left, .bool D.down] 25) = w3 at *
  clear e3
  have i2 := IX3.out.bx.cell 2 _ rfl
  have d0 := DX.out.bx.cell 0 _ rfl
  have d1 := DX.out.bx.cell 1 _ rfl
  have d2 := DX.out.bx.cell 2 _ rfl
  have d3 := DX.out.bx.cell 3 _ rfl
  have df := DX.out.bx.fz
  have o0 := OX3.out.cell 0 _ rfl
  have o1 := OX3.out.cell 1 _ rfl
  have o2 := OX3.out.cell 2 _ rfl
  have o3 := OX3.out.cell 3 _ rfl
  have of := OX3.out.fz
  have hlt3 := DX.out.bx.lt
  go_upto_region 3 with (fail)
  clear d0 d1 d2 d3 df o0 o1 o2 o3 of i2
  have HO4 : Keep (Off [w2.heap.size] w3 (w3.setCell ⟨w2.heap.size, 2, none⟩ (.int .i64 d.left))) := ⟨(Off.refl _ _).setCell (by simp) _⟩
  have DX4 := Keep.mk (DX.out.bx.set (j := 2) (by simp) (.int .i64 d.left))
  simp only [List.set_cons_succ, List.set_cons_zero] at DX4
  have OX4 := Keep.mk (OX3.out.other (p := ⟨w2.heap.size, 2, none⟩) (by simp only; omega) (.int .i64 d.left))
  have HOK4 := Keep.mk (DX.out.ok.off HO4.out (fun b hb => by simp only [List.mem_singleton] at hb; rw [hb]; exact HAN.out))
  have HB4 : Hid (Below w.heap.size w (w3.setCell ⟨w2.heap.size, 2, none⟩ (.int .i64 d.left))) := HB3.out.setCell (by simp only; omega) _
  clear DX OX3 HB3 IX3
  generalize w3.setCell ⟨w2.heap.size, 2, none⟩ (.int .i64 d.left) = w4 at *
  have d0 := DX4.out.cell 0 _ rfl
  have d1 := DX4.out.cell 1 _ rfl
  have d2 := DX4.out.cell 2 _ rfl
  have d3 := DX4.out.cell 3 _ rfl
  have o0 := OX4.out.cell 0 _ rfl
  have o1 := OX4.out.cell 1 _ rfl
  have o2 := OX4.out.cell 2 _ rfl
  have o3 := OX4.out.cell 3 _ rfl
  have of := OX4.out.fz
  go_wp2
  refine bodyPost_ret (v := .agg #[.slice D.a D.n D.c, .slice D.pa D.pn D.pc, .int .i64 d.left, .bool D.down]) (by simp [results, Tryd.results31, go_sem, o0, o1, o2, o3]) rfl ?_
  have hof := off_set4 w4 (w.heap.size + 1) (.slice D.a D.n D.c) (.slice D.pa D.pn D.pc) (.int .i64 d.left) (.bool D.down)
  have hok := HOK4.out.off hof (fun b hb => by simp only [List.mem_singleton] at hb; rw [hb]; exact HAV.out _ h2)
  refine ⟨{ D with left := d.left }, rfl, ⟨hok.sec, hok.pen⟩, ?_, HB4.out.trans (hof.below HB4.out.size (by simp)), fun b hb _ => ?_⟩
  · have hm := HM.out
    unfold Dk.m Dv.arm at hm
    unfold Dk.m
    injection hm with h1 h2 h3 h4
    rw [h1, h2, h4]
  · have h := HAV.out b (by omega)
    exact ⟨h.a_, h.s_, h.p_, h.q_⟩
end Go.Proofs.YtjficpdfofmcnaaDoor

/- A journal, a list of records that came in. -/
namespace Go.Proofs.YtjficpdfofmcnaaDoor
open Go.ChangeShapes Go.WideShapes Go.ChangeAt Go.RowKit Go.Joins Go.Deep

section
variable {H : Type} {enc : TypeId × Value → H} {W : World} {v : Value} {d : DataW H} {p : List MemPlace} {r : Reach} {b0 : Nat}
set_option maxRecDepth 100000 in
theorem open_journal (hv : Value.okWide Tryd.prog W r b0 32 v) (h : DataW.Trod enc Tryd.prog W 0 (fun _ => true) true 32 v d p) :
    ∃ q : Jk, v = .agg #[.slice q.d.a q.d.n q.d.c, .slice q.d.pa q.d.pn q.d.pc, .int .i64 q.d.left, .bool q.d.down, .int .i64 q.e, .int .i64 q.h, .int .i64 q.c] ∧ q.d.Ok W ∧ (Lit.int .i64 q.d.left).wf = true ∧ (Lit.int .i64 q.h).wf = true := by
  obtain ⟨cs, rfl, hsz⟩ := okWide_struct Tryd.underlying32 hv
  obtain ⟨fuel, hf⟩ := h
  simp only [Value.cells] at hf
  obtain ⟨ys, n', hn', hy, hlen, hyl, hq⟩ := DataW.trod_struct Tryd.underlying32 hf
  have h7 : cs.toList.length = 7 := hlen.trans (by kernel_rfl)
  have hy4 : ys.length = 4 := hyl
  have h0 : DataW.trod enc Tryd.prog W 0 (fun _ => true) true n' 25 ((cs.toList.drop 0).take (Tryd.prog.cellsOf 25)) = ys[0]? := hq 0 _ rfl
  have h1 : DataW.trod enc Tryd.prog W 0 (fun _ => true) true n' 3 ((cs.toList.drop 4).take (Tryd.prog.cellsOf 3)) = ys[1]? := hq 1 _ rfl
  have h2 : DataW.trod enc Tryd.prog W 0 (fun _ => true) true n' 3 ((cs.toList.drop 5).take (Tryd.prog.cellsOf 3)) = ys[2]? := hq 2 _ rfl
  have h3 : DataW.trod enc Tryd.prog W 0 (fun _ => true) true n' 3 ((cs.toList.drop 6).take (Tryd.prog.cellsOf 3)) = ys[3]? := hq 3 _ rfl
  rw [List.getElem?_eq_getElem (by omega)] at h0 h1 h2 h3
  rw [show Tryd.prog.cellsOf 25 = 4 by kernel_rfl] at h0
  rw [show Tryd.prog.cellsOf 3 = 1 by kernel_rfl] at h1 h2 h3
  obtain ⟨l⟩ := cs
  simp only at h7 h0 h1 h2 h3
  match l, h7 with
  | [a0, a1, a2, a3, a4, a5, a6], _ =>
    simp only [List.drop_zero, List.drop_succ_cons, List.take_succ_cons, List.take_zero] at h0 h1 h2 h3
    obtain ⟨D, e0, ho, hl⟩ := disk_cells h0
    obtain ⟨x1, e1, _, _⟩ := DataW.trod_int Tryd.underlying3 h1
    obtain ⟨x2, e2, _, f2⟩ := DataW.trod_int Tryd.underlying3 h2
    obtain ⟨x3, e3, _, _⟩ := DataW.trod_int Tryd.underlying3 h3
    simp only [Dk.cells, List.cons.injEq, and_true] at e0 e1 e2 e3
    obtain ⟨rfl, rfl, rfl, rfl⟩ := e0
    subst e1 e2 e3
    exact ⟨⟨D, x1, x2, x3⟩, rfl, ho, hl, f2⟩
set_option maxRecDepth 100000 in
theorem open_secs (hv : Value.okWide Tryd.prog W r b0 22 v) (h : DataW.Trod enc Tryd.prog W 0 (fun _ => true) true 22 v d p) :
    ∃ (A : Option Addr) (n c : Nat) (S : List Sl), v = .slice A n c ∧ RS W A n c S := by
  obtain ⟨A', n', c', rfl⟩ := okWide_slice Tryd.underlying22 hv
  obtain ⟨fuel, hf⟩ := h
  simp only [Value.cells] at hf
  obtain ⟨A, n, c, S, k0, r0, l0, x0⟩ := rows_of_trod (cells := Sl.cells) (s := 1) Tryd.underlying22 (by kernel_rfl) (by decide) (fun _ => rfl) (fun z _ => z.Ok W) sl_each hf
  have o0 : ∀ z ∈ S, z.Ok W := fun z hz => by
    rcases x0 with ⟨_, rfl⟩ | ⟨D, sp, _, hq⟩
    · cases hz
    · obtain ⟨i, hi⟩ := mem_get hz
      exact hq i z hi
  rw [flat_one] at r0
  exact ⟨A, n, c, S, k0, r0, o0⟩
end
end Go.Proofs.YtjficpdfofmcnaaDoor

/- The journal's scan. -/
namespace Go.Proofs.YtjficpdfofmcnaaDoor
open Go.RowKit Go.Joins

/-- The error of a scan. -/
def Jn.scanE (m : Dv.Disk) : Int := if m.sectors.length < 2 then 18 else if m.down = true then 23 else if (Jn.readHead (Jn.cont m 0)).2 = false then 4 else 0
/-- What a scan finds. -/
def Scanned (m : Dv.Disk) (j : Jl) (L : List (List UInt8)) (k : Int) : Prop := k = Jn.scanE m ∧ ((k ≠ 0 ∧ j = Jl.zero ∧ L = []) ∨
  (k = 0 ∧ ∃ a : Nat, Jn.Chain m (Jn.readHead (Jn.cont m 0)).1 1 0 L a ∧ Jn.recOf m (Jn.readHead (Jn.cont m 0)).1 ((0 + L.length : Nat) : Int) a = none ∧ j = ⟨m, (Jn.readHead (Jn.cont m 0)).1, (a : Int) * 64, (L.length : Int)⟩))
theorem Scanned.det {m : Dv.Disk} {j j' : Jl} {L L' : List (List UInt8)} {k k' : Int} (h : Scanned m j L k) (h' : Scanned m j' L' k') : k = k' ∧ L = L' ∧ j = j' := by
  obtain ⟨h1, h2⟩ := h
  obtain ⟨h3, h4⟩ := h'
  have hk : k = k' := by rw [h1, h3]
  subst hk
  refine ⟨rfl, ?_⟩
  rcases h2 with ⟨g, rfl, rfl⟩ | ⟨g, a, c1, n1, rfl⟩
  · rcases h4 with ⟨_, rfl, rfl⟩ | ⟨g', _⟩
    · exact ⟨rfl, rfl⟩
    · exact absurd g' g
  · rcases h4 with ⟨g', _⟩ | ⟨_, a', c2, n2, rfl⟩
    · exact absurd g g'
    · obtain ⟨rfl, rfl⟩ := c1.det n1 c2 n2
      exact ⟨rfl, rfl⟩
/-- What scan leaves. -/
def RetS (w : World) (I : Nat → Prop) (m : Dv.Disk) (e : Ending) (w' : World) : Prop := ∃ (J : Jk) (A : Option Addr) (n c : Nat) (S : List Sl) (k : Int), e = .returned (.tuple #[.agg #[.slice J.d.a J.d.n J.d.c, .slice J.d.pa J.d.pn J.d.pc, .int .i64 J.d.left, .bool J.d.down, .int .i64 J.e, .int .i64 J.h, .int .i64 J.c], .slice A n c, .int .i64 k]) ∧ J.d.Ok w' ∧ RS w' A n c S ∧ Below w.heap.size w w' ∧ Scanned m J.m (S.map (·.l)) k ∧ ∀ b, b < w.heap.size → I b → J.d.Av b
theorem RetS.no {w w' : World} {I : Nat → Prop} {m : Dv.Disk} {k : Int} (hb : Below w.heap.size w w') (hk : k = Jn.scanE m) (h0 : k ≠ 0) : RetS w I m (.returned (.tuple #[.agg #[.slice none 0 0, .slice none 0 0, .int .i64 0, .bool false, .int .i64 0, .int .i64 0, .int .i64 0], .slice none 0 0, .int .i64 k])) w' :=
  ⟨Jk.zero, none, 0, 0, [], k, rfl, Dk.zero_ok _, RS.none_ _, hb, ⟨hk, .inl ⟨h0, rfl, rfl⟩⟩, fun b _ _ => Dk.zero_av b⟩

set_option maxHeartbeats 4000000 in
set_option maxRecDepth 100000 in
theorem scan_any (d : Dk) (K : Nat) (w : World) (h : d.Ok w) (hf : Dv.Fits K d.m) (hK : K ≤ 1000) (ht : Tab w) :
    Calls Tryd.prog 28 #[.agg #[.slice d.a d.n d.c, .slice d.pa d.pn d.pc, .int .i64 d.left, .bool d.down]] w (RetS w (fun _ => True) d.m) := by
  have HF := Keep.mk hf
  have HT := Keep.mk ht
  have HD := Keep.mk h
  have hdl := dk_len h
  have hns : d.n ≤ 4096 := by have := hf.ns; omega
  have HDL := Keep.mk hdl
  have IX := Keep.mk ((BxK.new h).below (below_alloc1 _ (.cells #[.slice none 0 0, .slice none 0 0, .int .i64 0, .bool false, .int .i64 0, .int .i64 0, .int .i64 0] 32)))
  have OX := Keep.mk (Bx.new (w.alloc (.cells #[.slice d.a d.n d.c, .slice d.pa d.pn d.pc, .int .i64 d.left, .bool d.down] 25)) [.slice none 0 0, .slice none 0 0, .int .i64 0, .bool false, .int .i64 0, .int .i64 0, .int .i64 0] 32)
  have HB0 : Hid (Below w.heap.size w ((w.alloc (.cells #[.slice d.a d.n d.c, .slice d.pa d.pn d.pc, .int .i64 d.left, .bool d.down] 25)).alloc (.cells #[.slice none 0 0, .slice none 0 0, .int .i64 0, .bool false, .int .i64 0, .int .i64 0, .int .i64 0] 32))) := (below_alloc1 _ _).alloc (by simp) _
  rw [World.size_alloc] at OX
  have hbig := Nat.le_trans h.sec.cap h.sec.big
  unfold maxLen at hbig
  have HR := Keep.mk (fun (X : World) (hX : Below w.heap.size w X) => read_any d 0 K X (h.below hX) hf)
  clear h hf ht hdl
  by_cases h2 : d.n < 2
  · have e1 : decide ((d.n : Int) < 2) = true := decide_eq_true (by omega)
    have HSE : Keep ((18 : Int) = Jn.scanE d.m) := ⟨by unfold Jn.scanE; rw [if_pos (by rw [HDL.out]; exact h2)]⟩
    go_enter Tryd.func28, Tryd.ntmps28
    go_upto_region 1 with (fail)
    generalize e3 : (w.alloc (.cells #[.slice d.a d.n d.c, .slice d.pa d.pn d.pc, .int .i64 d.left, .bool d.down] 25)).alloc (.cells #[.slice none 0 0, .slice none 0 0, .int .i64 0, .bool false, .int .i64 0, .int .i64 0, .int .i64 0] 32) = w1 at *
    clear e3
    have i0 := IX.out.bx.cell 0 _ rfl
    have o0 := OX.out.cell 0 _ rfl
    have o1 := OX.out.cell 1 _ rfl
    have o2 := OX.out.cell 2 _ rfl
    have o3 := OX.out.cell 3 _ rfl
    have o4 := OX.out.cell 4 _ rfl
    have o5 := OX.out.cell 5 _ rfl
    have o6 := OX.out.cell 6 _ rfl
    have of := OX.out.fz
    go_wp2
    refine bodyPost_ret (v := .tuple #[.agg #[.slice none 0 0, .slice none 0 0, .int .i64 0, .bool false, .int .i64 0, .int .i64 0, .int .i64 0], .slice none 0 0, .int .i64 18]) (by simp [results, Tryd.results28, go_sem, o0, o1, o2, o3, o4, o5, o6]) rfl ?_
    exact .no (HB0.out.trans ((off_set7 w1 (w.heap.size + 1) _ _ _ _ _ _ _).below HB0.out.size (by simp))) HSE.out (by decide)
  · have e1 : decide ((d.n : Int) < 2) = false := decide_eq_false (by omega)
    go_enter Tryd.func28, Tryd.ntmps28
    go_upto_region 1 with (fail)
    generalize e3 : (w.alloc (.cells #[.slice d.a d.n d.c, .slice d.pa d.pn d.pc, .int .i64 d.left, .bool d.down] 25)).alloc (.cells #[.slice none 0 0, .slice none 0 0, .int .i64 0, .bool false, .int .i64 0, .int .i64 0, .int .i64 0] 32) = w1 at *
    clear e3
    obtain ⟨i0, i1, i2, i3⟩ := IX.out.cs
    go_wp2_with fail
    refine (HR.out w1 HB0.out).mono ?_
    rintro e w2 ⟨A1, n1, c1, rfl, hr, hb⟩
    have HR1 := Keep.mk hr
    have HB2 := Lib.hid (below_next HB0.out hb (Nat.le_refl _))
    have IX2 := Keep.mk (IX.out.below hb)
    have OX2 := Keep.mk (OX.out.below hb)
    clear hr hb i0 i1 i2 i3 IX OX
    have o0 := OX2.out.cell 0 _ rfl
    have o1 := OX2.out.cell 1 _ rfl
    have o2 := OX2.out.cell 2 _ rfl
    have o3 := OX2.out.cell 3 _ rfl
    have o4 := OX2.out.cell 4 _ rfl
    have o5 := OX2.out.cell 5 _ rfl
    have o6 := OX2.out.cell 6 _ rfl
    have of := OX2.out.fz
    by_cases hdn : d.down = true
    · have hrd : Dv.read d.m 0 = ([], 23) := by unfold Dv.read; rw [if_pos (show d.m.down = true from hdn)]
      have HSE : Keep ((23 : Int) = Jn.scanE d.m) := ⟨by unfold Jn.scanE; rw [if_neg (by rw [HDL.out]; exact h2), if_pos (show d.m.down = true from hdn)]⟩
      rw [hrd]
      clear hrd hdn HR1 HR
      go_wp2
      refine bodyPost_ret (v := .tuple #[.agg #[.slice none 0 0, .slice none 0 0, .int .i64 0, .bool false, .int .i64 0, .int .i64 0, .int .i64 0], .slice none 0 0, .int .i64 23]) (by simp [results, Tryd.results28, go_sem, o0, o1, o2, o3, o4, o5, o6]) rfl ?_
      exact .no (HB2.out.trans ((off_set7 w2 (w.heap.size + 1) _ _ _ _ _ _ _).below HB2.out.size (by simp))) HSE.out (by decide)
    · have hdn : d.down = false := by simpa using hdn
      have hmd : d.m.down = false := hdn
      have hrd : Dv.read d.m 0 = (Jn.cont d.m 0, 0) := Jn.read_cont hmd (i := 0) (by rw [HDL.out]; omega)
      have HH := Keep.mk HR1.out
      rw [hrd] at HH ⊢
      have HDN := Keep.mk hdn
      have CH := Keep.mk (readHead_any A1 n1 c1 _ w2 HH.out (HT.out.below HB2.out))
      clear hrd HR1 HR hdn
      by_cases hrh : (Jn.readHead (Jn.cont d.m 0)).2 = false
      · have HSE : Keep ((4 : Int) = Jn.scanE d.m) := ⟨by unfold Jn.scanE; rw [if_neg (by rw [HDL.out]; exact h2), if_neg (by rw [hmd]; decide), if_pos hrh]⟩
        obtain ⟨x, ok, hx⟩ : ∃ x ok, Jn.readHead (Jn.cont d.m 0) = (x, ok) := ⟨_, _, rfl⟩
        rw [hx] at CH hrh
        simp only at hrh
        subst hrh
        clear hmd hx o0 o1 o2 o3 o4 o5 o6 of
        go_wp2_with fail
        refine CH.out.mono ?_
        rintro e w3 ⟨rfl, hb⟩
        have HB3 := Lib.hid (below_next HB2.out hb (Nat.le_refl _))
        have OX3 := Keep.mk (OX2.out.below hb)
        clear hb
        have o0 := OX3.out.cell 0 _ rfl
        have o1 := OX3.out.cell 1 _ rfl
        have o2 := OX3.out.cell 2 _ rfl
        have o3 := OX3.out.cell 3 _ rfl
        have o4 := OX3.out.cell 4 _ rfl
        have o5 := OX3.out.cell 5 _ rfl
        have o6 := OX3.out.cell 6 _ rfl
        have of := OX3.out.fz
        go_wp2
        refine bodyPost_ret (v := .tuple #[.agg #[.slice none 0 0, .slice none 0 0, .int .i64 0, .bool false, .int .i64 0, .int .i64 0, .int .i64 0], .slice none 0 0, .int .i64 4]) (by simp [results, Tryd.results28, go_sem, o0, o1, o2, o3, o4, o5, o6]) rfl ?_
        exact .no (HB3.out.trans ((off_set7 w3 (w.heap.size + 1) _ _ _ _ _ _ _).below HB3.out.size (by simp))) HSE.out (by decide)
      · have hrt : (Jn.readHead (Jn.cont d.m 0)).2 = true := by simpa using hrh
        have HRT := Keep.mk (Jn.readHead_true hrt)
        have HSE : Keep ((0 : Int) = Jn.scanE d.m) := ⟨by unfold Jn.scanE; rw [if_neg (by rw [HDL.out]; exact h2), if_neg (by rw [hmd]; decide), if_neg hrh]⟩
        have FIN : Keep (∀ (k : Nat) (L : List (List UInt8)) (a : Nat), L.length = k → Jn.Chain d.m (Jn.readHead (Jn.cont d.m 0)).1 1 0 L a → Jn.recOf d.m (Jn.readHead (Jn.cont d.m 0)).1 (k : Int) a = none → Scanned d.m ⟨d.m, (Jn.readHead (Jn.cont d.m 0)).1, (a : Int) * 64, (k : Int)⟩ L 0) := ⟨fun k L a hk hc hn => ⟨HSE.out, .inr ⟨rfl, a, hc, by rw [Nat.zero_add, hk]; exact hn, by rw [hk]⟩⟩⟩
        obtain ⟨x, ok, hx⟩ : ∃ x ok, Jn.readHead (Jn.cont d.m 0) = (x, ok) := ⟨_, _, rfl⟩
        rw [hx] at CH hrt HRT FIN
        simp only at hrt HRT FIN
        subst hrt
        have hx1 : 1 ≤ x := HRT.out.1
        have hx2 : x ≤ 1073741824 := HRT.out.2.1
        have HIN : Keep (V.In x) := ⟨by unfold V.In; omega⟩
        have HRC := Keep.mk (fun (X : World) (hX : Below w.heap.size w X) (a k : Nat) (ha : a ≤ d.n) (hk : k ≤ 4096) => record_any d a x (k : Int) K X (HD.out.below hX) HF.out HDN.out HIN.out (by unfold V.In; omega) ha (HT.out.below hX))
        have HFR := Keep.mk (fun (X : World) (hX : Below w.heap.size w X) => jfresh_any d K X (HD.out.below hX) HF.out hK)
        clear hmd hx hrh o0 o1 o2 o3 o4 o5 o6 of
        go_wp2_with fail
        refine CH.out.mono ?_
        rintro e w3 ⟨rfl, hb⟩
        have HB3 := Lib.hid (below_next HB2.out hb (Nat.le_refl _))
        have IX3 := Keep.mk (IX2.out.below hb)
        have OX3 := Keep.mk (OX2.out.below hb)
        have hz3 := OX3.out.lt
        clear hb IX2 OX2 HB2 HH CH
        go_wp2
        go_loopw [3, 8] (fun v y wr => ∃ (k a : Nat) (A' : Option Addr) (c' : Nat) (L : List Sl), v = .slice A' k c' ∧ y = .int .i64 a ∧ 1 ≤ a ∧ a ≤ d.n ∧ k ≤ a ∧ Keep (GS wr w3.heap.size A' k c' L ∧ Below w3.heap.size w3 wr) ∧ Keep (Jn.Chain d.m x 1 0 (L.map (·.l)) a) ∧ Keep ((∀ z, A' = some z → w3.heap.size ≤ z.block) ∧ ∀ s ∈ L, ∀ z, s.a = some z → w3.heap.size ≤ z.block)) (fun _ y _ => d.n - (intOf y).toNat)
        case atStart => exact ⟨0, 1, none, 0, [], rfl, rfl, by omega, by omega, by omega, ⟨GS.nil _ _, Below.refl _ _⟩, ⟨.nil _ _⟩, ⟨(fun z h => by cases h), (fun s h => by cases h)⟩⟩
        case round =>
          obtain ⟨k, a, A', c', L, rfl, rfl, ha1, han, hka, HG, HCH, HNW⟩ := hrel
          have HBW := Lib.hid (below_next HB3.out HG.out.2 (Nat.le_refl _))
          have IX4 := Keep.mk (IX3.out.below HG.out.2)
          have CR := Keep.mk (HRC.out wr HBW.out a k han (by omega))
          have HLK : Keep (L.length = k) := ⟨HG.out.1.rs.len⟩
          obtain ⟨i0, i1, i2, i3⟩ := IX4.out.cs
          rw [HDN.out] at CR i3
          go_wp2_with fail
          refine CR.out.mono ?_
          rintro e4 w4 ⟨A5, n5, c5, ok, rfl, hb, ho⟩
          have HBW4 := Lib.hid (below_next HBW.out hb (Nat.le_refl _))
          have HB34 := Lib.hid (below_next HG.out.2 hb (Nat.le_refl _))
          have HG4 := Keep.mk (HG.out.1.below hb)
          have hzw := HG.out.2.size
          clear hb i0 i1 i2 i3 CR IX4
          rcases ho with ⟨rfl, l5, hro, hr, hnew⟩ | ⟨rfl, hro⟩
          · have hrl := Jn.recOf_length hro
            have h5 := hr.len
            have hs5 : Jn.sectors n5 ≤ 4096 := by rw [← h5]; rw [HDL.out] at hrl; omega
            have hadv : a + 1 + Jn.sectors n5 ≤ d.n := by rw [← h5]; rw [HDL.out] at hrl; omega
            have hn5 : n5 ≤ 9223372036854775807 := by have := Jn.sectors_le n5; omega
            have HR5 := Keep.mk hr
            have HN5 := Keep.mk hnew
            have CS := Keep.mk (fun (X : World) => sectors_any n5 X hn5)
            have HCN : Keep (Jn.Chain d.m x 1 0 (L.map (·.l) ++ [l5]) (a + 1 + Jn.sectors n5)) := ⟨by
              have h := Jn.Chain.snoc HCH.out (by rw [List.length_map, HLK.out, Nat.zero_add]; exact hro)
              rwa [h5] at h⟩
            have hzw4 := HB34.out.size
            have hk4 : k ≤ 4096 := by omega
            generalize Jn.sectors n5 = S5 at *
            clear hro hrl h5 hr hnew
            go_wp2_with (first
              | (at_builtin; refine wpList_append_app _ rfl (.tmp 44) (.tmp 46) 22 rfl w3.heap.size 26 (.slice none 0 0) 1 24 Tryd.underlying22 sl_info rfl (by decide) (by decide) (.slice A' k c') k (L.map Sl.v) rfl (HG4.out.tgt.below (below_alloc1 _ _)) (some ⟨w4.heap.size, 0, none⟩) 1 1 [.slice A5 n5 c5] rfl (rd_one w4 _ _) (by simp [Value.oneCell']) (by omega) (by simp; omega) ?_; intro A6 c6 w6 ha6; have HA6 := Keep.mk ha6; clear ha6)
              | (go_at_call 32; (refine (CS.out _).mono ?_); rintro e7 wn ⟨rfl, rfl⟩))
            have HG6 := Keep.mk (GS.app (s := ⟨A5, n5, c5, l5⟩) (HG4.out.below (below_alloc1 _ _)) HA6.out (Sl.Ok.below (s := ⟨A5, n5, c5, l5⟩) HR5.out (below_alloc1 _ _)) (away_new HG.out.1.lt HN5.out))
            go_roundw
            case rel =>
              refine ⟨k + 1, a + 1 + S5, A6, c6, L ++ [⟨A5, n5, c5, l5⟩], rfl, by rw [show ((a + 1 + S5 : Nat) : Int) = (a : Int) + (1 + (S5 : Int)) by omega], by omega, hadv, by omega, ⟨HG6.out, HB34.out.trans (((below_alloc1 _ _).mono HB34.out.size).trans HA6.out.below)⟩, ⟨by rw [List.map_append]; exact HCN.out⟩, ⟨fun z hz => ?n1, fun s hs z hz => ?n2⟩⟩
              case n1 =>
                rcases HA6.out.at_ z hz with h | h
                · cases A' with
                  | none => simp [Value.ownBlock] at h
                  | some a' =>
                    have h1 := HNW.out.1 a' rfl
                    have h2 : a'.block = z.block := by simpa [Value.ownBlock] using h
                    omega
                · have := h.1
                  simp at this
                  omega
              case n2 =>
                rcases List.mem_append.1 hs with hs | hs
                · exact HNW.out.2 s hs z hz
                · simp only [List.mem_singleton] at hs
                  subst hs
                  have := HN5.out z hz
                  omega
            case measure => simp [intOf]; omega
          · have HFI := Keep.mk (FIN.out k (L.map (·.l)) a (by rw [List.length_map]; exact HLK.out) HCH.out hro)
            have IX5 := Keep.mk (IX3.out.below HB34.out)
            have OX5 := Keep.mk (OX3.out.below HB34.out)
            have CF := Keep.mk (HFR.out w4 HBW4.out)
            obtain ⟨i0, i1, i2, i3⟩ := IX5.out.cs
            rw [HDN.out] at CF i3
            clear hro
            go_wp2_with fail
            refine CF.out.mono ?_
            rintro e5 w5 ⟨D, rfl, hok, hm, hb, hav⟩
            have HBW5 := Lib.hid (below_next HBW4.out hb (Nat.le_refl _))
            have OX6 := Keep.mk (OX5.out.below hb)
            have HG5 := Keep.mk (HG4.out.below hb)
            have HOK := Keep.mk hok
            have HM := Keep.mk hm
            have hz4 := HB34.out.size
            have HAV : Keep (∀ b, b < w4.heap.size → D.Av b) := ⟨fun b hb => hav b hb trivial⟩
            clear hok hm hb hav i0 i1 i2 i3
            have o0 := OX6.out.cell 0 _ rfl
            have o1 := OX6.out.cell 1 _ rfl
            have o2 := OX6.out.cell 2 _ rfl
            have o3 := OX6.out.cell 3 _ rfl
            have o4 := OX6.out.cell 4 _ rfl
            have o5 := OX6.out.cell 5 _ rfl
            have o6 := OX6.out.cell 6 _ rfl
            have of := OX6.out.fz
            go_wp2
            refine bodyPost_ret (v := .tuple #[.agg #[.slice D.a D.n D.c, .slice D.pa D.pn D.pc, .int .i64 D.left, .bool D.down, .int .i64 x, .int .i64 ((a:Int)*64), .int .i64 (k:Int)], .slice A' k c', .int .i64 0]) (by simp [results, Tryd.results28, go_sem, o0, o1, o2, o3, o4, o5, o6]) rfl ?_
            have hof := off_set7 w5 (w.heap.size + 1) (.slice D.a D.n D.c) (.slice D.pa D.pn D.pc) (.int .i64 D.left) (.bool D.down) (.int .i64 x) (.int .i64 ((a : Int) * 64)) (.int .i64 (k : Int))
            have hob := HOK.out.off hof (fun b hb => by simp only [List.mem_singleton] at hb; rw [hb]; exact HAV.out _ (by omega))
            refine ⟨⟨D, x, (a : Int) * 64, (k : Int)⟩, A', k, c', L, 0, rfl, hob, ?_, HBW5.out.trans (hof.below HBW5.out.size (by simp)), ?_, fun b hb _ => HAV.out b (by have := HBW4.out.size; omega)⟩
            · refine HG5.out.rs.off hof (fun b hb _ z hz => ?_) (fun b hb s hs _ z hz => ?_)
              · simp only [List.mem_singleton] at hb
                have := HNW.out.1 z hz
                omega
              · simp only [List.mem_singleton] at hb
                have := HNW.out.2 s hs z hz
                omega
            · have h := HFI.out
              unfold Jk.m
              simp only [HM.out]
              exact h
end Go.Proofs.YtjficpdfofmcnaaDoor

/- The journal's Open, Records. -/
namespace Go.Proofs.YtjficpdfofmcnaaDoor
open Go.RowKit Go.Joins

/-- What Open leaves. -/
def RetO (w : World) (I : Nat → Prop) (m : Dv.Disk) (e : Ending) (w' : World) : Prop := ∃ (J : Jk) (k : Int) (L : List (List UInt8)), e = .returned (.tuple #[.agg #[.slice J.d.a J.d.n J.d.c, .slice J.d.pa J.d.pn J.d.pc, .int .i64 J.d.left, .bool J.d.down, .int .i64 J.e, .int .i64 J.h, .int .i64 J.c], .int .i64 k]) ∧ J.d.Ok w' ∧ Below w.heap.size w w' ∧ Scanned m J.m L k ∧ ∀ b, b < w.heap.size → I b → J.d.Av b
/-- What Records leaves. -/
def RetL (w : World) (m : Dv.Disk) (e : Ending) (w' : World) : Prop := ∃ (A : Option Addr) (n c : Nat) (S : List Sl) (k : Int) (j : Jl), e = .returned (.tuple #[.slice A n c, .int .i64 k]) ∧ RS w' A n c S ∧ Below w.heap.size w w' ∧ Scanned m j (S.map (·.l)) k
/-- A journal in a box. -/
structure BxJ (w : World) (b : Nat) (j : Jk) : Prop where
  bx : Bx w b [.slice j.d.a j.d.n j.d.c, .slice j.d.pa j.d.pn j.d.pc, .int .i64 j.d.left, .bool j.d.down, .int .i64 j.e, .int .i64 j.h, .int .i64 j.c]
  ok : j.d.Ok w
theorem BxJ.below {w w' : World} {b : Nat} {j : Jk} (h : BxJ w b j) (hb : Below w.heap.size w w') : BxJ w' b j := ⟨h.bx.below hb, h.ok.below hb⟩
theorem BxJ.new {w : World} {j : Jk} (h : j.d.Ok w) : BxJ (w.alloc (.cells #[.slice j.d.a j.d.n j.d.c, .slice j.d.pa j.d.pn j.d.pc, .int .i64 j.d.left, .bool j.d.down, .int .i64 j.e, .int .i64 j.h, .int .i64 j.c] 32)) w.heap.size j := ⟨Bx.new w [.slice j.d.a j.d.n j.d.c, .slice j.d.pa j.d.pn j.d.pc, .int .i64 j.d.left, .bool j.d.down, .int .i64 j.e, .int .i64 j.h, .int .i64 j.c] 32, h.below (below_alloc1 _ _)⟩
theorem BxJ.cs {w : World} {b : Nat} {j : Jk} (h : BxJ w b j) : w.cell? ⟨b, 0, none⟩ = some (.slice j.d.a j.d.n j.d.c) ∧ w.cell? ⟨b, 1, none⟩ = some (.slice j.d.pa j.d.pn j.d.pc) ∧ w.cell? ⟨b, 2, none⟩ = some (.int .i64 j.d.left) ∧ w.cell? ⟨b, 3, none⟩ = some (.bool j.d.down) ∧
    w.cell? ⟨b, 4, none⟩ = some (.int .i64 j.e) ∧ w.cell? ⟨b, 5, none⟩ = some (.int .i64 j.h) ∧ w.cell? ⟨b, 6, none⟩ = some (.int .i64 j.c) :=
  ⟨h.bx.cell 0 _ rfl, h.bx.cell 1 _ rfl, h.bx.cell 2 _ rfl, h.bx.cell 3 _ rfl, h.bx.cell 4 _ rfl, h.bx.cell 5 _ rfl, h.bx.cell 6 _ rfl⟩

set_option maxHeartbeats 1000000 in
set_option maxRecDepth 100000 in
theorem open_any (d : Dk) (K : Nat) (w : World) (h : d.Ok w) (hf : Dv.Fits K d.m) (hK : K ≤ 1000) (ht : Tab w) :
    Calls Tryd.prog 12 #[.agg #[.slice d.a d.n d.c, .slice d.pa d.pn d.pc, .int .i64 d.left, .bool d.down]] w (RetO w (fun _ => True) d.m) := by
  have HS := Keep.mk (fun (X : World) (hX : Below w.heap.size w X) => scan_any d K X (h.below hX) hf hK (ht.below hX))
  have IX := Keep.mk ((BxK.new h).below (below_alloc1 _ (.cells #[.slice none 0 0, .slice none 0 0, .int .i64 0, .bool false, .int .i64 0, .int .i64 0, .int .i64 0] 32)))
  have OX := Keep.mk (Bx.new (w.alloc (.cells #[.slice d.a d.n d.c, .slice d.pa d.pn d.pc, .int .i64 d.left, .bool d.down] 25)) [.slice none 0 0, .slice none 0 0, .int .i64 0, .bool false, .int .i64 0, .int .i64 0, .int .i64 0] 32)
  have HB0 : Hid (Below w.heap.size w ((w.alloc (.cells #[.slice d.a d.n d.c, .slice d.pa d.pn d.pc, .int .i64 d.left, .bool d.down] 25)).alloc (.cells #[.slice none 0 0, .slice none 0 0, .int .i64 0, .bool false, .int .i64 0, .int .i64 0, .int .i64 0] 32))) := (below_alloc1 _ _).alloc (by simp) _
  rw [World.size_alloc] at OX
  clear h hf ht
  go_enter Tryd.func12, Tryd.ntmps12
  go_upto_region 1 with (fail)
  generalize e3 : (w.alloc (.cells #[.slice d.a d.n d.c, .slice d.pa d.pn d.pc, .int .i64 d.left, .bool d.down] 25)).alloc (.cells #[.slice none 0 0, .slice none 0 0, .int .i64 0, .bool false, .int .i64 0, .int .i64 0, .int .i64 0] 32) = w1 at *
  clear e3
  obtain ⟨i0, i1, i2, i3⟩ := IX.out.cs
  go_wp2_with fail
  refine (HS.out w1 HB0.out).mono ?_
  rintro e w2 ⟨J, A, n, c, S, k, rfl, hok, hrs, hb, hsc, hav⟩
  have HB2 := Lib.hid (below_next HB0.out hb (Nat.le_refl _))
  have OX2 := Keep.mk (OX.out.below hb)
  have hlt := OX.out.lt
  have HAV : Keep (∀ b, b < w1.heap.size → J.d.Av b) := ⟨fun b hb => hav b hb trivial⟩
  have HOK := Keep.mk hok
  have HSC := Keep.mk hsc
  have hz := HB0.out.size
  clear hok hrs hb hsc hav i0 i1 i2 i3
  have o0 := OX2.out.cell 0 _ rfl
  have o1 := OX2.out.cell 1 _ rfl
  have o2 := OX2.out.cell 2 _ rfl
  have o3 := OX2.out.cell 3 _ rfl
  have o4 := OX2.out.cell 4 _ rfl
  have o5 := OX2.out.cell 5 _ rfl
  have o6 := OX2.out.cell 6 _ rfl
  have of := OX2.out.fz
  go_upto_region 2 with (fail)
  clear o0 o1 o2 o3 o4 o5 o6 of
  have HO3 := Keep.mk (off_set7 w2 (w.heap.size + 1) (.slice J.d.a J.d.n J.d.c) (.slice J.d.pa J.d.pn J.d.pc) (.int .i64 J.d.left) (.bool J.d.down) (.int .i64 J.e) (.int .i64 J.h) (.int .i64 J.c))
  have OX3 := Keep.mk (OX2.out.set7 (.slice J.d.a J.d.n J.d.c) (.slice J.d.pa J.d.pn J.d.pc) (.int .i64 J.d.left) (.bool J.d.down) (.int .i64 J.e) (.int .i64 J.h) (.int .i64 J.c))
  generalize (((((((w2.setCell ⟨w.heap.size + 1, 0, none⟩ (.slice J.d.a J.d.n J.d.c)).setCell ⟨w.heap.size + 1, 1, none⟩ (.slice J.d.pa J.d.pn J.d.pc)).setCell ⟨w.heap.size + 1, 2, none⟩ (.int .i64 J.d.left)).setCell ⟨w.heap.size + 1, 3, none⟩ (.bool J.d.down)).setCell ⟨w.heap.size + 1, 4, none⟩ (.int .i64 J.e)).setCell ⟨w.heap.size + 1, 5, none⟩ (.int .i64 J.h)).setCell ⟨w.heap.size + 1, 6, none⟩ (.int .i64 J.c)) = w3 at *
  have o0 := OX3.out.cell 0 _ rfl
  have o1 := OX3.out.cell 1 _ rfl
  have o2 := OX3.out.cell 2 _ rfl
  have o3 := OX3.out.cell 3 _ rfl
  have o4 := OX3.out.cell 4 _ rfl
  have o5 := OX3.out.cell 5 _ rfl
  have o6 := OX3.out.cell 6 _ rfl
  have of := OX3.out.fz
  go_wp2
  refine bodyPost_ret (v := .tuple #[.agg #[.slice J.d.a J.d.n J.d.c, .slice J.d.pa J.d.pn J.d.pc, .int .i64 J.d.left, .bool J.d.down, .int .i64 J.e, .int .i64 J.h, .int .i64 J.c], .int .i64 k]) (by simp [results, Tryd.results12, go_sem, o0, o1, o2, o3, o4, o5, o6]) rfl ?_
  have hof := HO3.out.trans (off_set7 w3 (w.heap.size + 1) (.slice J.d.a J.d.n J.d.c) (.slice J.d.pa J.d.pn J.d.pc) (.int .i64 J.d.left) (.bool J.d.down) (.int .i64 J.e) (.int .i64 J.h) (.int .i64 J.c))
  exact ⟨J, k, _, rfl, HOK.out.off hof (fun b hb => by simp only [List.mem_singleton] at hb; rw [hb]; exact HAV.out _ hlt), HB2.out.trans (hof.below HB2.out.size (by simp)), HSC.out, fun b hb _ => HAV.out b (by omega)⟩

set_option maxHeartbeats 1000000 in
set_option maxRecDepth 100000 in
theorem records_any (j : Jk) (K : Nat) (w : World) (h : j.d.Ok w) (hf : Dv.Fits K j.d.m) (hK : K ≤ 1000) (ht : Tab w) :
    Calls Tryd.prog 14 #[.agg #[.slice j.d.a j.d.n j.d.c, .slice j.d.pa j.d.pn j.d.pc, .int .i64 j.d.left, .bool j.d.down, .int .i64 j.e, .int .i64 j.h, .int .i64 j.c]] w (RetL w j.d.m) := by
  have HS := Keep.mk (fun (X : World) (hX : Below w.heap.size w X) => scan_any j.d K X (h.below hX) hf hK (ht.below hX))
  have IX := Keep.mk (BxJ.new h)
  have HB0 : Hid (Below w.heap.size w (w.alloc (.cells #[.slice j.d.a j.d.n j.d.c, .slice j.d.pa j.d.pn j.d.pc, .int .i64 j.d.left, .bool j.d.down, .int .i64 j.e, .int .i64 j.h, .int .i64 j.c] 32))) := below_alloc1 _ _
  clear h hf ht
  go_enter Tryd.func14, Tryd.ntmps14
  go_upto_region 1 with (fail)
  generalize e3 : w.alloc (.cells #[.slice j.d.a j.d.n j.d.c, .slice j.d.pa j.d.pn j.d.pc, .int .i64 j.d.left, .bool j.d.down, .int .i64 j.e, .int .i64 j.h, .int .i64 j.c] 32) = w1 at *
  clear e3
  obtain ⟨i0, i1, i2, i3, _⟩ := IX.out.cs
  go_wp2_with fail
  refine (HS.out w1 HB0.out).mono ?_
  rintro e w2 ⟨J, A, n, c, S, k, rfl, hok, hrs, hb, hsc, hav⟩
  have HB2 := Lib.hid (below_next HB0.out hb (Nat.le_refl _))
  have HRS := Keep.mk hrs
  have HSC := Keep.mk hsc
  clear hok hrs hb hsc hav i0 i1 i2 i3
  go_wp2
  go_ret2
  exact ⟨A, n, c, S, k, _, rfl, HRS.out, HB2.out, HSC.out⟩
end Go.Proofs.YtjficpdfofmcnaaDoor

/- The reference's found, Open, Records. -/
namespace Go.Proofs.YtjficpdfofmcnaaDoor
open Go.RowKit Go.Joins

/-- What found leaves. -/
def RetFd (w : World) (m : Dv.Disk) (e : Ending) (w' : World) : Prop := ∃ (x : Int) (A : Option Addr) (n c : Nat) (S : List Sl) (a : Nat) (k : Int), e = .returned (.tuple #[.int .i64 x, .slice A n c, .int .i64 (a : Int), .int .i64 k]) ∧ RS w' A n c S ∧ Below w.heap.size w w' ∧ a ≤ 4096 ∧ n ≤ 4096 ∧
  ((k ≠ 0 ∧ Scanned m Jl.zero (S.map (·.l)) k) ∨ (k = 0 ∧ Scanned m ⟨m, x, (a : Int) * 64, (n : Int)⟩ (S.map (·.l)) 0))
theorem RetFd.no {w w' : World} {m : Dv.Disk} {k : Int} (hb : Below w.heap.size w w') (hk : k = Jn.scanE m) (h0 : k ≠ 0) : RetFd w m (.returned (.tuple #[.int .i64 0, .slice none 0 0, .int .i64 0, .int .i64 k])) w' :=
  ⟨0, none, 0, 0, [], 0, k, rfl, RS.none_ _, hb, by omega, by omega, .inl ⟨h0, hk, .inl ⟨h0, rfl, rfl⟩⟩⟩

set_option maxHeartbeats 4000000 in
set_option maxRecDepth 100000 in
theorem found_any (d : Dk) (K : Nat) (w : World) (h : d.Ok w) (hf : Dv.Fits K d.m) :
    Calls Tryd.prog 46 #[.agg #[.slice d.a d.n d.c, .slice d.pa d.pn d.pc, .int .i64 d.left, .bool d.down]] w (RetFd w d.m) := by
  have HF := Keep.mk hf
  have HD := Keep.mk h
  have hdl := dk_len h
  have hns : d.n ≤ 4096 := by have := hf.ns; omega
  have HDL := Keep.mk hdl
  have IX := Keep.mk (BxK.new h)
  have HB0 : Hid (Below w.heap.size w (w.alloc (.cells #[.slice d.a d.n d.c, .slice d.pa d.pn d.pc, .int .i64 d.left, .bool d.down] 25))) := below_alloc1 _ _
  have hbig := Nat.le_trans h.sec.cap h.sec.big
  unfold maxLen at hbig
  have HR := Keep.mk (fun (X : World) (hX : Below w.heap.size w X) => rread_any d 0 K X (h.below hX) hf)
  clear h hf hdl
  by_cases h2 : d.n < 2
  · have e1 : decide ((d.n : Int) < 2) = true := decide_eq_true (by omega)
    have HSE : Keep ((18 : Int) = Jn.scanE d.m) := ⟨by unfold Jn.scanE; rw [if_pos (by rw [HDL.out]; exact h2)]⟩
    go_enter Tryd.func46, Tryd.ntmps46
    go_upto_region 1 with (fail)
    generalize e3 : w.alloc (.cells #[.slice d.a d.n d.c, .slice d.pa d.pn d.pc, .int .i64 d.left, .bool d.down] 25) = w1 at *
    clear e3
    have i0 := IX.out.bx.cell 0 _ rfl
    go_wp2
    refine bodyPost_ret (v := .tuple #[.int .i64 0, .slice none 0 0, .int .i64 0, .int .i64 18]) (by simp [results, Tryd.results46, go_sem]) rfl ?_
    exact .no HB0.out HSE.out (by decide)
  · have e1 : decide ((d.n : Int) < 2) = false := decide_eq_false (by omega)
    go_enter Tryd.func46, Tryd.ntmps46
    go_upto_region 1 with (fail)
    generalize e3 : w.alloc (.cells #[.slice d.a d.n d.c, .slice d.pa d.pn d.pc, .int .i64 d.left, .bool d.down] 25) = w1 at *
    clear e3
    obtain ⟨i0, i1, i2, i3⟩ := IX.out.cs
    go_wp2_with fail
    refine (HR.out w1 HB0.out).mono ?_
    rintro e w2 ⟨A1, n1, c1, rfl, hr, hb⟩
    have HR1 := Keep.mk hr
    have HB2 := Lib.hid (below_next HB0.out hb (Nat.le_refl _))
    have IX2 := Keep.mk (IX.out.below hb)
    clear hr hb i0 i1 i2 i3 IX
    by_cases hdn : d.down = true
    · have hrd : Dv.read d.m 0 = ([], 23) := by unfold Dv.read; rw [if_pos (show d.m.down = true from hdn)]
      have HSE : Keep ((23 : Int) = Jn.scanE d.m) := ⟨by unfold Jn.scanE; rw [if_neg (by rw [HDL.out]; exact h2), if_pos (show d.m.down = true from hdn)]⟩
      rw [hrd]
      clear hrd hdn HR1 HR
      go_wp2
      refine bodyPost_ret (v := .tuple #[.int .i64 0, .slice none 0 0, .int .i64 0, .int .i64 23]) (by simp [results, Tryd.results46, go_sem]) rfl ?_
      exact .no HB2.out HSE.out (by decide)
    · have hdn : d.down = false := by simpa using hdn
      have hmd : d.m.down = false := hdn
      have hrd : Dv.read d.m 0 = (Jn.cont d.m 0, 0) := Jn.read_cont hmd (i := 0) (by rw [HDL.out]; omega)
      have HH := Keep.mk HR1.out
      rw [hrd] at HH ⊢
      have HDN := Keep.mk hdn
      have CH := Keep.mk (repoch_any A1 n1 c1 _ w2 HH.out)
      clear hrd HR1 HR hdn
      by_cases hrh : (Jn.readHead (Jn.cont d.m 0)).2 = false
      · have HSE : Keep ((4 : Int) = Jn.scanE d.m) := ⟨by unfold Jn.scanE; rw [if_neg (by rw [HDL.out]; exact h2), if_neg (by rw [hmd]; decide), if_pos hrh]⟩
        obtain ⟨x, ok, hx⟩ : ∃ x ok, Jn.readHead (Jn.cont d.m 0) = (x, ok) := ⟨_, _, rfl⟩
        have hx0 := congrArg Prod.fst (Jn.readHead_false hrh)
        rw [hx] at CH hx0
        simp only at hx0
        subst hx0
        clear hmd hx hrh
        go_wp2_with fail
        refine CH.out.mono ?_
        rintro e w3 ⟨rfl, hb⟩
        have HB3 := Lib.hid (below_next HB2.out hb (Nat.le_refl _))
        clear hb
        go_wp2
        refine bodyPost_ret (v := .tuple #[.int .i64 0, .slice none 0 0, .int .i64 0, .int .i64 4]) (by simp [results, Tryd.results46, go_sem]) rfl ?_
        exact .no HB3.out HSE.out (by decide)
      · have hrt : (Jn.readHead (Jn.cont d.m 0)).2 = true := by simpa using hrh
        have HRT := Keep.mk (Jn.readHead_true hrt)
        have HSE : Keep ((0 : Int) = Jn.scanE d.m) := ⟨by unfold Jn.scanE; rw [if_neg (by rw [HDL.out]; exact h2), if_neg (by rw [hmd]; decide), if_neg hrh]⟩
        have FIN : Keep (∀ (k : Nat) (L : List (List UInt8)) (a : Nat), L.length = k → Jn.Chain d.m (Jn.readHead (Jn.cont d.m 0)).1 1 0 L a → Jn.recOf d.m (Jn.readHead (Jn.cont d.m 0)).1 (k : Int) a = none → Scanned d.m ⟨d.m, (Jn.readHead (Jn.cont d.m 0)).1, (a : Int) * 64, (k : Int)⟩ L 0) := ⟨fun k L a hk hc hn => ⟨HSE.out, .inr ⟨rfl, a, hc, by rw [Nat.zero_add, hk]; exact hn, by rw [hk]⟩⟩⟩
        obtain ⟨x, ok, hx⟩ : ∃ x ok, Jn.readHead (Jn.cont d.m 0) = (x, ok) := ⟨_, _, rfl⟩
        rw [hx] at CH hrt HRT FIN
        simp only at hrt HRT FIN
        subst hrt
        have hx1 : 1 ≤ x := HRT.out.1
        have hx2 : x ≤ 1073741824 := HRT.out.2.1
        have HIN : Keep (V.In x) := ⟨by unfold V.In; omega⟩
        have HRC := Keep.mk (fun (X : World) (hX : Below w.heap.size w X) (a k : Nat) (ha : a < d.n) (hk : k ≤ 4096) => rrecord_any d a x (k : Int) K X (HD.out.below hX) HF.out HDN.out HIN.out (by unfold V.In; omega) ha)
        have hx0 : (x == 0) = false := by rw [beq_eq_false_iff_ne]; omega
        clear hmd hx hrh
        go_wp2_with fail
        refine CH.out.mono ?_
        rintro e w3 ⟨rfl, hb⟩
        have HB3 := Lib.hid (below_next HB2.out hb (Nat.le_refl _))
        have IX3 := Keep.mk (IX2.out.below hb)
        clear hb IX2 HB2 HH CH
        go_wp2
        go_loopw [9, 10] (fun v y wr => ∃ (k a : Nat) (A' : Option Addr) (c' : Nat) (L : List Sl), v = .slice A' k c' ∧ y = .int .i64 a ∧ 1 ≤ a ∧ a ≤ d.n ∧ k ≤ a ∧ Keep (GS wr w3.heap.size A' k c' L ∧ Below w3.heap.size w3 wr) ∧ Keep (Jn.Chain d.m x 1 0 (L.map (·.l)) a) ∧ Keep ((∀ z, A' = some z → w3.heap.size ≤ z.block) ∧ ∀ s ∈ L, ∀ z, s.a = some z → w3.heap.size ≤ z.block)) (fun _ y _ => d.n - (intOf y).toNat)
        case atStart => exact ⟨0, 1, none, 0, [], rfl, rfl, by omega, by omega, by omega, ⟨GS.nil _ _, Below.refl _ _⟩, ⟨.nil _ _⟩, ⟨(fun z h => by cases h), (fun s h => by cases h)⟩⟩
        case round =>
          obtain ⟨k, a, A', c', L, rfl, rfl, ha1, han, hka, HG, HCH, HNW⟩ := hrel
          have HBW := Lib.hid (below_next HB3.out HG.out.2 (Nat.le_refl _))
          have IX4 := Keep.mk (IX3.out.below HG.out.2)
          have HLK : Keep (L.length = k) := ⟨HG.out.1.rs.len⟩
          obtain ⟨i0, i1, i2, i3⟩ := IX4.out.cs
          by_cases hal : a < d.n
          rotate_left
          · have HFI := Keep.mk (FIN.out k (L.map (·.l)) a (by rw [List.length_map]; exact HLK.out) HCH.out (Jn.recOf_behind (by rw [HDL.out]; omega)))
            clear i1 i2 i3
            go_wp2
            refine bodyPost_ret (v := .tuple #[.int .i64 x, .slice A' k c', .int .i64 (a : Int), .int .i64 0]) (by simp [results, Tryd.results46, go_sem]) rfl ?_
            exact ⟨x, A', k, c', L, a, 0, rfl, HG.out.1.rs, HBW.out, by omega, by omega, .inr ⟨rfl, HFI.out⟩⟩
          have CR := Keep.mk (HRC.out wr HBW.out a k hal (by omega))
          rw [HDN.out] at CR i3
          go_wp2_with fail
          refine CR.out.mono ?_
          rintro e4 w4 ⟨A5, n5, c5, ok, rfl, hb, ho⟩
          have HBW4 := Lib.hid (below_next HBW.out hb (Nat.le_refl _))
          have HB34 := Lib.hid (below_next HG.out.2 hb (Nat.le_refl _))
          have HG4 := Keep.mk (HG.out.1.below hb)
          have hzw := HG.out.2.size
          clear hb i0 i1 i2 i3 CR IX4
          rcases ho with ⟨rfl, l5, hro, hr, hnew⟩ | ⟨rfl, hro⟩
          · have hrl := Jn.recOf_length hro
            have h5 := hr.len
            have hs5 : Jn.sectors n5 ≤ 4096 := by rw [← h5]; rw [HDL.out] at hrl; omega
            have hadv : a + 1 + Jn.sectors n5 ≤ d.n := by rw [← h5]; rw [HDL.out] at hrl; omega
            have hn5 : n5 ≤ 9223372036854775807 := by have := Jn.sectors_le n5; omega
            have HR5 := Keep.mk hr
            have HN5 := Keep.mk hnew
            have CS := Keep.mk (fun (X : World) => rsectors_any n5 X hn5)
            have HCN : Keep (Jn.Chain d.m x 1 0 (L.map (·.l) ++ [l5]) (a + 1 + Jn.sectors n5)) := ⟨by
              have h := Jn.Chain.snoc HCH.out (by rw [List.length_map, HLK.out, Nat.zero_add]; exact hro)
              rwa [h5] at h⟩
            have hzw4 := HB34.out.size
            have hk4 : k ≤ 4096 := by omega
            generalize Jn.sectors n5 = S5 at *
            clear hro hrl h5 hr hnew
            go_wp2_with (first
              | (at_builtin; refine wpList_append_app _ rfl (.tmp 45) (.tmp 47) 22 rfl w3.heap.size 26 (.slice none 0 0) 1 24 Tryd.underlying22 sl_info rfl (by decide) (by decide) (.slice A' k c') k (L.map Sl.v) rfl (HG4.out.tgt.below (below_alloc1 _ _)) (some ⟨w4.heap.size, 0, none⟩) 1 1 [.slice A5 n5 c5] rfl (rd_one w4 _ _) (by simp [Value.oneCell']) (by omega) (by simp; omega) ?_; intro A6 c6 w6 ha6; have HA6 := Keep.mk ha6; clear ha6)
              | (go_at_call 69; (refine (CS.out _).mono ?_); rintro e7 wn ⟨rfl, rfl⟩))
            have HG6 := Keep.mk (GS.app (s := ⟨A5, n5, c5, l5⟩) (HG4.out.below (below_alloc1 _ _)) HA6.out (Sl.Ok.below (s := ⟨A5, n5, c5, l5⟩) HR5.out (below_alloc1 _ _)) (away_new HG.out.1.lt HN5.out))
            go_roundw
            case rel =>
              refine ⟨k + 1, a + 1 + S5, A6, c6, L ++ [⟨A5, n5, c5, l5⟩], rfl, by rw [show ((a + 1 + S5 : Nat) : Int) = (a : Int) + 1 + (S5 : Int) by omega], by omega, hadv, by omega, ⟨HG6.out, HB34.out.trans (((below_alloc1 _ _).mono HB34.out.size).trans HA6.out.below)⟩, ⟨by rw [List.map_append]; exact HCN.out⟩, ⟨fun z hz => ?n1, fun s hs z hz => ?n2⟩⟩
              case n1 =>
                rcases HA6.out.at_ z hz with h | h
                · cases A' with
                  | none => simp [Value.ownBlock] at h
                  | some a' =>
                    have h1 := HNW.out.1 a' rfl
                    have h2 : a'.block = z.block := by simpa [Value.ownBlock] using h
                    omega
                · have := h.1
                  simp at this
                  omega
              case n2 =>
                rcases List.mem_append.1 hs with hs | hs
                · exact HNW.out.2 s hs z hz
                · simp only [List.mem_singleton] at hs
                  subst hs
                  have := HN5.out z hz
                  omega
            case measure => simp [intOf]; omega
          · have HFI := Keep.mk (FIN.out k (L.map (·.l)) a (by rw [List.length_map]; exact HLK.out) HCH.out hro)
            clear hro
            go_wp2
            refine bodyPost_ret (v := .tuple #[.int .i64 x, .slice A' k c', .int .i64 (a : Int), .int .i64 0]) (by simp [results, Tryd.results46, go_sem]) rfl ?_
            exact ⟨x, A', k, c', L, a, 0, rfl, HG4.out.rs, HBW4.out, by omega, by omega, .inr ⟨rfl, HFI.out⟩⟩

set_option maxHeartbeats 1000000 in
set_option maxRecDepth 100000 in
theorem ropen_any (d : Dk) (K : Nat) (w : World) (h : d.Ok w) (hf : Dv.Fits K d.m) :
    Calls Tryd.prog 21 #[.agg #[.slice d.a d.n d.c, .slice d.pa d.pn d.pc, .int .i64 d.left, .bool d.down]] w (RetO w d.Av d.m) := by
  have HS := Keep.mk (fun (X : World) (hX : Below w.heap.size w X) => found_any d K X (h.below hX) hf)
  have HD := Keep.mk h
  have IX := Keep.mk ((BxK.new h).below (below_alloc1 _ (.cells #[.slice none 0 0, .slice none 0 0, .int .i64 0, .bool false, .int .i64 0, .int .i64 0, .int .i64 0] 32)))
  have OX := Keep.mk (Bx.new (w.alloc (.cells #[.slice d.a d.n d.c, .slice d.pa d.pn d.pc, .int .i64 d.left, .bool d.down] 25)) [.slice none 0 0, .slice none 0 0, .int .i64 0, .bool false, .int .i64 0, .int .i64 0, .int .i64 0] 32)
  have HB0 : Hid (Below w.heap.size w ((w.alloc (.cells #[.slice d.a d.n d.c, .slice d.pa d.pn d.pc, .int .i64 d.left, .bool d.down] 25)).alloc (.cells #[.slice none 0 0, .slice none 0 0, .int .i64 0, .bool false, .int .i64 0, .int .i64 0, .int .i64 0] 32))) := (below_alloc1 _ _).alloc (by simp) _
  rw [World.size_alloc] at OX
  have HAV : Keep (d.Av (w.heap.size + 1)) := ⟨h.av (by omega)⟩
  clear h hf
  go_enter Tryd.func21, Tryd.ntmps21
  go_upto_region 1 with (fail)
  generalize e3 : (w.alloc (.cells #[.slice d.a d.n d.c, .slice d.pa d.pn d.pc, .int .i64 d.left, .bool d.down] 25)).alloc (.cells #[.slice none 0 0, .slice none 0 0, .int .i64 0, .bool false, .int .i64 0, .int .i64 0, .int .i64 0] 32) = w1 at *
  clear e3
  obtain ⟨i0, i1, i2, i3⟩ := IX.out.cs
  go_wp2_with fail
  refine (HS.out w1 HB0.out).mono ?_
  rintro e w2 ⟨x, A, n, c, S, a, k, rfl, hrs, hb, ha, hn, hsc⟩
  have HB2 := Lib.hid (below_next HB0.out hb (Nat.le_refl _))
  have IX2 := Keep.mk (IX.out.below hb)
  have OX2 := Keep.mk (OX.out.below hb)
  have hlt := OX.out.lt
  clear hrs hb i0 i1 i2 i3
  obtain ⟨i0, i1, i2, i3⟩ := IX2.out.cs
  have o0 := OX2.out.cell 0 _ rfl
  have o1 := OX2.out.cell 1 _ rfl
  have o2 := OX2.out.cell 2 _ rfl
  have o3 := OX2.out.cell 3 _ rfl
  have o4 := OX2.out.cell 4 _ rfl
  have o5 := OX2.out.cell 5 _ rfl
  have o6 := OX2.out.cell 6 _ rfl
  have of := OX2.out.fz
  rcases hsc with ⟨hk, hsc⟩ | ⟨rfl, hsc⟩
  · have b0 : (k != 0) = true := by simp [hk]
    have HSC := Keep.mk hsc
    clear hk hsc
    go_wp2
    refine bodyPost_ret (v := .tuple #[.agg #[.slice none 0 0, .slice none 0 0, .int .i64 0, .bool false, .int .i64 0, .int .i64 0, .int .i64 0], .int .i64 k]) (by simp [results, Tryd.results21, go_sem, o0, o1, o2, o3, o4, o5, o6]) rfl ?_
    exact ⟨Jk.zero, k, _, rfl, Dk.zero_ok _, HB2.out.trans ((off_set7 w2 (w.heap.size + 1) _ _ _ _ _ _ _).below HB2.out.size (by simp)), HSC.out, fun b _ _ => Dk.zero_av b⟩
  · have HSC := Keep.mk hsc
    clear hsc
    go_wp2
    refine bodyPost_ret (v := .tuple #[.agg #[.slice d.a d.n d.c, .slice d.pa d.pn d.pc, .int .i64 d.left, .bool d.down, .int .i64 x, .int .i64 ((a:Int)*64), .int .i64 (n:Int)], .int .i64 0]) (by simp [results, Tryd.results21, go_sem, o0, o1, o2, o3, o4, o5, o6]) rfl ?_
    have hof := off_set7 w2 (w.heap.size + 1) (.slice d.a d.n d.c) (.slice d.pa d.pn d.pc) (.int .i64 d.left) (.bool d.down) (.int .i64 x) (.int .i64 ((a : Int) * 64)) (.int .i64 (n : Int))
    exact ⟨⟨d, x, (a : Int) * 64, (n : Int)⟩, 0, _, rfl, (HD.out.below HB2.out).off hof (fun b hb => by simp only [List.mem_singleton] at hb; rw [hb]; exact HAV.out), HB2.out.trans (hof.below HB2.out.size (by simp)), HSC.out, fun b _ h => h⟩

set_option maxHeartbeats 1000000 in
set_option maxRecDepth 100000 in
theorem rrecords_any (j : Jk) (K : Nat) (w : World) (h : j.d.Ok w) (hf : Dv.Fits K j.d.m) :
    Calls Tryd.prog 22 #[.agg #[.slice j.d.a j.d.n j.d.c, .slice j.d.pa j.d.pn j.d.pc, .int .i64 j.d.left, .bool j.d.down, .int .i64 j.e, .int .i64 j.h, .int .i64 j.c]] w (RetL w j.d.m) := by
  have HS := Keep.mk (fun (X : World) (hX : Below w.heap.size w X) => found_any j.d K X (h.below hX) hf)
  have IX := Keep.mk (BxJ.new h)
  have HB0 : Hid (Below w.heap.size w (w.alloc (.cells #[.slice j.d.a j.d.n j.d.c, .slice j.d.pa j.d.pn j.d.pc, .int .i64 j.d.left, .bool j.d.down, .int .i64 j.e, .int .i64 j.h, .int .i64 j.c] 32))) := below_alloc1 _ _
  clear h hf
  go_enter Tryd.func22, Tryd.ntmps22
  go_upto_region 1 with (fail)
  generalize e3 : w.alloc (.cells #[.slice j.d.a j.d.n j.d.c, .slice j.d.pa j.d.pn j.d.pc, .int .i64 j.d.left, .bool j.d.down, .int .i64 j.e, .int .i64 j.h, .int .i64 j.c] 32) = w1 at *
  clear e3
  obtain ⟨i0, i1, i2, i3, _⟩ := IX.out.cs
  go_wp2_with fail
  refine (HS.out w1 HB0.out).mono ?_
  rintro e w2 ⟨x, A, n, c, S, a, k, rfl, hrs, hb, ha, hn, hsc⟩
  have HB2 := Lib.hid (below_next HB0.out hb (Nat.le_refl _))
  have HRS := Keep.mk hrs
  have HSC : Keep (∃ j', Scanned j.d.m j' (S.map (·.l)) k) := ⟨by
    rcases hsc with ⟨_, h⟩ | ⟨rfl, h⟩
    · exact ⟨_, h⟩
    · exact ⟨_, h⟩⟩
  clear hrs hb hsc i0 i1 i2 i3
  go_wp2
  go_ret2
  obtain ⟨j', hj⟩ := HSC.out
  exact ⟨A, n, c, S, k, j', rfl, HRS.out, HB2.out, hj⟩
end Go.Proofs.YtjficpdfofmcnaaDoor
