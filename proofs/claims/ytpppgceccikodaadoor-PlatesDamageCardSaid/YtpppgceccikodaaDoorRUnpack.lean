/- The reference's Unpack. -/
import Derived.Test.YtpppgceccikodaaDoorUnpack
import Derived.Test.YtpppgceccikodaaDoorRef03
import Derived.Test.YtpppgceccikodaaDoorPlates2
namespace Go.Proofs.YtpppgceccikodaaDoor
open Go.RowKit Go.Joins

theorem ropen_any (A : Option Addr) (n c : Nat) (l : List UInt8) (w : World) (hl : RB w A n c l) (hroom : n ≤ 140737488355328) : Calls Tryd.prog 34 #[.slice A n c] w (RetBE w (Pl.opened l).1 (Pl.opened l).2) := by
  have hlen := hl.len
  unfold Pl.opened
  by_cases hn : n < 4
  · rw [if_pos (by omega)]
    exact ropen_short A n c w hn
  · rw [if_neg (by omega), hlen]
    refine (ropen_long A n c l w hl (by omega) hroom).mono fun e w' h => ?_
    split at h
    · rename_i h1; rw [if_pos h1]; exact h
    · rename_i h1; rw [if_neg h1]; exact h

theorem runpack_big (A : Option Addr) (n c : Nat) (l : List UInt8) (w : World) (hl : RB w A n c l) (hn : 1048576 < n) : Calls Tryd.prog 20 #[.slice A n c] w (RetPl w (Pl.unpack l)) := by
  have hlen := hl.len
  have HU : Keep (Pl.unpack l = (0, 0, [], 3)) := ⟨by unfold Pl.unpack; rw [if_pos (by omega)]⟩
  have d1 : decide ((1048576 : Int) < (n : Int)) = true := by simp; omega
  clear hl hlen hn
  go_enter Tryd.func20, Tryd.ntmps20
  go_wp2
  refine bodyPost_ret (v := .tuple #[.agg #[.int .i64 0, .int .i64 0, .slice none 0 0], .int .i64 3]) (by simp [results, Tryd.results20, go_sem]) rfl ?_
  rw [HU.out]
  exact ⟨none, 0, 0, rfl, RI.none_ _, below_alloc1 _ _⟩

set_option maxHeartbeats 2000000 in
theorem runpack_err1 (A : Option Addr) (n c : Nat) (l : List UInt8) (w : World) (hl : RB w A n c l) (hn : n ≤ 1048576) (he : (Pl.opened l).2 ≠ 0) : Calls Tryd.prog 20 #[.slice A n c] w (RetPl w (Pl.unpack l)) := by
  have hlen := hl.len
  have HU : Keep (Pl.unpack l = (0, 0, [], (Pl.opened l).2)) := ⟨by unfold Pl.unpack; rw [if_neg (by omega), if_pos he]⟩
  have d1 : decide ((1048576 : Int) < (n : Int)) = false := by simp; omega
  have HO := Lib.hid (fun w (h : RB w A n c l) => ropen_any A n c l w h (by omega))
  have HL := Lib.hid hl
  generalize Pl.opened l = p at *
  obtain ⟨x, q⟩ := p
  have b1 : (q != 0) = true := by simpa using he
  clear hl hlen hn he
  go_enter Tryd.func20, Tryd.ntmps20
  go_wp2_with fail
  refine (HO.out _ (HL.out.below (below_alloc1 _ _))).mono ?_
  rintro e w1 ⟨A1, n1, c1, rfl, hr, hb⟩
  have HB1 : Hid (Below w.heap.size w w1) := (below_alloc1 _ _).trans (hb.mono (by simp))
  obtain ⟨k0, k1, k2, kf, kl⟩ := (Box3.new w (.int .i64 0) (.int .i64 0) (.slice none 0 0) 24).below hb
  clear hr hb
  go_wp2
  refine bodyPost_ret (v := .tuple #[.agg #[.int .i64 0, .int .i64 0, .slice none 0 0], .int .i64 q]) (by simp [results, Tryd.results20, go_sem, k0, k1, k2]) rfl ?_
  rw [HU.out]
  exact ⟨none, 0, 0, rfl, RI.none_ _, below_set3 HB1.out (Nat.le_refl _) _ _ _⟩


set_option maxHeartbeats 2000000 in
theorem runpack_err2 (A : Option Addr) (n c : Nat) (l x : List UInt8) (w : World) (hl : RB w A n c l) (hn : n ≤ 1048576) (ho : Pl.opened l = (x, 0)) (he : (Pl.two x).2.2.2 ≠ 0 ∨ (Pl.side (Pl.two x).1 && Pl.side (Pl.two x).2.1) = false) : Calls Tryd.prog 20 #[.slice A n c] w (RetPl w (Pl.unpack l)) := by
  have hlen := hl.len
  have HU : Keep (Pl.unpack l = Pl.unbody x) := ⟨by unfold Pl.unpack; rw [if_neg (by omega), ho, if_neg (by simp)]⟩
  have d1 : decide ((1048576 : Int) < (n : Int)) = false := by simp; omega
  have HO := Lib.hid (fun w (h : RB w A n c l) => ropen_any A n c l w h (by omega))
  rw [ho] at HO
  have HL := Lib.hid hl
  obtain ⟨m, k, u, q, htw⟩ : ∃ m k u q, Pl.two x = (m, k, u, q) := ⟨_, _, _, _, rfl⟩
  have HTW := Keep.mk htw
  rw [htw] at he
  simp only at he
  clear hl hlen hn ho htw
  by_cases hq : q = 0
  · subst hq
    have hs : (Pl.side m && Pl.side k) = false := by simpa using he
    have HUB : Keep (Pl.unbody x = (0, 0, [], 2)) := ⟨by unfold Pl.unbody; rw [HTW.out]; simp only; rw [if_neg (by simp), if_pos hs]⟩
    have HS1 := Lib.hid (fun w => sized_false m k w hs)
    clear he hs
    go_enter Tryd.func20, Tryd.ntmps20
    go_wp2_with fail
    refine (HO.out _ (HL.out.below (below_alloc1 _ _))).mono ?_
    rintro e w1 ⟨A1, n1, c1, rfl, hr, hb⟩
    have HB1 : Hid (Below w.heap.size w w1) := (below_alloc1 _ _).trans (hb.mono (by simp))
    have BX1 := Keep.mk ((Box3.new w (.int .i64 0) (.int .i64 0) (.slice none 0 0) 24).below hb)
    have HR1 := Lib.hid hr
    clear hr hb
    go_wp2_with fail
    refine (two_any A1 n1 c1 x w1 w1 HR1.out (Below.refl _ _)).mono ?_
    rintro e w2 ⟨A2, n2, c2, rfl, hr, hb⟩
    rw [HTW.out] at hr ⊢
    have HB2 : Hid (Below w.heap.size w w2) := HB1.out.trans (hb.mono HB1.out.size)
    have HR2 := Lib.hid hr
    have BX2 := Keep.mk (BX1.out.below hb)
    obtain ⟨k0, k1, k2, kf, kl⟩ := BX2.out
    have HB12 : Hid (Below w1.heap.size w1 w2) := hb
    clear hr hb BX1 HB1 HR1
    go_wp2_with fail
    refine (HS1.out _).mono ?_
    rintro e w' ⟨rfl, rfl⟩
    go_wp2
    refine bodyPost_ret (v := .tuple #[.agg #[.int .i64 0, .int .i64 0, .slice none 0 0], .int .i64 2]) (by simp [results, Tryd.results20, go_sem, k0, k1, k2]) rfl ?_
    rw [HU.out, HUB.out]
    exact ⟨none, 0, 0, rfl, RI.none_ _, below_set3 HB2.out (Nat.le_refl _) _ _ _⟩
  · have HUB : Keep (Pl.unbody x = (0, 0, [], q)) := ⟨by unfold Pl.unbody; rw [HTW.out]; simp only; rw [if_pos hq]⟩
    have b1 : (q != 0) = true := by simpa using hq
    clear he hq
    go_enter Tryd.func20, Tryd.ntmps20
    go_wp2_with fail
    refine (HO.out _ (HL.out.below (below_alloc1 _ _))).mono ?_
    rintro e w1 ⟨A1, n1, c1, rfl, hr, hb⟩
    have HB1 : Hid (Below w.heap.size w w1) := (below_alloc1 _ _).trans (hb.mono (by simp))
    have BX1 := Keep.mk ((Box3.new w (.int .i64 0) (.int .i64 0) (.slice none 0 0) 24).below hb)
    have HR1 := Lib.hid hr
    clear hr hb
    go_wp2_with fail
    refine (two_any A1 n1 c1 x w1 w1 HR1.out (Below.refl _ _)).mono ?_
    rintro e w2 ⟨A2, n2, c2, rfl, hr, hb⟩
    rw [HTW.out] at hr ⊢
    have HB2 : Hid (Below w.heap.size w w2) := HB1.out.trans (hb.mono HB1.out.size)
    have HR2 := Lib.hid hr
    have BX2 := Keep.mk (BX1.out.below hb)
    obtain ⟨k0, k1, k2, kf, kl⟩ := BX2.out
    have HB12 : Hid (Below w1.heap.size w1 w2) := hb
    clear hr hb BX1 HB1 HR1
    go_wp2
    refine bodyPost_ret (v := .tuple #[.agg #[.int .i64 0, .int .i64 0, .slice none 0 0], .int .i64 q]) (by simp [results, Tryd.results20, go_sem, k0, k1, k2]) rfl ?_
    rw [HU.out, HUB.out]
    exact ⟨none, 0, 0, rfl, RI.none_ _, below_set3 HB2.out (Nat.le_refl _) _ _ _⟩

theorem Box3.below' {w w' : World} {B b : Nat} {x y z : Value} (h : Box3 w b x y z) (hb : Below B w w') (hB : b < B) : Box3 w' b x y z :=
  ⟨(hb.cell (p := ⟨_, _, none⟩) hB).trans h.c0, (hb.cell (p := ⟨_, _, none⟩) hB).trans h.c1, (hb.cell (p := ⟨_, _, none⟩) hB).trans h.c2, fun j => (hb.frozen (p := ⟨b, j, none⟩) hB).trans (h.fz j), Nat.lt_of_lt_of_le h.lt hb.size⟩
/-- A store into the third cell. -/
theorem Box3.set2 {w : World} {b : Nat} {x y z : Value} (h : Box3 w b x y z) (u : Value) : Box3 (w.setCell ⟨b, 2, none⟩ u) b x y u :=
  ⟨by simp [World.cell?_setCell_other, h.c0], by simp [World.cell?_setCell_other, h.c1], by simp [World.cell?_setCell_same, h.c2], fun j => by simp [h.fz j], by simpa [World.setCell] using h.lt⟩

set_option maxRecDepth 100000 in
set_option maxHeartbeats 8000000 in
theorem runpack_loop (A : Option Addr) (n c : Nat) (l x : List UInt8) (W H : Int) (u : Nat) (w : World) (hl : RB w A n c l) (hn : n ≤ 1048576) (ho : Pl.opened l = (x, 0)) (htw : Pl.two x = (W, H, u, 0)) (hs : (Pl.side W && Pl.side H) = true) : Calls Tryd.prog 20 #[.slice A n c] w (RetPl w (Pl.unpack l)) := by
  have hlen := hl.len
  obtain ⟨hs1, hs2⟩ : Pl.side W = true ∧ Pl.side H = true := by simpa using hs
  have hm := Pl.side_mul (w := W) (h := H) (by simpa [Pl.side] using hs1) (by simpa [Pl.side] using hs2)
  obtain ⟨N, hN⟩ : ∃ N : Nat, W * H = (N : Int) := ⟨(W * H).toNat, by omega⟩
  have hN1 : 1 ≤ N := by omega
  have hN2 : N ≤ 65536 := by omega
  have HUB : Keep (Pl.unpack l = if (Pl.unrun N N (-1) (x.drop u)).2 ≠ 0 then (0, 0, [], (Pl.unrun N N (-1) (x.drop u)).2) else (W, H, (Pl.unrun N N (-1) (x.drop u)).1, 0)) := ⟨by
    unfold Pl.unpack
    rw [if_neg (by omega), ho, if_neg (by simp)]
    unfold Pl.unbody
    simp only [htw]
    rw [if_neg (by simp), if_neg (by rw [hs]; simp), hN, Int.toNat_natCast]⟩
  have d1 : decide ((1048576 : Int) < (n : Int)) = false := by simp; omega
  have HO := Lib.hid (fun w (h : RB w A n c l) => ropen_any A n c l w h (by omega))
  rw [ho] at HO
  have HL := Lib.hid hl
  have HTW := Keep.mk htw
  have HS1 := Lib.hid (fun w => sized_true W H w hs)
  clear hl hlen hn ho htw hs hs1 hs2 hm
  go_enter Tryd.func20, Tryd.ntmps20
  go_wp2_with fail
  refine (HO.out _ (HL.out.below (below_alloc1 _ _))).mono ?_
  rintro e w1 ⟨A1, n1, c1, rfl, hr, hb⟩
  have HB1 : Hid (Below w.heap.size w w1) := (below_alloc1 _ _).trans (hb.mono (by simp))
  have BX1 := Keep.mk ((Box3.new w (.int .i64 0) (.int .i64 0) (.slice none 0 0) 24).below hb)
  have HR1 := Lib.hid hr
  clear hr hb
  go_wp2_with fail
  refine (two_any A1 n1 c1 x w1 w1 HR1.out (Below.refl _ _)).mono ?_
  rintro e w2 ⟨A2, n2, c2, rfl, hr, hb⟩
  rw [HTW.out] at hr ⊢
  have HB2 : Hid (Below w.heap.size w w2) := HB1.out.trans (hb.mono HB1.out.size)
  have HR2 := Lib.hid hr
  have BX2 := Keep.mk (BX1.out.below hb)
  obtain ⟨k0, k1, k2, kf, kl⟩ := BX2.out
  have HB12 : Hid (Below w1.heap.size w1 w2) := hb
  clear hr hb BX1 HB1 HR1
  go_wp2_with fail
  refine (HS1.out _).mono ?_
  rintro e w' ⟨rfl, rfl⟩
  have PX := Keep.mk (Box3.new w2 (.int .i64 W) (.int .i64 H) (.slice none 0 0) 24)
  have HR3 := Lib.hid (show RB w2 A2 n2 c2 (x.drop u) from (by simpa using HR2.out.below HB12.out))
  have HBP : Hid (Below w2.heap.size w2 (w2.alloc (.cells #[.int .i64 W, .int .i64 H, .slice none 0 0] 24))) := below_alloc1 _ _
  go_wp2
  generalize w2.alloc (.cells #[.int .i64 W, .int .i64 H, .slice none 0 0] 24) = w3 at *
  clear k0 k1 k2 kf HR2
  generalize hr0 : x.drop u = r0 at *
  clear hr0
  go_loopw [4, 9] (fun rs la wr => ∃ (f : Nat) (A' : Option Addr) (n' c' : Nat) (r : List UInt8) (B : Option Addr) (m d : Nat) (z : List Int) (last : Int), rs = .slice A' n' c' ∧ la = .int .i64 last ∧ RB w2 A' n' c' r ∧ OI wr (w2.heap.size + 1) B m d z ∧ Box3 wr w2.heap.size (.int .i64 W) (.int .i64 H) (.slice B m d) ∧ Pl.unrun N N (-1) r0 = Pl.join z (Pl.unrun f (N - m) last r) ∧ N - m ≤ f ∧ m ≤ N ∧ Below w2.heap.size w2 wr) (fun _ _ wr => N - (match wr.cell? ⟨w2.heap.size, 2, none⟩ with | some (.slice _ m _) => m | _ => 0))
  case atStart => exact ⟨N, A2, n2, c2, r0, none, 0, 0, [], -1, rfl, rfl, HR3.out, OI.nil _ _, PX.out, by rw [Pl.join_nil]; rfl, by omega, by omega, HBP.out⟩
  case round =>
    obtain ⟨f, A', n', c', r, B, m, d, z, last, rfl, rfl, hr, hoi, hpx, hun, hf, hmN, hb⟩ := hrel
    have HR := Lib.hid hr
    have HOI := Lib.hid hoi
    have HPX := Keep.mk hpx
    have HUN := Keep.mk hun
    have HB := Lib.hid hb
    have hws := hb.size
    obtain ⟨e0, e1, e2, ef, el⟩ := BX2.out.below hb
    obtain ⟨p0, p1, p2, pf, pl⟩ := hpx
    have hne : ¬ w.heap.size = w2.heap.size := by omega
    have hne' : ¬ w2.heap.size = w.heap.size := by omega
    clear hr hoi hun hb
    by_cases hlt : m < N
    · obtain ⟨g, rfl⟩ : ∃ g, f = g + 1 := ⟨f - 1, by omega⟩
      obtain ⟨p, y, v, q, htw2⟩ : ∃ p y v q, Pl.two r = (p, y, v, q) := ⟨_, _, _, _, rfl⟩
      have HTW2 := Keep.mk htw2
      clear e0 e1 e2 ef htw2
      go_wp2_with fail
      refine (two_any A' n' c' r w2 wr HR.out HB.out).mono ?_
      rintro e w5 ⟨A5, n5, c5, rfl, hr, hb⟩
      rw [HTW2.out] at hr ⊢
      have HR5 := Lib.hid hr
      have HB35 := Lib.hid hb
      have HB5 : Hid (Below w2.heap.size w2 w5) := HB.out.trans (hb.mono hws)
      have HBW : Hid (Below w.heap.size w w5) := HB2.out.trans (HB5.out.mono HB2.out.size)
      have HOI5 : Hid (OI w5 (w2.heap.size + 1) B m d z) := HOI.out.below hb
      have HPX5 := Keep.mk (HPX.out.below hb)
      clear p0 p1 p2 pf pl
      obtain ⟨p0, p1, p2, pf, pl⟩ := HPX5.out
      obtain ⟨e0, e1, e2, ef, el5⟩ := BX2.out.below HB5.out
      clear hr hb
      by_cases hq : q = 0
      · subst hq
        have HR6 : Hid (RB w2 A5 n5 c5 (r.drop v)) := by have h := HR5.out; rwa [if_pos rfl] at h
        clear HR5
        have hcase : (p < 1) ∨ (¬ p < 1 ∧ (N : Int) - (m : Int) < p) ∨ (¬ p < 1 ∧ ¬ (N : Int) - (m : Int) < p ∧ y < 0) ∨ (¬ p < 1 ∧ ¬ (N : Int) - (m : Int) < p ∧ ¬ y < 0 ∧ 100 < y) ∨ (¬ p < 1 ∧ ¬ (N : Int) - (m : Int) < p ∧ ¬ y < 0 ∧ ¬ 100 < y ∧ (y == last) = true) ∨ (¬ p < 1 ∧ ¬ (N : Int) - (m : Int) < p ∧ ¬ y < 0 ∧ ¬ 100 < y ∧ (y == last) = false) := by
          simp only [beq_iff_eq, beq_eq_false_iff_ne]
          omega
        have HBAD : Keep ((p < 1 ∨ ((N - m : Nat) : Int) < p ∨ y < 0 ∨ 100 < y ∨ y = last) → Pl.unpack l = (0, 0, [], 4)) := ⟨fun hbad => by
          have h := Pl.unrun_bad g (N - m) last r (by omega) HTW2.out hbad
          rw [HUB.out, HUN.out, h, Pl.join_err z _ rfl (by decide), if_pos (by decide)]⟩
        rcases hcase with h1 | ⟨h1, h2⟩ | ⟨h1, h2, h3⟩ | ⟨h1, h2, h3, h4⟩ | ⟨h1, h2, h3, h4, h5⟩ | ⟨h1, h2, h3, h4, h5⟩
        · have HER := Keep.mk (HBAD.out (.inl h1))
          go_wp2
          refine bodyPost_ret (v := .tuple #[.agg #[.int .i64 0, .int .i64 0, .slice none 0 0], .int .i64 4]) (by simp [results, Tryd.results20, go_sem, e0, e1, e2]) rfl ?_
          rw [HER.out]
          exact ⟨none, 0, 0, rfl, RI.none_ _, below_set3 HBW.out (Nat.le_refl _) _ _ _⟩
        · have HER := Keep.mk (HBAD.out (.inr (.inl (by omega))))
          go_wp2
          refine bodyPost_ret (v := .tuple #[.agg #[.int .i64 0, .int .i64 0, .slice none 0 0], .int .i64 4]) (by simp [results, Tryd.results20, go_sem, e0, e1, e2]) rfl ?_
          rw [HER.out]
          exact ⟨none, 0, 0, rfl, RI.none_ _, below_set3 HBW.out (Nat.le_refl _) _ _ _⟩
        · have HER := Keep.mk (HBAD.out (.inr (.inr (.inl h3))))
          go_wp2
          refine bodyPost_ret (v := .tuple #[.agg #[.int .i64 0, .int .i64 0, .slice none 0 0], .int .i64 4]) (by simp [results, Tryd.results20, go_sem, e0, e1, e2]) rfl ?_
          rw [HER.out]
          exact ⟨none, 0, 0, rfl, RI.none_ _, below_set3 HBW.out (Nat.le_refl _) _ _ _⟩
        · have HER := Keep.mk (HBAD.out (.inr (.inr (.inr (.inl h4)))))
          go_wp2
          refine bodyPost_ret (v := .tuple #[.agg #[.int .i64 0, .int .i64 0, .slice none 0 0], .int .i64 4]) (by simp [results, Tryd.results20, go_sem, e0, e1, e2]) rfl ?_
          rw [HER.out]
          exact ⟨none, 0, 0, rfl, RI.none_ _, below_set3 HBW.out (Nat.le_refl _) _ _ _⟩
        · have HER := Keep.mk (HBAD.out (.inr (.inr (.inr (.inr (by simpa using h5))))))
          go_wp2
          refine bodyPost_ret (v := .tuple #[.agg #[.int .i64 0, .int .i64 0, .slice none 0 0], .int .i64 4]) (by simp [results, Tryd.results20, go_sem, e0, e1, e2]) rfl ?_
          rw [HER.out]
          exact ⟨none, 0, 0, rfl, RI.none_ _, below_set3 HBW.out (Nat.le_refl _) _ _ _⟩
        · obtain ⟨Q, rfl⟩ := Int.eq_ofNat_of_zero_le (show 0 ≤ p by omega)
          have HGO : Keep (Pl.unrun N N (-1) r0 = Pl.join (z ++ List.replicate Q y) (Pl.unrun g (N - (m + Q)) y (r.drop v))) := ⟨by
            have h := Pl.unrun_step g (N - m) last r (by omega) HTW2.out (by simp only [beq_eq_false_iff_ne] at h5; omega)
            rw [HUN.out, h, Pl.join_join, Int.toNat_natCast, Nat.sub_sub]⟩
          have hQ1 : 1 ≤ Q := by omega
          have hQ2 : m + Q ≤ N := by omega
          clear HBAD HUN HR
          go_wp2
          clear h1 h2 h3 h4 h5 e0 e1 e2 ef el5 p0 p1 p2 pf pl
          obtain ⟨wo, rfl⟩ : ∃ wo : World, wo = wr := ⟨_, rfl⟩
          go_loopw [14] (fun i wr => ∃ (j : Nat) (B' : Option Addr) (m' d' : Nat), j ≤ Q ∧ i = .int .i64 j ∧ OI wr (w2.heap.size + 1) B' m' d' (z ++ List.replicate j y) ∧ Box3 wr w2.heap.size (.int .i64 W) (.int .i64 H) (.slice B' m' d') ∧ m' = m + j ∧ Below w2.heap.size w2 wr) (fun i _ => Q - (intOf i).toNat)
          case atStart => exact ⟨0, B, m, d, Nat.zero_le _, rfl, by simpa using HOI5.out, HPX5.out, rfl, HB5.out⟩
          case round =>
            obtain ⟨j, B', m', d', hj, rfl, hoi, hpx, hmj, hb⟩ := hrel
            have HOI' := Lib.hid hoi
            have HPX' := Keep.mk hpx
            have HB' := Lib.hid hb
            have HMJ := Keep.mk hmj
            have hm' : m' ≤ 65536 := by omega
            have hws' := hb.size
            obtain ⟨p0, p1, p2, pf, pl⟩ := hpx
            clear hoi hb hmj
            by_cases hjQ : j < Q
            · go_wp2_with (at_builtin; refine append_oi _ rfl (.tmp 98) (.tmp 100) rfl (w2.heap.size + 1) B' m' d' _ rfl (HOI'.out.below (below_alloc1 _ _)) _ 1 1 [y] rfl (ri_one _ _) (by omega) (by simp; omega) ?_; intro A7 n7 c7 w7 ht hb7; have HT7 := Lib.hid ht; have HB7 := Lib.hid hb7; have PX7 := Keep.mk (Box3.below' (HPX'.out.below (below_alloc1 _ _)) hb7 (by omega)); (obtain ⟨q0, q1, q2, qf, ql⟩ := PX7.out); clear ht hb7 p0 p1 p2 pf pl)
              go_roundw
              case rel =>
                have HT8 := HT7.out.set (p := ⟨w2.heap.size, 2, none⟩) (Nat.lt_succ_self _) (.slice A7 n7 c7)
                refine ⟨j + 1, A7, n7, c7, by omega, by go_num, ?_, PX7.out.set2 _, ?_, ?_⟩
                · rwa [List.append_assoc, ← List.replicate_succ'] at HT8
                · have h1 := HT7.out.ri.len
                  have h2 := HOI'.out.ri.len
                  have h3 := HMJ.out
                  rw [List.length_append] at h1
                  simp at h1 h2
                  omega
                · exact ((HB'.out.alloc hws' _).trans (HB7.out.mono (Nat.le_succ _))).setCell (Nat.le_refl _) _
              case measure => simp [intOf]; omega
            · obtain rfl : j = Q := by omega
              go_wp2
              go_roundw
              case rel => exact ⟨g, A5, n5, c5, r.drop v, B', m', d', _, y, rfl, rfl, HR6.out, HOI'.out, HPX'.out, by rw [HGO.out, HMJ.out], by have := HMJ.out; omega, by have := HMJ.out; omega, HB'.out⟩
              case measure => have h1 := HMJ.out; have h2 := HPX.out.c2; have h3 := HPX'.out.c2; simp only [h2, h3]; omega
      · have b1 : (q != 0) = true := by simpa using hq
        have HER : Keep (Pl.unpack l = (0, 0, [], q)) := ⟨by
          have h := Pl.unrun_err g (N - m) last r (by omega) (e := q) (by rw [HTW2.out]) hq
          rw [HUB.out, HUN.out, h, Pl.join_err z _ rfl hq, if_pos hq]⟩
        clear hq
        go_wp2
        refine bodyPost_ret (v := .tuple #[.agg #[.int .i64 0, .int .i64 0, .slice none 0 0], .int .i64 q]) (by simp [results, Tryd.results20, go_sem, e0, e1, e2]) rfl ?_
        rw [HER.out]
        exact ⟨none, 0, 0, rfl, RI.none_ _, below_set3 HBW.out (Nat.le_refl _) _ _ _⟩
    · obtain rfl : m = N := by omega
      clear hlt
      have HZ : Keep (Pl.unrun m m (-1) r0 = if r = [] then (z, 0) else ([], 4)) := ⟨by
        rw [HUN.out, Nat.sub_self, Pl.unrun_zero]
        by_cases h0 : r = []
        · simp [Pl.join, h0]
        · simp [Pl.join, h0]⟩
      have hlr := HR.out.len
      have HBW : Hid (Below w.heap.size w wr) := HB2.out.trans (HB.out.mono HB2.out.size)
      by_cases h0 : r = []
      · have hn0 : n' = 0 := by rw [h0] at hlr; simpa using hlr.symm
        have HER : Keep (Pl.unpack l = (W, H, z, 0)) := ⟨by rw [HUB.out, HZ.out, if_pos h0]; simp⟩
        subst hn0
        clear hlr h0
        go_wp2
        refine bodyPost_ret (v := .tuple #[.agg #[.int .i64 W, .int .i64 H, .slice B m d], .int .i64 0]) (by simp [results, Tryd.results20, go_sem, e0, e1, e2]) rfl ?_
        rw [HER.out]
        have hlb : w.heap.size < w2.heap.size + 1 := by omega
        exact ⟨B, m, d, rfl, (((HOI.out.set (p := ⟨_, _, none⟩) hlb _).set (p := ⟨_, _, none⟩) hlb _).set (p := ⟨_, _, none⟩) hlb _).ri, below_set3 HBW.out (Nat.le_refl _) _ _ _⟩
      · have hn0 : 0 < n' := by rcases Nat.eq_zero_or_pos n' with h | h; exact absurd (List.eq_nil_of_length_eq_zero (by omega)) h0; exact h
        have HER : Keep (Pl.unpack l = (0, 0, [], 4)) := ⟨by rw [HUB.out, HZ.out, if_neg h0]; simp⟩
        clear hlr h0
        go_wp2
        refine bodyPost_ret (v := .tuple #[.agg #[.int .i64 0, .int .i64 0, .slice none 0 0], .int .i64 4]) (by simp [results, Tryd.results20, go_sem, e0, e1, e2]) rfl ?_
        rw [HER.out]
        exact ⟨none, 0, 0, rfl, RI.none_ _, below_set3 HBW.out (Nat.le_refl _) _ _ _⟩

theorem runpack_any (A : Option Addr) (n c : Nat) (l : List UInt8) (w : World) (hl : RB w A n c l) : Calls Tryd.prog 20 #[.slice A n c] w (RetPl w (Pl.unpack l)) := by
  by_cases hn : 1048576 < n
  · exact runpack_big A n c l w hl hn
  · by_cases ho : (Pl.opened l).2 = 0
    · have ho' : Pl.opened l = ((Pl.opened l).1, 0) := by rw [← ho]
      by_cases he : (Pl.two (Pl.opened l).1).2.2.2 ≠ 0 ∨ (Pl.side (Pl.two (Pl.opened l).1).1 && Pl.side (Pl.two (Pl.opened l).1).2.1) = false
      · exact runpack_err2 A n c l _ w hl (by omega) ho' he
      · obtain ⟨h1, h2⟩ : (Pl.two (Pl.opened l).1).2.2.2 = 0 ∧ (Pl.side (Pl.two (Pl.opened l).1).1 && Pl.side (Pl.two (Pl.opened l).1).2.1) = true := by
          refine ⟨?_, ?_⟩
          · exact Decidable.byContradiction fun h => he (.inl h)
          · cases h : (Pl.side (Pl.two (Pl.opened l).1).1 && Pl.side (Pl.two (Pl.opened l).1).2.1)
            · exact absurd (.inr h) he
            · rfl
        exact runpack_loop A n c l _ _ _ (Pl.two (Pl.opened l).1).2.2.1 w hl (by omega) ho' (by rw [← h1]) h2
    · exact runpack_err1 A n c l w hl (by omega) ho
end Go.Proofs.YtpppgceccikodaaDoor
