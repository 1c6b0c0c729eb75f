/- The law's awake. -/
import Derived.Test.YtpekbcoclmhcnaaBlock
import Derived.Test.YtpekbcoclmhcnaaCrash
import Derived.Test.YtpekbcoclmhcnaaR24f
namespace Go.Proofs.Ytpekbcoclmhcnaa
open Go.RowKit Go.Joins

/-! The devices of the example. -/
def B64 (b : UInt8) : List UInt8 := List.replicate 64 b
def a0 : Dv.Disk := ⟨[zs, zs], [], -1, false⟩
def a1 : Dv.Disk := ⟨[zs, zs], [(0, B64 1)], -1, false⟩
def a2 : Dv.Disk := ⟨[zs, zs], [(0, B64 1), (0, B64 2)], -1, false⟩
def a3 : Dv.Disk := ⟨[B64 1, zs], [], -1, false⟩
def a4 : Dv.Disk := ⟨[zs, zs], [], 0, false⟩
def a5 : Dv.Disk := ⟨[zs, zs], [(1, B64 4)], 0, true⟩
theorem B64_len (b : UInt8) : (B64 b).length = 64 := by simp [B64]
theorem s_new : Dv.new 2 = (a0, 0) := rfl
theorem s_new0 : Dv.new 0 = (Dv.Disk.zero, 2) := rfl
theorem s_w1 : Dv.write a0 0 (B64 1) = (a1, 0) := by simp [Dv.write, a0, a1, Dv.has, B64_len]
theorem s_w2 : Dv.write a1 0 (B64 2) = (a2, 0) := by simp [Dv.write, a1, a2, Dv.has, B64_len]
theorem s_w3 : Dv.write a2 2 (B64 3) = (Dv.Disk.zero, 2) := by simp [Dv.write, a2, Dv.has]
theorem s_r1 : Dv.read a2 0 = (B64 2, 0) := by simp [Dv.read, a2, Dv.has, Dv.content]
theorem s_c1 : Dv.crash a2 [0] = a3 := by simp [Dv.crash, a2, a3, Dv.kept, Dv.settle, Dv.put, Dv.has]
theorem s_r2 : Dv.read a3 0 = (B64 1, 0) := by simp [Dv.read, a3, Dv.has, Dv.content]
theorem s_a1 : Dv.arm a0 0 = a4 := rfl
theorem s_w4 : Dv.write a4 1 (B64 4) = (a5, 23) := by simp [Dv.write, a4, a5, Dv.has, B64_len]
theorem s_f1 : Dv.flush a5 = (Dv.Disk.zero, 23) := rfl
theorem s_c2 : Dv.crash a5 [] = a0 := by rw [Dv.crash_nil]; rfl
theorem s_r3 : Dv.read a0 1 = (zs, 0) := by simp [Dv.read, a0, Dv.has, Dv.content]
theorem zs_len64 : zs.length ≤ 200 := by simp [zs]
theorem B_len200 (b : UInt8) : (B64 b).length ≤ 200 := by simp [B64]
theorem f0 : Dv.Fits 10 a0 := ⟨by simp [a0], by simp [a0], by simp [a0, zs], by simp [a0]⟩
theorem f1 : Dv.Fits 10 a1 := ⟨by simp [a1], by simp [a1], by simp [a1, zs], by simp [a1, B64]⟩
theorem f2 : Dv.Fits 10 a2 := ⟨by simp [a2], by simp [a2], by simp [a2, zs], by simp [a2, B64]⟩
theorem f3 : Dv.Fits 10 a3 := ⟨by simp [a3], by simp [a3], by simp [a3, zs, B64], by simp [a3]⟩
theorem f4 : Dv.Fits 10 a4 := ⟨by simp [a4], by simp [a4], by simp [a4, zs], by simp [a4]⟩
theorem f5 : Dv.Fits 10 a5 := ⟨by simp [a5], by simp [a5], by simp [a5, zs], by simp [a5, B64]⟩

/-- A device in a box. -/
structure BxD (w : World) (b : Nat) (d : Dk) (m : Dv.Disk) : Prop where
  bx : Bx w b [.slice d.a d.n d.c, .slice d.pa d.pn d.pc, .int .i64 d.left, .bool d.down]
  ok : d.Ok w
  m_ : d.m = m
theorem BxD.below {w w' : World} {b : Nat} {d : Dk} {m : Dv.Disk} (h : BxD w b d m) (hb : Below w.heap.size w w') : BxD w' b d m := ⟨h.bx.below hb, h.ok.below hb, h.m_⟩
theorem BxD.off {T : List Nat} {w w' : World} {b : Nat} {d : Dk} {m : Dv.Disk} (h : BxD w b d m) (ho : Off T w w') (hb : b ∉ T) (hT : ∀ t ∈ T, d.Av t) : BxD w' b d m := ⟨h.bx.off ho hb, h.ok.off ho hT, h.m_⟩
theorem BxD.new {w : World} {d : Dk} {m : Dv.Disk} (h : d.Ok w) (hm : d.m = m) : BxD (w.alloc (.cells #[.slice d.a d.n d.c, .slice d.pa d.pn d.pc, .int .i64 d.left, .bool d.down] 25)) w.heap.size d m :=
  ⟨Bx.new w [.slice d.a d.n d.c, .slice d.pa d.pn d.pc, .int .i64 d.left, .bool d.down] 25, h.below (below_alloc1 _ _), hm⟩
theorem BxD.set {w : World} {b : Nat} {d : Dk} {m : Dv.Disk} {a0 a1 a2 a3 : Value} (hb : Bx w b [a0, a1, a2, a3]) (h : d.Ok w) (hm : d.m = m) (hav : d.Av b) :
    BxD ((((w.setCell ⟨b, 0, none⟩ (.slice d.a d.n d.c)).setCell ⟨b, 1, none⟩ (.slice d.pa d.pn d.pc)).setCell ⟨b, 2, none⟩ (.int .i64 d.left)).setCell ⟨b, 3, none⟩ (.bool d.down)) b d m :=
  ⟨hb.set4 _ _ _ _, h.off (off_set4 w b _ _ _ _) (fun t ht => by simp only [List.mem_singleton] at ht; rw [ht]; exact hav), hm⟩
/-- The cells of a boxed device. -/
theorem BxD.cs {w : World} {b : Nat} {d : Dk} {m : Dv.Disk} (h : BxD w b d m) : w.cell? ⟨b, 0, none⟩ = some (.slice d.a d.n d.c) ∧ w.cell? ⟨b, 1, none⟩ = some (.slice d.pa d.pn d.pc) ∧ w.cell? ⟨b, 2, none⟩ = some (.int .i64 d.left) ∧ w.cell? ⟨b, 3, none⟩ = some (.bool d.down) :=
  ⟨h.bx.cell 0 _ rfl, h.bx.cell 1 _ rfl, h.bx.cell 2 _ rfl, h.bx.cell 3 _ rfl⟩
/-- What returns a device, written out. -/
def RetX (w : World) (I : Nat → Prop) (m : Dv.Disk) (e : Ending) (w' : World) : Prop := ∃ d : Dk, e = .returned (.agg #[.slice d.a d.n d.c, .slice d.pa d.pn d.pc, .int .i64 d.left, .bool d.down]) ∧ d.Ok w' ∧ d.m = m ∧ Below w.heap.size w w' ∧ ∀ b, b < w.heap.size → I b → d.Av b
def RetXE (w : World) (I : Nat → Prop) (m : Dv.Disk × Int) (e : Ending) (w' : World) : Prop := ∃ d : Dk, e = .returned (.tuple #[.agg #[.slice d.a d.n d.c, .slice d.pa d.pn d.pc, .int .i64 d.left, .bool d.down], .int .i64 m.2]) ∧ d.Ok w' ∧ d.m = m.1 ∧ Below w.heap.size w w' ∧ ∀ b, b < w.heap.size → I b → d.Av b
theorem retX {P : Program} {f : FuncId} {args : Array Value} {w : World} {I : Nat → Prop} {m : Dv.Disk} (h : Calls P f args w (RetK w I m)) : Calls P f args w (RetX w I m) := h.mono fun _ _ h => h
theorem retXE {P : Program} {f : FuncId} {args : Array Value} {w : World} {I : Nat → Prop} {m : Dv.Disk × Int} (h : Calls P f args w (RetKE w I m)) : Calls P f args w (RetXE w I m) := h.mono fun _ _ h => h
/-- Contracts at a device that is known. -/
theorem write_at {d : Dk} {m m' : Dv.Disk} {k : Int} (s : Int) (A : Option Addr) (n c : Nat) (l : List UInt8) (w : World) (h : d.Ok w) (hm : d.m = m) (hl : RB w A n c l) (hf : Dv.Fits 10 m) (hw : Dv.write m s l = (m', k)) (hLo : -1000 ≤ m.left) (hHi : m.left ≤ 1000) :
    Calls Try.prog 13 #[.agg #[.slice d.a d.n d.c, .slice d.pa d.pn d.pc, .int .i64 d.left, .bool d.down], .int .i64 s, .slice A n c] w (RetXE w (fun _ => True) (m', k)) := by
  subst hm
  have hml : d.m.left = d.left := rfl
  have := retXE (write_any d s A n c l 10 w h hl hf (by omega) (by omega) (by omega))
  rwa [hw] at this
theorem read_at {d : Dk} {m : Dv.Disk} {l : List UInt8} {k : Int} (s : Int) (w : World) (h : d.Ok w) (hm : d.m = m) (hf : Dv.Fits 10 m) (hw : Dv.read m s = (l, k)) :
    Calls Try.prog 15 #[.agg #[.slice d.a d.n d.c, .slice d.pa d.pn d.pc, .int .i64 d.left, .bool d.down], .int .i64 s] w (RetBE w l k) := by
  subst hm
  have := read_any d s 10 w h hf
  rwa [hw] at this
theorem flush_at {d : Dk} {m m' : Dv.Disk} {k : Int} (w : World) (h : d.Ok w) (hm : d.m = m) (hf : Dv.Fits 10 m) (hw : Dv.flush m = (m', k)) :
    Calls Try.prog 21 #[.agg #[.slice d.a d.n d.c, .slice d.pa d.pn d.pc, .int .i64 d.left, .bool d.down]] w (RetXE w (fun _ => True) (m', k)) := by
  subst hm
  have := retXE (flush_any d 10 w h hf (by omega))
  rwa [hw] at this
theorem arm_at {d : Dk} {m m' : Dv.Disk} (s : Int) (w : World) (h : d.Ok w) (hm : d.m = m) (hf : Dv.Fits 10 m) (hw : Dv.arm m s = m') :
    Calls Try.prog 23 #[.agg #[.slice d.a d.n d.c, .slice d.pa d.pn d.pc, .int .i64 d.left, .bool d.down], .int .i64 s] w (RetX w (fun _ => True) m') := by
  subst hm
  have := retX (arm_any d s 10 w h hf (by omega))
  rwa [hw] at this
theorem crash_at {d : Dk} {m m' : Dv.Disk} (B : Option Addr) (n c : Nat) (keep : List Int) (w : World) (h : d.Ok w) (hm : d.m = m) (hf : Dv.Fits 10 m) (hk : RI w B n c keep) (hk2 : ∀ z ∈ keep, (Lit.int .i64 z).wf = true) (hw : Dv.crash m keep = m') :
    Calls Try.prog 25 #[.agg #[.slice d.a d.n d.c, .slice d.pa d.pn d.pc, .int .i64 d.left, .bool d.down], .slice B n c] w (RetX w (fun _ => True) m') := by
  subst hm
  have := retX (crash_any d B n c keep 10 w h hk hk2 hf (by omega))
  rwa [hw] at this
theorem ri_zero (w : World) : RI (w.alloc (.cells #[.int .i64 0] 3)) (some ⟨w.heap.size, 0, none⟩) 1 1 [0] := (Wh.new w 3 [.int .i64 0]).rd rfl (Nat.le_refl _) (by simp [maxLen]) (fun j u hu => by rw [Nat.zero_add]; exact hu)

set_option maxHeartbeats 2000000 in
set_option maxRecDepth 100000 in
theorem awake_any (w : World) : Calls Try.prog 12 #[] w fun e w' => e = .returned (.bool true) ∧ Below w.heap.size w w' := by
  go_enter Try.func12, Try.ntmps12
  go_wp2_with fail
  have h := retXE (new_any 2 w)
  rw [s_new] at h
  refine h.mono ?_
  clear h
  rintro e w1 ⟨D0, rfl, hok, hm, hb, hav⟩
  have HB0 := Lib.hid hb
  have HD0 := Keep.mk hok
  have HM0 := Keep.mk hm
  clear hok hm hb hav
  go_wp2_with fail
  have H0 := Keep.mk (BxD.new HD0.out HM0.out)
  have HB1 : Hid (Below w.heap.size w (w1.alloc (.cells #[.slice D0.a D0.n D0.c, .slice D0.pa D0.pn D0.pc, .int .i64 D0.left, .bool D0.down] 25))) := HB0.out.alloc HB0.out.size _
  generalize hw2 : w1.alloc (.cells #[.slice D0.a D0.n D0.c, .slice D0.pa D0.pn D0.pc, .int .i64 D0.left, .bool D0.down] 25) = w2 at *
  clear hw2 HD0 HM0
  have h := retXE (new_any 0 w2)
  rw [s_new0] at h
  refine h.mono ?_
  clear h
  rintro e w3 ⟨Dz, rfl, hok, hm, hb, hav⟩
  have H0b := Keep.mk (H0.out.below hb)
  have HB2 := Lib.hid (below_next HB1.out hb (Nat.le_refl _))
  clear hok hm hb hav HB0 HB1
  go_upto_region 3 with (fail)
  have H0c := Keep.mk (H0b.out.below (below_alloc1 w3 (.cells #[.slice Dz.a Dz.n Dz.c, .slice Dz.pa Dz.pn Dz.pc, .int .i64 Dz.left, .bool Dz.down] 25)))
  have HB3 : Hid (Below w.heap.size w (w3.alloc (.cells #[.slice Dz.a Dz.n Dz.c, .slice Dz.pa Dz.pn Dz.pc, .int .i64 Dz.left, .bool Dz.down] 25))) := HB2.out.alloc HB2.out.size _
  generalize hw4 : w3.alloc (.cells #[.slice Dz.a Dz.n Dz.c, .slice Dz.pa Dz.pn Dz.pc, .int .i64 Dz.left, .bool Dz.down] 25) = w4 at *
  clear hw4 H0 H0b HB2
  have hl0 := H0c.out.bx.lt
  go_upto_region 3 with (fail)
  have KS : Keep (∀ X, Below w4.heap.size w4 X → X.cell? ⟨w1.heap.size, 0, none⟩ = some (.slice D0.a D0.n D0.c) ∧ X.cell? ⟨w1.heap.size, 1, none⟩ = some (.slice D0.pa D0.pn D0.pc) ∧ X.cell? ⟨w1.heap.size, 2, none⟩ = some (.int .i64 D0.left) ∧ X.cell? ⟨w1.heap.size, 3, none⟩ = some (.bool D0.down)) := ⟨fun X hX => (H0c.out.below hX).cs⟩
  go_cut [5, 6] from 28 to 33 (fun s5 s6 X => ∃ (b5 : Nat) (D5 : Dk), s5 = .pointer (some ⟨b5, 0, none⟩) ∧ s6 = .int .i64 0 ∧ w4.heap.size ≤ b5 ∧ BxD X b5 D5 a1 ∧ Below w4.heap.size w4 X ∧ ∀ b, b < w4.heap.size → D5.Av b)
  case first =>
    go_region_held3 (fun X => X.cell? ⟨w1.heap.size, 0, none⟩ = some (.slice D0.a D0.n D0.c) ∧ X.cell? ⟨w1.heap.size, 1, none⟩ = some (.slice D0.pa D0.pn D0.pc) ∧ X.cell? ⟨w1.heap.size, 2, none⟩ = some (.int .i64 D0.left) ∧ X.cell? ⟨w1.heap.size, 3, none⟩ = some (.bool D0.down))
      (first | exact KS.out _ HDN.out | exact KS.out _ (HDN.out.alloc HDN.out.size _) | exact KS.out _ HDB.out | exact KS.out _ (HDB.out.alloc HDB.out.size _) | exact KS.out _ (below_draws _ _ 1) | exact KS.out _ ((below_alloc1 _ _).trans (below_draws _ _ 1)) | exact KS.out _ ((((HDN.out.setCell (by have := HDB.out.size; first | exact Nat.le_refl _ | (simp; done) | omega) _).setCell (by have := HDB.out.size; first | exact Nat.le_refl _ | (simp; done) | omega) _).setCell (by have := HDB.out.size; first | exact Nat.le_refl _ | (simp; done) | omega) _).setCell (by have := HDB.out.size; first | exact Nat.le_refl _ | (simp; done) | omega) _))
      (first
        | (go_at_call 31; ((refine (block_any 1 1 rfl _).mono ?_); rintro e wb ⟨Ab, nb, cb, rfl, hr, ha, hb⟩; have HR := Keep.mk hr; first | (have HDB : Hid (Below w4.heap.size w4 wb) := below_next (below_draws _ _ 1) hb (Nat.le_refl _); have BN := True.intro) | (have HDB : Hid (Below w4.heap.size w4 wb) := below_next ((below_alloc1 _ _).trans (below_draws _ _ 1)) hb (Nat.le_refl _); have BN := Keep.mk (((Bx.new w4 [.slice none 0 0, .slice none 0 0, .int .i64 0, .bool false] 25).drewN 1).below hb)); clear hr ha hb))
        | (go_at_call 13; (first
            | ((refine (write_at 0 Ab nb cb (B64 1) _ (H0c.out.ok.below HDB.out) H0c.out.m_ HR.out f0 s_w1 (by decide) (by decide)).mono ?_); rintro e wn ⟨D5, rfl, hok, hm, hb, hav⟩; (first | (have BM := Keep.mk (BN.out.below hb); have m0 := BM.out.cell 0 _ rfl; have m1 := BM.out.cell 1 _ rfl; have m2 := BM.out.cell 2 _ rfl; have m3 := BM.out.cell 3 _ rfl; have mf := BM.out.fz) | (have BM := True.intro)); have HDN : Hid (Below w4.heap.size w4 wn) := below_next HDB.out hb (Nat.le_refl _); have HOK := Keep.mk hok; have HM := Keep.mk hm; have HAV := Keep.mk hav; have HBB := Keep.mk hb; clear hok hm hb hav)
            | ((refine (write_at 0 Ab nb cb (B64 1) _ (H0c.out.ok.below (HDB.out.alloc HDB.out.size _)) H0c.out.m_ (RB.below HR.out (below_alloc1 _ _)) f0 s_w1 (by decide) (by decide)).mono ?_); rintro e wn ⟨D5, rfl, hok, hm, hb, hav⟩; have BM := Keep.mk ((Bx.new wb [.slice none 0 0, .slice none 0 0, .int .i64 0, .bool false] 25).below hb); have m0 := BM.out.cell 0 _ rfl; have m1 := BM.out.cell 1 _ rfl; have m2 := BM.out.cell 2 _ rfl; have m3 := BM.out.cell 3 _ rfl; have mf := BM.out.fz; have HDN : Hid (Below w4.heap.size w4 wn) := below_next (HDB.out.alloc HDB.out.size _) hb (Nat.le_refl _); have HOK := Keep.mk hok; have HM := Keep.mk hm; have HAV := Keep.mk hav; have HBB := Keep.mk hb; clear hok hm hb hav))))
    all_goals go_wp2
    all_goals go_meet
    all_goals
      have hzb := HDB.out.size
      have hzn := HDN.out.size
      have hav2 : ∀ b, b < w4.heap.size → D5.Av b := fun b hb => HAV.out b (by first | omega | (simp; omega)) trivial
      first
        | (have hx := BN.out.lt
           refine ⟨_, D5, rfl, rfl, Nat.le_refl _, BxD.set BM.out HOK.out HM.out ?_, (((HDN.out.setCell (Nat.le_refl _) _).setCell (Nat.le_refl _) _).setCell (Nat.le_refl _) _).setCell (Nat.le_refl _) _, hav2⟩
           exact HAV.out _ hx trivial)
        | (have hx := BM.out.lt
           refine ⟨_, D5, rfl, rfl, hzb, BxD.set BM.out HOK.out HM.out ?_, (((HDN.out.setCell hzb _).setCell hzb _).setCell hzb _).setCell hzb _, hav2⟩
           exact HAV.out _ (by simp) trivial)
        | exact ⟨_, D5, rfl, rfl, hzn, BxD.new HOK.out HM.out, HDN.out.alloc hzn _, hav2⟩
  case rest =>
    obtain ⟨X1, hX1⟩ : ∃ X1, X1 = wc := ⟨_, rfl⟩
    subst hX1
    obtain ⟨b5, D5, rfl, rfl, hl5, h5, hb5, hav5⟩ := hcut
    have hav0 : D0.Av b5 := H0c.out.ok.av hl5
    have H5 := Keep.mk h5
    have H0d := Keep.mk (H0c.out.below hb5)
    have HB4 := Lib.hid (below_next HB3.out hb5 (Nat.le_refl _))
    have hz4 := hb5.size
    have HA0 := Keep.mk hav0
    have hl5b := h5.bx.lt
    have hne5 : b5 ≠ w1.heap.size := by omega
    have HB3s := Keep.mk (Nat.le_trans HB3.out.size hl5)
    clear h5 hb5 hav5 hav0 H0c HB3
    go_upto_region 4 with (fail)
    go_cut [7] from 34 to 39 (fun s7 X => ∃ D6 : Dk, s7 = .int .i64 0 ∧ BxD X b5 D6 a2 ∧ BxD X w1.heap.size D0 a0 ∧ Below w.heap.size w X ∧ X1.heap.size ≤ X.heap.size)
    case first =>
      have c0 := H5.out.bx.cell 0 _ rfl
      have c1 := H5.out.bx.cell 1 _ rfl
      have c2 := H5.out.bx.cell 2 _ rfl
      have c3 := H5.out.bx.cell 3 _ rfl
      go_region_with (first
        | (go_at_call 31; ((refine (block_any 2 2 rfl _).mono ?_); rintro e wb ⟨Ab, nb, cb, rfl, hr, ha, hb⟩; have HR := Keep.mk hr; have HDB : Hid (Below X1.heap.size X1 wb) := below_next (below_draws _ _ 1) hb (Nat.le_refl _); have H5b := Keep.mk ((H5.out.below (below_draws _ _ 1)).below hb); have d0 := H5b.out.bx.cell 0 _ rfl; have d1 := H5b.out.bx.cell 1 _ rfl; have d2 := H5b.out.bx.cell 2 _ rfl; have d3 := H5b.out.bx.cell 3 _ rfl; clear hr ha hb))
        | (go_at_call 13; ((refine (write_at 0 Ab nb cb (B64 2) _ H5b.out.ok H5b.out.m_ HR.out f1 s_w2 (by decide) (by decide)).mono ?_); rintro e wn ⟨D6, rfl, hok, hm, hb, hav⟩; have HDN : Hid (Below X1.heap.size X1 wn) := below_next HDB.out hb (Nat.le_refl _); have HOK := Keep.mk hok; have HM := Keep.mk hm; have HAV := Keep.mk hav; have H5n := Keep.mk (H5b.out.below hb); have e0 := H5n.out.bx.cell 0 _ rfl; have e1 := H5n.out.bx.cell 1 _ rfl; have e2 := H5n.out.bx.cell 2 _ rfl; have e3 := H5n.out.bx.cell 3 _ rfl; have ef := H5n.out.bx.fz; clear hok hm hb hav)))
      all_goals go_wp2
      all_goals go_meet
      all_goals
        have hzb := HDB.out.size
        have hzn := HDN.out.size
        have hof := off_set4 wn b5 (.slice D6.a D6.n D6.c) (.slice D6.pa D6.pn D6.pc) (.int .i64 D6.left) (.bool D6.down)
        have hbw := hof.below (B := w.heap.size) (by have := HB4.out.size; omega) (by have := HB3s.out; simp; omega)
        exact ⟨D6, rfl, BxD.set H5n.out.bx HOK.out HM.out (HAV.out b5 (by omega) trivial), (H0d.out.below HDN.out).off hof (by simp; omega) (fun t ht => by simp only [List.mem_singleton] at ht; rw [ht]; exact HA0.out), (HB4.out.trans (HDN.out.mono HB4.out.size)).trans hbw, Nat.le_trans hzn hof.size⟩
    case rest =>
      obtain ⟨X2, hX2⟩ : ∃ X2, X2 = wc := ⟨_, rfl⟩
      subst hX2
      obtain ⟨D6, rfl, h6, h0, hb6, hz6⟩ := hcut
      have H6 := Keep.mk h6
      have H0e := Keep.mk h0
      have HB5 := Lib.hid hb6
      clear h6 h0 hb6 H5 H0d HB4
      go_upto_region 5 with (fail)
      have KS : Keep (∀ X, Below X2.heap.size X2 X → X.cell? ⟨b5, 0, none⟩ = some (.slice D6.a D6.n D6.c) ∧ X.cell? ⟨b5, 1, none⟩ = some (.slice D6.pa D6.pn D6.pc) ∧ X.cell? ⟨b5, 2, none⟩ = some (.int .i64 D6.left) ∧ X.cell? ⟨b5, 3, none⟩ = some (.bool D6.down)) := ⟨fun X hX => (H6.out.below hX).cs⟩
      go_cut [8, 9] from 40 to 45 (fun s5 s6 X => ∃ (b5 : Nat) (D5 : Dk), s5 = .pointer (some ⟨b5, 0, none⟩) ∧ s6 = .int .i64 2 ∧ X2.heap.size ≤ b5 ∧ BxD X b5 D5 Dv.Disk.zero ∧ Below X2.heap.size X2 X ∧ ∀ b, b < X2.heap.size → D5.Av b)
      case first =>
        go_region_held3 (fun X => X.cell? ⟨b5, 0, none⟩ = some (.slice D6.a D6.n D6.c) ∧ X.cell? ⟨b5, 1, none⟩ = some (.slice D6.pa D6.pn D6.pc) ∧ X.cell? ⟨b5, 2, none⟩ = some (.int .i64 D6.left) ∧ X.cell? ⟨b5, 3, none⟩ = some (.bool D6.down))
          (first | exact KS.out _ HDN.out | exact KS.out _ (HDN.out.alloc HDN.out.size _) | exact KS.out _ HDB.out | exact KS.out _ (HDB.out.alloc HDB.out.size _) | exact KS.out _ (below_draws _ _ 1) | exact KS.out _ ((below_alloc1 _ _).trans (below_draws _ _ 1)) | exact KS.out _ ((((HDN.out.setCell (by have := HDB.out.size; first | exact Nat.le_refl _ | (simp; done) | omega) _).setCell (by have := HDB.out.size; first | exact Nat.le_refl _ | (simp; done) | omega) _).setCell (by have := HDB.out.size; first | exact Nat.le_refl _ | (simp; done) | omega) _).setCell (by have := HDB.out.size; first | exact Nat.le_refl _ | (simp; done) | omega) _))
          (first
            | (go_at_call 31; ((refine (block_any 3 3 rfl _).mono ?_); rintro e wb ⟨Ab, nb, cb, rfl, hr, ha, hb⟩; have HR := Keep.mk hr; first | (have HDB : Hid (Below X2.heap.size X2 wb) := below_next (below_draws _ _ 1) hb (Nat.le_refl _); have BN := True.intro) | (have HDB : Hid (Below X2.heap.size X2 wb) := below_next ((below_alloc1 _ _).trans (below_draws _ _ 1)) hb (Nat.le_refl _); have BN := Keep.mk (((Bx.new X2 [.slice none 0 0, .slice none 0 0, .int .i64 0, .bool false] 25).drewN 1).below hb)); clear hr ha hb))
            | (go_at_call 13; (first
                | ((refine (write_at 2 Ab nb cb (B64 3) _ (H6.out.ok.below HDB.out) H6.out.m_ HR.out f2 s_w3 (by decide) (by decide)).mono ?_); rintro e wn ⟨D5, rfl, hok, hm, hb, hav⟩; (first | (have BM := Keep.mk (BN.out.below hb); have m0 := BM.out.cell 0 _ rfl; have m1 := BM.out.cell 1 _ rfl; have m2 := BM.out.cell 2 _ rfl; have m3 := BM.out.cell 3 _ rfl; have mf := BM.out.fz) | (have BM := True.intro)); have HDN : Hid (Below X2.heap.size X2 wn) := below_next HDB.out hb (Nat.le_refl _); have HOK := Keep.mk hok; have HM := Keep.mk hm; have HAV := Keep.mk hav; have HBB := Keep.mk hb; clear hok hm hb hav)
                | ((refine (write_at 2 Ab nb cb (B64 3) _ (H6.out.ok.below (HDB.out.alloc HDB.out.size _)) H6.out.m_ (RB.below HR.out (below_alloc1 _ _)) f2 s_w3 (by decide) (by decide)).mono ?_); rintro e wn ⟨D5, rfl, hok, hm, hb, hav⟩; have BM := Keep.mk ((Bx.new wb [.slice none 0 0, .slice none 0 0, .int .i64 0, .bool false] 25).below hb); have m0 := BM.out.cell 0 _ rfl; have m1 := BM.out.cell 1 _ rfl; have m2 := BM.out.cell 2 _ rfl; have m3 := BM.out.cell 3 _ rfl; have mf := BM.out.fz; have HDN : Hid (Below X2.heap.size X2 wn) := below_next (HDB.out.alloc HDB.out.size _) hb (Nat.le_refl _); have HOK := Keep.mk hok; have HM := Keep.mk hm; have HAV := Keep.mk hav; have HBB := Keep.mk hb; clear hok hm hb hav))))
        all_goals go_wp2
        all_goals go_meet
        all_goals
          have hzb := HDB.out.size
          have hzn := HDN.out.size
          have hav2 : ∀ b, b < X2.heap.size → D5.Av b := fun b hb => HAV.out b (by first | omega | (simp; omega)) trivial
          first
            | (have hx := BN.out.lt
               refine ⟨_, D5, rfl, rfl, Nat.le_refl _, BxD.set BM.out HOK.out HM.out ?_, (((HDN.out.setCell (Nat.le_refl _) _).setCell (Nat.le_refl _) _).setCell (Nat.le_refl _) _).setCell (Nat.le_refl _) _, hav2⟩
               exact HAV.out _ hx trivial)
            | (have hx := BM.out.lt
               refine ⟨_, D5, rfl, rfl, hzb, BxD.set BM.out HOK.out HM.out ?_, (((HDN.out.setCell hzb _).setCell hzb _).setCell hzb _).setCell hzb _, hav2⟩
               exact HAV.out _ (by simp) trivial)
            | exact ⟨_, D5, rfl, rfl, hzn, BxD.new HOK.out HM.out, HDN.out.alloc hzn _, hav2⟩
      case rest =>
        obtain ⟨X3, hX3⟩ : ∃ X3, X3 = wc := ⟨_, rfl⟩
        subst hX3
        obtain ⟨b8, D8, rfl, rfl, hl8, h8, hb8, hav8⟩ := hcut
        have H6b := Keep.mk (H6.out.below hb8)
        have H0f := Keep.mk (H0e.out.below hb8)
        have HB6 := Lib.hid (below_next HB5.out hb8 (Nat.le_refl _))
        clear h8 hb8 hav8 H6 H0e HB5
        obtain ⟨c0, c1, c2, c3⟩ := H6b.out.cs
        go_wp2_with fail
        refine (read_at 0 X3 H6b.out.ok H6b.out.m_ f2 s_r1).mono ?_
        rintro e x4 ⟨Ab, nb, cb, rfl, hr, hb⟩
        have HRb := Keep.mk hr
        have H6c := Keep.mk (H6b.out.below hb)
        have H0g := Keep.mk (H0f.out.below hb)
        have HB7 := Lib.hid (below_next HB6.out hb (Nat.le_refl _))
        clear hr hb c0 c1 c2 c3 H6b H0f HB6
        obtain ⟨c0, c1, c2, c3⟩ := H6c.out.cs
        go_wp2_with fail
        have hq : Below x4.heap.size x4 (x4.alloc (.cells #[.int .i64 0] 3)) := below_alloc1 _ _
        refine (crash_at _ 1 1 [0] (x4.alloc (.cells #[.int .i64 0] 3)) (H6c.out.ok.below hq) H6c.out.m_ f2 (ri_zero x4) (by intro z hz; simp at hz; subst hz; exact WalkArith.wf_i64 (by omega)) s_c1).mono ?_
        rintro e x5 ⟨D3, rfl, hok, hm, hb, hav⟩
        have HRb2 := Keep.mk ((HRb.out.below hq).below hb)
        have H0h := Keep.mk ((H0g.out.below hq).below hb)
        have HB8 := Lib.hid (below_next (below_next HB7.out hq (Nat.le_refl _)) hb (Nat.le_refl _))
        have HOK := Keep.mk hok
        have HM := Keep.mk hm
        clear hq hb hok hm hav c0 c1 c2 c3 H6c H0g HB7 HRb
        go_wp2_with fail
        refine (read_at 0 x5 HOK.out HM.out f3 s_r2).mono ?_
        rintro e x6 ⟨Ac, nc, cc, rfl, hr, hb⟩
        have HRc := Keep.mk hr
        have HRb3 := Keep.mk (HRb2.out.below hb)
        have H0i := Keep.mk (H0h.out.below hb)
        have HB9 := Lib.hid (below_next HB8.out hb (Nat.le_refl _))
        clear hr hb HOK HM HRb2 H0h HB8
        obtain ⟨c0, c1, c2, c3⟩ := H0i.out.cs
        go_wp2_with fail
        refine (arm_at 0 x6 H0i.out.ok H0i.out.m_ f0 s_a1).mono ?_
        rintro e x7 ⟨D4, rfl, hok, hm, hb, hav⟩
        have HRb4 := Keep.mk (HRb3.out.below hb)
        have HRc2 := Keep.mk (HRc.out.below hb)
        have H0j := Keep.mk (H0i.out.below hb)
        have HB10 := Lib.hid (below_next HB9.out hb (Nat.le_refl _))
        have HOK := Keep.mk hok
        have HM := Keep.mk hm
        clear hb hok hm hav c0 c1 c2 c3 HRb3 HRc H0i HB9
        go_wp2_with fail
        refine (block_any 4 4 rfl _).mono ?_
        rintro e x8 ⟨A4, n4, c4, rfl, hr, ha, hb⟩
        have HR4 := Keep.mk hr
        have HOK2 := Keep.mk (HOK.out.below hb)
        have HRb5 := Keep.mk (HRb4.out.below hb)
        have HRc3 := Keep.mk (HRc2.out.below hb)
        have H0k := Keep.mk (H0j.out.below hb)
        have HB11 := Lib.hid (below_next HB10.out hb (Nat.le_refl _))
        clear hr ha hb HOK HRb4 HRc2 H0j HB10
        go_wp2_with fail
        refine (write_at 1 A4 n4 c4 (B64 4) x8 HOK2.out HM.out HR4.out f4 s_w4 (by decide) (by decide)).mono ?_
        rintro e x9 ⟨D5y, rfl, hok, hm, hb, hav⟩
        have HRb6 := Keep.mk ((HRb5.out.below hb).below (below_alloc1 _ (.cells #[.slice D5y.a D5y.n D5y.c, .slice D5y.pa D5y.pn D5y.pc, .int .i64 D5y.left, .bool D5y.down] 25)))
        have HRc4 := Keep.mk ((HRc3.out.below hb).below (below_alloc1 _ (.cells #[.slice D5y.a D5y.n D5y.c, .slice D5y.pa D5y.pn D5y.pc, .int .i64 D5y.left, .bool D5y.down] 25)))
        have H0l := Keep.mk ((H0k.out.below hb).below (below_alloc1 _ (.cells #[.slice D5y.a D5y.n D5y.c, .slice D5y.pa D5y.pn D5y.pc, .int .i64 D5y.left, .bool D5y.down] 25)))
        have HB12 := Lib.hid (below_next (below_next HB11.out hb (Nat.le_refl _)) (below_alloc1 _ (.cells #[.slice D5y.a D5y.n D5y.c, .slice D5y.pa D5y.pn D5y.pc, .int .i64 D5y.left, .bool D5y.down] 25)) (Nat.le_refl _))
        have HY := Keep.mk (BxD.new hok hm)
        clear hb hok hm hav HOK2 HM HR4 HRb5 HRc3 H0k HB11
        go_upto_region 9 with (fail)
        generalize hx10 : x9.alloc (.cells #[.slice D5y.a D5y.n D5y.c, .slice D5y.pa D5y.pn D5y.pc, .int .i64 D5y.left, .bool D5y.down] 25) = x10 at *
        clear hx10
        obtain ⟨c0, c1, c2, c3⟩ := HY.out.cs
        go_wp2_with fail
        refine (flush_at x10 HY.out.ok HY.out.m_ f5 s_f1).mono ?_
        rintro e x11 ⟨D6z, rfl, hok, hm, hb, hav⟩
        have HRb7 := Keep.mk ((HRb6.out.below hb).below (below_alloc1 _ (.cells #[.slice D6z.a D6z.n D6z.c, .slice D6z.pa D6z.pn D6z.pc, .int .i64 D6z.left, .bool D6z.down] 25)))
        have HRc5 := Keep.mk ((HRc4.out.below hb).below (below_alloc1 _ (.cells #[.slice D6z.a D6z.n D6z.c, .slice D6z.pa D6z.pn D6z.pc, .int .i64 D6z.left, .bool D6z.down] 25)))
        have H0m := Keep.mk ((H0l.out.below hb).below (below_alloc1 _ (.cells #[.slice D6z.a D6z.n D6z.c, .slice D6z.pa D6z.pn D6z.pc, .int .i64 D6z.left, .bool D6z.down] 25)))
        have HY2 := Keep.mk ((HY.out.below hb).below (below_alloc1 _ (.cells #[.slice D6z.a D6z.n D6z.c, .slice D6z.pa D6z.pn D6z.pc, .int .i64 D6z.left, .bool D6z.down] 25)))
        have HB13 := Lib.hid (below_next (below_next HB12.out hb (Nat.le_refl _)) (below_alloc1 _ (.cells #[.slice D6z.a D6z.n D6z.c, .slice D6z.pa D6z.pn D6z.pc, .int .i64 D6z.left, .bool D6z.down] 25)) (Nat.le_refl _))
        clear hb hok hm hav HRb6 HRc4 H0l HB12 HY c0 c1 c2 c3
        go_upto_region 10 with (fail)
        generalize hx12 : x11.alloc (.cells #[.slice D6z.a D6z.n D6z.c, .slice D6z.pa D6z.pn D6z.pc, .int .i64 D6z.left, .bool D6z.down] 25) = x12 at *
        clear hx12
        obtain ⟨c0, c1, c2, c3⟩ := HY2.out.cs
        go_wp2_with fail
        refine (crash_at none 0 0 [] x12 HY2.out.ok HY2.out.m_ f5 (RI.none_ _) (fun z hz => by cases hz) s_c2).mono ?_
        rintro e x13 ⟨D7, rfl, hok, hm, hb, hav⟩
        have HRb8 := Keep.mk (HRb7.out.below hb)
        have HRc6 := Keep.mk (HRc5.out.below hb)
        have H0n := Keep.mk (H0m.out.below hb)
        have HY3 := Keep.mk (HY2.out.below hb)
        have HB14 := Lib.hid (below_next HB13.out hb (Nat.le_refl _))
        have HOK := Keep.mk hok
        have HM := Keep.mk hm
        clear hb hok hm hav c0 c1 c2 c3 HRb7 HRc5 H0m HY2 HB13
        go_wp2_with fail
        refine (read_at 1 x13 HOK.out HM.out f0 s_r3).mono ?_
        rintro e x14 ⟨An, nn, cn, rfl, hr, hb⟩
        have HRn := Keep.mk hr
        have HRb9 := Keep.mk (HRb8.out.below hb)
        have HRc7 := Keep.mk (HRc6.out.below hb)
        have H0o := Keep.mk (H0n.out.below hb)
        have HY4 := Keep.mk (HY3.out.below hb)
        have HB15 := Lib.hid (below_next HB14.out hb (Nat.le_refl _))
        clear hr hb HOK HM HRb8 HRc6 H0n HY3 HB14
        have hd0 : ((D0.n : Int) == 2) = true := by
          have h1 := H0o.out.ok.sec.len
          have h2 := congrArg (fun m => m.sectors.length) H0o.out.m_
          simp only [Dk.m, a0, List.length_map, List.length_cons, List.length_nil] at h2
          have : D0.n = 2 := by omega
          rw [this]
          rfl
        have hd1 : D5y.down = true := congrArg Dv.Disk.down HY4.out.m_
        have hd2 : ((D5y.pn : Int) == 1) = true := by
          have h1 := HY4.out.ok.pen.len
          have h2 := congrArg (fun m => m.pending.length) HY4.out.m_
          simp only [Dk.m, a5, List.length_map, List.length_cons, List.length_nil] at h2
          have : D5y.pn = 1 := by omega
          rw [this]
          rfl
        have c0 := H0o.out.bx.cell 0 _ rfl
        go_wp2_with fail
        refine (block_any 2 2 rfl _).mono ?_
        rintro e x15 ⟨A2, n2, c2', rfl, hr, ha, hb⟩
        have HR2 := Keep.mk hr
        have HRb10 := Keep.mk (HRb9.out.below hb)
        have HRc8 := Keep.mk (HRc7.out.below hb)
        have HRn2 := Keep.mk (HRn.out.below hb)
        have HY5 := Keep.mk (HY4.out.below hb)
        have HB16 := Lib.hid (below_next HB15.out hb (Nat.le_refl _))
        clear hr ha hb HRb9 HRc7 HRn HY4 HB15 c0 H0o
        go_wp2_with fail
        refine (sb_true Ab nb cb A2 n2 c2' (B64 2) x15 HRb10.out HR2.out).mono ?_
        rintro e x16 ⟨rfl, k16, hw16⟩
        have hb : Below x15.heap.size x15 x16 := by rw [hw16]; exact below_draws _ _ _
        clear hw16
        have HRc9 := Keep.mk (HRc8.out.below hb)
        have HRn3 := Keep.mk (HRn2.out.below hb)
        have HY6 := Keep.mk (HY5.out.below hb)
        have HB17 := Lib.hid (below_next HB16.out hb (Nat.le_refl _))
        clear hb HRb10 HRc8 HRn2 HY5 HB16 HR2
        go_wp2_with fail
        refine (block_any 1 1 rfl _).mono ?_
        rintro e x17 ⟨A1, n1, c1', rfl, hr, ha, hb⟩
        have HR1 := Keep.mk hr
        have HRc10 := Keep.mk (HRc9.out.below hb)
        have HRn4 := Keep.mk (HRn3.out.below hb)
        have HY7 := Keep.mk (HY6.out.below hb)
        have HB18 := Lib.hid (below_next HB17.out hb (Nat.le_refl _))
        clear hr ha hb HRc9 HRn3 HY6 HB17
        go_wp2_with fail
        refine (sb_true Ac nc cc A1 n1 c1' (B64 1) x17 HRc10.out HR1.out).mono ?_
        rintro e x18 ⟨rfl, k18, hw18⟩
        have hb : Below x17.heap.size x17 x18 := by rw [hw18]; exact below_draws _ _ _
        clear hw18
        have HRn5 := Keep.mk (HRn4.out.below hb)
        have HY8 := Keep.mk (HY7.out.below hb)
        have HB19 := Lib.hid (below_next HB18.out hb (Nat.le_refl _))
        clear hb HRc10 HRn4 HY7 HB18 HR1
        have e1 := HY8.out.bx.cell 1 _ rfl
        have e3 := HY8.out.bx.cell 3 _ rfl
        rw [hd1] at e3
        go_wp2_with fail
        refine (block_any 0 0 rfl _).mono ?_
        rintro e x19 ⟨A0, n0, c0', rfl, hr, ha, hb⟩
        have HR0 := Keep.mk hr
        have HRn6 := Keep.mk (HRn5.out.below hb)
        have HB20 := Lib.hid (below_next HB19.out hb (Nat.le_refl _))
        clear hr ha hb HRn5 HY8 HB19 e1 e3
        go_wp2_with fail
        refine (sb_true An nn cn A0 n0 c0' zs x19 HRn6.out HR0.out).mono ?_
        rintro e x20 ⟨rfl, k20, hw20⟩
        have hb : Below x19.heap.size x19 x20 := by rw [hw20]; exact below_draws _ _ _
        have HB21 := Lib.hid (below_next HB20.out hb (Nat.le_refl _))
        clear hb hw20 HRn6 HR0 HB20
        go_wp2
        go_ret
        exact ⟨rfl, HB21.out⟩
end Go.Proofs.Ytpekbcoclmhcnaa
