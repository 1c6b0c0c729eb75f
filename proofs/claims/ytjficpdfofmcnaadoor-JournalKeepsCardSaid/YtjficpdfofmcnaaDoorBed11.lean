/- The reference of the journal: Append. -/
import Derived.Test.YtjficpdfofmcnaaDoorBed10
import Derived.Test.YtjficpdfofmcnaaDoorBed9
import Derived.RegionTactic
import Derived.Deep.CutBlock
/- The reference's Append: the ways on which it writes nothing. -/
namespace Go.Proofs.YtjficpdfofmcnaaDoor
open Go.RowKit Go.Joins

/-- The boxes of the reference's Append. -/
structure ApR (w : World) (b : Nat) (j : Jk) : Prop where
  j : BxJ w b j
  o : Bx w (b + 1) [.slice none 0 0, .slice none 0 0, .int .i64 0, .bool false, .int .i64 0, .int .i64 0, .int .i64 0]
theorem ApR.below {w w' : World} {b : Nat} {j : Jk} (h : ApR w b j) (hb : Below w.heap.size w w') : ApR w' b j := ⟨h.j.below hb, h.o.below hb⟩
theorem ApR.new {w : World} {j : Jk} (h : j.d.Ok w) : ApR ((w.alloc (.cells #[.slice j.d.a j.d.n j.d.c, .slice j.d.pa j.d.pn j.d.pc, .int .i64 j.d.left, .bool j.d.down, .int .i64 j.e, .int .i64 j.h, .int .i64 j.c] 32)).alloc (.cells #[.slice none 0 0, .slice none 0 0, .int .i64 0, .bool false, .int .i64 0, .int .i64 0, .int .i64 0] 32)) w.heap.size j := by
  have h2 := Bx.new (w.alloc (.cells #[.slice j.d.a j.d.n j.d.c, .slice j.d.pa j.d.pn j.d.pc, .int .i64 j.d.left, .bool j.d.down, .int .i64 j.e, .int .i64 j.h, .int .i64 j.c] 32)) [.slice none 0 0, .slice none 0 0, .int .i64 0, .bool false, .int .i64 0, .int .i64 0, .int .i64 0] 32
  rw [World.size_alloc] at h2
  exact ⟨(BxJ.new h).below (below_alloc1 _ _), h2⟩

set_option maxHeartbeats 2000000 in
set_option maxRecDepth 100000 in
theorem rappend_wrong (j : Jk) (A : Option Addr) (n c : Nat) (l : List UInt8) (w : World) (h : j.d.Ok w) (hns : j.d.n ≤ 4096) (hH : V.In j.h) (hw : j.m.wrong = true) :
    Calls Tryd.prog 25 #[.agg #[.slice j.d.a j.d.n j.d.c, .slice j.d.pa j.d.pn j.d.pc, .int .i64 j.d.left, .bool j.d.down, .int .i64 j.e, .int .i64 j.h, .int .i64 j.c], .slice A n c] w (RetJE w j.d.Av (j.m.append l)) := by
  have HSE : Keep (j.m.append l = (Jl.zero, 1)) := ⟨by unfold Jl.append; rw [if_pos hw]⟩
  have AX := Keep.mk (ApR.new h)
  have HB0 : Hid (Below w.heap.size w ((w.alloc (.cells #[.slice j.d.a j.d.n j.d.c, .slice j.d.pa j.d.pn j.d.pc, .int .i64 j.d.left, .bool j.d.down, .int .i64 j.e, .int .i64 j.h, .int .i64 j.c] 32)).alloc (.cells #[.slice none 0 0, .slice none 0 0, .int .i64 0, .bool false, .int .i64 0, .int .i64 0, .int .i64 0] 32))) := (below_alloc1 _ _).alloc (by simp) _
  have CW := Keep.mk (fun (X : World) (hX : Below w.heap.size w X) => right_any j X (h.below hX) hns hH)
  rw [hw] at CW
  clear h hw
  go_enter Tryd.func25, Tryd.ntmps25
  go_upto_region 1 with (fail)
  generalize e4 : (w.alloc (.cells #[.slice j.d.a j.d.n j.d.c, .slice j.d.pa j.d.pn j.d.pc, .int .i64 j.d.left, .bool j.d.down, .int .i64 j.e, .int .i64 j.h, .int .i64 j.c] 32)).alloc (.cells #[.slice none 0 0, .slice none 0 0, .int .i64 0, .bool false, .int .i64 0, .int .i64 0, .int .i64 0] 32) = w1 at *
  clear e4
  obtain ⟨i0, i1, i2, i3, i4, i5, i6⟩ := AX.out.j.cs
  go_wp2_with fail
  refine (CW.out _ HB0.out).mono ?_
  rintro e w2 ⟨rfl, hb⟩
  have HB2 := Lib.hid (below_next HB0.out hb (Nat.le_refl _))
  have AX2 := Keep.mk (AX.out.below hb)
  clear hb i0 i1 i2 i3 i4 i5 i6 AX HB0
  have o0 := AX2.out.o.cell 0 _ rfl
  have o1 := AX2.out.o.cell 1 _ rfl
  have o2 := AX2.out.o.cell 2 _ rfl
  have o3 := AX2.out.o.cell 3 _ rfl
  have o4 := AX2.out.o.cell 4 _ rfl
  have o5 := AX2.out.o.cell 5 _ rfl
  have o6 := AX2.out.o.cell 6 _ rfl
  have of := AX2.out.o.fz
  go_wp2
  refine bodyPost_ret (v := .tuple #[.agg #[.slice none 0 0, .slice none 0 0, .int .i64 0, .bool false, .int .i64 0, .int .i64 0, .int .i64 0], .int .i64 1]) (by simp [results, Tryd.results25, go_sem, o0, o1, o2, o3, o4, o5, o6]) rfl ?_
  exact .no HSE.out (HB2.out.trans ((off_set7 w2 (w.heap.size + 1) _ _ _ _ _ _ _).below HB2.out.size (by simp)))

set_option maxHeartbeats 2000000 in
set_option maxRecDepth 100000 in
theorem rappend_full (j : Jk) (A : Option Addr) (n c : Nat) (l : List UInt8) (w : World) (h : j.d.Ok w) (hns : j.d.n ≤ 4096) (hH : V.In j.h) (hl : RB w A n c l) (hw : j.m.wrong = false) (hf : j.m.free < (l.length : Int)) :
    Calls Tryd.prog 25 #[.agg #[.slice j.d.a j.d.n j.d.c, .slice j.d.pa j.d.pn j.d.pc, .int .i64 j.d.left, .bool j.d.down, .int .i64 j.e, .int .i64 j.h, .int .i64 j.c], .slice A n c] w (RetJE w j.d.Av (j.m.append l)) := by
  have HSE : Keep (j.m.append l = (Jl.zero, 18)) := ⟨by unfold Jl.append; rw [if_neg (by rw [hw]; decide), if_pos hf]⟩
  have AX := Keep.mk (ApR.new h)
  have HB0 : Hid (Below w.heap.size w ((w.alloc (.cells #[.slice j.d.a j.d.n j.d.c, .slice j.d.pa j.d.pn j.d.pc, .int .i64 j.d.left, .bool j.d.down, .int .i64 j.e, .int .i64 j.h, .int .i64 j.c] 32)).alloc (.cells #[.slice none 0 0, .slice none 0 0, .int .i64 0, .bool false, .int .i64 0, .int .i64 0, .int .i64 0] 32))) := (below_alloc1 _ _).alloc (by simp) _
  have CW := Keep.mk (fun (X : World) (hX : Below w.heap.size w X) => right_any j X (h.below hX) hns hH)
  have CF := Keep.mk (fun (X : World) (hX : Below w.heap.size w X) => rfree_any j X (h.below hX) hns hH)
  rw [hw] at CW
  have hln := hl.len
  have b0 : decide (j.m.free < (n : Int)) = true := decide_eq_true (by omega)
  generalize j.m.free = fr at *
  clear h hw hf hl hln
  go_enter Tryd.func25, Tryd.ntmps25
  go_upto_region 1 with (fail)
  generalize e4 : (w.alloc (.cells #[.slice j.d.a j.d.n j.d.c, .slice j.d.pa j.d.pn j.d.pc, .int .i64 j.d.left, .bool j.d.down, .int .i64 j.e, .int .i64 j.h, .int .i64 j.c] 32)).alloc (.cells #[.slice none 0 0, .slice none 0 0, .int .i64 0, .bool false, .int .i64 0, .int .i64 0, .int .i64 0] 32) = w1 at *
  clear e4
  obtain ⟨i0, i1, i2, i3, i4, i5, i6⟩ := AX.out.j.cs
  go_wp2_with fail
  refine (CW.out _ HB0.out).mono ?_
  rintro e w2 ⟨rfl, hb⟩
  have HB2 := Lib.hid (below_next HB0.out hb (Nat.le_refl _))
  have AX2 := Keep.mk (AX.out.below hb)
  clear hb i0 i1 i2 i3 i4 i5 i6 AX HB0
  obtain ⟨i0, i1, i2, i3, i4, i5, i6⟩ := AX2.out.j.cs
  go_wp2_with fail
  refine (CF.out _ HB2.out).mono ?_
  rintro e w3 ⟨rfl, hb⟩
  have HB3 := Lib.hid (below_next HB2.out hb (Nat.le_refl _))
  have AX3 := Keep.mk (AX2.out.below hb)
  clear hb i0 i1 i2 i3 i4 i5 i6 AX2 HB2
  have o0 := AX3.out.o.cell 0 _ rfl
  have o1 := AX3.out.o.cell 1 _ rfl
  have o2 := AX3.out.o.cell 2 _ rfl
  have o3 := AX3.out.o.cell 3 _ rfl
  have o4 := AX3.out.o.cell 4 _ rfl
  have o5 := AX3.out.o.cell 5 _ rfl
  have o6 := AX3.out.o.cell 6 _ rfl
  have of := AX3.out.o.fz
  go_wp2
  refine bodyPost_ret (v := .tuple #[.agg #[.slice none 0 0, .slice none 0 0, .int .i64 0, .bool false, .int .i64 0, .int .i64 0, .int .i64 0], .int .i64 18]) (by simp [results, Tryd.results25, go_sem, o0, o1, o2, o3, o4, o5, o6]) rfl ?_
  exact .no HSE.out (HB3.out.trans ((off_set7 w3 (w.heap.size + 1) _ _ _ _ _ _ _).below HB3.out.size (by simp)))

set_option maxHeartbeats 2000000 in
set_option maxRecDepth 100000 in
theorem rappend_down (j : Jk) (A : Option Addr) (n c : Nat) (l : List UInt8) (w : World) (h : j.d.Ok w) (hns : j.d.n ≤ 4096) (hH : V.In j.h) (hl : RB w A n c l) (hw : j.m.wrong = false) (hf : ¬ j.m.free < (l.length : Int)) (hd : j.d.down = true) :
    Calls Tryd.prog 25 #[.agg #[.slice j.d.a j.d.n j.d.c, .slice j.d.pa j.d.pn j.d.pc, .int .i64 j.d.left, .bool j.d.down, .int .i64 j.e, .int .i64 j.h, .int .i64 j.c], .slice A n c] w (RetJE w j.d.Av (j.m.append l)) := by
  have HSE : Keep (j.m.append l = (j.m, 23)) := ⟨by unfold Jl.append; rw [if_neg (by rw [hw]; decide), if_neg hf, if_pos (show j.m.d.down = true from hd)]⟩
  have AX := Keep.mk (ApR.new h)
  have HB0 : Hid (Below w.heap.size w ((w.alloc (.cells #[.slice j.d.a j.d.n j.d.c, .slice j.d.pa j.d.pn j.d.pc, .int .i64 j.d.left, .bool j.d.down, .int .i64 j.e, .int .i64 j.h, .int .i64 j.c] 32)).alloc (.cells #[.slice none 0 0, .slice none 0 0, .int .i64 0, .bool false, .int .i64 0, .int .i64 0, .int .i64 0] 32))) := (below_alloc1 _ _).alloc (by simp) _
  have CW := Keep.mk (fun (X : World) (hX : Below w.heap.size w X) => right_any j X (h.below hX) hns hH)
  have CF := Keep.mk (fun (X : World) (hX : Below w.heap.size w X) => rfree_any j X (h.below hX) hns hH)
  rw [hw] at CW
  have hln := hl.len
  have b0 : decide (j.m.free < (n : Int)) = false := decide_eq_false (by omega)
  have HD := Keep.mk hd
  have HOK := Keep.mk h
  generalize j.m.free = fr at *
  clear h hw hf hl hln hd
  go_enter Tryd.func25, Tryd.ntmps25
  go_upto_region 1 with (fail)
  generalize e4 : (w.alloc (.cells #[.slice j.d.a j.d.n j.d.c, .slice j.d.pa j.d.pn j.d.pc, .int .i64 j.d.left, .bool j.d.down, .int .i64 j.e, .int .i64 j.h, .int .i64 j.c] 32)).alloc (.cells #[.slice none 0 0, .slice none 0 0, .int .i64 0, .bool false, .int .i64 0, .int .i64 0, .int .i64 0] 32) = w1 at *
  clear e4
  obtain ⟨i0, i1, i2, i3, i4, i5, i6⟩ := AX.out.j.cs
  go_wp2_with fail
  refine (CW.out _ HB0.out).mono ?_
  rintro e w2 ⟨rfl, hb⟩
  have HB2 := Lib.hid (below_next HB0.out hb (Nat.le_refl _))
  have AX2 := Keep.mk (AX.out.below hb)
  clear hb i0 i1 i2 i3 i4 i5 i6 AX HB0
  obtain ⟨i0, i1, i2, i3, i4, i5, i6⟩ := AX2.out.j.cs
  go_wp2_with fail
  refine (CF.out _ HB2.out).mono ?_
  rintro e w3 ⟨rfl, hb⟩
  have HB3 := Lib.hid (below_next HB2.out hb (Nat.le_refl _))
  have AX3 := Keep.mk (AX2.out.below hb)
  clear hb i0 i1 i2 i3 i4 i5 i6 AX2 HB2 CW CF
  obtain ⟨i0, i1, i2, i3, i4, i5, i6⟩ := AX3.out.j.cs
  have hz3 := HB3.out.size
  have AX4 := Keep.mk (AX3.out.below (below_alloc1 w3 (.cells #[.slice j.d.a j.d.n j.d.c, .slice j.d.pa j.d.pn j.d.pc, .int .i64 j.d.left, .bool j.d.down] 25)))
  have BD := Keep.mk (Bx.new w3 [.slice j.d.a j.d.n j.d.c, .slice j.d.pa j.d.pn j.d.pc, .int .i64 j.d.left, .bool j.d.down] 25)
  have HB4 : Hid (Below w.heap.size w (w3.alloc (.cells #[.slice j.d.a j.d.n j.d.c, .slice j.d.pa j.d.pn j.d.pc, .int .i64 j.d.left, .bool j.d.down] 25))) := HB3.out.alloc hz3 _
  rw [HD.out] at i3 AX4 BD HB4
  go_upto_region 6 with (fail)
  generalize e5 : w3.alloc (.cells #[.slice j.d.a j.d.n j.d.c, .slice j.d.pa j.d.pn j.d.pc, .int .i64 j.d.left, .bool true] 25) = w4 at *
  clear e5 i0 i1 i2 i3 i4 i5 i6 AX3 HB3
  have d3 := BD.out.cell 3 _ rfl
  obtain ⟨i0, i1, i2, i3, i4, i5, i6⟩ := AX4.out.j.cs
  have o0 := AX4.out.o.cell 0 _ rfl
  have o1 := AX4.out.o.cell 1 _ rfl
  have o2 := AX4.out.o.cell 2 _ rfl
  have o3 := AX4.out.o.cell 3 _ rfl
  have o4 := AX4.out.o.cell 4 _ rfl
  have o5 := AX4.out.o.cell 5 _ rfl
  have o6 := AX4.out.o.cell 6 _ rfl
  have of := AX4.out.o.fz
  go_wp2
  refine bodyPost_ret (v := .tuple #[.agg #[.slice j.d.a j.d.n j.d.c, .slice j.d.pa j.d.pn j.d.pc, .int .i64 j.d.left, .bool j.d.down, .int .i64 j.e, .int .i64 j.h, .int .i64 j.c], .int .i64 23]) (by simp [results, Tryd.results25, go_sem, o0, o1, o2, o3, o4, o5, o6]) rfl ?_
  have hof := off_set7 w4 (w.heap.size + 1) (.slice j.d.a j.d.n j.d.c) (.slice j.d.pa j.d.pn j.d.pc) (.int .i64 j.d.left) (.bool j.d.down) (.int .i64 j.e) (.int .i64 j.h) (.int .i64 j.c)
  rw [HSE.out]
  exact ⟨j, rfl, (HOK.out.below HB4.out).off hof (fun b hb => by simp only [List.mem_singleton] at hb; rw [hb]; exact HOK.out.av (by omega)), rfl, HB4.out.trans (hof.below HB4.out.size (by simp)), fun b hb h => h⟩
end Go.Proofs.YtjficpdfofmcnaaDoor

/- The reference's Append: the way on which it writes. -/
namespace Go.Proofs.YtjficpdfofmcnaaDoor
open Go.RowKit Go.Joins

/-- As long as there is no error the device is up and has its sectors. -/
def Jn.Up (ns : Nat) (s : Dv.Disk × Int) : Prop := s.2 = 0 → s.1.down = false ∧ s.1.sectors.length = ns
theorem up_ww {ns : Nat} {s : Dv.Disk × Int} (h : Jn.Up ns s) (i : Int) (l : List UInt8) : Jn.Up ns (Jn.ww s i l) := by
  unfold Jn.ww
  split
  · rename_i hk
    have h1 := h hk
    intro h0
    rcases Dv.write_cases s.1 i l with ⟨h2, e⟩ | ⟨_, _, e⟩ | ⟨_, _, _, e⟩ | ⟨_, _, _, _, e⟩ | ⟨_, _, _, _, e⟩ <;> rw [e] at h0 ⊢
    · simp at h0
    · simp at h0
    · simp at h0
    · simp at h0
    · exact ⟨rfl, h1.2⟩
  · exact h
theorem wf_up {ns : Nat} {s : Dv.Disk × Int} (h : Jn.Up ns s) (hk : s.2 = 0) : (Jn.wf s).2 = 0 := by
  unfold Jn.wf Dv.flush
  rw [if_pos hk, if_neg (by rw [(h hk).1]; decide)]
theorem up_wf {ns : Nat} {s : Dv.Disk × Int} (h : Jn.Up ns s) : Jn.Up ns (Jn.wf s) := by
  intro h0
  unfold Jn.wf at h0 ⊢
  split
  · rename_i hk
    unfold Dv.flush
    rw [if_neg (by rw [(h hk).1]; decide)]
    exact ⟨rfl, by simp only [Dv.settle_length]; exact (h hk).2⟩
  · rename_i hk
    rw [if_neg hk] at h0
    exact absurd h0 hk
theorem up_pcs {ns : Nat} {l : List UInt8} {F : Int} {s : Dv.Disk × Int} (h : Jn.Up ns s) : ∀ i, Jn.Up ns (Jn.pcs l F s i)
  | 0 => h
  | i + 1 => up_ww (up_pcs h i) _ _
theorem pcs_stay {l : List UInt8} {F : Int} {s : Dv.Disk × Int} {k : Nat} (h : (Jn.pcs l F s k).2 ≠ 0) : ∀ i, k ≤ i → Jn.pcs l F s i = Jn.pcs l F s k
  | 0, hi => by obtain rfl : k = 0 := by omega
                rfl
  | i + 1, hi => by
    by_cases hk : k = i + 1
    · subst hk; rfl
    · have ih := pcs_stay h i (by omega)
      conv => lhs; unfold Jn.pcs
      rw [ih, ww_stay h]
theorem apE_stay {ns : Nat} {i : Int} {s : Dv.Disk × Int} (h : s.2 ≠ 0) : Jn.apE ns i s = s := by unfold Jn.apE; rw [ww_stay h, ite_self]

/-- Where the reference's device lies: its box behind the journal's box and the result's. -/
structure RA (w0 X : World) (bd : Nat) (j : Jk) (s : Dv.Disk × Int) (D : Dk) : Prop where
  bx : BxK X bd D
  m : D.m = s.1
  jx : Bx X w0.heap.size [.slice j.d.a j.d.n j.d.c, .slice j.d.pa j.d.pn j.d.pc, .int .i64 j.d.left, .bool j.d.down, .int .i64 j.e, .int .i64 j.h, .int .i64 j.c]
  ox : Bx X (w0.heap.size + 1) [.slice none 0 0, .slice none 0 0, .int .i64 0, .bool false, .int .i64 0, .int .i64 0, .int .i64 0]
  av : D.Av bd
  av1 : D.Av w0.heap.size
  av2 : D.Av (w0.heap.size + 1)
  bel : Below w0.heap.size w0 X
  avd : ∀ t, t < w0.heap.size → j.d.Av t → D.Av t
  lt : w0.heap.size + 1 < bd
theorem RA.below {w0 X Y : World} {bd : Nat} {j : Jk} {s : Dv.Disk × Int} {D : Dk} (h : RA w0 X bd j s D) (hb : Below X.heap.size X Y) : RA w0 Y bd j s D :=
  ⟨h.bx.below hb, h.m, h.jx.below hb, h.ox.below hb, h.av, h.av1, h.av2, below_next h.bel hb (Nat.le_refl _), h.avd, h.lt⟩
theorem RA.bdlt {w0 X : World} {bd : Nat} {j : Jk} {s : Dv.Disk × Int} {D : Dk} (h : RA w0 X bd j s D) : bd < X.heap.size := h.bx.bx.lt
theorem RA.store {w0 X wn : World} {bd : Nat} {j : Jk} {s s' : Dv.Disk × Int} {D D' : Dk} (h : RA w0 X bd j s D) (hb : Below X.heap.size X wn) (hok : D'.Ok wn) (hm : D'.m = s'.1) (hav : ∀ b, b < X.heap.size → D.Av b → D'.Av b) :
    RA w0 (((((wn.setCell ⟨bd, 0, none⟩ (.slice D'.a D'.n D'.c)).setCell ⟨bd, 1, none⟩ (.slice D'.pa D'.pn D'.pc)).setCell ⟨bd, 2, none⟩ (.int .i64 D'.left)).setCell ⟨bd, 3, none⟩ (.bool D'.down))) bd j s' D' := by
  have hn := h.below hb
  have hof := off_set4 wn bd (.slice D'.a D'.n D'.c) (.slice D'.pa D'.pn D'.pc) (.int .i64 D'.left) (.bool D'.down)
  have h1 := h.bdlt
  have h2 := h.lt
  have hav0 := hav _ h1 h.av
  exact ⟨⟨hn.bx.bx.set4 _ _ _ _, hok.off hof (fun t ht => by simp only [List.mem_singleton] at ht; rw [ht]; exact hav0)⟩, hm, hn.jx.off hof (by simp; omega), hn.ox.off hof (by simp; omega), hav0, hav _ (by omega) h.av1, hav _ (by omega) h.av2, hn.bel.trans (hof.below hn.bel.size (by simp; omega)), fun t ht h0 => hav t (by omega) (h.avd t ht h0), h2⟩

set_option maxHeartbeats 40000000 in
set_option maxRecDepth 100000 in
theorem rappend_main (j : Jk) (A : Option Addr) (n c : Nat) (l : List UInt8) (w : World) (h : j.d.Ok w) (hns : j.d.n ≤ 4096) (hH : V.In j.h) (hl : RB w A n c l) (hw : j.m.wrong = false) (hf : ¬ j.m.free < (l.length : Int)) (hd : j.d.down = false) (K : Nat) (hfit : WS K (j.d.m, 0)) (hK : K ≤ 900) (hlen : l.length ≤ 3000) :
    Calls Tryd.prog 25 #[.agg #[.slice j.d.a j.d.n j.d.c, .slice j.d.pa j.d.pn j.d.pc, .int .i64 j.d.left, .bool j.d.down, .int .i64 j.e, .int .i64 j.h, .int .i64 j.c], .slice A n c] w (RetJE w j.d.Av (j.m.append l)) := by
  have HSE : Keep (j.m.append l = Jl.put (Jn.apW j.d.m j.e j.c (j.h / 64) l) j.e j.h j.c (Jn.sectors l.length : Int)) := ⟨by unfold Jl.append; rw [if_neg (by rw [hw]; decide), if_neg hf, if_neg (show ¬ j.m.d.down = true from by rw [show j.m.d.down = false from hd]; decide)]; rfl⟩
  have HF := Keep.mk hfit
  have HL := Keep.mk hl
  have hdl := dk_len h
  have HDL := Keep.mk hdl
  have HUP : Keep (Jn.Up j.d.n (j.d.m, 0)) := ⟨fun _ => ⟨hd, hdl⟩⟩
  have hdm : (j.m.d.sectors.length : Int) = (j.d.n : Int) := by unfold Jk.m; simp only; omega
  have hno := wrong_no hw
  rw [hdm] at hno
  have hp : 64 ≤ j.h := by have := hno.2.2.2.2.1; simp only [Jk.m] at this; omega
  have hq : j.h ≤ 64 * (j.d.n : Int) := by have := hno.2.2.2.2.2.1; simp only [Jk.m] at this; omega
  have hmod : j.h / 64 * 64 = j.h := by have := hno; simp only [Jk.m] at this; omega
  have he0 : 1 ≤ j.e ∧ j.e ≤ 1073741824 ∧ 0 ≤ j.c ∧ j.c ≤ 1073741824 := by have := hno; simp only [Jk.m] at this; omega
  have HE := Keep.mk he0
  have AX := Keep.mk (ApR.new h)
  have HB0 : Hid (Below w.heap.size w ((w.alloc (.cells #[.slice j.d.a j.d.n j.d.c, .slice j.d.pa j.d.pn j.d.pc, .int .i64 j.d.left, .bool j.d.down, .int .i64 j.e, .int .i64 j.h, .int .i64 j.c] 32)).alloc (.cells #[.slice none 0 0, .slice none 0 0, .int .i64 0, .bool false, .int .i64 0, .int .i64 0, .int .i64 0] 32))) := (below_alloc1 _ _).alloc (by simp) _
  have CW := Keep.mk (fun (X : World) (hX : Below w.heap.size w X) => right_any j X (h.below hX) hns hH)
  have CF := Keep.mk (fun (X : World) (hX : Below w.heap.size w X) => rfree_any j X (h.below hX) hns hH)
  rw [hw] at CW
  have hln := hl.len
  have b0 : decide (j.m.free < (n : Int)) = false := decide_eq_false (by omega)
  have HD := Keep.mk hd
  have HOK := Keep.mk h
  generalize j.m.free = fr at *
  clear h hw hf hl hd hfit hdl hdm hno he0
  go_enter Tryd.func25, Tryd.ntmps25
  go_upto_region 1 with (fail)
  generalize e4 : (w.alloc (.cells #[.slice j.d.a j.d.n j.d.c, .slice j.d.pa j.d.pn j.d.pc, .int .i64 j.d.left, .bool j.d.down, .int .i64 j.e, .int .i64 j.h, .int .i64 j.c] 32)).alloc (.cells #[.slice none 0 0, .slice none 0 0, .int .i64 0, .bool false, .int .i64 0, .int .i64 0, .int .i64 0] 32) = w1 at *
  clear e4
  obtain ⟨i0, i1, i2, i3, i4, i5, i6⟩ := AX.out.j.cs
  go_wp2_with fail
  refine (CW.out _ HB0.out).mono ?_
  rintro e w2 ⟨rfl, hb⟩
  have HB2 := Lib.hid (below_next HB0.out hb (Nat.le_refl _))
  have AX2 := Keep.mk (AX.out.below hb)
  clear hb i0 i1 i2 i3 i4 i5 i6 AX HB0
  obtain ⟨i0, i1, i2, i3, i4, i5, i6⟩ := AX2.out.j.cs
  go_wp2_with fail
  refine (CF.out _ HB2.out).mono ?_
  rintro e w3 ⟨rfl, hb⟩
  have HB3 := Lib.hid (below_next HB2.out hb (Nat.le_refl _))
  have AX3 := Keep.mk (AX2.out.below hb)
  clear hb i0 i1 i2 i3 i4 i5 i6 AX2 HB2 CW CF
  obtain ⟨i0, i1, i2, i3, i4, i5, i6⟩ := AX3.out.j.cs
  have hz3 := HB3.out.size
  have hol := AX3.out.o.lt
  have RA4 : Keep (RA w (w3.alloc (.cells #[.slice j.d.a j.d.n j.d.c, .slice j.d.pa j.d.pn j.d.pc, .int .i64 j.d.left, .bool j.d.down] 25)) w3.heap.size j (j.d.m, 0) j.d) := ⟨by
    have hj := AX3.out.below (below_alloc1 w3 (.cells #[.slice j.d.a j.d.n j.d.c, .slice j.d.pa j.d.pn j.d.pc, .int .i64 j.d.left, .bool j.d.down] 25))
    exact ⟨⟨Bx.new w3 [.slice j.d.a j.d.n j.d.c, .slice j.d.pa j.d.pn j.d.pc, .int .i64 j.d.left, .bool j.d.down] 25, (HOK.out.below HB3.out).below (below_alloc1 _ _)⟩, rfl, hj.j.bx, hj.o, (HOK.out.below HB3.out).av (Nat.le_refl _), HOK.out.av (Nat.le_refl _), HOK.out.av (by omega), HB3.out.alloc hz3 _, fun t _ h => h, by omega⟩⟩
  rw [HD.out] at i3 RA4
  go_upto_region 6 with (fail)
  generalize e5 : w3.alloc (.cells #[.slice j.d.a j.d.n j.d.c, .slice j.d.pa j.d.pn j.d.pc, .int .i64 j.d.left, .bool false] 25) = w4 at *
  clear e5 i0 i1 i2 i3 i4 i5 i6 AX3 HB3
  obtain ⟨d0, d1, d2, d3⟩ := RA4.out.bx.cs
  have j5 := RA4.out.jx.cell 5 _ rfl
  rw [HD.out] at d3
  obtain ⟨F, hF⟩ : ∃ F, F = j.h / 64 := ⟨_, rfl⟩
  have hF1 : 1 ≤ F := by omega
  have hF2 : F ≤ 4096 := by omega
  have HFF := Keep.mk hF
  go_upto_region 9 with (fail)
  rw [← hF]
  rw [← hF] at hmod
  clear hF d0 d1 d2 d3 j5
  obtain ⟨N, hN⟩ : ∃ N, N = Jn.sectors n := ⟨_, rfl⟩
  have hN2 : N ≤ 48 := by rw [hN]; unfold Jn.sectors; omega
  have hN3 : N * 63 < n + 63 := by rw [hN]; exact Jn.sectors_lt n
  have hN4 : n ≤ N * 63 := by rw [hN]; exact Jn.sectors_le n
  have HN := Keep.mk hN
  have HLN := Keep.mk hln
  have hl3 : n ≤ 3000 := by omega
  have hcap := HL.out.cap
  clear hN hlen
  generalize hbd : w3.heap.size = bd at *
  clear hbd
  have RA4' : Keep (RA w w4 bd j (j.d.m, 0) j.d) := ⟨RA4.out⟩
  have HUN : Keep (Jn.Up j.d.n (Jn.pcs l F (j.d.m, 0) N)) := ⟨up_pcs HUP.out N⟩
  have HWN : Keep (WS (K + N) (Jn.pcs l F (j.d.m, 0) N)) := ⟨pcs_ws HF.out N⟩
  obtain ⟨sN, hsN⟩ : ∃ s, s = Jn.pcs l F (j.d.m, 0) N := ⟨_, rfl⟩
  rw [← hsN] at HUN HWN
  have HSN := Keep.mk hsN
  clear hsN RA4
  go_upto_block 0 with (fail)
  go_cut [8, 9, 10] from 31 to 57 (fun s8 s9 s10 X => ∃ (q v10 : Int) (D : Dk), s8 = .int .i64 q ∧ s9 = .int .i64 sN.2 ∧ s10 = .int .i64 v10 ∧ (sN.2 = 0 → q = F + 1 + (N : Int)) ∧ RA w X bd j sN D)
  case first =>
    go_wp2_with fail
    go_loopw [8, 9, 10] (fun v8 v9 v10 wr => ∃ (k : Nat) (D : Dk), k ≤ N ∧ v8 = .int .i64 (F + 1 + (k : Int)) ∧ v9 = .int .i64 (Jn.pcs l F (j.d.m, 0) k).2 ∧ v10 = .int .i64 ((k : Int) * 63) ∧ Keep (RA w wr bd j (Jn.pcs l F (j.d.m, 0) k) D)) (fun _ _ v10 _ => N * 63 + 63 - (intOf v10).toNat)
    case atStart => exact ⟨0, j.d, Nat.zero_le _, by simp, rfl, by simp, RA4'⟩
    case round =>
      clear RA4'
      obtain ⟨k, D, hk, rfl, rfl, rfl, HR⟩ := hrel
      have HWS : Keep (WS (K + k) (Jn.pcs l F (j.d.m, 0) k)) := ⟨pcs_ws HF.out k⟩
      have HU : Keep (Jn.Up j.d.n (Jn.pcs l F (j.d.m, 0) k)) := ⟨up_pcs HUP.out k⟩
      have HNX : Keep (Jn.pcs l F (j.d.m, 0) (k + 1) = Jn.ww (Jn.pcs l F (j.d.m, 0) k) (F + 1 + (k : Int)) (Jn.sec 2 (Jn.piece l k))) := ⟨rfl⟩
      have HST : Keep ((Jn.pcs l F (j.d.m, 0) k).2 ≠ 0 → sN = Jn.pcs l F (j.d.m, 0) k) := ⟨fun h => by rw [HSN.out]; exact pcs_stay h N hk⟩
      by_cases hs : (Jn.pcs l F (j.d.m, 0) k).2 = 0
      · have g0 : ((Jn.pcs l F (j.d.m, 0) k).2 == 0) = true := by simp [hs]
        by_cases hkN : k < N
        · have g1 : decide ((k : Int) * 63 < (n : Int)) = true := decide_eq_true (by omega)
          obtain ⟨s1, hs1⟩ : ∃ s1, s1 = Jn.pcs l F (j.d.m, 0) k := ⟨_, rfl⟩
          rw [← hs1] at HR HWS HU HNX hs g0
          try rw [← hs1]
          have HZ := Keep.mk hs
          clear hs1 hs HST
          obtain ⟨s2, hs2⟩ : ∃ s, s = Jn.ww s1 (F + 1 + (k : Int)) (Jn.sec 2 (Jn.piece l k)) := ⟨_, rfl⟩
          have HWs2 := Keep.mk (HWS.out.write (F + 1 + (k : Int)) (Jn.sec 2 (Jn.piece l k)))
          have CW := Keep.mk (fun (Y : World) (hY : Below wr.heap.size wr Y) (Ab : Option Addr) (nb cb : Nat) (hr : RB Y Ab nb cb (Jn.sec 2 (Jn.piece l k))) => rwrite_at (F + 1 + (k : Int)) Ab nb cb _ (HR.out.below hY).bx.ok HR.out.m HZ.out hr HWS.out (by omega))
          rw [← hs2] at HWs2 CW HNX
          clear hs2
          obtain ⟨m, hm⟩ : ∃ m, m = min (k * 63 + 63) n := ⟨_, rfl⟩
          have hmi : (if (n : Int) < (k : Int) * 63 + 63 then (n : Int) else (k : Int) * 63 + 63) = (m : Int) := by split <;> omega
          have hw1 : IntKind.i64.wrap ((k : Int) * 63 + 63) = (k : Int) * 63 + 63 := IntWalk.i64_in _ ⟨by omega, by omega⟩
          have hcut' := fun (X : World) => run_cut_b A n c (k * 63) m ((k : Int) * 63) (m : Int) (by omega) rfl (by omega) (by omega) X
          have HPC : Keep (RB w (cutA A (k * 63) c 1) (m - k * 63) (c - k * 63) (Jn.piece l k)) := ⟨by unfold Jn.piece; rw [HLN.out, show (k + 1) * 63 = k * 63 + 63 by omega, ← hm]; exact rb_mid HL.out (by omega) (by omega)⟩
          have CSEC : Keep (∀ Y : World, Below wr.heap.size wr Y → Calls Tryd.prog 51 #[.int .u8 2, .slice (cutA A (k * 63) c 1) (m - k * 63) (c - k * 63)] Y (RetB Y (Jn.sec 2 (Jn.piece l k)))) := ⟨fun Y hY => rsector_any 2 2 rfl _ _ _ _ Y (HPC.out.below (below_next HR.out.bel hY (Nat.le_refl _))) (Jn.piece_length _ _)⟩
          clear hm
          go_upto_region 14 with (fail)
          go_cut [9] from 31 to 57 (fun s9 X => ∃ D1, s9 = .int .i64 s2.2 ∧ RA w X bd j s2 D1)
          case first =>
            obtain ⟨c0, c1, c2, c3⟩ := HR.out.bx.cs
            have hwu := HR.out.bdlt
            go_region_with (first
              | (go_at_call 51; ((refine (CSEC.out _ (below_draws _ _ 1)).mono ?_); rintro e wb ⟨Ab, nb, cb, rfl, hr, hb⟩; have HRB := Keep.mk hr; have HDB : Hid (Below wr.heap.size wr wb) := below_next (below_draws _ _ 1) hb (Nat.le_refl _); obtain ⟨d0, d1, d2, d3⟩ := (HR.out.below HDB.out).bx.cs; clear hr hb))
              | (go_at_call 50; ((refine (CW.out _ HDB.out Ab nb cb HRB.out).mono ?_); rintro e wn ⟨D1, rfl, hok, hm, hb, hav⟩; have HDN : Hid (Below wr.heap.size wr wn) := below_next HDB.out hb (Nat.le_refl _); have HOK1 := Keep.mk hok; have HM := Keep.mk hm; have HAV := Keep.mk hav; have H5n := Keep.mk (HR.out.below HDN.out); have e0 := H5n.out.bx.bx.cell 0 _ rfl; have e1 := H5n.out.bx.bx.cell 1 _ rfl; have e2 := H5n.out.bx.bx.cell 2 _ rfl; have e3 := H5n.out.bx.bx.cell 3 _ rfl; have ef := H5n.out.bx.bx.fz; clear hok hm hb hav)))
            all_goals go_wp2
            all_goals go_meet
            all_goals exact ⟨D1, rfl, HR.out.store HDN.out HOK1.out HM.out fun b hb h => HAV.out b (by have := HDB.out.size; omega) h⟩
          obtain ⟨X1, hX1⟩ : ∃ X1, X1 = wc := ⟨_, rfl⟩
          subst hX1
          obtain ⟨D1, rfl, hra⟩ := hcut
          have HRN := Keep.mk hra
          clear hra hcut' hw1 hmi CSEC CW
          go_wp2
          go_roundw
          case rel => exact ⟨k + 1, D1, by omega, by rw [show ((k + 1 : Nat) : Int) = (k : Int) + 1 by omega, show F + 1 + ((k : Int) + 1) = F + 1 + (k : Int) + 1 by omega], by rw [HNX.out], by rw [show ((k + 1 : Nat) : Int) * 63 = (k : Int) * 63 + 63 by omega], ⟨by rw [HNX.out]; exact HRN.out⟩⟩
          case measure => simp [intOf]; omega
        · have hkk : k = N := by omega
          have g1 : decide ((k : Int) * 63 < (n : Int)) = false := decide_eq_false (by omega)
          rw [hkk] at HR g0 ⊢
          rw [← HSN.out] at HR g0 ⊢
          clear hs hkk HST HNX HWS HU
          go_wp2_with fail
          go_meet
          exact ⟨_, _, D, rfl, rfl, rfl, fun _ => rfl, HR.out⟩
      · have g0 : ((Jn.pcs l F (j.d.m, 0) k).2 == 0) = false := by simpa using hs
        have hst := HST.out hs
        rw [← hst] at HR g0 ⊢
        have HZN : Keep (sN.2 ≠ 0) := ⟨by rw [hst]; exact hs⟩
        clear hs hst HST HNX HWS HU
        by_cases hkN : k < N
        case' pos => have g1 : decide ((k : Int) * 63 < (n : Int)) = true := decide_eq_true (by omega)
        case' neg => have g1 : decide ((k : Int) * 63 < (n : Int)) = false := decide_eq_false (by omega)
        all_goals
          go_wp2_with fail
          go_meet
          exact ⟨_, _, D, rfl, rfl, rfl, fun h => absurd h HZN.out, HR.out⟩
  case rest =>
    clear RA4' HUP
    obtain ⟨Xa, hXa⟩ : ∃ X1, X1 = wc := ⟨_, rfl⟩
    subst hXa
    obtain ⟨q, v10, D, rfl, rfl, rfl, hq, hra⟩ := hcut
    have HR := Keep.mk hra
    have HQ := Keep.mk hq
    clear hra hq
    obtain ⟨sE, hsE⟩ : ∃ s, s = Jn.apE j.d.m.sectors.length (F + 1 + (N : Int)) sN := ⟨_, rfl⟩
    have HWE : Keep (WS (K + 49) sE) := ⟨by
      rw [hsE]
      unfold Jn.apE
      split
      · exact (HWN.out.write _ _).mono (by omega)
      · exact HWN.out.mono (by omega)⟩
    have HUE : Keep (Jn.Up j.d.n sE) := ⟨by
      rw [hsE]
      unfold Jn.apE
      split
      · exact up_ww HUN.out _ _
      · exact HUN.out⟩
    have HSE1 : Keep (F + 1 + (N : Int) < (j.d.n : Int) → sE = Jn.ww sN (F + 1 + (N : Int)) zs) := ⟨fun h => by rw [hsE]; unfold Jn.apE; rw [HDL.out, if_pos h]⟩
    have HSE2 : Keep (¬ F + 1 + (N : Int) < (j.d.n : Int) → sE = sN) := ⟨fun h => by rw [hsE]; unfold Jn.apE; rw [HDL.out, if_neg h]⟩
    have HSE3 : Keep (sN.2 ≠ 0 → sE = sN) := ⟨fun h => by rw [hsE]; exact apE_stay h⟩
    have HSEE := Keep.mk hsE
    clear hsE
    obtain ⟨bE, hbE⟩ : ∃ b, b = decide (sN.2 = 0 ∧ F + 1 + (N : Int) < (j.d.n : Int)) := ⟨_, rfl⟩
    have HBE := Keep.mk hbE
    clear hbE
    go_upto_region 16 with (fail)
    go_cut [66] from 58 to 66 (fun s66 X => s66 = .bool bE ∧ Xa = X)
    case first =>
      by_cases hs : sN.2 = 0
      · have g0 : (sN.2 == 0) = true := by simp [hs]
        have hqq := HQ.out hs
        subst hqq
        have hDn : (D.n : Int) = (j.d.n : Int) := by
          have h1 := dk_len HR.out.bx.ok
          have h2 := (HUN.out hs).2
          rw [← HR.out.m] at h2
          omega
        obtain ⟨q0, q1, q2, q3⟩ := HR.out.bx.cs
        by_cases hend : F + 1 + (N : Int) < (j.d.n : Int)
        case' pos =>
          have g2 : decide (F + 1 + (N : Int) < (D.n : Int)) = true := decide_eq_true (by omega)
          have hb : Keep (true = bE) := ⟨by rw [HBE.out]; exact (decide_eq_true ⟨hs, hend⟩).symm⟩
        case' neg =>
          have g2 : decide (F + 1 + (N : Int) < (D.n : Int)) = false := decide_eq_false (by omega)
          have hb : Keep (false = bE) := ⟨by rw [HBE.out]; exact (decide_eq_false fun h => hend h.2).symm⟩
        all_goals
          clear hs hend hDn
          go_wp2_with fail
          go_meet
          exact ⟨congrArg Value.bool hb.out, rfl⟩
      · have g0 : (sN.2 == 0) = false := by simpa using hs
        have hb : Keep (false = bE) := ⟨by rw [HBE.out]; exact (decide_eq_false fun h => hs h.1).symm⟩
        clear hs
        go_wp2_with fail
        go_meet
        exact ⟨congrArg Value.bool hb.out, rfl⟩
    case rest =>
    obtain ⟨rfl, hX⟩ := hcut
    subst hX
    go_upto_if 66 with (fail)
    go_cut [9] from 67 to 73 (fun s9 X => ∃ D1, s9 = .int .i64 sE.2 ∧ RA w X bd j sE D1)
    case first =>
      rcases (by cases bE <;> simp : bE = false ∨ bE = true) with hb | hb
      · subst hb
        have he : Keep (sE = sN) := ⟨by
          have hb := of_decide_eq_false HBE.out.symm
          by_cases hs : sN.2 = 0
          · exact HSE2.out fun h => hb ⟨hs, h⟩
          · exact HSE3.out hs⟩
        go_wp2_with fail
        go_meet
        rw [he.out]
        exact ⟨D, rfl, HR.out⟩
      · subst hb
        have hb := of_decide_eq_true HBE.out.symm
        have hqq := HQ.out hb.1
        subst hqq
        have HZ := Keep.mk hb.1
        have he := HSE1.out hb.2
        have CW := Keep.mk (fun (Y : World) (hY : Below Xa.heap.size Xa Y) (Ab : Option Addr) (nb cb : Nat) (hr : RB Y Ab nb cb zs) => rwrite_at (F + 1 + (N : Int)) Ab nb cb _ (HR.out.below hY).bx.ok HR.out.m HZ.out hr HWN.out (by omega))
        rw [← he] at CW
        clear hb he HSE1 HSE2 HSE3 HSEE
        go_upto_region 17 with (fail)
        obtain ⟨c0, c1, c2, c3⟩ := HR.out.bx.cs
        go_region_with (first
          | (go_at_call 51; ((refine (rsector_any 0 0 rfl none 0 0 [] _ (RB.none_ _) (by decide)).mono ?_); rintro e wb ⟨Ab, nb, cb, rfl, hr, hb⟩; have HRB : Keep (RB wb Ab nb cb zs) := ⟨hr⟩; have HDB : Hid (Below Xa.heap.size Xa wb) := below_next (below_draws _ _ 1) hb (Nat.le_refl _); obtain ⟨d0, d1, d2, d3⟩ := (HR.out.below HDB.out).bx.cs; clear hr hb))
          | (go_at_call 50; ((refine (CW.out _ HDB.out Ab nb cb HRB.out).mono ?_); rintro e wn ⟨D1, rfl, hok, hm, hb, hav⟩; have HDN : Hid (Below Xa.heap.size Xa wn) := below_next HDB.out hb (Nat.le_refl _); have HOK1 := Keep.mk hok; have HM := Keep.mk hm; have HAV := Keep.mk hav; have H5n := Keep.mk (HR.out.below HDN.out); have e0 := H5n.out.bx.bx.cell 0 _ rfl; have e1 := H5n.out.bx.bx.cell 1 _ rfl; have e2 := H5n.out.bx.bx.cell 2 _ rfl; have e3 := H5n.out.bx.bx.cell 3 _ rfl; have ef := H5n.out.bx.bx.fz; clear hok hm hb hav)))
        all_goals go_wp2
        all_goals go_meet
        all_goals exact ⟨D1, rfl, HR.out.store HDN.out HOK1.out HM.out fun b hb h => HAV.out b (by have := HDB.out.size; omega) h⟩
    case rest =>
      clear HSE1 HSE2 HSE3 HR
      obtain ⟨Xb, hXb⟩ : ∃ X1, X1 = wc := ⟨_, rfl⟩
      subst hXb
      obtain ⟨D2, rfl, hra⟩ := hcut
      have HR2 := Keep.mk hra
      clear hra
      obtain ⟨sF, hsF⟩ : ∃ s, s = Jn.wf sE := ⟨_, rfl⟩
      obtain ⟨sT, hsT⟩ : ∃ s, s = Jn.ww sF F (Jn.titleB j.e j.c (n : Int) (Jn.crcI l)) := ⟨_, rfl⟩
      have HWF : Keep (WS (K + 49) sF) := ⟨by rw [hsF]; exact HWE.out.flush⟩
      have HUF : Keep (Jn.Up j.d.n sF) := ⟨by rw [hsF]; exact up_wf HUE.out⟩
      have HWT : Keep (WS (K + 50) sT) := ⟨by rw [hsT]; exact HWF.out.write _ _⟩
      have HUT : Keep (Jn.Up j.d.n sT) := ⟨by rw [hsT]; exact up_ww HUF.out _ _⟩
      have HSF := Keep.mk hsF
      have HST := Keep.mk hsT
      have HNE : Keep (sT.2 = 0 → sN.2 = 0) := ⟨fun h => Decidable.byContradiction fun h0 => by
        have h1 : sE = sN := by rw [HSEE.out]; exact apE_stay h0
        rw [hsT, hsF, h1, wf_stay h0, ww_stay h0] at h
        exact h0 h⟩
      clear hsF hsT
      obtain ⟨bT, hbT⟩ : ∃ b, b = (sE.2 == 0) := ⟨_, rfl⟩
      have HBT := Keep.mk hbT
      clear hbT
      go_upto_region 18 with (fail)
      go_cut [75] from 74 to 75 (fun s75 X => s75 = .bool bT ∧ Xb = X)
      case first =>
        go_wp2_with fail
        go_meet
        exact ⟨congrArg Value.bool HBT.out.symm, rfl⟩
      case rest =>
      obtain ⟨rfl, hX⟩ := hcut
      subst hX
      go_upto_if 75 with (fail)
      go_cut [9] from 76 to 95 (fun s9 X => ∃ D1, s9 = .int .i64 sT.2 ∧ RA w X bd j sT D1)
      case first =>
        rcases (by cases bT <;> simp : bT = true ∨ bT = false) with hb | hb
        · subst hb
          have hs : sE.2 = 0 := by simpa using HBT.out.symm
          have CF := rflush_at (w := Xb) HR2.out.bx.ok HR2.out.m hs HWE.out
          rw [← HSF.out] at CF
          have CFK := Keep.mk CF
          have HZF : Keep (sF.2 = 0) := ⟨by rw [HSF.out]; exact wf_up HUE.out hs⟩
          clear CF hs
          obtain ⟨c0, c1, c2, c3⟩ := HR2.out.bx.cs
          go_wp2_with fail
          refine CFK.out.mono ?_
          rintro e w5 ⟨D3, rfl, hok, hm, hb, hav⟩
          have HR3 := Keep.mk (HR2.out.store hb hok hm hav)
          have e0 := (HR2.out.below hb).bx.bx.cell 0 _ rfl
          have e1 := (HR2.out.below hb).bx.bx.cell 1 _ rfl
          have e2 := (HR2.out.below hb).bx.bx.cell 2 _ rfl
          have e3 := (HR2.out.below hb).bx.bx.cell 3 _ rfl
          have ef := (HR2.out.below hb).bx.bx.fz
          clear hok hm hb hav c0 c1 c2 c3 CFK
          go_upto_region 20 with (fail)
          clear e0 e1 e2 e3 ef
          generalize ((((w5.setCell ⟨bd, 0, none⟩ (.slice D3.a D3.n D3.c)).setCell ⟨bd, 1, none⟩ (.slice D3.pa D3.pn D3.pc)).setCell ⟨bd, 2, none⟩ (.int .i64 D3.left)).setCell ⟨bd, 3, none⟩ (.bool D3.down)) = Xc at *
          have CW := Keep.mk (fun (Y : World) (hY : Below Xc.heap.size Xc Y) (Ab : Option Addr) (nb cb : Nat) (hr : RB Y Ab nb cb (Jn.titleB j.e j.c (n : Int) (Jn.crcI l))) => rwrite_at F Ab nb cb _ (HR3.out.below hY).bx.ok HR3.out.m HZF.out hr HWF.out (by omega))
          rw [← HST.out] at CW
          have CC : Keep (∀ Y, Below Xc.heap.size Xc Y → Calls Tryd.prog 56 #[.slice A n c] Y fun e w' => e = .returned (.int .i64 (Jn.crcI l)) ∧ Y = w') := ⟨fun Y hY => rcrc_any A n c l Y (HL.out.below (below_next HR3.out.bel hY (Nat.le_refl _)))⟩
          have CT : Keep (∀ Y : World, Calls Tryd.prog 55 #[.int .i64 j.e, .int .i64 j.c, .int .i64 (n : Int), .int .i64 (Jn.crcI l)] Y (RetB Y (Jn.titleB j.e j.c (n : Int) (Jn.crcI l)))) := ⟨fun Y => rtitle_any j.e j.c (n : Int) (Jn.crcI l) Y (by have := HE.out; unfold V.In; omega) (by have := HE.out; unfold V.In; omega) (by unfold V.In; omega) (crc_in l)⟩
          have KP : Keep (∀ X, Below Xc.heap.size Xc X → X.cell? ⟨w.heap.size, 4, none⟩ = some (.int .i64 j.e) ∧ X.cell? ⟨w.heap.size, 6, none⟩ = some (.int .i64 j.c)) := ⟨fun X hX => ⟨(HR3.out.below hX).jx.cell 4 _ rfl, (HR3.out.below hX).jx.cell 6 _ rfl⟩⟩
          have KQ : Keep (∀ X D', RA w X bd j sT D' → X.cell? ⟨w.heap.size, 4, none⟩ = some (.int .i64 j.e) ∧ X.cell? ⟨w.heap.size, 6, none⟩ = some (.int .i64 j.c)) := ⟨fun X D' hX => ⟨hX.jx.cell 4 _ rfl, hX.jx.cell 6 _ rfl⟩⟩
          generalize Jn.crcI l = crc at *
          have HC : Hid (Below Xc.heap.size Xc Xc.drew) := below_draws _ _ 1
          obtain ⟨c0, c1, c2, c3⟩ := HR3.out.bx.cs
          have j4 := HR3.out.jx.cell 4 _ rfl
          have j6 := HR3.out.jx.cell 6 _ rfl
          refine wp_region_held_drew (S := (fun X => X.cell? ⟨w.heap.size, 4, none⟩ = some (.int .i64 j.e) ∧ X.cell? ⟨w.heap.size, 6, none⟩ = some (.int .i64 j.c))) (by kernel_rfl) ?_ (fun hHeld => ?_)
          · exact KP.out _ HC.out
          refine wpAnyH_take (i := 1) (oi := { dst := some 83, op := Op.move (Operand.tmp 7), type := 3, pos := "ref.go:195", after := #[], guard := none }) (v := ?_) rfl (by kernel_rfl) (by kernel_rfl) (by kernel_rfl) (fun _ _ _ h => h) (Or.inl ⟨by rfl, ?_⟩) (by assumption) ?_
          rotate_left
          · (intro w hSw; (try dsimp only at hSw); go_simp; try with_reducible rfl)
          try simp only [Act.put, List.setIfInBounds_toArray, List.set_cons_zero, List.set_cons_succ]
          refine wpAnyH_take (i := 2) (oi := { dst := some 84, op := Op.fieldAddr 32 (Operand.tmp 2) 1, type := 0, pos := "ref.go:195", after := #[], guard := none }) (v := ?_) rfl (by kernel_rfl) (by kernel_rfl) (by kernel_rfl) (fun _ _ _ h => h) (Or.inl ⟨by rfl, ?_⟩) (by assumption) ?_
          rotate_left
          · (intro w hSw; (try dsimp only at hSw); go_simp; try with_reducible rfl)
          try simp only [Act.put, List.setIfInBounds_toArray, List.set_cons_zero, List.set_cons_succ]
          refine wpAnyH_take (i := 3) (oi := { dst := some 85, op := Op.load 3 (Operand.tmp 84), type := 3, pos := "ref.go:195", after := #[{ on := 2, ground := Ground.data }], guard := none }) (v := ?_) rfl (by kernel_rfl) (by kernel_rfl) (by kernel_rfl) (fun _ _ _ h => h) (Or.inl ⟨by rfl, ?_⟩) (by assumption) ?_
          rotate_left
          · (intro w hSw; (try dsimp only at hSw); go_simp; try with_reducible rfl)
          try simp only [Act.put, List.setIfInBounds_toArray, List.set_cons_zero, List.set_cons_succ]
          refine wpAnyH_take (i := 4) (oi := { dst := some 86, op := Op.fieldAddr 32 (Operand.tmp 2) 3, type := 0, pos := "ref.go:195", after := #[], guard := none }) (v := ?_) rfl (by kernel_rfl) (by kernel_rfl) (by kernel_rfl) (fun _ _ _ h => h) (Or.inl ⟨by rfl, ?_⟩) (by assumption) ?_
          rotate_left
          · (intro w hSw; (try dsimp only at hSw); go_simp; try with_reducible rfl)
          try simp only [Act.put, List.setIfInBounds_toArray, List.set_cons_zero, List.set_cons_succ]
          refine wpAnyH_take (i := 5) (oi := { dst := some 87, op := Op.load 3 (Operand.tmp 86), type := 3, pos := "ref.go:195", after := #[{ on := 4, ground := Ground.data }], guard := none }) (v := ?_) rfl (by kernel_rfl) (by kernel_rfl) (by kernel_rfl) (fun _ _ _ h => h) (Or.inl ⟨by rfl, ?_⟩) (by assumption) ?_
          rotate_left
          · (intro w hSw; (try dsimp only at hSw); go_simp; try with_reducible rfl)
          try simp only [Act.put, List.setIfInBounds_toArray, List.set_cons_zero, List.set_cons_succ]
          refine wpAnyH_take (i := 6) (oi := { dst := some 88, op := Op.move (Operand.tmp 1), type := 26, pos := "ref.go:195", after := #[], guard := none }) (v := ?_) rfl (by kernel_rfl) (by kernel_rfl) (by kernel_rfl) (fun _ _ _ h => h) (Or.inl ⟨by rfl, ?_⟩) (by assumption) ?_
          rotate_left
          · (intro w hSw; (try dsimp only at hSw); go_simp; try with_reducible rfl)
          try simp only [Act.put, List.setIfInBounds_toArray, List.set_cons_zero, List.set_cons_succ]
          refine wpAnyH_take (i := 7) (oi := { dst := some 89, op := Op.call { callee := Callee.builtin Builtin.len, args := #[Operand.tmp 88], argTypes := #[26] }, type := 3, pos := "ref.go:195", after := #[{ on := 6, ground := Ground.data }], guard := none }) (v := ?_) rfl (by kernel_rfl) (by kernel_rfl) (by kernel_rfl) (fun _ _ _ h => h) (Or.inl ⟨by rfl, ?_⟩) (by assumption) ?_
          rotate_left
          · (intro w hSw; (try dsimp only at hSw); go_simp; try with_reducible rfl)
          try simp only [Act.put, List.setIfInBounds_toArray, List.set_cons_zero, List.set_cons_succ]
          refine wpAnyH_take (i := 8) (oi := { dst := some 90, op := Op.move (Operand.tmp 1), type := 26, pos := "ref.go:195", after := #[], guard := none }) (v := ?_) rfl (by kernel_rfl) (by kernel_rfl) (by kernel_rfl) (fun _ _ _ h => h) (Or.inl ⟨by rfl, ?_⟩) (by assumption) ?_
          rotate_left
          · (intro w hSw; (try dsimp only at hSw); go_simp; try with_reducible rfl)
          try simp only [Act.put, List.setIfInBounds_toArray, List.set_cons_zero, List.set_cons_succ]
          refine wpAnyH_ready (rs := [0, 9]) (by kernel_rfl) (by simp) ?_
          refine AllReadyH.cons (o := { dst := some 82, op := Op.load 25 (Operand.tmp 6), type := 25, pos := "ref.go:195", after := #[], guard := none }) rfl (fun K hK => ?_) ?_
          · go_simp
            refine hK.out _ _ ?_ (fun hHeld => ?_)
            · exact KP.out _ HC.out
            clear hK K
            try simp only [Act.put, List.setIfInBounds_toArray, List.set_cons_zero, List.set_cons_succ]
            refine wpAnyH_ready (rs := [9]) (by kernel_rfl) (by simp) ?_
            refine AllReadyH.cons (o := { dst := some 91, op := Op.call { callee := Callee.value (Operand.func 56), args := #[Operand.tmp 90], argTypes := #[26] }, type := 3, pos := "ref.go:195", after := #[{ on := 8, ground := Ground.data }], guard := none }) rfl (fun K hK => ?_) AllReadyH.nil
            go_simp
            go_at_call 56
            refine (CC.out _ HC.out).mono ?_
            rintro e wq ⟨rfl, rfl⟩
            try go_wp2_with fail
            refine hK.out _ _ ?_ (fun hHeld => ?_)
            · exact KP.out _ HC.out
            clear hK K
            try simp only [Act.put, List.setIfInBounds_toArray, List.set_cons_zero, List.set_cons_succ]
            refine wpAnyH_ready (rs := [10]) (by kernel_rfl) (by simp) ?_
            refine AllReadyH.cons (o := { dst := some 92, op := Op.call { callee := Callee.value (Operand.func 55), args := #[Operand.tmp 85, Operand.tmp 87, Operand.tmp 89, Operand.tmp 91], argTypes := #[3, 3, 3, 3] }, type := 26, pos := "ref.go:195", after := #[{ on := 3, ground := Ground.data }, { on := 5, ground := Ground.data }, { on := 7, ground := Ground.data }, { on := 9, ground := Ground.data }, { on := 9, ground := Ground.chain }], guard := none }) rfl (fun K hK => ?_) AllReadyH.nil
            go_simp
            go_at_call 55
            refine (CT.out _).mono ?_
            rintro e wb ⟨Ab, nb, cb, rfl, hr, hb⟩
            have HRB := Keep.mk hr
            have HC := Lib.hid (below_next HC.out hb (Nat.le_refl _))
            obtain ⟨d0, d1, d2, d3⟩ := (HR3.out.below HC.out).bx.cs
            clear hr hb
            try go_wp2_with fail
            refine hK.out _ _ ?_ (fun hHeld => ?_)
            · exact KP.out _ HC.out
            clear hK K
            try simp only [Act.put, List.setIfInBounds_toArray, List.set_cons_zero, List.set_cons_succ]
            refine wpAnyH_ready (rs := [11]) (by kernel_rfl) (by simp) ?_
            refine AllReadyH.cons (o := { dst := some 93, op := Op.call { callee := Callee.value (Operand.func 50), args := #[Operand.tmp 82, Operand.tmp 83, Operand.tmp 92], argTypes := #[25, 3, 26] }, type := 70, pos := "ref.go:195", after := #[{ on := 0, ground := Ground.data }, { on := 1, ground := Ground.data }, { on := 10, ground := Ground.data }, { on := 10, ground := Ground.chain }], guard := none }) rfl (fun K hK => ?_) AllReadyH.nil
            go_simp
            go_at_call 50
            refine (CW.out _ HC.out Ab nb cb HRB.out).mono ?_
            rintro e wn ⟨D1, rfl, hok, hm, hb, hav⟩
            have hsz := HC.out.size
            have HAV : Keep (∀ t, t < Xc.heap.size → D3.Av t → D1.Av t) := ⟨fun t ht h => hav t (by omega) h⟩
            have HC := Lib.hid (below_next HC.out hb (Nat.le_refl _))
            have HOK1 := Keep.mk hok
            have HM := Keep.mk hm
            have H5n := Keep.mk (HR3.out.below HC.out)
            have e0 := H5n.out.bx.bx.cell 0 _ rfl
            have e1 := H5n.out.bx.bx.cell 1 _ rfl
            have e2 := H5n.out.bx.bx.cell 2 _ rfl
            have e3 := H5n.out.bx.bx.cell 3 _ rfl
            have ef := H5n.out.bx.bx.fz
            clear hok hm hb hav hsz
            try go_wp2_with fail
            refine hK.out _ _ ?_ (fun hHeld => ?_)
            · exact KP.out _ HC.out
            clear hK K
            try simp only [Act.put, List.setIfInBounds_toArray, List.set_cons_zero, List.set_cons_succ]
            refine wpAnyH_take (i := 12) (oi := { dst := some 81, op := Op.move (Operand.tmp 93), type := 70, pos := "ref.go:195", after := #[{ on := 11, ground := Ground.data }], guard := none }) (v := ?_) rfl (by kernel_rfl) (by kernel_rfl) (by kernel_rfl) (fun _ _ _ h => h) (Or.inl ⟨by rfl, ?_⟩) (by assumption) ?_
            rotate_left
            · (intro w hSw; (try dsimp only at hSw); go_simp; try with_reducible rfl)
            try simp only [Act.put, List.setIfInBounds_toArray, List.set_cons_zero, List.set_cons_succ]
            refine wpAnyH_take (i := 13) (oi := { dst := some 94, op := Op.extract (Operand.tmp 81) 0, type := 25, pos := "ref.go:195", after := #[{ on := 12, ground := Ground.data }], guard := none }) (v := ?_) rfl (by kernel_rfl) (by kernel_rfl) (by kernel_rfl) (fun _ _ _ h => h) (Or.inl ⟨by rfl, ?_⟩) (by assumption) ?_
            rotate_left
            · (intro w hSw; (try dsimp only at hSw); go_simp; try with_reducible rfl)
            try simp only [Act.put, List.setIfInBounds_toArray, List.set_cons_zero, List.set_cons_succ]
            refine wpAnyH_take (i := 14) (oi := { dst := some 95, op := Op.extract (Operand.tmp 81) 1, type := 33, pos := "ref.go:195", after := #[{ on := 12, ground := Ground.data }, { on := 15, ground := Ground.gcOnly Departure.lateStores }], guard := none }) (v := ?_) rfl (by kernel_rfl) (by kernel_rfl) (by kernel_rfl) (fun _ _ _ h => h) (Or.inl ⟨by rfl, ?_⟩) (by assumption) ?_
            rotate_left
            · (intro w hSw; (try dsimp only at hSw); go_simp; try with_reducible rfl)
            try simp only [Act.put, List.setIfInBounds_toArray, List.set_cons_zero, List.set_cons_succ]
            refine wpAnyH_ready (rs := [15]) (by kernel_rfl) (by simp) ?_
            refine AllReadyH.cons (o := { dst := none, op := Op.store 25 (Operand.tmp 6) (Operand.tmp 94), type := 0, pos := "ref.go:195", after := #[{ on := 13, ground := Ground.data }, { on := 11, ground := Ground.chain }, { on := 0, ground := Ground.phase }, { on := 1, ground := Ground.phase }, { on := 2, ground := Ground.phase }, { on := 3, ground := Ground.phase }, { on := 4, ground := Ground.phase }, { on := 5, ground := Ground.phase }, { on := 6, ground := Ground.phase }, { on := 7, ground := Ground.phase }, { on := 8, ground := Ground.phase }, { on := 9, ground := Ground.phase }, { on := 10, ground := Ground.phase }, { on := 11, ground := Ground.phase }, { on := 12, ground := Ground.phase }, { on := 13, ground := Ground.phase }, { on := 14, ground := Ground.textOnly Departure.lateStores }], guard := none }) rfl (fun K hK => ?_) AllReadyH.nil
            go_simp
            refine hK.out _ _ ?_ (fun hHeld => ?_)
            · exact KQ.out _ _ (HR3.out.store HC.out HOK1.out HM.out HAV.out)
            clear hK K
            try simp only [Act.put, List.setIfInBounds_toArray, List.set_cons_zero, List.set_cons_succ]
            refine wpAnyH_take (i := 16) (oi := { dst := some 9, op := Op.assign (Operand.tmp 95), type := 33, pos := "ref.go:195", after := #[{ on := 14, ground := Ground.data }, { on := 15, ground := Ground.chain }, { on := 0, ground := Ground.phase }, { on := 1, ground := Ground.phase }, { on := 2, ground := Ground.phase }, { on := 3, ground := Ground.phase }, { on := 4, ground := Ground.phase }, { on := 5, ground := Ground.phase }, { on := 6, ground := Ground.phase }, { on := 7, ground := Ground.phase }, { on := 8, ground := Ground.phase }, { on := 9, ground := Ground.phase }, { on := 10, ground := Ground.phase }, { on := 11, ground := Ground.phase }, { on := 12, ground := Ground.phase }, { on := 13, ground := Ground.phase }, { on := 14, ground := Ground.phase }, { on := 15, ground := Ground.phase }], guard := none }) (v := ?_) rfl (by kernel_rfl) (by kernel_rfl) (by kernel_rfl) (fun _ _ _ h => h) (Or.inl ⟨by rfl, ?_⟩) (by assumption) ?_
            rotate_left
            · (intro w hSw; (try dsimp only at hSw); go_simp; try with_reducible rfl)
            try simp only [Act.put, List.setIfInBounds_toArray, List.set_cons_zero, List.set_cons_succ]
            refine wpAnyH_done (by kernel_rfl) ?_ _
            go_wp2
            go_meet
            exact ⟨D1, rfl, HR3.out.store HC.out HOK1.out HM.out HAV.out⟩
          refine AllReadyH.cons (o := { dst := some 91, op := Op.call { callee := Callee.value (Operand.func 56), args := #[Operand.tmp 90], argTypes := #[26] }, type := 3, pos := "ref.go:195", after := #[{ on := 8, ground := Ground.data }], guard := none }) rfl (fun K hK => ?_) AllReadyH.nil
          go_simp
          go_at_call 56
          refine (CC.out _ HC.out).mono ?_
          rintro e wq ⟨rfl, rfl⟩
          try go_wp2_with fail
          refine hK.out _ _ ?_ (fun hHeld => ?_)
          · exact KP.out _ HC.out
          clear hK K
          try simp only [Act.put, List.setIfInBounds_toArray, List.set_cons_zero, List.set_cons_succ]
          refine wpAnyH_ready (rs := [0, 10]) (by kernel_rfl) (by simp) ?_
          refine AllReadyH.cons (o := { dst := some 82, op := Op.load 25 (Operand.tmp 6), type := 25, pos := "ref.go:195", after := #[], guard := none }) rfl (fun K hK => ?_) ?_
          · go_simp
            refine hK.out _ _ ?_ (fun hHeld => ?_)
            · exact KP.out _ HC.out
            clear hK K
            try simp only [Act.put, List.setIfInBounds_toArray, List.set_cons_zero, List.set_cons_succ]
            refine wpAnyH_ready (rs := [10]) (by kernel_rfl) (by simp) ?_
            refine AllReadyH.cons (o := { dst := some 92, op := Op.call { callee := Callee.value (Operand.func 55), args := #[Operand.tmp 85, Operand.tmp 87, Operand.tmp 89, Operand.tmp 91], argTypes := #[3, 3, 3, 3] }, type := 26, pos := "ref.go:195", after := #[{ on := 3, ground := Ground.data }, { on := 5, ground := Ground.data }, { on := 7, ground := Ground.data }, { on := 9, ground := Ground.data }, { on := 9, ground := Ground.chain }], guard := none }) rfl (fun K hK => ?_) AllReadyH.nil
            go_simp
            go_at_call 55
            refine (CT.out _).mono ?_
            rintro e wb ⟨Ab, nb, cb, rfl, hr, hb⟩
            have HRB := Keep.mk hr
            have HC := Lib.hid (below_next HC.out hb (Nat.le_refl _))
            obtain ⟨d0, d1, d2, d3⟩ := (HR3.out.below HC.out).bx.cs
            clear hr hb
            try go_wp2_with fail
            refine hK.out _ _ ?_ (fun hHeld => ?_)
            · exact KP.out _ HC.out
            clear hK K
            try simp only [Act.put, List.setIfInBounds_toArray, List.set_cons_zero, List.set_cons_succ]
            refine wpAnyH_ready (rs := [11]) (by kernel_rfl) (by simp) ?_
            refine AllReadyH.cons (o := { dst := some 93, op := Op.call { callee := Callee.value (Operand.func 50), args := #[Operand.tmp 82, Operand.tmp 83, Operand.tmp 92], argTypes := #[25, 3, 26] }, type := 70, pos := "ref.go:195", after := #[{ on := 0, ground := Ground.data }, { on := 1, ground := Ground.data }, { on := 10, ground := Ground.data }, { on := 10, ground := Ground.chain }], guard := none }) rfl (fun K hK => ?_) AllReadyH.nil
            go_simp
            go_at_call 50
            refine (CW.out _ HC.out Ab nb cb HRB.out).mono ?_
            rintro e wn ⟨D1, rfl, hok, hm, hb, hav⟩
            have hsz := HC.out.size
            have HAV : Keep (∀ t, t < Xc.heap.size → D3.Av t → D1.Av t) := ⟨fun t ht h => hav t (by omega) h⟩
            have HC := Lib.hid (below_next HC.out hb (Nat.le_refl _))
            have HOK1 := Keep.mk hok
            have HM := Keep.mk hm
            have H5n := Keep.mk (HR3.out.below HC.out)
            have e0 := H5n.out.bx.bx.cell 0 _ rfl
            have e1 := H5n.out.bx.bx.cell 1 _ rfl
            have e2 := H5n.out.bx.bx.cell 2 _ rfl
            have e3 := H5n.out.bx.bx.cell 3 _ rfl
            have ef := H5n.out.bx.bx.fz
            clear hok hm hb hav hsz
            try go_wp2_with fail
            refine hK.out _ _ ?_ (fun hHeld => ?_)
            · exact KP.out _ HC.out
            clear hK K
            try simp only [Act.put, List.setIfInBounds_toArray, List.set_cons_zero, List.set_cons_succ]
            refine wpAnyH_take (i := 12) (oi := { dst := some 81, op := Op.move (Operand.tmp 93), type := 70, pos := "ref.go:195", after := #[{ on := 11, ground := Ground.data }], guard := none }) (v := ?_) rfl (by kernel_rfl) (by kernel_rfl) (by kernel_rfl) (fun _ _ _ h => h) (Or.inl ⟨by rfl, ?_⟩) (by assumption) ?_
            rotate_left
            · (intro w hSw; (try dsimp only at hSw); go_simp; try with_reducible rfl)
            try simp only [Act.put, List.setIfInBounds_toArray, List.set_cons_zero, List.set_cons_succ]
            refine wpAnyH_take (i := 13) (oi := { dst := some 94, op := Op.extract (Operand.tmp 81) 0, type := 25, pos := "ref.go:195", after := #[{ on := 12, ground := Ground.data }], guard := none }) (v := ?_) rfl (by kernel_rfl) (by kernel_rfl) (by kernel_rfl) (fun _ _ _ h => h) (Or.inl ⟨by rfl, ?_⟩) (by assumption) ?_
            rotate_left
            · (intro w hSw; (try dsimp only at hSw); go_simp; try with_reducible rfl)
            try simp only [Act.put, List.setIfInBounds_toArray, List.set_cons_zero, List.set_cons_succ]
            refine wpAnyH_take (i := 14) (oi := { dst := some 95, op := Op.extract (Operand.tmp 81) 1, type := 33, pos := "ref.go:195", after := #[{ on := 12, ground := Ground.data }, { on := 15, ground := Ground.gcOnly Departure.lateStores }], guard := none }) (v := ?_) rfl (by kernel_rfl) (by kernel_rfl) (by kernel_rfl) (fun _ _ _ h => h) (Or.inl ⟨by rfl, ?_⟩) (by assumption) ?_
            rotate_left
            · (intro w hSw; (try dsimp only at hSw); go_simp; try with_reducible rfl)
            try simp only [Act.put, List.setIfInBounds_toArray, List.set_cons_zero, List.set_cons_succ]
            refine wpAnyH_ready (rs := [15]) (by kernel_rfl) (by simp) ?_
            refine AllReadyH.cons (o := { dst := none, op := Op.store 25 (Operand.tmp 6) (Operand.tmp 94), type := 0, pos := "ref.go:195", after := #[{ on := 13, ground := Ground.data }, { on := 11, ground := Ground.chain }, { on := 0, ground := Ground.phase }, { on := 1, ground := Ground.phase }, { on := 2, ground := Ground.phase }, { on := 3, ground := Ground.phase }, { on := 4, ground := Ground.phase }, { on := 5, ground := Ground.phase }, { on := 6, ground := Ground.phase }, { on := 7, ground := Ground.phase }, { on := 8, ground := Ground.phase }, { on := 9, ground := Ground.phase }, { on := 10, ground := Ground.phase }, { on := 11, ground := Ground.phase }, { on := 12, ground := Ground.phase }, { on := 13, ground := Ground.phase }, { on := 14, ground := Ground.textOnly Departure.lateStores }], guard := none }) rfl (fun K hK => ?_) AllReadyH.nil
            go_simp
            refine hK.out _ _ ?_ (fun hHeld => ?_)
            · exact KQ.out _ _ (HR3.out.store HC.out HOK1.out HM.out HAV.out)
            clear hK K
            try simp only [Act.put, List.setIfInBounds_toArray, List.set_cons_zero, List.set_cons_succ]
            refine wpAnyH_take (i := 16) (oi := { dst := some 9, op := Op.assign (Operand.tmp 95), type := 33, pos := "ref.go:195", after := #[{ on := 14, ground := Ground.data }, { on := 15, ground := Ground.chain }, { on := 0, ground := Ground.phase }, { on := 1, ground := Ground.phase }, { on := 2, ground := Ground.phase }, { on := 3, ground := Ground.phase }, { on := 4, ground := Ground.phase }, { on := 5, ground := Ground.phase }, { on := 6, ground := Ground.phase }, { on := 7, ground := Ground.phase }, { on := 8, ground := Ground.phase }, { on := 9, ground := Ground.phase }, { on := 10, ground := Ground.phase }, { on := 11, ground := Ground.phase }, { on := 12, ground := Ground.phase }, { on := 13, ground := Ground.phase }, { on := 14, ground := Ground.phase }, { on := 15, ground := Ground.phase }], guard := none }) (v := ?_) rfl (by kernel_rfl) (by kernel_rfl) (by kernel_rfl) (fun _ _ _ h => h) (Or.inl ⟨by rfl, ?_⟩) (by assumption) ?_
            rotate_left
            · (intro w hSw; (try dsimp only at hSw); go_simp; try with_reducible rfl)
            try simp only [Act.put, List.setIfInBounds_toArray, List.set_cons_zero, List.set_cons_succ]
            refine wpAnyH_done (by kernel_rfl) ?_ _
            go_wp2
            go_meet
            exact ⟨D1, rfl, HR3.out.store HC.out HOK1.out HM.out HAV.out⟩
          refine AllReadyH.cons (o := { dst := some 92, op := Op.call { callee := Callee.value (Operand.func 55), args := #[Operand.tmp 85, Operand.tmp 87, Operand.tmp 89, Operand.tmp 91], argTypes := #[3, 3, 3, 3] }, type := 26, pos := "ref.go:195", after := #[{ on := 3, ground := Ground.data }, { on := 5, ground := Ground.data }, { on := 7, ground := Ground.data }, { on := 9, ground := Ground.data }, { on := 9, ground := Ground.chain }], guard := none }) rfl (fun K hK => ?_) AllReadyH.nil
          go_simp
          go_at_call 55
          refine (CT.out _).mono ?_
          rintro e wb ⟨Ab, nb, cb, rfl, hr, hb⟩
          have HRB := Keep.mk hr
          have HC := Lib.hid (below_next HC.out hb (Nat.le_refl _))
          obtain ⟨d0, d1, d2, d3⟩ := (HR3.out.below HC.out).bx.cs
          clear hr hb
          try go_wp2_with fail
          refine hK.out _ _ ?_ (fun hHeld => ?_)
          · exact KP.out _ HC.out
          clear hK K
          try simp only [Act.put, List.setIfInBounds_toArray, List.set_cons_zero, List.set_cons_succ]
          refine wpAnyH_ready (rs := [0]) (by kernel_rfl) (by simp) ?_
          refine AllReadyH.cons (o := { dst := some 82, op := Op.load 25 (Operand.tmp 6), type := 25, pos := "ref.go:195", after := #[], guard := none }) rfl (fun K hK => ?_) AllReadyH.nil
          go_simp
          refine hK.out _ _ ?_ (fun hHeld => ?_)
          · exact KP.out _ HC.out
          clear hK K
          try simp only [Act.put, List.setIfInBounds_toArray, List.set_cons_zero, List.set_cons_succ]
          refine wpAnyH_ready (rs := [11]) (by kernel_rfl) (by simp) ?_
          refine AllReadyH.cons (o := { dst := some 93, op := Op.call { callee := Callee.value (Operand.func 50), args := #[Operand.tmp 82, Operand.tmp 83, Operand.tmp 92], argTypes := #[25, 3, 26] }, type := 70, pos := "ref.go:195", after := #[{ on := 0, ground := Ground.data }, { on := 1, ground := Ground.data }, { on := 10, ground := Ground.data }, { on := 10, ground := Ground.chain }], guard := none }) rfl (fun K hK => ?_) AllReadyH.nil
          go_simp
          go_at_call 50
          refine (CW.out _ HC.out Ab nb cb HRB.out).mono ?_
          rintro e wn ⟨D1, rfl, hok, hm, hb, hav⟩
          have hsz := HC.out.size
          have HAV : Keep (∀ t, t < Xc.heap.size → D3.Av t → D1.Av t) := ⟨fun t ht h => hav t (by omega) h⟩
          have HC := Lib.hid (below_next HC.out hb (Nat.le_refl _))
          have HOK1 := Keep.mk hok
          have HM := Keep.mk hm
          have H5n := Keep.mk (HR3.out.below HC.out)
          have e0 := H5n.out.bx.bx.cell 0 _ rfl
          have e1 := H5n.out.bx.bx.cell 1 _ rfl
          have e2 := H5n.out.bx.bx.cell 2 _ rfl
          have e3 := H5n.out.bx.bx.cell 3 _ rfl
          have ef := H5n.out.bx.bx.fz
          clear hok hm hb hav hsz
          try go_wp2_with fail
          refine hK.out _ _ ?_ (fun hHeld => ?_)
          · exact KP.out _ HC.out
          clear hK K
          try simp only [Act.put, List.setIfInBounds_toArray, List.set_cons_zero, List.set_cons_succ]
          refine wpAnyH_take (i := 12) (oi := { dst := some 81, op := Op.move (Operand.tmp 93), type := 70, pos := "ref.go:195", after := #[{ on := 11, ground := Ground.data }], guard := none }) (v := ?_) rfl (by kernel_rfl) (by kernel_rfl) (by kernel_rfl) (fun _ _ _ h => h) (Or.inl ⟨by rfl, ?_⟩) (by assumption) ?_
          rotate_left
          · (intro w hSw; (try dsimp only at hSw); go_simp; try with_reducible rfl)
          try simp only [Act.put, List.setIfInBounds_toArray, List.set_cons_zero, List.set_cons_succ]
          refine wpAnyH_take (i := 13) (oi := { dst := some 94, op := Op.extract (Operand.tmp 81) 0, type := 25, pos := "ref.go:195", after := #[{ on := 12, ground := Ground.data }], guard := none }) (v := ?_) rfl (by kernel_rfl) (by kernel_rfl) (by kernel_rfl) (fun _ _ _ h => h) (Or.inl ⟨by rfl, ?_⟩) (by assumption) ?_
          rotate_left
          · (intro w hSw; (try dsimp only at hSw); go_simp; try with_reducible rfl)
          try simp only [Act.put, List.setIfInBounds_toArray, List.set_cons_zero, List.set_cons_succ]
          refine wpAnyH_take (i := 14) (oi := { dst := some 95, op := Op.extract (Operand.tmp 81) 1, type := 33, pos := "ref.go:195", after := #[{ on := 12, ground := Ground.data }, { on := 15, ground := Ground.gcOnly Departure.lateStores }], guard := none }) (v := ?_) rfl (by kernel_rfl) (by kernel_rfl) (by kernel_rfl) (fun _ _ _ h => h) (Or.inl ⟨by rfl, ?_⟩) (by assumption) ?_
          rotate_left
          · (intro w hSw; (try dsimp only at hSw); go_simp; try with_reducible rfl)
          try simp only [Act.put, List.setIfInBounds_toArray, List.set_cons_zero, List.set_cons_succ]
          refine wpAnyH_ready (rs := [15]) (by kernel_rfl) (by simp) ?_
          refine AllReadyH.cons (o := { dst := none, op := Op.store 25 (Operand.tmp 6) (Operand.tmp 94), type := 0, pos := "ref.go:195", after := #[{ on := 13, ground := Ground.data }, { on := 11, ground := Ground.chain }, { on := 0, ground := Ground.phase }, { on := 1, ground := Ground.phase }, { on := 2, ground := Ground.phase }, { on := 3, ground := Ground.phase }, { on := 4, ground := Ground.phase }, { on := 5, ground := Ground.phase }, { on := 6, ground := Ground.phase }, { on := 7, ground := Ground.phase }, { on := 8, ground := Ground.phase }, { on := 9, ground := Ground.phase }, { on := 10, ground := Ground.phase }, { on := 11, ground := Ground.phase }, { on := 12, ground := Ground.phase }, { on := 13, ground := Ground.phase }, { on := 14, ground := Ground.textOnly Departure.lateStores }], guard := none }) rfl (fun K hK => ?_) AllReadyH.nil
          go_simp
          refine hK.out _ _ ?_ (fun hHeld => ?_)
          · exact KQ.out _ _ (HR3.out.store HC.out HOK1.out HM.out HAV.out)
          clear hK K
          try simp only [Act.put, List.setIfInBounds_toArray, List.set_cons_zero, List.set_cons_succ]
          refine wpAnyH_take (i := 16) (oi := { dst := some 9, op := Op.assign (Operand.tmp 95), type := 33, pos := "ref.go:195", after := #[{ on := 14, ground := Ground.data }, { on := 15, ground := Ground.chain }, { on := 0, ground := Ground.phase }, { on := 1, ground := Ground.phase }, { on := 2, ground := Ground.phase }, { on := 3, ground := Ground.phase }, { on := 4, ground := Ground.phase }, { on := 5, ground := Ground.phase }, { on := 6, ground := Ground.phase }, { on := 7, ground := Ground.phase }, { on := 8, ground := Ground.phase }, { on := 9, ground := Ground.phase }, { on := 10, ground := Ground.phase }, { on := 11, ground := Ground.phase }, { on := 12, ground := Ground.phase }, { on := 13, ground := Ground.phase }, { on := 14, ground := Ground.phase }, { on := 15, ground := Ground.phase }], guard := none }) (v := ?_) rfl (by kernel_rfl) (by kernel_rfl) (by kernel_rfl) (fun _ _ _ h => h) (Or.inl ⟨by rfl, ?_⟩) (by assumption) ?_
          rotate_left
          · (intro w hSw; (try dsimp only at hSw); go_simp; try with_reducible rfl)
          try simp only [Act.put, List.setIfInBounds_toArray, List.set_cons_zero, List.set_cons_succ]
          refine wpAnyH_done (by kernel_rfl) ?_ _
          go_wp2
          go_meet
          exact ⟨D1, rfl, HR3.out.store HC.out HOK1.out HM.out HAV.out⟩
        · subst hb
          have hs : sE.2 ≠ 0 := by simpa using HBT.out.symm
          have he : Keep (sT = sE) := ⟨by rw [HST.out, HSF.out, wf_stay hs, ww_stay hs]⟩
          clear hs
          go_wp2_with fail
          go_meet
          rw [he.out]
          exact ⟨D2, rfl, HR2.out⟩
      case rest =>
        clear HR2
        obtain ⟨Xd, hXd⟩ : ∃ X1, X1 = wc := ⟨_, rfl⟩
        subst hXd
        obtain ⟨D4, rfl, hra⟩ := hcut
        have HR4 := Keep.mk hra
        clear hra
        have HAP : Keep (Jn.apW j.d.m j.e j.c (j.h / 64) l = Jn.wf sT) := ⟨by unfold Jn.apW; rw [← HFF.out, HLN.out, ← HN.out, ← HSN.out, ← HSEE.out, ← HSF.out, ← HST.out]⟩
        by_cases hs : sT.2 = 0
        · have g0 : (sT.2 != 0) = false := by simp [hs]
          have CF := rflush_at (w := Xd) HR4.out.bx.ok HR4.out.m hs HWT.out
          have hqq := HQ.out (HNE.out hs)
          have hz5 := wf_up HUT.out hs
          obtain ⟨s5, hs5⟩ : ∃ s, s = Jn.wf sT := ⟨_, rfl⟩
          rw [← hs5] at CF hz5
          have HFE : Keep (j.m.append l = (⟨s5.1, j.e, (F + 1 + (N : Int)) * 64, j.c + 1⟩, 0)) := ⟨by
            rw [HSE.out, HAP.out, ← hs5, HLN.out, ← HN.out]
            unfold Jl.put
            rw [if_pos hz5, show j.h + (1 + (N : Int)) * 64 = (F + 1 + (N : Int)) * 64 from by omega]⟩
          have CFK := Keep.mk CF
          subst hqq
          have hce := HE.out
          have hc0 : 0 ≤ j.c := by omega
          have hc1 : j.c ≤ 1073741824 := by omega
          clear CF hs hs5 hz5 hce HAP
          obtain ⟨c0, c1, c2, c3⟩ := HR4.out.bx.cs
          go_wp2_with fail
          refine CFK.out.mono ?_
          rintro e w5 ⟨D5, rfl, hok, hm, hb, hav⟩
          have HR5 := Keep.mk (HR4.out.store hb hok hm hav)
          have e0 := (HR4.out.below hb).bx.bx.cell 0 _ rfl
          have e1 := (HR4.out.below hb).bx.bx.cell 1 _ rfl
          have e2 := (HR4.out.below hb).bx.bx.cell 2 _ rfl
          have e3 := (HR4.out.below hb).bx.bx.cell 3 _ rfl
          have ef := (HR4.out.below hb).bx.bx.fz
          clear hok hm hb hav c0 c1 c2 c3 CFK
          go_upto_region 25 with (fail)
          clear e0 e1 e2 e3 ef
          generalize ((((w5.setCell ⟨bd, 0, none⟩ (.slice D5.a D5.n D5.c)).setCell ⟨bd, 1, none⟩ (.slice D5.pa D5.pn D5.pc)).setCell ⟨bd, 2, none⟩ (.int .i64 D5.left)).setCell ⟨bd, 3, none⟩ (.bool D5.down)) = Xe at *
          obtain ⟨c0, c1, c2, c3⟩ := HR5.out.bx.cs
          have j4 := HR5.out.jx.cell 4 _ rfl
          have j6 := HR5.out.jx.cell 6 _ rfl
          have o0 := HR5.out.ox.cell 0 _ rfl
          have o1 := HR5.out.ox.cell 1 _ rfl
          have o2 := HR5.out.ox.cell 2 _ rfl
          have o3 := HR5.out.ox.cell 3 _ rfl
          have o4 := HR5.out.ox.cell 4 _ rfl
          have o5 := HR5.out.ox.cell 5 _ rfl
          have o6 := HR5.out.ox.cell 6 _ rfl
          have of := HR5.out.ox.fz
          go_wp2
          refine bodyPost_ret (v := .tuple #[.agg #[.slice D5.a D5.n D5.c, .slice D5.pa D5.pn D5.pc, .int .i64 D5.left, .bool D5.down, .int .i64 j.e, .int .i64 ((F + 1 + (N : Int)) * 64), .int .i64 (j.c + 1)], .int .i64 0]) (by simp [results, Tryd.results25, go_sem, o0, o1, o2, o3, o4, o5, o6]) rfl ?_
          have hof2 := off_set7 Xe (w.heap.size + 1) (.slice D5.a D5.n D5.c) (.slice D5.pa D5.pn D5.pc) (.int .i64 D5.left) (.bool D5.down) (.int .i64 j.e) (.int .i64 ((F + 1 + (N : Int)) * 64)) (.int .i64 (j.c + 1))
          rw [HFE.out]
          exact ⟨⟨D5, j.e, (F + 1 + (N : Int)) * 64, j.c + 1⟩, rfl, HR5.out.bx.ok.off hof2 (fun b hb => by simp at hb; rw [hb]; exact HR5.out.av2), by unfold Jk.m; simp only [HR5.out.m], HR5.out.bel.trans (hof2.below HR5.out.bel.size (by simp)), fun b hb h => HR5.out.avd b hb h⟩
        · have g0 : (sT.2 != 0) = true := by simpa using hs
          have HFE : Keep (j.m.append l = (⟨sT.1, j.e, j.h, j.c⟩, sT.2)) := ⟨by
            rw [HSE.out, HAP.out, wf_stay hs]
            unfold Jl.put
            rw [if_neg hs]⟩
          clear hs HAP
          obtain ⟨c0, c1, c2, c3⟩ := HR4.out.bx.cs
          have j0 := HR4.out.jx.cell 0 _ rfl
          have j1 := HR4.out.jx.cell 1 _ rfl
          have j2 := HR4.out.jx.cell 2 _ rfl
          have j3 := HR4.out.jx.cell 3 _ rfl
          have j4 := HR4.out.jx.cell 4 _ rfl
          have j5 := HR4.out.jx.cell 5 _ rfl
          have j6 := HR4.out.jx.cell 6 _ rfl
          have jf := HR4.out.jx.fz
          have hof := off_set4 Xd w.heap.size (.slice D4.a D4.n D4.c) (.slice D4.pa D4.pn D4.pc) (.int .i64 D4.left) (.bool D4.down)
          have JX : Keep (Bx ((((Xd.setCell ⟨w.heap.size, 0, none⟩ (.slice D4.a D4.n D4.c)).setCell ⟨w.heap.size, 1, none⟩ (.slice D4.pa D4.pn D4.pc)).setCell ⟨w.heap.size, 2, none⟩ (.int .i64 D4.left)).setCell ⟨w.heap.size, 3, none⟩ (.bool D4.down)) w.heap.size [.slice D4.a D4.n D4.c, .slice D4.pa D4.pn D4.pc, .int .i64 D4.left, .bool D4.down, .int .i64 j.e, .int .i64 j.h, .int .i64 j.c]) := ⟨by
            have := (((HR4.out.jx.set (j := 0) (by simp) (.slice D4.a D4.n D4.c)).set (j := 1) (by simp) (.slice D4.pa D4.pn D4.pc)).set (j := 2) (by simp) (.int .i64 D4.left)).set (j := 3) (by simp) (.bool D4.down)
            simpa only [List.set_cons_zero, List.set_cons_succ] using this⟩
          have OX := Keep.mk (HR4.out.ox.off hof (by simp))
          have HOF := Keep.mk hof
          clear hof
          go_upto_region 23 with (fail)
          generalize ((((Xd.setCell ⟨w.heap.size, 0, none⟩ (.slice D4.a D4.n D4.c)).setCell ⟨w.heap.size, 1, none⟩ (.slice D4.pa D4.pn D4.pc)).setCell ⟨w.heap.size, 2, none⟩ (.int .i64 D4.left)).setCell ⟨w.heap.size, 3, none⟩ (.bool D4.down)) = Xz at *
          clear c0 c1 c2 c3 j0 j1 j2 j3 j4 j5 j6 jf
          have j0 := JX.out.cell 0 _ rfl
          have j1 := JX.out.cell 1 _ rfl
          have j2 := JX.out.cell 2 _ rfl
          have j3 := JX.out.cell 3 _ rfl
          have j4 := JX.out.cell 4 _ rfl
          have j5 := JX.out.cell 5 _ rfl
          have j6 := JX.out.cell 6 _ rfl
          have o0 := OX.out.cell 0 _ rfl
          have o1 := OX.out.cell 1 _ rfl
          have o2 := OX.out.cell 2 _ rfl
          have o3 := OX.out.cell 3 _ rfl
          have o4 := OX.out.cell 4 _ rfl
          have o5 := OX.out.cell 5 _ rfl
          have o6 := OX.out.cell 6 _ rfl
          have of := OX.out.fz
          go_wp2
          refine bodyPost_ret (v := .tuple #[.agg #[.slice D4.a D4.n D4.c, .slice D4.pa D4.pn D4.pc, .int .i64 D4.left, .bool D4.down, .int .i64 j.e, .int .i64 j.h, .int .i64 j.c], .int .i64 sT.2]) (by simp [results, Tryd.results25, go_sem, o0, o1, o2, o3, o4, o5, o6]) rfl ?_
          have hof2 := off_set7 Xz (w.heap.size + 1) (.slice D4.a D4.n D4.c) (.slice D4.pa D4.pn D4.pc) (.int .i64 D4.left) (.bool D4.down) (.int .i64 j.e) (.int .i64 j.h) (.int .i64 j.c)
          have HZZ : Off [w.heap.size, w.heap.size + 1] Xd _ := (HOF.out.sub (by simp)).trans (hof2.sub (by simp))
          rw [HFE.out]
          exact ⟨⟨D4, j.e, j.h, j.c⟩, rfl, HR4.out.bx.ok.off HZZ (fun b hb => by simp at hb; rcases hb with rfl | rfl; exact HR4.out.av1; exact HR4.out.av2), by unfold Jk.m; simp only [HR4.out.m], HR4.out.bel.trans (HZZ.below HR4.out.bel.size (by simp)), fun b hb h => HR4.out.avd b hb h⟩

/-- The reference's APPEND, on every way. -/
theorem rappend_any (j : Jk) (A : Option Addr) (n c : Nat) (l : List UInt8) (w : World) (h : j.d.Ok w) (hH : V.In j.h) (hl : RB w A n c l) (K : Nat) (hfit : WS K (j.d.m, 0)) (hK : K ≤ 900) (hlen : l.length ≤ 3000) :
    Calls Tryd.prog 25 #[.agg #[.slice j.d.a j.d.n j.d.c, .slice j.d.pa j.d.pn j.d.pc, .int .i64 j.d.left, .bool j.d.down, .int .i64 j.e, .int .i64 j.h, .int .i64 j.c], .slice A n c] w (RetJE w j.d.Av (j.m.append l)) := by
  have hdl := dk_len h
  have hns : j.d.n ≤ 4096 := by have := hfit.fit.ns; simp only at this; omega
  cases hw : j.m.wrong
  · by_cases hf : j.m.free < (l.length : Int)
    · exact rappend_full j A n c l w h hns hH hl hw hf
    · cases hd : j.d.down
      · have := rappend_main j A n c l w h hns hH hl hw hf hd K hfit hK hlen
        rwa [hd] at this
      · have := rappend_down j A n c l w h hns hH hl hw hf hd
        rwa [hd] at this
  · exact rappend_wrong j A n c l w h hns hH hw
end Go.Proofs.YtjficpdfofmcnaaDoor
