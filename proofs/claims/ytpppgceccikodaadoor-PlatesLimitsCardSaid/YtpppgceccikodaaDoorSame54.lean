/- The reference's SameFour; the law's one, fair, four. -/
import Derived.Test.YtpppgceccikodaaDoorFour
namespace Go.Proofs.YtpppgceccikodaaDoor
open Go.RowKit Go.Joins

/-- Two plates that read alike. -/
structure Pd.Eq (w : World) (p q : Pd) : Prop where
  w_ : p.w = q.w
  h_ : p.h = q.h
  l_ : p.l = q.l
  ok1 : p.Ok w
  ok2 : q.Ok w
theorem Pd.Eq.below {w w' : World} {p q : Pd} (h : Pd.Eq w p q) (hb : Below w.heap.size w w') : Pd.Eq w' p q := ⟨h.w_, h.h_, h.l_, h.ok1.below hb, h.ok2.below hb⟩
theorem psame_eq (p q : Pd) (w : World) (h : Pd.Eq w p q) : Calls Tryd.prog 19 #[.agg #[.int .i64 p.w, .int .i64 p.h, .slice p.a p.n p.c], .agg #[.int .i64 q.w, .int .i64 q.h, .slice q.a q.n q.c]] w fun e w' => e = .returned (.bool true) ∧ Below w.heap.size w w' := by
  obtain ⟨h1, h2, h3, h4, h5⟩ := h
  unfold Pd.Ok at h4 h5
  rw [← h3] at h5
  rw [← h1, ← h2]
  exact psame_true p.w p.h p.a p.n p.c q.a q.n q.c p.l w h4 h5

set_option maxRecDepth 100000 in
set_option maxHeartbeats 2000000 in
theorem samefour_true (p0 p1 p2 p3 q0 q1 q2 q3 : Pd) (w : World) (h0 : Pd.Eq w p0 q0) (h1 : Pd.Eq w p1 q1) (h2 : Pd.Eq w p2 q2) (h3 : Pd.Eq w p3 q3) :
    Calls Tryd.prog 24 #[arr4 p0 p1 p2 p3, arr4 q0 q1 q2 q3] w fun e w' => e = .returned (.bool true) ∧ Below w.heap.size w w' := by
  have H0 := Keep.mk h0
  have H1 := Keep.mk h1
  have H2 := Keep.mk h2
  have H3 := Keep.mk h3
  clear h0 h1 h2 h3
  unfold arr4
  go_enter Tryd.func24, Tryd.ntmps24
  go_wp2_with fail
  have IX := Keep.mk ((Bx.new w (cells4 p0 p1 p2 p3) 39).alloc (.cells (cells4 q0 q1 q2 q3).toArray 39))
  have OX := Keep.mk (Bx.new (w.alloc (.cells (cells4 p0 p1 p2 p3).toArray 39)) (cells4 q0 q1 q2 q3) 39)
  have HB : Hid (Below w.heap.size w ((w.alloc (.cells (cells4 p0 p1 p2 p3).toArray 39)).alloc (.cells (cells4 q0 q1 q2 q3).toArray 39))) := (below_alloc1 _ _).alloc (by simp) _
  unfold cells4 at IX OX HB
  generalize hw2 : (w.alloc _).alloc _ = w2 at *
  rw [World.size_alloc] at OX
  clear hw2
  refine (psame_eq p0 q0 w2 (H0.out.below HB.out)).mono ?_
  rintro e w3 ⟨rfl, hb⟩
  have HB3 : Hid (Below w.heap.size w w3) := HB.out.trans (hb.mono HB.out.size)
  have IX3 := Keep.mk (IX.out.below hb)
  have OX3 := Keep.mk (OX.out.below hb)
  have i0 := IX3.out.cell 3 _ rfl
  have i1 := IX3.out.cell 4 _ rfl
  have i2 := IX3.out.cell 5 _ rfl
  have o0 := OX3.out.cell 3 _ rfl
  have o1 := OX3.out.cell 4 _ rfl
  have o2 := OX3.out.cell 5 _ rfl
  clear hb IX OX HB
  go_wp2_with fail
  refine (psame_eq p1 q1 w3 (H1.out.below HB3.out)).mono ?_
  rintro e w4 ⟨rfl, hb⟩
  have HB4 : Hid (Below w.heap.size w w4) := HB3.out.trans (hb.mono HB3.out.size)
  have IX4 := Keep.mk (IX3.out.below hb)
  have OX4 := Keep.mk (OX3.out.below hb)
  clear hb IX3 OX3 HB3 i0 i1 i2 o0 o1 o2
  have i0 := IX4.out.cell 6 _ rfl
  have i1 := IX4.out.cell 7 _ rfl
  have i2 := IX4.out.cell 8 _ rfl
  have o0 := OX4.out.cell 6 _ rfl
  have o1 := OX4.out.cell 7 _ rfl
  have o2 := OX4.out.cell 8 _ rfl
  go_wp2_with fail
  refine (psame_eq p2 q2 w4 (H2.out.below HB4.out)).mono ?_
  rintro e w5 ⟨rfl, hb⟩
  have HB5 : Hid (Below w.heap.size w w5) := HB4.out.trans (hb.mono HB4.out.size)
  have IX5 := Keep.mk (IX4.out.below hb)
  have OX5 := Keep.mk (OX4.out.below hb)
  clear hb IX4 OX4 HB4 i0 i1 i2 o0 o1 o2
  have i0 := IX5.out.cell 9 _ rfl
  have i1 := IX5.out.cell 10 _ rfl
  have i2 := IX5.out.cell 11 _ rfl
  have o0 := OX5.out.cell 9 _ rfl
  have o1 := OX5.out.cell 10 _ rfl
  have o2 := OX5.out.cell 11 _ rfl
  go_wp2_with fail
  refine (psame_eq p3 q3 w5 (H3.out.below HB5.out)).mono ?_
  rintro e w6 ⟨rfl, hb⟩
  have HB6 : Hid (Below w.heap.size w w6) := HB5.out.trans (hb.mono HB5.out.size)
  clear hb i0 i1 i2 o0 o1 o2
  go_wp2
  go_ret
  exact ⟨rfl, HB6.out⟩

/-- A plate of one cell. -/
theorem one_any (v : Int) (w : World) : Calls Tryd.prog 26 #[.int .i64 v] w fun e w' => ∃ A n c, e = .returned (.agg #[.int .i64 1, .int .i64 1, .slice A n c]) ∧ RI w' A n c [v] ∧ Below w.heap.size w w' := by
  go_enter Tryd.func26, Tryd.ntmps26
  go_wp2
  refine bodyPost_ret (v := .agg #[.int .i64 1, .int .i64 1, .slice (some ⟨w.heap.size + 1, 0, none⟩) 1 1]) (by simp [results, Tryd.results26, go_sem]) rfl ?_
  refine ⟨_, 1, 1, rfl, ?_, ?_⟩
  · have h := ri_one (w.alloc (.cells #[.int .i64 1, .int .i64 1, .slice (some ⟨w.heap.size + 1, 0, none⟩) 1 1] 24)) v
    rw [World.size_alloc] at h
    exact h
  · exact (below_alloc1 _ _).alloc (by simp) _
theorem fair_any (p : Pd) (w : World) : Calls Tryd.prog 9 #[.agg #[.int .i64 p.w, .int .i64 p.h, .slice p.a p.n p.c]] w fun e w' => e = .returned (.bool (decide ((p.n : Int) ≤ 5000))) ∧ Below w.heap.size w w' := by
  go_enter Tryd.func9, Tryd.ntmps9
  go_wp2
  go_ret
  exact ⟨by simp, below_alloc1 _ _⟩
end Go.Proofs.YtpppgceccikodaaDoor
