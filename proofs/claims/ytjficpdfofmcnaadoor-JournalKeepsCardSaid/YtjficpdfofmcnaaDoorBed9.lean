/- The journal: Format. -/
import Derived.Test.YtjficpdfofmcnaaDoorBed8
import Derived.Test.YtjficpdfofmcnaaDoorBed6
import Derived.RegionTactic
import Derived.Test.YtjficpdfofmcnaaDoorBed5
/- The journal's writer: write, flush. -/
namespace Go.Proofs.YtjficpdfofmcnaaDoor
open Go.RowKit Go.Joins

/-- Writing as long as no error has occurred. -/
def Jn.ww (s : Dv.Disk × Int) (i : Int) (l : List UInt8) : Dv.Disk × Int := if s.2 = 0 then Dv.write s.1 i l else s
def Jn.wf (s : Dv.Disk × Int) : Dv.Disk × Int := if s.2 = 0 then Dv.flush s.1 else s
theorem ww_go {m : Dv.Disk} {i : Int} {l : List UInt8} : Jn.ww (m, 0) i l = Dv.write m i l := by unfold Jn.ww; rw [if_pos rfl]
theorem ww_no {m : Dv.Disk} {k i : Int} {l : List UInt8} (h : k ≠ 0) : Jn.ww (m, k) i l = (m, k) := by unfold Jn.ww; rw [if_neg h]
theorem wf_go {m : Dv.Disk} : Jn.wf (m, 0) = Dv.flush m := by unfold Jn.wf; rw [if_pos rfl]
theorem wf_no {m : Dv.Disk} {k : Int} (h : k ≠ 0) : Jn.wf (m, k) = (m, k) := by unfold Jn.wf; rw [if_neg h]
/-- Numbers that the writer's device has. -/
structure WS (K : Nat) (s : Dv.Disk × Int) : Prop where
  fit : Dv.Fits K s.1
  lo : -9223372036854775808 ≤ s.1.left
  hi : s.1.left ≤ 9223372036854775807
theorem WS.write {K : Nat} {s : Dv.Disk × Int} (h : WS K s) (i : Int) (l : List UInt8) : WS (K + 1) (Jn.ww s i l) := by
  unfold Jn.ww
  split
  · refine ⟨Dv.write_fits h.fit i l, ?_, ?_⟩
    all_goals
      have h1 := h.lo
      have h2 := h.hi
      rcases Dv.write_cases s.1 i l with ⟨_, e⟩ | ⟨_, _, e⟩ | ⟨_, _, _, e⟩ | ⟨_, _, _, _, e⟩ | ⟨_, _, _, _, e⟩ <;> rw [e]
      · simpa using ‹_›
      · simp [Dv.Disk.zero]
      · simp [Dv.Disk.zero]
      · simp
      · simp only
        split <;> omega
  · exact ⟨h.fit.mono (by omega), h.lo, h.hi⟩
theorem WS.flush {K : Nat} {s : Dv.Disk × Int} (h : WS K s) : WS K (Jn.wf s) := by
  unfold Jn.wf
  split
  · refine ⟨(Dv.flush_fits h.fit).mono (by omega), ?_, ?_⟩
    all_goals
      have h1 := h.lo
      have h2 := h.hi
      unfold Dv.flush
      split
      · simp [Dv.Disk.zero]
      · simpa using ‹_›
  · exact h
/-- A writer in a box. -/
structure BxW (w : World) (b : Nat) (d : Dk) (k : Int) : Prop where
  bx : Bx w b [.slice d.a d.n d.c, .slice d.pa d.pn d.pc, .int .i64 d.left, .bool d.down, .int .i64 k]
  ok : d.Ok w
  av : d.Av b
theorem BxW.below {w w' : World} {b : Nat} {d : Dk} {k : Int} (h : BxW w b d k) (hb : Below w.heap.size w w') : BxW w' b d k := ⟨h.bx.below hb, h.ok.below hb, h.av⟩
theorem BxW.cs {w : World} {b : Nat} {d : Dk} {k : Int} (h : BxW w b d k) : w.cell? ⟨b, 0, none⟩ = some (.slice d.a d.n d.c) ∧ w.cell? ⟨b, 1, none⟩ = some (.slice d.pa d.pn d.pc) ∧ w.cell? ⟨b, 2, none⟩ = some (.int .i64 d.left) ∧ w.cell? ⟨b, 3, none⟩ = some (.bool d.down) ∧ w.cell? ⟨b, 4, none⟩ = some (.int .i64 k) :=
  ⟨h.bx.cell 0 _ rfl, h.bx.cell 1 _ rfl, h.bx.cell 2 _ rfl, h.bx.cell 3 _ rfl, h.bx.cell 4 _ rfl⟩
/-- What a call of the writer leaves. -/
def RetW (w : World) (b : Nat) (d : Dk) (r : Dv.Disk × Int) (e : Ending) (w' : World) : Prop := ∃ D : Dk, e = .returned (.tuple #[]) ∧ BxW w' b D r.2 ∧ D.m = r.1 ∧ Off [b] w w' ∧ ∀ t, t < w.heap.size → d.Av t → D.Av t
theorem off_set5 (w : World) (b : Nat) (x0 x1 x2 x3 x4 : Value) : Off [b] w (((((w.setCell ⟨b, 0, none⟩ x0).setCell ⟨b, 1, none⟩ x1).setCell ⟨b, 2, none⟩ x2).setCell ⟨b, 3, none⟩ x3).setCell ⟨b, 4, none⟩ x4) :=
  (off_set4 w b x0 x1 x2 x3).setCell (p := ⟨b, 4, none⟩) (by simp) x4
theorem Bx.set5 {w : World} {b : Nat} {a0 a1 a2 a3 a4 : Value} (h : Bx w b [a0, a1, a2, a3, a4]) (x0 x1 x2 x3 x4 : Value) :
    Bx (((((w.setCell ⟨b, 0, none⟩ x0).setCell ⟨b, 1, none⟩ x1).setCell ⟨b, 2, none⟩ x2).setCell ⟨b, 3, none⟩ x3).setCell ⟨b, 4, none⟩ x4) b [x0, x1, x2, x3, x4] := by
  have := ((((h.set (j := 0) (by simp) x0).set (j := 1) (by simp) x1).set (j := 2) (by simp) x2).set (j := 3) (by simp) x3).set (j := 4) (by simp) x4
  simpa only [List.set_cons_zero, List.set_cons_succ] using this

set_option maxHeartbeats 1000000 in
set_option maxRecDepth 100000 in
theorem wwrite_any (b : Nat) (d : Dk) (k : Int) (i : Int) (A : Option Addr) (n c : Nat) (l : List UInt8) (K : Nat) (w : World) (h : BxW w b d k) (hl : RB w A n c l) (hf : WS K (d.m, k)) (hK : K ≤ 1000) :
    Calls Tryd.prog 35 #[.pointer (some ⟨b, 0, none⟩), .int .i64 i, .slice A n c] w (RetW w b d (Jn.ww (d.m, k) i l)) := by
  have HX := Keep.mk h
  obtain ⟨c0, c1, c2, c3, c4⟩ := h.cs
  have hlt := h.bx.lt
  by_cases hk : k = 0
  · subst hk
    rw [ww_go]
    have CW := Keep.mk (retXE (write_any d i A n c l K w h.ok hl hf.fit hK hf.lo hf.hi))
    generalize Dv.write d.m i l = r at *
    obtain ⟨m1, q⟩ := r
    clear h hl hf
    go_enter Tryd.func35, Tryd.ntmps35
    go_wp2_with fail
    refine CW.out.mono ?_
    rintro e w2 ⟨D, rfl, hok, hm, hb, hav⟩
    simp only at hm
    have HX2 := Keep.mk (HX.out.bx.below hb)
    have HB2 := Lib.hid hb
    have HOK := Keep.mk hok
    have HM := Keep.mk hm
    have HAV : Keep (∀ t, t < w.heap.size → D.Av t) := ⟨fun t ht => hav t ht trivial⟩
    clear hok hm hb hav c0 c1 c2 c3 c4
    have o0 := HX2.out.cell 0 _ rfl
    have o1 := HX2.out.cell 1 _ rfl
    have o2 := HX2.out.cell 2 _ rfl
    have o3 := HX2.out.cell 3 _ rfl
    have o4 := HX2.out.cell 4 _ rfl
    have of := HX2.out.fz
    go_wp2
    go_end0
    have hof := off_set5 w2 b (.slice D.a D.n D.c) (.slice D.pa D.pn D.pc) (.int .i64 D.left) (.bool D.down) (.int .i64 q)
    exact ⟨D, rfl, ⟨HX2.out.set5 _ _ _ _ _, HOK.out.off hof (fun t ht => by simp only [List.mem_singleton] at ht; rw [ht]; exact HAV.out _ hlt), HAV.out _ hlt⟩, HM.out, (Off.of_below HB2.out [b]).trans hof, fun t ht _ => HAV.out t ht⟩
  · have e1 : (k == 0) = false := by simpa using hk
    have HW := Keep.mk (ww_no (m := d.m) (i := i) (l := l) hk)
    clear h hl hf hk
    go_enter Tryd.func35, Tryd.ntmps35
    go_wp2
    go_end0
    rw [HW.out]
    exact ⟨d, rfl, HX.out, rfl, Off.refl _ _, fun t _ h => h⟩

set_option maxHeartbeats 1000000 in
set_option maxRecDepth 100000 in
theorem wflush_any (b : Nat) (d : Dk) (k : Int) (K : Nat) (w : World) (h : BxW w b d k) (hf : WS K (d.m, k)) (hK : K ≤ 1000) :
    Calls Tryd.prog 37 #[.pointer (some ⟨b, 0, none⟩)] w (RetW w b d (Jn.wf (d.m, k))) := by
  have HX := Keep.mk h
  obtain ⟨c0, c1, c2, c3, c4⟩ := h.cs
  have hlt := h.bx.lt
  by_cases hk : k = 0
  · subst hk
    rw [wf_go]
    have CW := Keep.mk (retXE (flush_any d K w h.ok hf.fit hK))
    generalize Dv.flush d.m = r at *
    obtain ⟨m1, q⟩ := r
    clear h hf
    go_enter Tryd.func37, Tryd.ntmps37
    go_wp2_with fail
    refine CW.out.mono ?_
    rintro e w2 ⟨D, rfl, hok, hm, hb, hav⟩
    simp only at hm
    have HX2 := Keep.mk (HX.out.bx.below hb)
    have HB2 := Lib.hid hb
    have HOK := Keep.mk hok
    have HM := Keep.mk hm
    have HAV : Keep (∀ t, t < w.heap.size → D.Av t) := ⟨fun t ht => hav t ht trivial⟩
    clear hok hm hb hav c0 c1 c2 c3 c4
    have o0 := HX2.out.cell 0 _ rfl
    have o1 := HX2.out.cell 1 _ rfl
    have o2 := HX2.out.cell 2 _ rfl
    have o3 := HX2.out.cell 3 _ rfl
    have o4 := HX2.out.cell 4 _ rfl
    have of := HX2.out.fz
    go_wp2
    go_end0
    have hof := off_set5 w2 b (.slice D.a D.n D.c) (.slice D.pa D.pn D.pc) (.int .i64 D.left) (.bool D.down) (.int .i64 q)
    exact ⟨D, rfl, ⟨HX2.out.set5 _ _ _ _ _, HOK.out.off hof (fun t ht => by simp only [List.mem_singleton] at ht; rw [ht]; exact HAV.out _ hlt), HAV.out _ hlt⟩, HM.out, (Off.of_below HB2.out [b]).trans hof, fun t ht _ => HAV.out t ht⟩
  · have e1 : (k == 0) = false := by simpa using hk
    have HW := Keep.mk (wf_no (m := d.m) hk)
    clear h hf hk
    go_enter Tryd.func37, Tryd.ntmps37
    go_wp2
    go_end0
    rw [HW.out]
    exact ⟨d, rfl, HX.out, rfl, Off.refl _ _, fun t _ h => h⟩
end Go.Proofs.YtjficpdfofmcnaaDoor

/- The journal's Format. -/
namespace Go.Proofs.YtjficpdfofmcnaaDoor
open Go.RowKit Go.Joins

/-- What Format writes. -/
def Jn.fmtW (m : Dv.Disk) (e : Int) : Dv.Disk × Int := Jn.wf (Jn.ww (Jn.wf (Jn.ww (m, 0) 1 zs)) 0 (Jn.headB e))
/-- FORMAT. -/
def Jn.fmt (m : Dv.Disk) : Jl × Int :=
  if m.sectors.length < 2 then (Jl.zero, 18) else if m.down = true then (Jl.zero, 23) else
  if 1073741824 < (Jn.readHead (Jn.cont m 0)).1 + 1 then (Jl.zero, 3) else
  if (Jn.fmtW m ((Jn.readHead (Jn.cont m 0)).1 + 1)).2 = 0 then (⟨(Jn.fmtW m ((Jn.readHead (Jn.cont m 0)).1 + 1)).1, (Jn.readHead (Jn.cont m 0)).1 + 1, 64, 0⟩, 0) else (Jl.zero, (Jn.fmtW m ((Jn.readHead (Jn.cont m 0)).1 + 1)).2)
theorem RetJE.no {w w' : World} {I : Nat → Prop} {r : Jl × Int} {k : Int} (hr : r = (Jl.zero, k)) (hb : Below w.heap.size w w') : RetJE w I r (.returned (.tuple #[.agg #[.slice none 0 0, .slice none 0 0, .int .i64 0, .bool false, .int .i64 0, .int .i64 0, .int .i64 0], .int .i64 k])) w' := by
  subst hr
  exact ⟨Jk.zero, rfl, Dk.zero_ok _, rfl, hb, fun b _ _ => Dk.zero_av b⟩
theorem wwrite_at {b : Nat} {d : Dk} {s : Dv.Disk × Int} (i : Int) (A : Option Addr) (n c : Nat) (l : List UInt8) {K : Nat} {w : World} (h : BxW w b d s.2) (hm : d.m = s.1) (hl : RB w A n c l) (hf : WS K s) (hK : K ≤ 1000) :
    Calls Tryd.prog 35 #[.pointer (some ⟨b, 0, none⟩), .int .i64 i, .slice A n c] w (RetW w b d (Jn.ww s i l)) := by
  obtain ⟨m, k⟩ := s
  subst hm
  exact wwrite_any b d k i A n c l K w h hl hf hK
theorem wflush_at {b : Nat} {d : Dk} {s : Dv.Disk × Int} {K : Nat} {w : World} (h : BxW w b d s.2) (hm : d.m = s.1) (hf : WS K s) (hK : K ≤ 1000) :
    Calls Tryd.prog 37 #[.pointer (some ⟨b, 0, none⟩)] w (RetW w b d (Jn.wf s)) := by
  obtain ⟨m, k⟩ := s
  subst hm
  exact wflush_any b d k K w h hf hK
theorem rb_zs (w : World) : RB (w.alloc (.cells (zs.map bv).toArray 5)) (some ⟨w.heap.size, 0, none⟩) 64 64 zs := wh_rb (Wh.new w 5 (zs.map bv)) zs_len (by omega)

set_option maxHeartbeats 4000000 in
set_option maxRecDepth 100000 in
theorem format_any (d : Dk) (K : Nat) (w : World) (h : d.Ok w) (hf : WS K (d.m, 0)) (hK : K ≤ 900) (ht : Tab w) :
    Calls Tryd.prog 18 #[.agg #[.slice d.a d.n d.c, .slice d.pa d.pn d.pc, .int .i64 d.left, .bool d.down]] w (RetJE w d.Av (Jn.fmt d.m)) := by
  have HF := Keep.mk hf
  have HT := Keep.mk ht
  have HD := Keep.mk h
  have hdl := dk_len h
  have hns : d.n ≤ 4096 := by have := hf.fit.ns; simp only at this; omega
  have HDL := Keep.mk hdl
  have IX := Keep.mk ((BxK.new h).below (below_alloc1 _ (.cells #[.slice none 0 0, .slice none 0 0, .int .i64 0, .bool false, .int .i64 0, .int .i64 0, .int .i64 0] 32)))
  have OX := Keep.mk (Bx.new (w.alloc (.cells #[.slice d.a d.n d.c, .slice d.pa d.pn d.pc, .int .i64 d.left, .bool d.down] 25)) [.slice none 0 0, .slice none 0 0, .int .i64 0, .bool false, .int .i64 0, .int .i64 0, .int .i64 0] 32)
  have HB0 : Hid (Below w.heap.size w ((w.alloc (.cells #[.slice d.a d.n d.c, .slice d.pa d.pn d.pc, .int .i64 d.left, .bool d.down] 25)).alloc (.cells #[.slice none 0 0, .slice none 0 0, .int .i64 0, .bool false, .int .i64 0, .int .i64 0, .int .i64 0] 32))) := (below_alloc1 _ _).alloc (by simp) _
  rw [World.size_alloc] at OX
  have hbig := Nat.le_trans h.sec.cap h.sec.big
  unfold maxLen at hbig
  have HR := Keep.mk (fun (X : World) (hX : Below w.heap.size w X) => read_any d 0 K X (h.below hX) hf.fit)
  have HAV2 : Keep (d.Av (w.heap.size + 1)) := ⟨h.av (by omega)⟩
  clear h hf ht hdl
  by_cases h2 : d.n < 2
  · have e1 : decide ((d.n : Int) < 2) = true := decide_eq_true (by omega)
    have HSE : Keep (Jn.fmt d.m = (Jl.zero, 18)) := ⟨by unfold Jn.fmt; rw [if_pos (by rw [HDL.out]; exact h2)]⟩
    go_enter Tryd.func18, Tryd.ntmps18
    go_upto_region 1 with (fail)
    generalize e3 : (w.alloc (.cells #[.slice d.a d.n d.c, .slice d.pa d.pn d.pc, .int .i64 d.left, .bool d.down] 25)).alloc (.cells #[.slice none 0 0, .slice none 0 0, .int .i64 0, .bool false, .int .i64 0, .int .i64 0, .int .i64 0] 32) = w1 at *
    clear e3
    have i0 := IX.out.bx.cell 0 _ rfl
    have o0 := OX.out.cell 0 _ rfl
    have o1 := OX.out.cell 1 _ rfl
    have o2 := OX.out.cell 2 _ rfl
    have o3 := OX.out.cell 3 _ rfl
    have o4 := OX.out.cell 4 _ rfl
    have o5 := OX.out.cell 5 _ rfl
    have o6 := OX.out.cell 6 _ rfl
    have of := OX.out.fz
    go_wp2
    refine bodyPost_ret (v := .tuple #[.agg #[.slice none 0 0, .slice none 0 0, .int .i64 0, .bool false, .int .i64 0, .int .i64 0, .int .i64 0], .int .i64 18]) (by simp [results, Tryd.results18, go_sem, o0, o1, o2, o3, o4, o5, o6]) rfl ?_
    exact .no HSE.out (HB0.out.trans ((off_set7 w1 (w.heap.size + 1) _ _ _ _ _ _ _).below HB0.out.size (by simp)))
  · have e1 : decide ((d.n : Int) < 2) = false := decide_eq_false (by omega)
    go_enter Tryd.func18, Tryd.ntmps18
    go_upto_region 1 with (fail)
    generalize e3 : (w.alloc (.cells #[.slice d.a d.n d.c, .slice d.pa d.pn d.pc, .int .i64 d.left, .bool d.down] 25)).alloc (.cells #[.slice none 0 0, .slice none 0 0, .int .i64 0, .bool false, .int .i64 0, .int .i64 0, .int .i64 0] 32) = w1 at *
    clear e3
    obtain ⟨i0, i1, i2, i3⟩ := IX.out.cs
    go_wp2_with fail
    refine (HR.out w1 HB0.out).mono ?_
    rintro e w2 ⟨A1, n1, c1, rfl, hr, hb⟩
    have HR1 := Keep.mk hr
    have HB2 := Lib.hid (below_next HB0.out hb (Nat.le_refl _))
    have IX2 := Keep.mk (IX.out.below hb)
    have OX2 := Keep.mk (OX.out.below hb)
    clear hr hb i0 i1 i2 i3 IX OX
    by_cases hdn : d.down = true
    · have hrd : Dv.read d.m 0 = ([], 23) := by unfold Dv.read; rw [if_pos (show d.m.down = true from hdn)]
      have HSE : Keep (Jn.fmt d.m = (Jl.zero, 23)) := ⟨by unfold Jn.fmt; rw [if_neg (by rw [HDL.out]; exact h2), if_pos (show d.m.down = true from hdn)]⟩
      have o0 := OX2.out.cell 0 _ rfl
      have o1 := OX2.out.cell 1 _ rfl
      have o2 := OX2.out.cell 2 _ rfl
      have o3 := OX2.out.cell 3 _ rfl
      have o4 := OX2.out.cell 4 _ rfl
      have o5 := OX2.out.cell 5 _ rfl
      have o6 := OX2.out.cell 6 _ rfl
      have of := OX2.out.fz
      rw [hrd]
      clear hrd hdn HR1 HR
      go_wp2
      refine bodyPost_ret (v := .tuple #[.agg #[.slice none 0 0, .slice none 0 0, .int .i64 0, .bool false, .int .i64 0, .int .i64 0, .int .i64 0], .int .i64 23]) (by simp [results, Tryd.results18, go_sem, o0, o1, o2, o3, o4, o5, o6]) rfl ?_
      exact .no HSE.out (HB2.out.trans ((off_set7 w2 (w.heap.size + 1) _ _ _ _ _ _ _).below HB2.out.size (by simp)))
    · have hdn : d.down = false := by simpa using hdn
      have hmd : d.m.down = false := hdn
      have hrd : Dv.read d.m 0 = (Jn.cont d.m 0, 0) := Jn.read_cont hmd (i := 0) (by rw [HDL.out]; omega)
      have HH := Keep.mk HR1.out
      rw [hrd] at HH ⊢
      have HDN := Keep.mk hdn
      have CH := Keep.mk (readHead_any A1 n1 c1 _ w2 HH.out (HT.out.below HB2.out))
      have HFM : Keep (Jn.fmt d.m = if 1073741824 < (Jn.readHead (Jn.cont d.m 0)).1 + 1 then (Jl.zero, 3) else
          if (Jn.fmtW d.m ((Jn.readHead (Jn.cont d.m 0)).1 + 1)).2 = 0 then (⟨(Jn.fmtW d.m ((Jn.readHead (Jn.cont d.m 0)).1 + 1)).1, (Jn.readHead (Jn.cont d.m 0)).1 + 1, 64, 0⟩, 0) else (Jl.zero, (Jn.fmtW d.m ((Jn.readHead (Jn.cont d.m 0)).1 + 1)).2)) := ⟨by unfold Jn.fmt; rw [if_neg (by rw [HDL.out]; exact h2), if_neg (by rw [hmd]; decide)]⟩
      have hrg := Jn.readHead_range (Jn.cont d.m 0)
      obtain ⟨x, ok, hx⟩ : ∃ x ok, Jn.readHead (Jn.cont d.m 0) = (x, ok) := ⟨_, _, rfl⟩
      rw [hx] at CH HFM hrg
      simp only at HFM hrg
      clear hrd HR1 HR hdn hmd hx
      have hx0 := hrg.1
      have hx1 := hrg.2
      clear hrg
      go_wp2_with fail
      refine CH.out.mono ?_
      rintro e w3 ⟨rfl, hb⟩
      have HB3 := Lib.hid (below_next HB2.out hb (Nat.le_refl _))
      have IX3 := Keep.mk (IX2.out.below hb)
      have OX3 := Keep.mk (OX2.out.below hb)
      clear hb IX2 OX2 HB2 HH CH
      by_cases hlim : 1073741824 < x + 1
      · have b0 : decide (1073741824 < x + 1) = true := decide_eq_true hlim
        have b1 : decide (1073741824 ≤ x) = true := decide_eq_true (by omega)
        have HSE : Keep (Jn.fmt d.m = (Jl.zero, 3)) := ⟨by rw [HFM.out, if_pos hlim]⟩
        have o0 := OX3.out.cell 0 _ rfl
        have o1 := OX3.out.cell 1 _ rfl
        have o2 := OX3.out.cell 2 _ rfl
        have o3 := OX3.out.cell 3 _ rfl
        have o4 := OX3.out.cell 4 _ rfl
        have o5 := OX3.out.cell 5 _ rfl
        have o6 := OX3.out.cell 6 _ rfl
        have of := OX3.out.fz
        clear hlim
        go_wp2
        refine bodyPost_ret (v := .tuple #[.agg #[.slice none 0 0, .slice none 0 0, .int .i64 0, .bool false, .int .i64 0, .int .i64 0, .int .i64 0], .int .i64 3]) (by simp [results, Tryd.results18, go_sem, o0, o1, o2, o3, o4, o5, o6]) rfl ?_
        exact .no HSE.out (HB3.out.trans ((off_set7 w3 (w.heap.size + 1) _ _ _ _ _ _ _).below HB3.out.size (by simp)))
      · have b0 : decide (1073741824 < x + 1) = false := decide_eq_false hlim
        have b1 : decide (1073741824 ≤ x) = false := decide_eq_false (by omega)
        have HFM2 : Keep (Jn.fmt d.m = if (Jn.fmtW d.m (x + 1)).2 = 0 then (⟨(Jn.fmtW d.m (x + 1)).1, x + 1, 64, 0⟩, 0) else (Jl.zero, (Jn.fmtW d.m (x + 1)).2)) := ⟨by rw [HFM.out, if_neg hlim]⟩
        have HIN : Keep (V.In (x + 1)) := ⟨by unfold V.In; omega⟩
        obtain ⟨i0, i1, i2, i3⟩ := IX3.out.cs
        have hz3 := HB3.out.size
        have hlo := OX3.out.lt
        have WX : Keep (BxW (w3.alloc (.cells [.slice d.a d.n d.c, .slice d.pa d.pn d.pc, .int .i64 d.left, .bool d.down, .int .i64 0].toArray 55)) w3.heap.size d 0) := ⟨⟨Bx.new w3 _ 55, (HD.out.below HB3.out).below (below_alloc1 _ _), (HD.out.below HB3.out).av (Nat.le_refl _)⟩⟩
        have OX4 := Keep.mk (OX3.out.below (below_alloc1 w3 (.cells [.slice d.a d.n d.c, .slice d.pa d.pn d.pc, .int .i64 d.left, .bool d.down, .int .i64 0].toArray 55)))
        have HB4 : Hid (Below w.heap.size w (w3.alloc (.cells [.slice d.a d.n d.c, .slice d.pa d.pn d.pc, .int .i64 d.left, .bool d.down, .int .i64 0].toArray 55))) := HB3.out.alloc hz3 _
        rw [HDN.out] at WX OX4 HB4 i3
        clear HFM hlim
        go_upto_region 11 with (fail)
        generalize e4 : w3.alloc (.cells [.slice d.a d.n d.c, .slice d.pa d.pn d.pc, .int .i64 d.left, .bool false, .int .i64 0].toArray 55) = w4 at *
        clear e4 i0 i1 i2 i3
        have hw34 := WX.out.bx.lt
        have hmk := run_make64 w4
        obtain ⟨s1, hs1⟩ : ∃ s1, s1 = Jn.ww (d.m, 0) 1 zs := ⟨_, rfl⟩
        have hf1 := HF.out.write 1 zs
        have C1 := wwrite_at (s := (d.m, 0)) (b := w3.heap.size) (d := d) 1 _ 64 64 zs (WX.out.below (below_alloc1 w4 (.cells (zs.map bv).toArray 5))) rfl (rb_zs w4) HF.out (by omega)
        rw [← hs1] at C1 hf1
        have CK1 := Keep.mk C1
        have HF1 := Keep.mk hf1
        have HS1 := Keep.mk hs1
        clear C1 hf1 hs1
        go_wp2_with fail
        refine CK1.out.mono ?_
        rintro e5 w5 ⟨D1, rfl, hx, hm, ho, hav⟩
        have X1 := Keep.mk hx
        have M1 := Keep.mk hm
        have hal := below_alloc1 w4 (.cells (zs.map bv).toArray 5)
        have OX5 := Keep.mk ((OX4.out.below hal).off ho (by simp; omega))
        have HB5 := Lib.hid ((below_next HB4.out hal (Nat.le_refl _)).trans (ho.below (below_next HB4.out hal (Nat.le_refl _)).size (by simp; omega)))
        have hz5 : w4.heap.size ≤ w5.heap.size := Nat.le_trans hal.size ho.size
        have AVA : Keep (∀ t, t < w4.heap.size → d.Av t → D1.Av t) := ⟨fun t ht h => hav t (by simp; omega) h⟩
        clear hx hm ho hav hal hmk CK1
        obtain ⟨s2, hs2⟩ : ∃ s2, s2 = Jn.wf s1 := ⟨_, rfl⟩
        have hf2 := HF1.out.flush
        have C2 := wflush_at X1.out M1.out HF1.out (by omega)
        rw [← hs2] at C2 hf2
        have CK2 := Keep.mk C2
        have HF2 := Keep.mk hf2
        have HS2 := Keep.mk hs2
        clear C2 hf2 hs2
        go_wp2_with fail
        refine CK2.out.mono ?_
        rintro e6 w6 ⟨D2, rfl, hx, hm, ho, hav⟩
        have X2 := Keep.mk hx
        have M2 := Keep.mk hm
        have OX6 := Keep.mk (OX5.out.off ho (by simp; omega))
        have HB6 := Lib.hid (HB5.out.trans (ho.below HB5.out.size (by simp; omega)))
        have hz6 := ho.size
        have AVB : Keep (∀ t, t < w4.heap.size → d.Av t → D2.Av t) := ⟨fun t ht h => hav t (by omega) (AVA.out t ht h)⟩
        clear hx hm ho hav CK2 X1 M1 OX5 HB5 AVA
        have CH := Keep.mk (head_any (x + 1) w6 HIN.out (HT.out.below HB6.out))
        go_wp2_with fail
        refine CH.out.mono ?_
        rintro e7 w7 ⟨A7, n7, c7, rfl, hr, hb⟩
        have X2b := Keep.mk (X2.out.below hb)
        have OX7 := Keep.mk (OX6.out.below hb)
        have HB7 := Lib.hid (below_next HB6.out hb (Nat.le_refl _))
        have hz7 := hb.size
        obtain ⟨s3, hs3⟩ : ∃ s3, s3 = Jn.ww s2 0 (Jn.headB (x + 1)) := ⟨_, rfl⟩
        have hf3 := HF2.out.write 0 (Jn.headB (x + 1))
        have C3 := wwrite_at 0 A7 n7 c7 _ X2b.out M2.out hr HF2.out (by omega)
        rw [← hs3] at C3 hf3
        have CK3 := Keep.mk C3
        have HF3 := Keep.mk hf3
        have HS3 := Keep.mk hs3
        clear C3 hf3 hs3 hr hb CH X2 OX6 HB6
        go_wp2_with fail
        refine CK3.out.mono ?_
        rintro e8 w8 ⟨D3, rfl, hx, hm, ho, hav⟩
        have X3 := Keep.mk hx
        have M3 := Keep.mk hm
        have OX8 := Keep.mk (OX7.out.off ho (by simp; omega))
        have HB8 := Lib.hid (HB7.out.trans (ho.below HB7.out.size (by simp; omega)))
        have hz8 := ho.size
        have AVC : Keep (∀ t, t < w4.heap.size → d.Av t → D3.Av t) := ⟨fun t ht h => hav t (by omega) (AVB.out t ht h)⟩
        clear hx hm ho CK3 X2b M2 OX7 HB7 AVB hav
        obtain ⟨s4, hs4⟩ : ∃ s4, s4 = Jn.wf s3 := ⟨_, rfl⟩
        have C4 := wflush_at X3.out M3.out HF3.out (by omega)
        rw [← hs4] at C4
        have CK4 := Keep.mk C4
        have HFW : Keep (Jn.fmtW d.m (x + 1) = s4) := ⟨by unfold Jn.fmtW; rw [← HS1.out, ← HS2.out, ← HS3.out, ← hs4]⟩
        clear C4 hs4
        go_wp2_with fail
        refine CK4.out.mono ?_
        rintro e9 w9 ⟨D4, rfl, hx, hm, ho, hav⟩
        have X4 := Keep.mk hx
        have M4 := Keep.mk hm
        have OX9 := Keep.mk (OX8.out.off ho (by simp; omega))
        have HB9 := Lib.hid (HB8.out.trans (ho.below HB8.out.size (by simp; omega)))
        have hz9 := ho.size
        have AVE : Keep (∀ t, t < w4.heap.size → d.Av t → D4.Av t) := ⟨fun t ht h => hav t (by omega) (AVC.out t ht h)⟩
        clear hx hm ho hav CK4 X3 M3 OX8 HB8 AVC
        have HFR := HFM2.out
        rw [HFW.out] at HFR
        obtain ⟨m4, k4⟩ := s4
        simp only at HFR X4 M4
        obtain ⟨c0, c1, c2, c3, c4⟩ := X4.out.cs
        have o0 := OX9.out.cell 0 _ rfl
        have o1 := OX9.out.cell 1 _ rfl
        have o2 := OX9.out.cell 2 _ rfl
        have o3 := OX9.out.cell 3 _ rfl
        have o4 := OX9.out.cell 4 _ rfl
        have o5 := OX9.out.cell 5 _ rfl
        have o6 := OX9.out.cell 6 _ rfl
        have of := OX9.out.fz
        by_cases hk : k4 = 0
        · subst hk
          rw [if_pos rfl] at HFR
          have HFE := Keep.mk HFR
          clear HFR
          go_wp2
          refine bodyPost_ret (v := .tuple #[.agg #[.slice D4.a D4.n D4.c, .slice D4.pa D4.pn D4.pc, .int .i64 D4.left, .bool D4.down, .int .i64 (x+1), .int .i64 64, .int .i64 0], .int .i64 0]) (by simp [results, Tryd.results18, go_sem, o0, o1, o2, o3, o4, o5, o6]) rfl ?_
          have hof := off_set7 w9 (w.heap.size + 1) (.slice D4.a D4.n D4.c) (.slice D4.pa D4.pn D4.pc) (.int .i64 D4.left) (.bool D4.down) (.int .i64 (x + 1)) (.int .i64 64) (.int .i64 0)
          rw [HFE.out]
          exact ⟨⟨D4, x + 1, 64, 0⟩, rfl, X4.out.ok.off hof (fun b hb => by simp only [List.mem_singleton] at hb; rw [hb]; exact AVE.out _ (by omega) HAV2.out), by unfold Jk.m; simp only [M4.out], HB9.out.trans (hof.below HB9.out.size (by simp)), fun b hb h => AVE.out b (by omega) h⟩
        · have b2 : (k4 != 0) = true := by simp [hk]
          rw [if_neg hk] at HFR
          have HFE := Keep.mk HFR
          clear HFR hk
          go_upto_region 16 with (fail)
          go_region
          all_goals go_wp2
          all_goals
            refine bodyPost_ret (v := .tuple #[.agg #[.slice none 0 0, .slice none 0 0, .int .i64 0, .bool false, .int .i64 0, .int .i64 0, .int .i64 0], .int .i64 k4]) (by simp [results, Tryd.results18, go_sem, o0, o1, o2, o3, o4, o5, o6]) rfl ?_
            first
              | exact .no HFE.out ((HB9.out.trans ((off_set7 w9 (w.heap.size + 1) _ _ _ _ _ _ _).below HB9.out.size (by simp))).trans (below_draws _ _ 1))
              | exact .no HFE.out ((HB9.out.trans (below_draws _ _ 1)).trans ((off_set7 _ (w.heap.size + 1) _ _ _ _ _ _ _).below (HB9.out.trans (below_draws _ _ 1)).size (by simp)))
end Go.Proofs.YtjficpdfofmcnaaDoor

/- The reference's Format. -/
namespace Go.Proofs.YtjficpdfofmcnaaDoor
open Go.RowKit Go.Joins

/-- Where a device lies that is written again and again: its box, a box beside it that stays. -/
structure RF (w0 X : World) (Z : List Value) (d0 : Dk) (s : Dv.Disk × Int) (D : Dk) : Prop where
  bx : BxK X w0.heap.size D
  m : D.m = s.1
  ox : Bx X (w0.heap.size + 1) Z
  av1 : D.Av w0.heap.size
  av2 : D.Av (w0.heap.size + 1)
  bel : Below w0.heap.size w0 X
  avd : ∀ t, t < w0.heap.size → d0.Av t → D.Av t
theorem RF.below {w0 X Y : World} {Z : List Value} {d0 D : Dk} {s : Dv.Disk × Int} (h : RF w0 X Z d0 s D) (hb : Below X.heap.size X Y) : RF w0 Y Z d0 s D :=
  ⟨h.bx.below hb, h.m, h.ox.below hb, h.av1, h.av2, below_next h.bel hb (Nat.le_refl _), h.avd⟩
theorem RF.lt {w0 X : World} {Z : List Value} {d0 D : Dk} {s : Dv.Disk × Int} (h : RF w0 X Z d0 s D) : w0.heap.size + 1 < X.heap.size := h.ox.lt
theorem RF.store {w0 X wn : World} {Z : List Value} {d0 D D' : Dk} {s s' : Dv.Disk × Int} (h : RF w0 X Z d0 s D) (hb : Below X.heap.size X wn) (hok : D'.Ok wn) (hm : D'.m = s'.1) (hav : ∀ b, b < X.heap.size → D.Av b → D'.Av b) :
    RF w0 (((((wn.setCell ⟨w0.heap.size, 0, none⟩ (.slice D'.a D'.n D'.c)).setCell ⟨w0.heap.size, 1, none⟩ (.slice D'.pa D'.pn D'.pc)).setCell ⟨w0.heap.size, 2, none⟩ (.int .i64 D'.left)).setCell ⟨w0.heap.size, 3, none⟩ (.bool D'.down))) Z d0 s' D' := by
  have hn := h.below hb
  have hof := off_set4 wn w0.heap.size (.slice D'.a D'.n D'.c) (.slice D'.pa D'.pn D'.pc) (.int .i64 D'.left) (.bool D'.down)
  have h1 := h.lt
  have hav1 := hav _ (by omega) h.av1
  exact ⟨⟨hn.bx.bx.set4 _ _ _ _, hok.off hof (fun t ht => by simp only [List.mem_singleton] at ht; rw [ht]; exact hav1)⟩, hm, hn.ox.off hof (by simp), hav1, hav _ h1 h.av2, hn.bel.trans (hof.below hn.bel.size (by simp)), fun t ht h0 => hav t (by omega) (h.avd t ht h0)⟩
theorem rwrite_at {d : Dk} {s : Dv.Disk × Int} (i : Int) (A : Option Addr) (n c : Nat) (l : List UInt8) {K : Nat} {w : World} (h : d.Ok w) (hm : d.m = s.1) (hs : s.2 = 0) (hl : RB w A n c l) (hf : WS K s) (hK : K ≤ 1000) :
    Calls Tryd.prog 50 #[.agg #[.slice d.a d.n d.c, .slice d.pa d.pn d.pc, .int .i64 d.left, .bool d.down], .int .i64 i, .slice A n c] w (RetXE w d.Av (Jn.ww s i l)) := by
  obtain ⟨m, k⟩ := s
  subst hm
  simp only at hs
  subst hs
  rw [ww_go]
  exact retXE (rwrite_any d i A n c l K w h hl hf.fit (by omega) hf.lo hf.hi)
theorem rflush_at {d : Dk} {s : Dv.Disk × Int} {K : Nat} {w : World} (h : d.Ok w) (hm : d.m = s.1) (hs : s.2 = 0) (hf : WS K s) :
    Calls Tryd.prog 52 #[.agg #[.slice d.a d.n d.c, .slice d.pa d.pn d.pc, .int .i64 d.left, .bool d.down]] w (RetXE w d.Av (Jn.wf s)) := by
  obtain ⟨m, k⟩ := s
  subst hm
  simp only at hs
  subst hs
  rw [wf_go]
  exact retXE (rflush_any d K w h hf.fit)
theorem wf_stay {s : Dv.Disk × Int} (h : s.2 ≠ 0) : Jn.wf s = s := by unfold Jn.wf; rw [if_neg h]
theorem ww_stay {s : Dv.Disk × Int} {i : Int} {l : List UInt8} (h : s.2 ≠ 0) : Jn.ww s i l = s := by unfold Jn.ww; rw [if_neg h]

set_option maxHeartbeats 4000000 in
set_option maxRecDepth 100000 in
theorem rformat_any (d : Dk) (K : Nat) (w : World) (h : d.Ok w) (hf : WS K (d.m, 0)) (hK : K ≤ 900) :
    Calls Tryd.prog 24 #[.agg #[.slice d.a d.n d.c, .slice d.pa d.pn d.pc, .int .i64 d.left, .bool d.down]] w (RetJE w d.Av (Jn.fmt d.m)) := by
  have HF := Keep.mk hf
  have HD := Keep.mk h
  have hdl := dk_len h
  have hns : d.n ≤ 4096 := by have := hf.fit.ns; simp only at this; omega
  have HDL := Keep.mk hdl
  have IX := Keep.mk ((BxK.new h).below (below_alloc1 _ (.cells #[.slice none 0 0, .slice none 0 0, .int .i64 0, .bool false, .int .i64 0, .int .i64 0, .int .i64 0] 32)))
  have OX := Keep.mk (Bx.new (w.alloc (.cells #[.slice d.a d.n d.c, .slice d.pa d.pn d.pc, .int .i64 d.left, .bool d.down] 25)) [.slice none 0 0, .slice none 0 0, .int .i64 0, .bool false, .int .i64 0, .int .i64 0, .int .i64 0] 32)
  have HB0 : Hid (Below w.heap.size w ((w.alloc (.cells #[.slice d.a d.n d.c, .slice d.pa d.pn d.pc, .int .i64 d.left, .bool d.down] 25)).alloc (.cells #[.slice none 0 0, .slice none 0 0, .int .i64 0, .bool false, .int .i64 0, .int .i64 0, .int .i64 0] 32))) := (below_alloc1 _ _).alloc (by simp) _
  rw [World.size_alloc] at OX
  have hbig := Nat.le_trans h.sec.cap h.sec.big
  unfold maxLen at hbig
  have HR := Keep.mk (fun (X : World) (hX : Below w.heap.size w X) => rread_any d 0 K X (h.below hX) hf.fit)
  have HAV2 : Keep (d.Av (w.heap.size + 1)) := ⟨h.av (by omega)⟩
  clear h hf hdl
  by_cases h2 : d.n < 2
  · have e1 : decide ((d.n : Int) < 2) = true := decide_eq_true (by omega)
    have HSE : Keep (Jn.fmt d.m = (Jl.zero, 18)) := ⟨by unfold Jn.fmt; rw [if_pos (by rw [HDL.out]; exact h2)]⟩
    go_enter Tryd.func24, Tryd.ntmps24
    go_upto_region 1 with (fail)
    generalize e3 : (w.alloc (.cells #[.slice d.a d.n d.c, .slice d.pa d.pn d.pc, .int .i64 d.left, .bool d.down] 25)).alloc (.cells #[.slice none 0 0, .slice none 0 0, .int .i64 0, .bool false, .int .i64 0, .int .i64 0, .int .i64 0] 32) = w1 at *
    clear e3
    have i0 := IX.out.bx.cell 0 _ rfl
    have o0 := OX.out.cell 0 _ rfl
    have o1 := OX.out.cell 1 _ rfl
    have o2 := OX.out.cell 2 _ rfl
    have o3 := OX.out.cell 3 _ rfl
    have o4 := OX.out.cell 4 _ rfl
    have o5 := OX.out.cell 5 _ rfl
    have o6 := OX.out.cell 6 _ rfl
    have of := OX.out.fz
    go_wp2
    refine bodyPost_ret (v := .tuple #[.agg #[.slice none 0 0, .slice none 0 0, .int .i64 0, .bool false, .int .i64 0, .int .i64 0, .int .i64 0], .int .i64 18]) (by simp [results, Tryd.results24, go_sem, o0, o1, o2, o3, o4, o5, o6]) rfl ?_
    exact .no HSE.out (HB0.out.trans ((off_set7 w1 (w.heap.size + 1) _ _ _ _ _ _ _).below HB0.out.size (by simp)))
  · have e1 : decide ((d.n : Int) < 2) = false := decide_eq_false (by omega)
    go_enter Tryd.func24, Tryd.ntmps24
    go_upto_region 1 with (fail)
    generalize e3 : (w.alloc (.cells #[.slice d.a d.n d.c, .slice d.pa d.pn d.pc, .int .i64 d.left, .bool d.down] 25)).alloc (.cells #[.slice none 0 0, .slice none 0 0, .int .i64 0, .bool false, .int .i64 0, .int .i64 0, .int .i64 0] 32) = w1 at *
    clear e3
    obtain ⟨i0, i1, i2, i3⟩ := IX.out.cs
    go_wp2_with fail
    refine (HR.out w1 HB0.out).mono ?_
    rintro e w2 ⟨A1, n1, c1, rfl, hr, hb⟩
    have HR1 := Keep.mk hr
    have HB2 := Lib.hid (below_next HB0.out hb (Nat.le_refl _))
    have IX2 := Keep.mk (IX.out.below hb)
    have OX2 := Keep.mk (OX.out.below hb)
    clear hr hb i0 i1 i2 i3 IX OX
    by_cases hdn : d.down = true
    · have hrd : Dv.read d.m 0 = ([], 23) := by unfold Dv.read; rw [if_pos (show d.m.down = true from hdn)]
      have HSE : Keep (Jn.fmt d.m = (Jl.zero, 23)) := ⟨by unfold Jn.fmt; rw [if_neg (by rw [HDL.out]; exact h2), if_pos (show d.m.down = true from hdn)]⟩
      have o0 := OX2.out.cell 0 _ rfl
      have o1 := OX2.out.cell 1 _ rfl
      have o2 := OX2.out.cell 2 _ rfl
      have o3 := OX2.out.cell 3 _ rfl
      have o4 := OX2.out.cell 4 _ rfl
      have o5 := OX2.out.cell 5 _ rfl
      have o6 := OX2.out.cell 6 _ rfl
      have of := OX2.out.fz
      rw [hrd]
      clear hrd hdn HR1 HR
      go_wp2
      refine bodyPost_ret (v := .tuple #[.agg #[.slice none 0 0, .slice none 0 0, .int .i64 0, .bool false, .int .i64 0, .int .i64 0, .int .i64 0], .int .i64 23]) (by simp [results, Tryd.results24, go_sem, o0, o1, o2, o3, o4, o5, o6]) rfl ?_
      exact .no HSE.out (HB2.out.trans ((off_set7 w2 (w.heap.size + 1) _ _ _ _ _ _ _).below HB2.out.size (by simp)))
    · have hdn : d.down = false := by simpa using hdn
      have hmd : d.m.down = false := hdn
      have hrd : Dv.read d.m 0 = (Jn.cont d.m 0, 0) := Jn.read_cont hmd (i := 0) (by rw [HDL.out]; omega)
      have HH := Keep.mk HR1.out
      rw [hrd] at HH ⊢
      have HDN := Keep.mk hdn
      have CH := Keep.mk (repoch_any A1 n1 c1 _ w2 HH.out)
      have HFM : Keep (Jn.fmt d.m = if 1073741824 < (Jn.readHead (Jn.cont d.m 0)).1 + 1 then (Jl.zero, 3) else
          if (Jn.fmtW d.m ((Jn.readHead (Jn.cont d.m 0)).1 + 1)).2 = 0 then (⟨(Jn.fmtW d.m ((Jn.readHead (Jn.cont d.m 0)).1 + 1)).1, (Jn.readHead (Jn.cont d.m 0)).1 + 1, 64, 0⟩, 0) else (Jl.zero, (Jn.fmtW d.m ((Jn.readHead (Jn.cont d.m 0)).1 + 1)).2)) := ⟨by unfold Jn.fmt; rw [if_neg (by rw [HDL.out]; exact h2), if_neg (by rw [hmd]; decide)]⟩
      have hrg := Jn.readHead_range (Jn.cont d.m 0)
      obtain ⟨x, ok, hx⟩ : ∃ x ok, Jn.readHead (Jn.cont d.m 0) = (x, ok) := ⟨_, _, rfl⟩
      rw [hx] at CH HFM hrg
      simp only at HFM hrg
      clear hrd HR1 HR hdn hmd hx
      have hx0 := hrg.1
      have hx1 := hrg.2
      clear hrg
      go_wp2_with fail
      refine CH.out.mono ?_
      rintro e w3 ⟨rfl, hb⟩
      have HB3 := Lib.hid (below_next HB2.out hb (Nat.le_refl _))
      have IX3 := Keep.mk (IX2.out.below hb)
      have OX3 := Keep.mk (OX2.out.below hb)
      clear hb IX2 OX2 HB2 HH CH
      by_cases hlim : 1073741824 < x + 1
      · have b0 : decide (1073741824 < x + 1) = true := decide_eq_true hlim
        have b1 : decide (1073741824 ≤ x) = true := decide_eq_true (by omega)
        have HSE : Keep (Jn.fmt d.m = (Jl.zero, 3)) := ⟨by rw [HFM.out, if_pos hlim]⟩
        have o0 := OX3.out.cell 0 _ rfl
        have o1 := OX3.out.cell 1 _ rfl
        have o2 := OX3.out.cell 2 _ rfl
        have o3 := OX3.out.cell 3 _ rfl
        have o4 := OX3.out.cell 4 _ rfl
        have o5 := OX3.out.cell 5 _ rfl
        have o6 := OX3.out.cell 6 _ rfl
        have of := OX3.out.fz
        clear hlim
        go_wp2
        refine bodyPost_ret (v := .tuple #[.agg #[.slice none 0 0, .slice none 0 0, .int .i64 0, .bool false, .int .i64 0, .int .i64 0, .int .i64 0], .int .i64 3]) (by simp [results, Tryd.results24, go_sem, o0, o1, o2, o3, o4, o5, o6]) rfl ?_
        exact .no HSE.out (HB3.out.trans ((off_set7 w3 (w.heap.size + 1) _ _ _ _ _ _ _).below HB3.out.size (by simp)))
      · have b0 : decide (1073741824 < x + 1) = false := decide_eq_false hlim
        have b1 : decide (1073741824 ≤ x) = false := decide_eq_false (by omega)
        have HFM2 : Keep (Jn.fmt d.m = if (Jn.fmtW d.m (x + 1)).2 = 0 then (⟨(Jn.fmtW d.m (x + 1)).1, x + 1, 64, 0⟩, 0) else (Jl.zero, (Jn.fmtW d.m (x + 1)).2)) := ⟨by rw [HFM.out, if_neg hlim]⟩
        have HIN : Keep (V.In (x + 1)) := ⟨by unfold V.In; omega⟩
        have HR3 : Keep (RF w w3 [.slice none 0 0, .slice none 0 0, .int .i64 0, .bool false, .int .i64 0, .int .i64 0, .int .i64 0] d (d.m, 0) d) := ⟨⟨IX3.out, rfl, OX3.out, HD.out.av (Nat.le_refl _), HAV2.out, HB3.out, fun t _ h => h⟩⟩
        have CSEC : Keep (∀ Y : World, Calls Tryd.prog 51 #[.int .u8 0, .slice none 0 0] Y (RetB Y zs)) := ⟨fun Y => rsector_any 0 0 rfl none 0 0 [] Y (RB.none_ _) (by decide)⟩
        have HZ0 : Keep ((d.m, (0 : Int)).2 = 0) := ⟨rfl⟩
        clear HFM hlim IX3 OX3 HB3 HAV2
        obtain ⟨s1, hs1⟩ : ∃ s, s = Jn.ww (d.m, 0) 1 zs := ⟨_, rfl⟩
        have HWs1 := Keep.mk (HF.out.write 1 zs)
        have CW := Keep.mk (fun (Y : World) (hY : Below w3.heap.size w3 Y) (Ab : Option Addr) (nb cb : Nat) (hr : RB Y Ab nb cb (zs)) => rwrite_at 1 Ab nb cb _ (HR3.out.below hY).bx.ok HR3.out.m HZ0.out hr HF.out (by omega))
        rw [← hs1] at HWs1 CW
        have HSs1 := Keep.mk hs1
        rw [HDN.out] at CW
        clear hs1
        go_upto_region 9 with (fail)
        go_cut [5] from 27 to 32 (fun s5 X => ∃ D1, s5 = .int .i64 s1.2 ∧ RF w X [.slice none 0 0, .slice none 0 0, .int .i64 0, .bool false, .int .i64 0, .int .i64 0, .int .i64 0] d s1 D1)
        case first =>
          obtain ⟨c0, c1, c2, c3⟩ := HR3.out.bx.cs
          go_region_with (first
            | (go_at_call 51; ((refine (CSEC.out _).mono ?_); rintro e wb ⟨Ab, nb, cb, rfl, hr, hb⟩; have HR := Keep.mk hr; have HDB : Hid (Below w3.heap.size w3 wb) := below_next (below_draws _ _ 1) hb (Nat.le_refl _); obtain ⟨d0, d1, d2, d3⟩ := (HR3.out.below HDB.out).bx.cs; clear hr hb))
            | (go_at_call 50; ((refine (CW.out _ HDB.out Ab nb cb HR.out).mono ?_); rintro e wn ⟨D1, rfl, hok, hm, hb, hav⟩; have HDN : Hid (Below w3.heap.size w3 wn) := below_next HDB.out hb (Nat.le_refl _); have HOK := Keep.mk hok; have HM := Keep.mk hm; have HAV := Keep.mk hav; have H5n := Keep.mk (HR3.out.below HDN.out); have e0 := H5n.out.bx.bx.cell 0 _ rfl; have e1 := H5n.out.bx.bx.cell 1 _ rfl; have e2 := H5n.out.bx.bx.cell 2 _ rfl; have e3 := H5n.out.bx.bx.cell 3 _ rfl; have ef := H5n.out.bx.bx.fz; clear hok hm hb hav)))
          all_goals go_wp2
          all_goals go_meet
          all_goals exact ⟨D1, rfl, HR3.out.store HDN.out HOK.out HM.out fun b hb h => HAV.out b (by have := HDB.out.size; omega) h⟩
        case rest =>
          obtain ⟨X4, hX1⟩ : ∃ X1, X1 = wc := ⟨_, rfl⟩
          subst hX1
          obtain ⟨D, rfl, h⟩ := hcut
          have HR4 := Keep.mk h
          clear h
          by_cases h1 : s1.2 = 0
          rotate_left
          · have b2 : (s1.2 == 0) = false := by simpa using h1
            have b3 : (s1.2 != 0) = true := by simpa using h1
            have HFE : Keep (Jn.fmt d.m = (Jl.zero, s1.2)) := ⟨by
              have h := HFM2.out
              have hw : Jn.fmtW d.m (x + 1) = s1 := by unfold Jn.fmtW; rw [← HSs1.out, wf_stay h1, ww_stay h1, wf_stay h1]
              rw [hw, if_neg h1] at h
              exact h⟩
            clear h1
            have o0 := HR4.out.ox.cell 0 _ rfl
            have o1 := HR4.out.ox.cell 1 _ rfl
            have o2 := HR4.out.ox.cell 2 _ rfl
            have o3 := HR4.out.ox.cell 3 _ rfl
            have o4 := HR4.out.ox.cell 4 _ rfl
            have o5 := HR4.out.ox.cell 5 _ rfl
            have o6 := HR4.out.ox.cell 6 _ rfl
            have of := HR4.out.ox.fz
            go_wp2
            refine bodyPost_ret (v := .tuple #[.agg #[.slice none 0 0, .slice none 0 0, .int .i64 0, .bool false, .int .i64 0, .int .i64 0, .int .i64 0], .int .i64 s1.2]) (by simp [results, Tryd.results24, go_sem, o0, o1, o2, o3, o4, o5, o6]) rfl ?_
            exact .no HFE.out (HR4.out.bel.trans ((off_set7 X4 (w.heap.size + 1) _ _ _ _ _ _ _).below HR4.out.bel.size (by simp)))
          have b4 : (s1.2 == 0) = true := by simp [h1]
          obtain ⟨s2, hs2⟩ : ∃ s, s = Jn.wf s1 := ⟨_, rfl⟩
          have HWs2 := Keep.mk HWs1.out.flush
          have CF := rflush_at (w := X4) HR4.out.bx.ok HR4.out.m h1 HWs1.out
          rw [← hs2] at HWs2 CF
          have HSs2 := Keep.mk hs2
          have CFK := Keep.mk CF
          clear hs2 CF h1
          obtain ⟨c0, c1, c2, c3⟩ := HR4.out.bx.cs
          go_wp2_with fail
          refine CFK.out.mono ?_
          rintro e w5 ⟨D2, rfl, hok, hm, hb, hav⟩
          have HR5 := Keep.mk (HR4.out.store hb hok hm hav)
          have e0 := (HR4.out.below hb).bx.bx.cell 0 _ rfl
          have e1' := (HR4.out.below hb).bx.bx.cell 1 _ rfl
          have e2 := (HR4.out.below hb).bx.bx.cell 2 _ rfl
          have e3 := (HR4.out.below hb).bx.bx.cell 3 _ rfl
          have ef := (HR4.out.below hb).bx.bx.fz
          clear hok hm hb hav c0 c1 c2 c3 CFK
          go_upto_region 12 with (fail)
          clear e0 e1' e2 e3 ef
          generalize ((((w5.setCell ⟨w.heap.size, 0, none⟩ (.slice D2.a D2.n D2.c)).setCell ⟨w.heap.size, 1, none⟩ (.slice D2.pa D2.pn D2.pc)).setCell ⟨w.heap.size, 2, none⟩ (.int .i64 D2.left)).setCell ⟨w.heap.size, 3, none⟩ (.bool D2.down)) = X5 at *
          clear b4
          by_cases h1 : s2.2 = 0
          rotate_left
          · have b2 : (s2.2 == 0) = false := by simpa using h1
            have b3 : (s2.2 != 0) = true := by simpa using h1
            have HFE : Keep (Jn.fmt d.m = (Jl.zero, s2.2)) := ⟨by
              have h := HFM2.out
              have hw : Jn.fmtW d.m (x + 1) = s2 := by unfold Jn.fmtW; rw [← HSs1.out, ← HSs2.out, ww_stay h1, wf_stay h1]
              rw [hw, if_neg h1] at h
              exact h⟩
            clear h1
            have o0 := HR5.out.ox.cell 0 _ rfl
            have o1 := HR5.out.ox.cell 1 _ rfl
            have o2 := HR5.out.ox.cell 2 _ rfl
            have o3 := HR5.out.ox.cell 3 _ rfl
            have o4 := HR5.out.ox.cell 4 _ rfl
            have o5 := HR5.out.ox.cell 5 _ rfl
            have o6 := HR5.out.ox.cell 6 _ rfl
            have of := HR5.out.ox.fz
            go_wp2
            refine bodyPost_ret (v := .tuple #[.agg #[.slice none 0 0, .slice none 0 0, .int .i64 0, .bool false, .int .i64 0, .int .i64 0, .int .i64 0], .int .i64 s2.2]) (by simp [results, Tryd.results24, go_sem, o0, o1, o2, o3, o4, o5, o6]) rfl ?_
            exact .no HFE.out (HR5.out.bel.trans ((off_set7 X5 (w.heap.size + 1) _ _ _ _ _ _ _).below HR5.out.bel.size (by simp)))
          have b4 : (s2.2 == 0) = true := by simp [h1]
          have HZ2 := Keep.mk h1
          clear h1
          obtain ⟨s3, hs3⟩ : ∃ s, s = Jn.ww s2 0 (Jn.headB (x + 1)) := ⟨_, rfl⟩
          have HWs3 := Keep.mk (HWs2.out.write 0 (Jn.headB (x + 1)))
          have CW := Keep.mk (fun (Y : World) (hY : Below X5.heap.size X5 Y) (Ab : Option Addr) (nb cb : Nat) (hr : RB Y Ab nb cb ((Jn.headB (x + 1)))) => rwrite_at 0 Ab nb cb _ (HR5.out.below hY).bx.ok HR5.out.m HZ2.out hr HWs2.out (by omega))
          rw [← hs3] at HWs3 CW
          have HSs3 := Keep.mk hs3
          clear hs3
          go_upto_region 13 with (fail)
          go_cut [5] from 42 to 48 (fun s5 X => ∃ D1, s5 = .int .i64 s3.2 ∧ RF w X [.slice none 0 0, .slice none 0 0, .int .i64 0, .bool false, .int .i64 0, .int .i64 0, .int .i64 0] d s3 D1)
          case first =>
            obtain ⟨c0, c1, c2, c3⟩ := HR5.out.bx.cs
            go_region_with (first
              | (go_at_call 53; ((refine (rhead_any (x + 1) _ HIN.out).mono ?_); rintro e wb ⟨Ab, nb, cb, rfl, hr, hb⟩; have HR := Keep.mk hr; have HDB : Hid (Below X5.heap.size X5 wb) := below_next (below_draws _ _ 1) hb (Nat.le_refl _); obtain ⟨d0, d1, d2, d3⟩ := (HR5.out.below HDB.out).bx.cs; clear hr hb))
              | (go_at_call 50; ((refine (CW.out _ HDB.out Ab nb cb HR.out).mono ?_); rintro e wn ⟨D1, rfl, hok, hm, hb, hav⟩; have HDN : Hid (Below X5.heap.size X5 wn) := below_next HDB.out hb (Nat.le_refl _); have HOK := Keep.mk hok; have HM := Keep.mk hm; have HAV := Keep.mk hav; have H5n := Keep.mk (HR5.out.below HDN.out); have e0 := H5n.out.bx.bx.cell 0 _ rfl; have e1 := H5n.out.bx.bx.cell 1 _ rfl; have e2 := H5n.out.bx.bx.cell 2 _ rfl; have e3 := H5n.out.bx.bx.cell 3 _ rfl; have ef := H5n.out.bx.bx.fz; clear hok hm hb hav)))
            all_goals go_wp2
            all_goals go_meet
            all_goals exact ⟨D1, rfl, HR5.out.store HDN.out HOK.out HM.out fun b hb h => HAV.out b (by have := HDB.out.size; omega) h⟩
          case rest =>
            obtain ⟨X6, hX1⟩ : ∃ X1, X1 = wc := ⟨_, rfl⟩
            subst hX1
            obtain ⟨D, rfl, h⟩ := hcut
            have HR6 := Keep.mk h
            clear h
            by_cases h1 : s3.2 = 0
            rotate_left
            · have b2 : (s3.2 == 0) = false := by simpa using h1
              have b3 : (s3.2 != 0) = true := by simpa using h1
              have HFE : Keep (Jn.fmt d.m = (Jl.zero, s3.2)) := ⟨by
                have h := HFM2.out
                have hw : Jn.fmtW d.m (x + 1) = s3 := by unfold Jn.fmtW; rw [← HSs1.out, ← HSs2.out, ← HSs3.out, wf_stay h1]
                rw [hw, if_neg h1] at h
                exact h⟩
              clear h1
              have o0 := HR6.out.ox.cell 0 _ rfl
              have o1 := HR6.out.ox.cell 1 _ rfl
              have o2 := HR6.out.ox.cell 2 _ rfl
              have o3 := HR6.out.ox.cell 3 _ rfl
              have o4 := HR6.out.ox.cell 4 _ rfl
              have o5 := HR6.out.ox.cell 5 _ rfl
              have o6 := HR6.out.ox.cell 6 _ rfl
              have of := HR6.out.ox.fz
              go_wp2
              refine bodyPost_ret (v := .tuple #[.agg #[.slice none 0 0, .slice none 0 0, .int .i64 0, .bool false, .int .i64 0, .int .i64 0, .int .i64 0], .int .i64 s3.2]) (by simp [results, Tryd.results24, go_sem, o0, o1, o2, o3, o4, o5, o6]) rfl ?_
              exact .no HFE.out (HR6.out.bel.trans ((off_set7 X6 (w.heap.size + 1) _ _ _ _ _ _ _).below HR6.out.bel.size (by simp)))
            have b5 : (s3.2 == 0) = true := by simp [h1]
            obtain ⟨s4, hs4⟩ : ∃ s, s = Jn.wf s3 := ⟨_, rfl⟩
            have CF := rflush_at (w := X6) HR6.out.bx.ok HR6.out.m h1 HWs3.out
            rw [← hs4] at CF
            have HFW : Keep (Jn.fmtW d.m (x + 1) = s4) := ⟨by unfold Jn.fmtW; rw [← HSs1.out, ← HSs2.out, ← HSs3.out, ← hs4]⟩
            have CFK := Keep.mk CF
            clear hs4 CF h1
            obtain ⟨c0, c1, c2, c3⟩ := HR6.out.bx.cs
            go_wp2_with fail
            refine CFK.out.mono ?_
            rintro e w7 ⟨D4, rfl, hok, hm, hb, hav⟩
            have HR7 := Keep.mk (HR6.out.store hb hok hm hav)
            have e0 := (HR6.out.below hb).bx.bx.cell 0 _ rfl
            have e1' := (HR6.out.below hb).bx.bx.cell 1 _ rfl
            have e2 := (HR6.out.below hb).bx.bx.cell 2 _ rfl
            have e3 := (HR6.out.below hb).bx.bx.cell 3 _ rfl
            have ef := (HR6.out.below hb).bx.bx.fz
            clear hok hm hb hav c0 c1 c2 c3 CFK
            go_upto_region 16 with (fail)
            clear e0 e1' e2 e3 ef
            generalize ((((w7.setCell ⟨w.heap.size, 0, none⟩ (.slice D4.a D4.n D4.c)).setCell ⟨w.heap.size, 1, none⟩ (.slice D4.pa D4.pn D4.pc)).setCell ⟨w.heap.size, 2, none⟩ (.int .i64 D4.left)).setCell ⟨w.heap.size, 3, none⟩ (.bool D4.down)) = X7 at *
            clear b4 b5
            by_cases h1 : s4.2 = 0
            rotate_left
            · have b2 : (s4.2 == 0) = false := by simpa using h1
              have b3 : (s4.2 != 0) = true := by simpa using h1
              have HFE : Keep (Jn.fmt d.m = (Jl.zero, s4.2)) := ⟨by
                have h := HFM2.out
                rw [HFW.out, if_neg h1] at h
                exact h⟩
              clear h1
              have o0 := HR7.out.ox.cell 0 _ rfl
              have o1 := HR7.out.ox.cell 1 _ rfl
              have o2 := HR7.out.ox.cell 2 _ rfl
              have o3 := HR7.out.ox.cell 3 _ rfl
              have o4 := HR7.out.ox.cell 4 _ rfl
              have o5 := HR7.out.ox.cell 5 _ rfl
              have o6 := HR7.out.ox.cell 6 _ rfl
              have of := HR7.out.ox.fz
              go_wp2
              refine bodyPost_ret (v := .tuple #[.agg #[.slice none 0 0, .slice none 0 0, .int .i64 0, .bool false, .int .i64 0, .int .i64 0, .int .i64 0], .int .i64 s4.2]) (by simp [results, Tryd.results24, go_sem, o0, o1, o2, o3, o4, o5, o6]) rfl ?_
              exact .no HFE.out (HR7.out.bel.trans ((off_set7 X7 (w.heap.size + 1) _ _ _ _ _ _ _).below HR7.out.bel.size (by simp)))
            have b4 : (s4.2 != 0) = false := by simp [h1]
            have HFE : Keep (Jn.fmt d.m = (⟨s4.1, x + 1, 64, 0⟩, 0)) := ⟨by
              have h := HFM2.out
              rw [HFW.out, if_pos h1] at h
              exact h⟩
            clear h1
            obtain ⟨c0, c1, c2, c3⟩ := HR7.out.bx.cs
            have o0 := HR7.out.ox.cell 0 _ rfl
            have o1 := HR7.out.ox.cell 1 _ rfl
            have o2 := HR7.out.ox.cell 2 _ rfl
            have o3 := HR7.out.ox.cell 3 _ rfl
            have o4 := HR7.out.ox.cell 4 _ rfl
            have o5 := HR7.out.ox.cell 5 _ rfl
            have o6 := HR7.out.ox.cell 6 _ rfl
            have of := HR7.out.ox.fz
            go_wp2
            refine bodyPost_ret (v := .tuple #[.agg #[.slice D4.a D4.n D4.c, .slice D4.pa D4.pn D4.pc, .int .i64 D4.left, .bool D4.down, .int .i64 (x+1), .int .i64 64, .int .i64 0], .int .i64 0]) (by simp [results, Tryd.results24, go_sem, o0, o1, o2, o3, o4, o5, o6]) rfl ?_
            have hof := off_set7 X7 (w.heap.size + 1) (.slice D4.a D4.n D4.c) (.slice D4.pa D4.pn D4.pc) (.int .i64 D4.left) (.bool D4.down) (.int .i64 (x + 1)) (.int .i64 64) (.int .i64 0)
            rw [HFE.out]
            exact ⟨⟨D4, x + 1, 64, 0⟩, rfl, HR7.out.bx.ok.off hof (fun b hb => by simp only [List.mem_singleton] at hb; rw [hb]; exact HR7.out.av2), by unfold Jk.m; simp only [HR7.out.m], HR7.out.bel.trans (hof.below HR7.out.bel.size (by simp)), fun b hb h => HR7.out.avd b hb h⟩
end Go.Proofs.YtjficpdfofmcnaaDoor
