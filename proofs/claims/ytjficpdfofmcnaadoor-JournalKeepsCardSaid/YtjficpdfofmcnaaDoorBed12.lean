/- The journal: what its laws call; the first example. -/
import Derived.Test.YtjficpdfofmcnaaDoorBed10
import Derived.Test.YtjficpdfofmcnaaDoorBed11
import Derived.Deep.RegionHeld3
/- What the journal's laws call: the reference's Same, disk, small, ended. -/
namespace Go.Proofs.YtjficpdfofmcnaaDoor
open Go.RowKit Go.Joins

set_option maxHeartbeats 1000000 in
set_option maxRecDepth 100000 in
theorem rjsame_true (J J' : Jk) (w : World) (h : J.d.Ok w) (h' : J'.d.Ok w) (he : J.m = J'.m) :
    Calls Tryd.prog 23 #[.agg #[.slice J.d.a J.d.n J.d.c, .slice J.d.pa J.d.pn J.d.pc, .int .i64 J.d.left, .bool J.d.down, .int .i64 J.e, .int .i64 J.h, .int .i64 J.c], .agg #[.slice J'.d.a J'.d.n J'.d.c, .slice J'.d.pa J'.d.pn J'.d.pc, .int .i64 J'.d.left, .bool J'.d.down, .int .i64 J'.e, .int .i64 J'.h, .int .i64 J'.c]] w fun r w' => r = .returned (.bool true) ∧ Below w.heap.size w w' := by
  have IX := Keep.mk ((BxJ.new h).below (below_alloc1 _ (.cells #[.slice J'.d.a J'.d.n J'.d.c, .slice J'.d.pa J'.d.pn J'.d.pc, .int .i64 J'.d.left, .bool J'.d.down, .int .i64 J'.e, .int .i64 J'.h, .int .i64 J'.c] 32)))
  have OX := Keep.mk (BxJ.new (w := w.alloc (.cells #[.slice J.d.a J.d.n J.d.c, .slice J.d.pa J.d.pn J.d.pc, .int .i64 J.d.left, .bool J.d.down, .int .i64 J.e, .int .i64 J.h, .int .i64 J.c] 32)) (j := J') (h'.below (below_alloc1 _ _)))
  have HB0 : Hid (Below w.heap.size w ((w.alloc (.cells #[.slice J.d.a J.d.n J.d.c, .slice J.d.pa J.d.pn J.d.pc, .int .i64 J.d.left, .bool J.d.down, .int .i64 J.e, .int .i64 J.h, .int .i64 J.c] 32)).alloc (.cells #[.slice J'.d.a J'.d.n J'.d.c, .slice J'.d.pa J'.d.pn J'.d.pc, .int .i64 J'.d.left, .bool J'.d.down, .int .i64 J'.e, .int .i64 J'.h, .int .i64 J'.c] 32))) := (below_alloc1 _ _).alloc (by simp) _
  rw [World.size_alloc] at OX
  have CS := Keep.mk (fun (X : World) (hX : Below w.heap.size w X) => dsame_true J.d J'.d X (h.below hX) (h'.below hX) (congrArg Jl.d he))
  have e1 : (J.e == J'.e) = true := by have := congrArg Jl.e he; simp only [Jk.m] at this; simp [this]
  have e2 : (J.h == J'.h) = true := by have := congrArg Jl.h he; simp only [Jk.m] at this; simp [this]
  have e3 : (J.c == J'.c) = true := by have := congrArg Jl.c he; simp only [Jk.m] at this; simp [this]
  clear h h' he
  go_enter Tryd.func23, Tryd.ntmps23
  go_upto_region 1 with (fail)
  generalize e4 : (w.alloc (.cells #[.slice J.d.a J.d.n J.d.c, .slice J.d.pa J.d.pn J.d.pc, .int .i64 J.d.left, .bool J.d.down, .int .i64 J.e, .int .i64 J.h, .int .i64 J.c] 32)).alloc (.cells #[.slice J'.d.a J'.d.n J'.d.c, .slice J'.d.pa J'.d.pn J'.d.pc, .int .i64 J'.d.left, .bool J'.d.down, .int .i64 J'.e, .int .i64 J'.h, .int .i64 J'.c] 32) = w1 at *
  clear e4
  obtain ⟨i0, i1, i2, i3, i4, i5, i6⟩ := IX.out.cs
  obtain ⟨o0, o1, o2, o3, o4, o5, o6⟩ := OX.out.cs
  go_wp2_with fail
  refine (CS.out _ HB0.out).mono ?_
  rintro e w2 ⟨rfl, hb⟩
  have HB2 := Lib.hid (below_next HB0.out hb (Nat.le_refl _))
  clear hb
  go_wp2
  go_ret
  exact ⟨rfl, HB2.out⟩

set_option maxHeartbeats 1000000 in
set_option maxRecDepth 100000 in
theorem ldisk_any (n : Int) (w : World) : Calls Tryd.prog 19 #[.int .i64 n] w (RetX w (fun _ => True) (Dv.new n).1) := by
  go_enter Tryd.func19, Tryd.ntmps19
  go_wp2_with fail
  refine (retXE (rnew_any n _)).mono ?_
  rintro e w2 ⟨D, rfl, hok, hm, hb, hav⟩
  have OX := Keep.mk ((Bx.new w [.slice none 0 0, .slice none 0 0, .int .i64 0, .bool false] 25).below hb)
  have HB2 : Hid (Below w.heap.size w w2) := (below_alloc1 w (.cells #[.slice none 0 0, .slice none 0 0, .int .i64 0, .bool false] 25)).trans (hb.mono (by simp))
  have HAV : Keep (∀ t, t < w.heap.size + 1 → D.Av t) := ⟨fun t ht => hav t (by simp; omega) trivial⟩
  have HOK := Keep.mk hok
  have HM := Keep.mk hm
  clear hok hm hb hav
  go_upto_region 2 with (fail)
  have DX := Keep.mk (Bx.new w2 [.slice D.a D.n D.c, .slice D.pa D.pn D.pc, .int .i64 D.left, .bool D.down] 25)
  have OX3 := Keep.mk (OX.out.below (below_alloc1 w2 (.cells #[.slice D.a D.n D.c, .slice D.pa D.pn D.pc, .int .i64 D.left, .bool D.down] 25)))
  have HB3 : Hid (Below w.heap.size w (w2.alloc (.cells #[.slice D.a D.n D.c, .slice D.pa D.pn D.pc, .int .i64 D.left, .bool D.down] 25))) := HB2.out.alloc HB2.out.size _
  have HOK3 := Keep.mk (HOK.out.below (below_alloc1 w2 (.cells #[.slice D.a D.n D.c, .slice D.pa D.pn D.pc, .int .i64 D.left, .bool D.down] 25)))
  generalize hw3 : w2.alloc (.cells #[.slice D.a D.n D.c, .slice D.pa D.pn D.pc, .int .i64 D.left, .bool D.down] 25) = w3 at *
  clear hw3
  have d0 := DX.out.cell 0 _ rfl
  have d1 := DX.out.cell 1 _ rfl
  have d2 := DX.out.cell 2 _ rfl
  have d3 := DX.out.cell 3 _ rfl
  have o0 := OX3.out.cell 0 _ rfl
  have o1 := OX3.out.cell 1 _ rfl
  have o2 := OX3.out.cell 2 _ rfl
  have o3 := OX3.out.cell 3 _ rfl
  have of := OX3.out.fz
  go_wp2
  refine bodyPost_ret (v := .agg #[.slice D.a D.n D.c, .slice D.pa D.pn D.pc, .int .i64 D.left, .bool D.down]) (by simp [results, Tryd.results19, go_sem, o0, o1, o2, o3]) rfl ?_
  have hof := off_set4 w3 w.heap.size (.slice D.a D.n D.c) (.slice D.pa D.pn D.pc) (.int .i64 D.left) (.bool D.down)
  exact ⟨D, rfl, HOK3.out.off hof (fun b hb => by simp only [List.mem_singleton] at hb; rw [hb]; exact HAV.out _ (by omega)), HM.out, HB3.out.trans (hof.below HB3.out.size (by simp)), fun t ht _ => HAV.out t (by omega)⟩

set_option maxHeartbeats 1000000 in
theorem small_any (d : Dk) (w : World) (h : d.Ok w) : Calls Tryd.prog 9 #[.agg #[.slice d.a d.n d.c, .slice d.pa d.pn d.pc, .int .i64 d.left, .bool d.down]] w fun e w' => e = .returned (.bool (Dv.few d.m 40)) ∧ Below w.heap.size w w' := by
  have IX := Keep.mk (BxK.new h)
  have HB0 : Hid (Below w.heap.size w (w.alloc (.cells #[.slice d.a d.n d.c, .slice d.pa d.pn d.pc, .int .i64 d.left, .bool d.down] 25))) := below_alloc1 _ _
  have CF := few_any d 40 (w.alloc (.cells #[.slice d.a d.n d.c, .slice d.pa d.pn d.pc, .int .i64 d.left, .bool d.down] 25)) (h.below (below_alloc1 _ _))
  have CK := Keep.mk CF
  clear h CF
  generalize Dv.few d.m 40 = b at *
  go_enter Tryd.func9, Tryd.ntmps9
  go_upto_region 1 with (fail)
  generalize hw1 : w.alloc (.cells #[.slice d.a d.n d.c, .slice d.pa d.pn d.pc, .int .i64 d.left, .bool d.down] 25) = w1 at *
  clear hw1
  obtain ⟨i0, i1, i2, i3⟩ := IX.out.cs
  go_wp2_with fail
  refine CK.out.mono ?_
  rintro e w2 ⟨rfl, hb⟩
  have HB2 := Lib.hid (below_next HB0.out hb (Nat.le_refl _))
  clear hb
  go_wp2
  go_ret
  exact ⟨rfl, HB2.out⟩

theorem Bx.cs7 {w : World} {b : Nat} {x0 x1 x2 x3 x4 x5 x6 : Value} (h : Bx w b [x0, x1, x2, x3, x4, x5, x6]) : w.cell? ⟨b, 0, none⟩ = some x0 ∧ w.cell? ⟨b, 1, none⟩ = some x1 ∧ w.cell? ⟨b, 2, none⟩ = some x2 ∧ w.cell? ⟨b, 3, none⟩ = some x3 ∧ w.cell? ⟨b, 4, none⟩ = some x4 ∧ w.cell? ⟨b, 5, none⟩ = some x5 ∧ w.cell? ⟨b, 6, none⟩ = some x6 :=
  ⟨h.cell 0 _ rfl, h.cell 1 _ rfl, h.cell 2 _ rfl, h.cell 3 _ rfl, h.cell 4 _ rfl, h.cell 5 _ rfl, h.cell 6 _ rfl⟩
set_option maxHeartbeats 2000000 in
set_option maxRecDepth 100000 in
theorem ended_any (d : Dk) (e c : Int) (F : Nat) (w : World) (h : d.Ok w) (hF : F ≤ 4096) :
    Calls Tryd.prog 13 #[.agg #[.slice d.a d.n d.c, .slice d.pa d.pn d.pc, .int .i64 d.left, .bool d.down, .int .i64 e, .int .i64 ((F:Int)*64), .int .i64 c]] w fun r w' => r = .returned (.bool (decide (F < d.n → d.m.sectors.getD F [] = zs))) ∧ Below w.heap.size w w' := by
  have IX := Keep.mk (Bx.new w [.slice d.a d.n d.c, .slice d.pa d.pn d.pc, .int .i64 d.left, .bool d.down, .int .i64 e, .int .i64 ((F:Int)*64), .int .i64 c] 32)
  have HB0 : Hid (Below w.heap.size w (w.alloc (.cells #[.slice d.a d.n d.c, .slice d.pa d.pn d.pc, .int .i64 d.left, .bool d.down, .int .i64 e, .int .i64 ((F:Int)*64), .int .i64 c] 32))) := below_alloc1 _ _
  have hdl : d.S.length = d.n := h.sec.len
  by_cases hlt : F < d.n
  · obtain ⟨b, o, ha, hbl, hck, hrb⟩ := (h.below (below_alloc1 w (.cells #[.slice d.a d.n d.c, .slice d.pa d.pn d.pc, .int .i64 d.left, .bool d.down, .int .i64 e, .int .i64 ((F:Int)*64), .int .i64 c] 32))).sec.at_ (k := F) (by omega)
    have HBIG := Keep.mk (Nat.le_trans h.sec.cap h.sec.big)
    have HRB := Keep.mk hrb
    have HCK : Keep (∀ X, Below (w.alloc (.cells #[.slice d.a d.n d.c, .slice d.pa d.pn d.pc, .int .i64 d.left, .bool d.down, .int .i64 e, .int .i64 ((F:Int)*64), .int .i64 c] 32)).heap.size (w.alloc (.cells #[.slice d.a d.n d.c, .slice d.pa d.pn d.pc, .int .i64 d.left, .bool d.down, .int .i64 e, .int .i64 ((F:Int)*64), .int .i64 c] 32)) X → X.cell? ⟨b, o + F, none⟩ = some (.slice (d.S[F]'(by omega)).a (d.S[F]'(by omega)).n (d.S[F]'(by omega)).c)) := ⟨fun X hX => by rw [hX.cell (p := ⟨b, o + F, none⟩) hbl]; exact hck⟩
    have HG : Keep (d.m.sectors.getD F [] = (d.S[F]'(by omega)).l) := ⟨by simp [Dk.m, List.getD, List.getElem?_map, List.getElem?_eq_getElem (show F < d.S.length by omega)]⟩
    clear hck hrb
    generalize (d.S[F]'(by omega)) = s at *
    have HR : Keep (decide (F < d.n → d.m.sectors.getD F [] = zs) = decide (s.l = zs)) := ⟨by rw [HG.out]; simp [hlt]⟩
    rw [HR.out]
    have g1 : decide ((d.n : Int) ≤ (F : Int)) = false := decide_eq_false (by omega)
    have g1n : decide (d.n ≤ F) = false := decide_eq_false (by omega)
    have g2 : decide ((F : Int) * 64 < 0) = false := decide_eq_false (by omega)
    have hq2 : ((F : Int) * 64).tdiv 64 = (F : Int) := by rw [Int.tdiv_eq_ediv_of_nonneg (by omega)]; omega
    have hw1 : IntKind.i64.wrap (F : Int) = (F : Int) := IntWalk.i64_in _ ⟨by omega, by omega⟩
    have HA := Keep.mk ha
    clear h ha
    go_enter Tryd.func13, Tryd.ntmps13
    go_upto_region 1 with (fail)
    generalize hw1' : w.alloc (.cells #[.slice d.a d.n d.c, .slice d.pa d.pn d.pc, .int .i64 d.left, .bool d.down, .int .i64 e, .int .i64 ((F:Int)*64), .int .i64 c] 32) = w1 at *
    clear hw1'
    obtain ⟨i0, i1, i2, i3, i4, i5, i6⟩ := IX.out.cs7
    rw [HA.out] at i0
    have ck := HCK.out w1 (Below.refl _ _)
    go_upto_region 3 with (fail)
    have KP : Keep (∀ X, Below w1.heap.size w1 X → X.cell? ⟨w.heap.size, 0, none⟩ = some (.slice (some ⟨b, o, none⟩) d.n d.c) ∧ X.cell? ⟨w.heap.size, 5, none⟩ = some (.int .i64 ((F : Int) * 64)) ∧ X.cell? ⟨b, o + F, none⟩ = some (.slice s.a s.n s.c)) := ⟨fun X hX => by
      obtain ⟨i0, _, _, _, _, i5, _⟩ := (IX.out.below hX).cs7
      rw [HA.out] at i0
      exact ⟨i0, i5, HCK.out X hX⟩⟩
    have HC : Hid (Below w1.heap.size w1 w1.drew) := below_draws _ _ 1
    have HC2 : Hid (Below w1.heap.size w1 (w1.drew.alloc (.cells (zs.map bv).toArray 5))) := HC.out.alloc HC.out.size _
    have HS2 := Keep.mk (HRB.out.below HC2.out)
    have hmk := run_make64 w1.drew
    go_region_held3 (fun X => X.cell? ⟨w.heap.size, 0, none⟩ = some (.slice (some ⟨b, o, none⟩) d.n d.c) ∧ X.cell? ⟨w.heap.size, 5, none⟩ = some (.int .i64 ((F : Int) * 64)) ∧ X.cell? ⟨b, o + F, none⟩ = some (.slice s.a s.n s.c))
      (first | exact KP.out _ HC.out | exact KP.out _ HC2.out | exact KP.out _ ((below_alloc1 _ _).trans (below_draws _ _ _)) | fail)
      ((go_at_call 29; ((refine (sb_any s.a s.n s.c s.l _ 64 64 zs _ HS2.out (rb_zs _)).mono ?_); rintro r wn ⟨rfl, k, rfl⟩)))
    rename_i hHeld
    clear hHeld
    have HZ : Hid (Below w.heap.size w ((w1.alloc (.cells (zs.map bv).toArray 5)).drewN (1 + k))) := below_next HB0.out ((below_alloc1 _ _).trans (below_draws _ _ _)) (Nat.le_refl _)
    go_wp2
    go_ret
    exact ⟨rfl, HZ.out⟩
  · have HR : Keep (decide (F < d.n → d.m.sectors.getD F [] = zs) = true) := ⟨decide_eq_true fun h => absurd h hlt⟩
    rw [HR.out]
    have g1 : decide ((d.n : Int) ≤ (F : Int)) = true := decide_eq_true (by omega)
    have g1n : decide (d.n ≤ F) = true := decide_eq_true (by omega)
    clear h
    go_enter Tryd.func13, Tryd.ntmps13
    go_upto_region 1 with (fail)
    generalize hw1' : w.alloc (.cells #[.slice d.a d.n d.c, .slice d.pa d.pn d.pc, .int .i64 d.left, .bool d.down, .int .i64 e, .int .i64 ((F:Int)*64), .int .i64 c] 32) = w1 at *
    clear hw1'
    obtain ⟨i0, i1, i2, i3, i4, i5, i6⟩ := IX.out.cs7
    go_wp2
    go_ret
    exact ⟨rfl, HB0.out⟩
end Go.Proofs.YtjficpdfofmcnaaDoor

/- The chapter's first example: awake returns true. -/
namespace Go.Proofs.YtjficpdfofmcnaaDoor
open Go.RowKit Go.Joins

theorem run_make63 (w : World) : (Instr.makeSlice 26 (.int .i64 63) (.int .i64 63)).run Tryd.prog w = .ok (.slice (some ⟨w.heap.size, 0, none⟩) 63 63) (w.alloc (.cells (z63.map bv).toArray 5)) := by
  have h := run_make_row' (P := Tryd.prog) 26 5 (.int .u8 0) 1 Tryd.underlying26 u8_info rfl .i64 .i64 63 (by omega) (by omega) w
  rw [made_one] at h
  have e : (z63.map bv) = List.replicate 63 (.int .u8 0) := by simp [z63, bv]
  rw [e]
  exact h
theorem rb_z63 (w : World) : RB (w.alloc (.cells (z63.map bv).toArray 5)) (some ⟨w.heap.size, 0, none⟩) 63 63 z63 := wh_rb (Wh.new w 5 (z63.map bv)) z63_len (by omega)
/-- A journal in a box that is worth j. -/
structure BJ (w : World) (b : Nat) (J : Jk) (j : Jl) : Prop where
  bx : BxJ w b J
  m : J.m = j
theorem BJ.below {w w' : World} {b : Nat} {J : Jk} {j : Jl} (h : BJ w b J j) (hb : Below w.heap.size w w') : BJ w' b J j := ⟨h.bx.below hb, h.m⟩
theorem BJ.new {w : World} {J : Jk} {j : Jl} (h : J.d.Ok w) (hm : J.m = j) : BJ (w.alloc (.cells #[.slice J.d.a J.d.n J.d.c, .slice J.d.pa J.d.pn J.d.pc, .int .i64 J.d.left, .bool J.d.down, .int .i64 J.e, .int .i64 J.h, .int .i64 J.c] 32)) w.heap.size J j := ⟨BxJ.new h, hm⟩
theorem BJ.dm {w : World} {b : Nat} {J : Jk} {j : Jl} (h : BJ w b J j) : J.d.m = j.d := congrArg Jl.d h.m
theorem BJ.eh {w : World} {b : Nat} {J : Jk} {j : Jl} (h : BJ w b J j) : J.h = j.h := congrArg Jl.h h.m
theorem BJ.ee {w : World} {b : Nat} {J : Jk} {j : Jl} (h : BJ w b J j) : J.e = j.e := congrArg Jl.e h.m
theorem BJ.ec {w : World} {b : Nat} {J : Jk} {j : Jl} (h : BJ w b J j) : J.c = j.c := congrArg Jl.c h.m
theorem BJ.set {w : World} {b : Nat} {J : Jk} {j : Jl} {x0 x1 x2 x3 x4 x5 x6 : Value} (h : Bx w b [x0, x1, x2, x3, x4, x5, x6]) (hok : J.d.Ok w) (hm : J.m = j) (hav : J.d.Av b) : BJ (((((((w.setCell ⟨b, 0, none⟩ (.slice J.d.a J.d.n J.d.c)).setCell ⟨b, 1, none⟩ (.slice J.d.pa J.d.pn J.d.pc)).setCell ⟨b, 2, none⟩ (.int .i64 J.d.left)).setCell ⟨b, 3, none⟩ (.bool J.d.down)).setCell ⟨b, 4, none⟩ (.int .i64 J.e)).setCell ⟨b, 5, none⟩ (.int .i64 J.h)).setCell ⟨b, 6, none⟩ (.int .i64 J.c)) b J j :=
  ⟨⟨h.set7 _ _ _ _ _ _ _, hok.off (off_set7 w b (.slice J.d.a J.d.n J.d.c) (.slice J.d.pa J.d.pn J.d.pc) (.int .i64 J.d.left) (.bool J.d.down) (.int .i64 J.e) (.int .i64 J.h) (.int .i64 J.c)) (fun t ht => by simp only [List.mem_singleton] at ht; rw [ht]; exact hav)⟩, hm⟩
/-- Append, in these words. -/
theorem append_bj {X : World} {b : Nat} {J : Jk} {j r : Jl} {q : Int} {K : Nat} (h : BJ X b J j) (hw : WS K (j.d, 0)) (hK : K ≤ 900) (hH : V.In j.h) {A : Option Addr} {n c : Nat} {l : List UInt8} (hl : RB X A n c l) (hlen : l.length ≤ 3000) (ht : Tab X) (hr : j.append l = (r, q)) :
    Calls Tryd.prog 15 #[.agg #[.slice J.d.a J.d.n J.d.c, .slice J.d.pa J.d.pn J.d.pc, .int .i64 J.d.left, .bool J.d.down, .int .i64 J.e, .int .i64 J.h, .int .i64 J.c], .slice A n c] X (RetJE X J.d.Av (r, q)) := by
  have := append_any J A n c l X h.bx.ok (by rw [h.eh]; exact hH) hl K (by rw [h.dm]; exact hw) hK hlen ht
  rw [h.m, hr] at this
  exact this
theorem free_bj {X : World} {b : Nat} {J : Jk} {j : Jl} {K : Nat} (h : BJ X b J j) (hw : WS K (j.d, 0)) (hH : V.In j.h) :
    Calls Tryd.prog 20 #[.agg #[.slice J.d.a J.d.n J.d.c, .slice J.d.pa J.d.pn J.d.pc, .int .i64 J.d.left, .bool J.d.down, .int .i64 J.e, .int .i64 J.h, .int .i64 J.c]] X fun e w' => e = .returned (.int .i64 j.free) ∧ Below X.heap.size X w' := by
  have hdl := dk_len h.bx.ok
  have := free_any J X h.bx.ok (by have := hw.fit.ns; rw [← h.dm] at this; simp only at this; omega) (by rw [h.eh]; exact hH)
  rw [h.m] at this
  exact this
/-- Records of a journal that is known. -/
theorem records_bj {X : World} {b : Nat} {J : Jk} {j x : Jl} {L : List (List UInt8)} {K : Nat} (h : BJ X b J j) (hw : WS K (j.d, 0)) (hK : K ≤ 1000) (ht : Tab X) (hs : Scanned j.d x L 0) :
    Calls Tryd.prog 14 #[.agg #[.slice J.d.a J.d.n J.d.c, .slice J.d.pa J.d.pn J.d.pc, .int .i64 J.d.left, .bool J.d.down, .int .i64 J.e, .int .i64 J.h, .int .i64 J.c]] X fun e w' => ∃ (A : Option Addr) (n c : Nat) (S : List Sl), e = .returned (.tuple #[.slice A n c, .int .i64 0]) ∧ RS w' A n c S ∧ Below X.heap.size X w' ∧ S.map (·.l) = L := by
  refine (records_any J K X h.bx.ok (by rw [h.dm]; exact hw.fit) hK ht).mono ?_
  rintro e w' ⟨A, n, c, S, k, j', rfl, hrs, hb, hsc⟩
  rw [h.dm] at hsc
  obtain ⟨rfl, h2, _⟩ := hs.det hsc
  exact ⟨A, n, c, S, rfl, hrs, hb, h2.symm⟩
/-- Open of a device that is known. -/
theorem open_k {X : World} {d : Dk} {m : Dv.Disk} {x : Jl} {L : List (List UInt8)} {K : Nat} (h : d.Ok X) (hm : d.m = m) (hf : Dv.Fits K m) (hK : K ≤ 1000) (ht : Tab X) (hs : Scanned m x L 0) :
    Calls Tryd.prog 12 #[.agg #[.slice d.a d.n d.c, .slice d.pa d.pn d.pc, .int .i64 d.left, .bool d.down]] X (RetJE X (fun _ => True) (x, 0)) := by
  refine (open_any d K X h (by rw [hm]; exact hf) hK ht).mono ?_
  rintro e w' ⟨J, k, L', rfl, hok, hb, hsc, hav⟩
  rw [hm] at hsc
  obtain ⟨rfl, _, h3⟩ := hs.det hsc
  exact ⟨J, rfl, hok, h3.symm, hb, hav⟩
theorem open_no {X : World} {d : Dk} {m : Dv.Disk} {K : Nat} {k : Int} (h : d.Ok X) (hm : d.m = m) (hf : Dv.Fits K m) (hK : K ≤ 1000) (ht : Tab X) (hs : Jn.scanE m = k) :
    Calls Tryd.prog 12 #[.agg #[.slice d.a d.n d.c, .slice d.pa d.pn d.pc, .int .i64 d.left, .bool d.down]] X fun e w' => ∃ J : Jk, e = .returned (.tuple #[.agg #[.slice J.d.a J.d.n J.d.c, .slice J.d.pa J.d.pn J.d.pc, .int .i64 J.d.left, .bool J.d.down, .int .i64 J.e, .int .i64 J.h, .int .i64 J.c], .int .i64 k]) ∧ Below X.heap.size X w' := by
  refine (open_any d K X h (by rw [hm]; exact hf) hK ht).mono ?_
  rintro e w' ⟨J, k', L', rfl, hok, hb, hsc, hav⟩
  rw [hm] at hsc
  refine ⟨J, ?_, hb⟩
  rw [hsc.1, hs]

set_option maxHeartbeats 8000000 in
set_option maxRecDepth 100000 in
theorem awake_any (w : World) (ht : Tab w) : Calls Tryd.prog 10 #[] w fun e w' => e = .returned (.bool true) ∧ Below w.heap.size w w' := by
  obtain ⟨j, k, l, hA⟩ := awk
  have HA := Keep.mk hA
  have HT := Keep.mk ht
  have HIN : Keep (V.In j.h ∧ V.In k.h ∧ V.In l.h) := ⟨by rw [hA.jh, hA.kh, hA.lh]; simp [V.In]⟩
  clear hA ht
  go_enter Tryd.func10, Tryd.ntmps10
  go_wp2_with fail
  refine (ldisk_any 4 _).mono ?_
  rintro e w1 ⟨D0, rfl, hok, hm, hb, hav⟩
  have HB1 := Lib.hid hb
  have hm0 : D0.m = Ds 4 := by rw [hm]; exact ds_new (n := 4) (by omega) (by omega)
  have hfm := format_any D0 10 w1 hok (by rw [hm0]; exact (ds_ws (n := 4) (by omega)).mono (by omega)) (by decide) (HT.out.below hb)
  rw [hm0, HA.out.f] at hfm
  have CF := Keep.mk hfm
  clear hok hm hb hav hm0 hfm
  go_wp2_with fail
  refine CF.out.mono ?_
  rintro e w2 ⟨J, rfl, hok, hm, hb, hav⟩
  have HB2 := Lib.hid (below_next HB1.out hb (Nat.le_refl _))
  have BJ1 : Keep (BJ (w2.alloc (.cells #[.slice J.d.a J.d.n J.d.c, .slice J.d.pa J.d.pn J.d.pc, .int .i64 J.d.left, .bool J.d.down, .int .i64 J.e, .int .i64 J.h, .int .i64 J.c] 32)) w2.heap.size J j) := ⟨BJ.new hok hm⟩
  clear hok hm hb hav CF HB1
  have HB3 : Hid (Below w.heap.size w (w2.alloc (.cells #[.slice J.d.a J.d.n J.d.c, .slice J.d.pa J.d.pn J.d.pc, .int .i64 J.d.left, .bool J.d.down, .int .i64 J.e, .int .i64 J.h, .int .i64 J.c] 32))) := HB2.out.alloc HB2.out.size _
  have hs2 := HB2.out.size
  go_upto_region 2 with (fail)
  generalize hw3 : w2.alloc (.cells #[.slice J.d.a J.d.n J.d.c, .slice J.d.pa J.d.pn J.d.pc, .int .i64 J.d.left, .bool J.d.down, .int .i64 J.e, .int .i64 J.h, .int .i64 J.c] 32) = w3 at *
  clear hw3 HB2
  obtain ⟨b1, hb1⟩ : ∃ b, b = w2.heap.size := ⟨_, rfl⟩
  rw [← hb1] at BJ1 hs2 ⊢
  clear hb1
  have hl1 := BJ1.out.bx.bx.lt
  obtain ⟨i0, i1, i2, i3, i4, i5, i6⟩ := BJ1.out.bx.cs
  go_upto_region 2 with (fail)
  have KS : Keep (∀ X, Below w3.heap.size w3 X → X.cell? ⟨b1, 0, none⟩ = some (.slice J.d.a J.d.n J.d.c) ∧ X.cell? ⟨b1, 1, none⟩ = some (.slice J.d.pa J.d.pn J.d.pc) ∧ X.cell? ⟨b1, 2, none⟩ = some (.int .i64 J.d.left) ∧ X.cell? ⟨b1, 3, none⟩ = some (.bool J.d.down) ∧ X.cell? ⟨b1, 4, none⟩ = some (.int .i64 J.e) ∧ X.cell? ⟨b1, 5, none⟩ = some (.int .i64 J.h) ∧ X.cell? ⟨b1, 6, none⟩ = some (.int .i64 J.c)) := ⟨fun X hX => (BJ1.out.below hX).bx.cs⟩
  have CA := Keep.mk (fun (X : World) (hX : Below w3.heap.size w3 X) (A : Option Addr) (n c : Nat) (hr : RB X A n c z63) => append_bj (BJ1.out.below hX) HA.out.wj (by decide) HIN.out.1 hr (by rw [z63_len]; omega) ((HT.out.below HB3.out).below hX) HA.out.a)
  go_cut [3, 4] from 18 to 23 (fun s3 s4 X => ∃ (b3 : Nat) (K : Jk), s3 = .pointer (some ⟨b3, 0, none⟩) ∧ s4 = .int .i64 0 ∧ w3.heap.size ≤ b3 ∧ BJ X b3 K k ∧ Below w3.heap.size w3 X)
  case first =>
    have hmk := run_make63 w3
    have hmk2 := run_make63 w3.drew
    have hmk3 := run_make63 (w3.alloc (.cells #[.slice none 0 0, .slice none 0 0, .int .i64 0, .bool false, .int .i64 0, .int .i64 0, .int .i64 0] 32)).drew
    have HWa : Hid (Below w3.heap.size w3 ((w3.alloc (.cells (z63.map bv).toArray 5)).drew)) := (below_alloc1 _ _).trans (below_draws _ _ _)
    have HWb : Hid (Below w3.heap.size w3 (((w3.alloc (.cells (z63.map bv).toArray 5)).alloc (.cells #[.slice none 0 0, .slice none 0 0, .int .i64 0, .bool false, .int .i64 0, .int .i64 0, .int .i64 0] 32)).drew)) := ((below_alloc1 _ _).alloc (by simp) _).trans (below_draws _ _ _)
    have HWc : Hid (Below w3.heap.size w3 (((w3.alloc (.cells #[.slice none 0 0, .slice none 0 0, .int .i64 0, .bool false, .int .i64 0, .int .i64 0, .int .i64 0] 32)).alloc (.cells (z63.map bv).toArray 5)).drew)) := ((below_alloc1 _ _).alloc (by simp) _).trans (below_draws _ _ _)
    have HRa : Keep (RB (w3.alloc (.cells (z63.map bv).toArray 5)).drew (some ⟨w3.heap.size, 0, none⟩) 63 63 z63) := ⟨Rd.drewN (rb_z63 w3) 1⟩
    have HRb : Keep (RB ((w3.alloc (.cells (z63.map bv).toArray 5)).alloc (.cells #[.slice none 0 0, .slice none 0 0, .int .i64 0, .bool false, .int .i64 0, .int .i64 0, .int .i64 0] 32)).drew (some ⟨w3.heap.size, 0, none⟩) 63 63 z63) := ⟨Rd.drewN (RB.below (rb_z63 w3) (below_alloc1 _ _)) 1⟩
    have HRc : Keep (RB ((w3.alloc (.cells #[.slice none 0 0, .slice none 0 0, .int .i64 0, .bool false, .int .i64 0, .int .i64 0, .int .i64 0] 32)).alloc (.cells (z63.map bv).toArray 5)).drew (some ⟨w3.heap.size + 1, 0, none⟩) 63 63 z63) := ⟨by have := Rd.drewN (rb_z63 (w3.alloc (.cells #[.slice none 0 0, .slice none 0 0, .int .i64 0, .bool false, .int .i64 0, .int .i64 0, .int .i64 0] 32))) 1; rwa [World.size_alloc] at this⟩
    have HBNb : Keep (Bx (((w3.alloc (.cells (z63.map bv).toArray 5)).alloc (.cells #[.slice none 0 0, .slice none 0 0, .int .i64 0, .bool false, .int .i64 0, .int .i64 0, .int .i64 0] 32)).drew) (w3.heap.size + 1) [.slice none 0 0, .slice none 0 0, .int .i64 0, .bool false, .int .i64 0, .int .i64 0, .int .i64 0]) := ⟨by have := (Bx.new (w3.alloc (.cells (z63.map bv).toArray 5)) [.slice none 0 0, .slice none 0 0, .int .i64 0, .bool false, .int .i64 0, .int .i64 0, .int .i64 0] 32).drewN 1; rwa [World.size_alloc] at this⟩
    have HBNc : Keep (Bx (((w3.alloc (.cells #[.slice none 0 0, .slice none 0 0, .int .i64 0, .bool false, .int .i64 0, .int .i64 0, .int .i64 0] 32)).alloc (.cells (z63.map bv).toArray 5)).drew) w3.heap.size [.slice none 0 0, .slice none 0 0, .int .i64 0, .bool false, .int .i64 0, .int .i64 0, .int .i64 0]) := ⟨((Bx.new w3 [.slice none 0 0, .slice none 0 0, .int .i64 0, .bool false, .int .i64 0, .int .i64 0, .int .i64 0] 32).below (below_alloc1 _ _)).drewN 1⟩
    go_region_held3 (fun X => X.cell? ⟨b1, 0, none⟩ = some (.slice J.d.a J.d.n J.d.c) ∧ X.cell? ⟨b1, 1, none⟩ = some (.slice J.d.pa J.d.pn J.d.pc) ∧ X.cell? ⟨b1, 2, none⟩ = some (.int .i64 J.d.left) ∧ X.cell? ⟨b1, 3, none⟩ = some (.bool J.d.down) ∧ X.cell? ⟨b1, 4, none⟩ = some (.int .i64 J.e) ∧ X.cell? ⟨b1, 5, none⟩ = some (.int .i64 J.h) ∧ X.cell? ⟨b1, 6, none⟩ = some (.int .i64 J.c))
      (first
        | with_reducible exact KS.out _ HDN.out
        | with_reducible exact KS.out _ (HDN.out.alloc HDN.out.size _)
        | with_reducible exact KS.out _ (HDN.out.trans ((off_set7 _ _ _ _ _ _ _ _ _).below HDN.out.size (by simp)))
        | exact KS.out _ (below_draws _ _ 1)
        | exact KS.out _ ((below_alloc1 _ _).trans (below_draws _ _ _))
        | exact KS.out _ (((below_alloc1 _ _).alloc (by simp) _).trans (below_draws _ _ _))
        | fail)
      ((go_at_call 15; (first
        | ((with_reducible refine (CA.out _ HWa.out _ 63 63 HRa.out).mono ?_); rintro e wn ⟨K, rfl, hok, hm, hb, hav⟩; have HDN := Lib.hid (below_next HWa.out hb (Nat.le_refl _)); have BM := True.intro; have HOK := Keep.mk hok; have HM := Keep.mk hm; have HAV := Keep.mk hav; clear hok hm hb hav)
        | ((with_reducible refine (CA.out _ HWb.out _ 63 63 HRb.out).mono ?_); rintro e wn ⟨K, rfl, hok, hm, hb, hav⟩; have HDN := Lib.hid (below_next HWb.out hb (Nat.le_refl _)); have BM := Keep.mk (HBNb.out.below hb); have m0 := BM.out.cell 0 _ rfl; have m1 := BM.out.cell 1 _ rfl; have m2 := BM.out.cell 2 _ rfl; have m3 := BM.out.cell 3 _ rfl; have m4 := BM.out.cell 4 _ rfl; have m5 := BM.out.cell 5 _ rfl; have m6 := BM.out.cell 6 _ rfl; have mf := BM.out.fz; have HOK := Keep.mk hok; have HM := Keep.mk hm; have HAV := Keep.mk hav; clear hok hm hb hav)
        | ((with_reducible refine (CA.out _ HWc.out _ 63 63 HRc.out).mono ?_); rintro e wn ⟨K, rfl, hok, hm, hb, hav⟩; have HDN := Lib.hid (below_next HWc.out hb (Nat.le_refl _)); have BM := Keep.mk (HBNc.out.below hb); have m0 := BM.out.cell 0 _ rfl; have m1 := BM.out.cell 1 _ rfl; have m2 := BM.out.cell 2 _ rfl; have m3 := BM.out.cell 3 _ rfl; have m4 := BM.out.cell 4 _ rfl; have m5 := BM.out.cell 5 _ rfl; have m6 := BM.out.cell 6 _ rfl; have mf := BM.out.fz; have HOK := Keep.mk hok; have HM := Keep.mk hm; have HAV := Keep.mk hav; clear hok hm hb hav) | fail)))
    all_goals go_wp2
    all_goals go_meet
    · have hzn := HDN.out.size
      exact ⟨_, K, rfl, rfl, hzn, BJ.new HOK.out HM.out, HDN.out.alloc hzn _⟩
    · have hzn := HDN.out.size
      have hbs := BJ.set BM.out HOK.out HM.out (HAV.out _ (by simp) (BJ1.out.bx.ok.av (Nat.le_succ _)))
      have hbl := HDN.out.trans ((off_set7 wn (w3.heap.size + 1) (.slice K.d.a K.d.n K.d.c) (.slice K.d.pa K.d.pn K.d.pc) (.int .i64 K.d.left) (.bool K.d.down) (.int .i64 K.e) (.int .i64 K.h) (.int .i64 K.c)).below hzn (by simp))
      exact ⟨_, K, rfl, rfl, Nat.le_succ _, hbs, hbl⟩
    · have hzn := HDN.out.size
      have hbs := BJ.set BM.out HOK.out HM.out (HAV.out _ (by simp; omega) (BJ1.out.bx.ok.av (Nat.le_refl _)))
      have hbl := HDN.out.trans ((off_set7 wn w3.heap.size (.slice K.d.a K.d.n K.d.c) (.slice K.d.pa K.d.pn K.d.pc) (.int .i64 K.d.left) (.bool K.d.down) (.int .i64 K.e) (.int .i64 K.h) (.int .i64 K.c)).below hzn (by simp))
      exact ⟨_, K, rfl, rfl, Nat.le_refl _, hbs, hbl⟩
  case rest =>
    obtain ⟨X1, hX1⟩ : ∃ X1, X1 = wc := ⟨_, rfl⟩
    subst hX1
    obtain ⟨b3, K, rfl, rfl, hl3, h3, hb3⟩ := hcut
    have BJ3 := Keep.mk h3
    have BJ1a := Keep.mk (BJ1.out.below hb3)
    have HB4 := Lib.hid (below_next HB3.out hb3 (Nat.le_refl _))
    clear h3 hb3 i0 i1 i2 i3 i4 i5 i6 BJ1 HB3 KS CA
    have CB := Keep.mk (append_bj BJ3.out HA.out.wk (by decide) HIN.out.2.1 (RB.none_ _) (by simp) (HT.out.below HB4.out) HA.out.b)
    obtain ⟨i0, i1, i2, i3, i4, i5, i6⟩ := BJ3.out.bx.cs
    go_wp2_with fail
    refine CB.out.mono ?_
    rintro e w4 ⟨L, rfl, hok, hm, hb, hav⟩
    have HB5 := Lib.hid (below_next HB4.out hb (Nat.le_refl _))
    have BJ1b := Keep.mk (BJ1a.out.below hb)
    have BJ3b := Keep.mk (BJ3.out.below hb)
    have BJ5 : Keep (BJ (w4.alloc (.cells #[.slice L.d.a L.d.n L.d.c, .slice L.d.pa L.d.pn L.d.pc, .int .i64 L.d.left, .bool L.d.down, .int .i64 L.e, .int .i64 L.h, .int .i64 L.c] 32)) w4.heap.size L l) := ⟨BJ.new hok hm⟩
    clear hok hm hb hav CB i0 i1 i2 i3 i4 i5 i6 BJ1a BJ3 HB4
    have HB6 : Hid (Below w.heap.size w (w4.alloc (.cells #[.slice L.d.a L.d.n L.d.c, .slice L.d.pa L.d.pn L.d.pc, .int .i64 L.d.left, .bool L.d.down, .int .i64 L.e, .int .i64 L.h, .int .i64 L.c] 32))) := HB5.out.alloc HB5.out.size _
    have BJ1c := Keep.mk (BJ1b.out.below (below_alloc1 w4 (.cells #[.slice L.d.a L.d.n L.d.c, .slice L.d.pa L.d.pn L.d.pc, .int .i64 L.d.left, .bool L.d.down, .int .i64 L.e, .int .i64 L.h, .int .i64 L.c] 32)))
    have BJ3c := Keep.mk (BJ3b.out.below (below_alloc1 w4 (.cells #[.slice L.d.a L.d.n L.d.c, .slice L.d.pa L.d.pn L.d.pc, .int .i64 L.d.left, .bool L.d.down, .int .i64 L.e, .int .i64 L.h, .int .i64 L.c] 32)))
    go_upto_region 4 with (fail)
    generalize hw5 : w4.alloc (.cells #[.slice L.d.a L.d.n L.d.c, .slice L.d.pa L.d.pn L.d.pc, .int .i64 L.d.left, .bool L.d.down, .int .i64 L.e, .int .i64 L.h, .int .i64 L.c] 32) = w5 at *
    clear hw5 BJ1b BJ3b HB5
    obtain ⟨b5, hb5⟩ : ∃ b, b = w4.heap.size := ⟨_, rfl⟩
    rw [← hb5] at BJ5 ⊢
    clear hb5
    have CR := Keep.mk (records_bj BJ5.out HA.out.wl (by decide) (HT.out.below HB6.out) HA.out.sc)
    obtain ⟨i0, i1, i2, i3, i4, i5, i6⟩ := BJ5.out.bx.cs
    go_wp2_with fail
    refine CR.out.mono ?_
    rintro e w6 ⟨A, n, c, S, rfl, hrs, hb, hS⟩
    have HB7 := Lib.hid (below_next HB6.out hb (Nat.le_refl _))
    have BJ1d := Keep.mk (BJ1c.out.below hb)
    have BJ3d := Keep.mk (BJ3c.out.below hb)
    have BJ5d := Keep.mk (BJ5.out.below hb)
    have HRS := Keep.mk hrs
    have hn2 : n = 2 := by rw [← hrs.len, ← List.length_map (f := fun s : Sl => s.l), hS]; rfl
    subst hn2
    have HSS : Keep (S.map (·.l) = [z63, []]) := ⟨hS⟩
    clear hrs hb hS CR i0 i1 i2 i3 i4 i5 i6 BJ1c BJ3c BJ5 HB6
    have CO := Keep.mk (open_k BJ5d.out.bx.ok BJ5d.out.dm HA.out.wl.fit (by decide) (HT.out.below HB7.out) HA.out.sc)
    obtain ⟨i0, i1, i2, i3, i4, i5, i6⟩ := BJ5d.out.bx.cs
    go_wp2_with fail
    refine CO.out.mono ?_
    rintro e w7 ⟨M, rfl, hok, hm, hb, hav⟩
    have HB8 := Lib.hid (below_next HB7.out hb (Nat.le_refl _))
    have HB9 : Hid (Below w.heap.size w (w7.alloc (.cells #[.slice M.d.a M.d.n M.d.c, .slice M.d.pa M.d.pn M.d.pc, .int .i64 M.d.left, .bool M.d.down, .int .i64 M.e, .int .i64 M.h, .int .i64 M.c] 32))) := HB8.out.alloc HB8.out.size _
    have hb' := hb.trans (below_alloc1 w7 (.cells #[.slice M.d.a M.d.n M.d.c, .slice M.d.pa M.d.pn M.d.pc, .int .i64 M.d.left, .bool M.d.down, .int .i64 M.e, .int .i64 M.h, .int .i64 M.c] 32) |>.mono hb.size)
    have BJ1e := Keep.mk (BJ1d.out.below hb')
    have BJ3e := Keep.mk (BJ3d.out.below hb')
    have BJ5e := Keep.mk (BJ5d.out.below hb')
    have HRS2 := Keep.mk (HRS.out.below hb')
    have BJ9 : Keep (BJ (w7.alloc (.cells #[.slice M.d.a M.d.n M.d.c, .slice M.d.pa M.d.pn M.d.pc, .int .i64 M.d.left, .bool M.d.down, .int .i64 M.e, .int .i64 M.h, .int .i64 M.c] 32)) w7.heap.size M l) := ⟨BJ.new hok hm⟩
    clear hok hm hb hav hb' CO i0 i1 i2 i3 i4 i5 i6 BJ1d BJ3d BJ5d HRS HB7 HB8
    go_upto_region 6 with (fail)
    generalize hw8 : w7.alloc (.cells #[.slice M.d.a M.d.n M.d.c, .slice M.d.pa M.d.pn M.d.pc, .int .i64 M.d.left, .bool M.d.down, .int .i64 M.e, .int .i64 M.h, .int .i64 M.c] 32) = w8 at *
    clear hw8
    obtain ⟨b9, hb9⟩ : ∃ b, b = w7.heap.size := ⟨_, rfl⟩
    rw [← hb9] at BJ9 ⊢
    clear hb9
    go_wp2_with fail
    refine (ldisk_any 4 _).mono ?_
    rintro e wa ⟨Dz, rfl, hok, hm, hb, hav⟩
    have HB10 := Lib.hid (below_next HB9.out hb (Nat.le_refl _))
    have HBa := Lib.hid hb
    have hmz : Dz.m = Ds 4 := by rw [hm]; exact ds_new (n := 4) (by omega) (by omega)
    have CN := Keep.mk (open_no (k := 4) hok hmz (ds_ws (n := 4) (by omega)).fit (by decide) (HT.out.below HB10.out) (ds_scan (by omega)))
    clear hok hm hb hav hmz
    go_wp2_with fail
    refine CN.out.mono ?_
    rintro e wb ⟨Z, rfl, hb⟩
    have HB11 := Lib.hid (below_next HB10.out hb (Nat.le_refl _))
    have HBc : Hid (Below w8.heap.size w8 (wb.alloc (.cells #[.slice Z.d.a Z.d.n Z.d.c, .slice Z.d.pa Z.d.pn Z.d.pc, .int .i64 Z.d.left, .bool Z.d.down, .int .i64 Z.e, .int .i64 Z.h, .int .i64 Z.c] 32))) := (below_next HBa.out hb (Nat.le_refl _)).alloc (below_next HBa.out hb (Nat.le_refl _)).size _
    have HB12 : Hid (Below w.heap.size w (wb.alloc (.cells #[.slice Z.d.a Z.d.n Z.d.c, .slice Z.d.pa Z.d.pn Z.d.pc, .int .i64 Z.d.left, .bool Z.d.down, .int .i64 Z.e, .int .i64 Z.h, .int .i64 Z.c] 32))) := HB11.out.alloc HB11.out.size _
    have BJ1f := Keep.mk (BJ1e.out.below HBc.out)
    have BJ3f := Keep.mk (BJ3e.out.below HBc.out)
    have BJ5f := Keep.mk (BJ5e.out.below HBc.out)
    have BJ9f := Keep.mk (BJ9.out.below HBc.out)
    have HRS3 := Keep.mk (HRS2.out.below HBc.out)
    clear hb CN BJ1e BJ3e BJ5e BJ9 HRS2 HB9 HB10 HB11 HBa HBc
    go_upto_region 7 with (fail)
    generalize hwc : wb.alloc (.cells #[.slice Z.d.a Z.d.n Z.d.c, .slice Z.d.pa Z.d.pn Z.d.pc, .int .i64 Z.d.left, .bool Z.d.down, .int .i64 Z.e, .int .i64 Z.h, .int .i64 Z.c] 32) = wd at *
    clear hwc
    have e1 : (J.h == 64) = true := by rw [BJ1f.out.eh, HA.out.jh]; rfl
    have e2 : (K.h == 192) = true := by rw [BJ3f.out.eh, HA.out.kh]; rfl
    have e3 : (M.c == 2) = true := by rw [BJ9f.out.ec, HA.out.lc]; rfl
    have e4 : (M.e == 1) = true := by rw [BJ9f.out.ee, HA.out.le]; rfl
    obtain ⟨s0, s1, hs, hs0, hs1⟩ : ∃ s0 s1 : Sl, S = [s0, s1] ∧ s0.l = z63 ∧ s1.l = [] := by
      have h := HSS.out
      match S, h with
      | [s0, s1], h =>
        simp only [List.map_cons, List.map_nil, List.cons.injEq, and_true] at h
        exact ⟨s0, s1, rfl, h.1, h.2⟩
    subst hs
    have hn0 : s0.n = 63 := by have := (HRS3.out.ok s0 (by simp)).len; rw [hs0, z63_len] at this; exact this.symm
    have hn1 : s1.n = 0 := by have := (HRS3.out.ok s1 (by simp)).len; rw [hs1] at this; exact this.symm
    have HAT : Keep (∀ X, Below wd.heap.size wd X → ∃ b o, A = some ⟨b, o, none⟩ ∧ X.cell? ⟨b, o, none⟩ = some (.slice s0.a 63 s0.c) ∧ X.cell? ⟨b, o + 1, none⟩ = some (.slice s1.a 0 s1.c)) := ⟨fun X hX => by
      obtain ⟨b, o, h1, _, h2, _⟩ := (HRS3.out.below hX).at_ (k := 0) (by simp)
      obtain ⟨b', o', h1', _, h2', _⟩ := (HRS3.out.below hX).at_ (k := 1) (by simp)
      rw [h1] at h1'
      injection h1' with h1'
      injection h1' with h3 h4
      subst h3 h4
      refine ⟨b, o, h1, ?_, ?_⟩
      · simpa [hn0] using h2
      · simpa [hn1] using h2'⟩
    have CF1 := Keep.mk (fun (X : World) (hX : Below wd.heap.size wd X) => free_bj (BJ1f.out.below hX) HA.out.wj HIN.out.1)
    have CF3 := Keep.mk (fun (X : World) (hX : Below wd.heap.size wd X) => free_bj (BJ3f.out.below hX) HA.out.wk HIN.out.2.1)
    have CF5 := Keep.mk (fun (X : World) (hX : Below wd.heap.size wd X) => free_bj (BJ5f.out.below hX) HA.out.wl HIN.out.2.2)
    rw [HA.out.jf] at CF1
    rw [HA.out.kf] at CF3
    rw [HA.out.lf] at CF5
    have hcap : 2 ≤ c := HRS3.out.cap
    have hbig := HRS3.out.big
    unfold maxLen at hbig
    clear hs0 hs1 hn0 hn1 HSS HRS3
    obtain ⟨i0, i1, i2, i3, i4, i5, i6⟩ := BJ1f.out.bx.cs
    go_wp2_with fail
    refine (CF1.out _ (Below.refl _ _)).mono ?_
    rintro e we ⟨rfl, hb⟩
    have HC := Lib.hid hb
    clear hb i0 i1 i2 i3 i4 i5 i6
    obtain ⟨i0, i1, i2, i3, i4, i5, i6⟩ := (BJ3f.out.below HC.out).bx.cs
    go_wp2_with fail
    refine (CF3.out _ HC.out).mono ?_
    rintro e wf ⟨rfl, hb⟩
    have HC2 := Lib.hid (below_next HC.out hb (Nat.le_refl _))
    clear hb i0 i1 i2 i3 i4 i5 i6 HC
    obtain ⟨i0, i1, i2, i3, i4, i5, i6⟩ := (BJ5f.out.below HC2.out).bx.cs
    go_wp2_with fail
    refine (CF5.out _ HC2.out).mono ?_
    rintro e wg ⟨rfl, hb⟩
    have HC3 := Lib.hid (below_next HC2.out hb (Nat.le_refl _))
    clear hb i0 i1 i2 i3 i4 i5 i6 HC2
    obtain ⟨i0, i1, i2, i3, i4, i5, i6⟩ := (BJ9f.out.below HC3.out).bx.cs
    obtain ⟨b, o, rfl, a0, a1⟩ := HAT.out _ HC3.out
    have HZ := Lib.hid (below_next HB12.out HC3.out (Nat.le_refl _))
    clear HC3 HAT HB12
    go_wp2
    go_ret
    exact ⟨rfl, HZ.out⟩
end Go.Proofs.YtjficpdfofmcnaaDoor

/- Open, Records, Same of the journal and of its reference in the words of the laws. -/
namespace Go.Proofs.YtjficpdfofmcnaaDoor
open Go.RowKit Go.Joins

theorem open_s {X : World} {d : Dk} {m : Dv.Disk} {x : Jl} {L : List (List UInt8)} {k : Int} {K : Nat} (h : d.Ok X) (hm : d.m = m) (hf : Dv.Fits K m) (hK : K ≤ 1000) (ht : Tab X) (hs : Scanned m x L k) :
    Calls Tryd.prog 12 #[.agg #[.slice d.a d.n d.c, .slice d.pa d.pn d.pc, .int .i64 d.left, .bool d.down]] X (RetJE X (fun _ => True) (x, k)) := by
  refine (open_any d K X h (by rw [hm]; exact hf) hK ht).mono ?_
  rintro e w' ⟨J, k', L', rfl, hok, hb, hsc, hav⟩
  rw [hm] at hsc
  obtain ⟨h1, _, h3⟩ := hs.det hsc
  exact ⟨J, by rw [h1], hok, h3.symm, hb, hav⟩
theorem ropen_s {X : World} {d : Dk} {m : Dv.Disk} {x : Jl} {L : List (List UInt8)} {k : Int} {K : Nat} (h : d.Ok X) (hm : d.m = m) (hf : Dv.Fits K m) (hs : Scanned m x L k) :
    Calls Tryd.prog 21 #[.agg #[.slice d.a d.n d.c, .slice d.pa d.pn d.pc, .int .i64 d.left, .bool d.down]] X (RetJE X d.Av (x, k)) := by
  refine (ropen_any d K X h (by rw [hm]; exact hf)).mono ?_
  rintro e w' ⟨J, k', L', rfl, hok, hb, hsc, hav⟩
  rw [hm] at hsc
  obtain ⟨h1, _, h3⟩ := hs.det hsc
  exact ⟨J, by rw [h1], hok, h3.symm, hb, hav⟩
/-- What Records leaves, where the device is known. -/
def RetR2 (w : World) (L : List (List UInt8)) (k : Int) (e : Ending) (w' : World) : Prop := ∃ (A : Option Addr) (n c : Nat) (S : List Sl), e = .returned (.tuple #[.slice A n c, .int .i64 k]) ∧ RS w' A n c S ∧ Below w.heap.size w w' ∧ S.map (·.l) = L
theorem records_s {X : World} {J : Jk} {m : Dv.Disk} {x : Jl} {L : List (List UInt8)} {k : Int} {K : Nat} (h : J.d.Ok X) (hm : J.d.m = m) (hf : Dv.Fits K m) (hK : K ≤ 1000) (ht : Tab X) (hs : Scanned m x L k) :
    Calls Tryd.prog 14 #[.agg #[.slice J.d.a J.d.n J.d.c, .slice J.d.pa J.d.pn J.d.pc, .int .i64 J.d.left, .bool J.d.down, .int .i64 J.e, .int .i64 J.h, .int .i64 J.c]] X (RetR2 X L k) := by
  refine (records_any J K X h (by rw [hm]; exact hf) hK ht).mono ?_
  rintro e w' ⟨A, n, c, S, k', j', rfl, hrs, hb, hsc⟩
  rw [hm] at hsc
  obtain ⟨h1, h2, _⟩ := hs.det hsc
  exact ⟨A, n, c, S, by rw [h1], hrs, hb, h2.symm⟩
theorem rrecords_s {X : World} {J : Jk} {m : Dv.Disk} {x : Jl} {L : List (List UInt8)} {k : Int} {K : Nat} (h : J.d.Ok X) (hm : J.d.m = m) (hf : Dv.Fits K m) (hs : Scanned m x L k) :
    Calls Tryd.prog 22 #[.agg #[.slice J.d.a J.d.n J.d.c, .slice J.d.pa J.d.pn J.d.pc, .int .i64 J.d.left, .bool J.d.down, .int .i64 J.e, .int .i64 J.h, .int .i64 J.c]] X (RetR2 X L k) := by
  refine (rrecords_any J K X h (by rw [hm]; exact hf)).mono ?_
  rintro e w' ⟨A, n, c, S, k', j', rfl, hrs, hb, hsc⟩
  rw [hm] at hsc
  obtain ⟨h1, h2, _⟩ := hs.det hsc
  exact ⟨A, n, c, S, by rw [h1], hrs, hb, h2.symm⟩
theorem ss_true {X : World} {A : Option Addr} {n c : Nat} {S : List Sl} {B : Option Addr} {m d : Nat} {S' : List Sl} (hS : RS X A n c S) (hS' : RS X B m d S') (he : S.map (·.l) = S'.map (·.l)) :
    Calls Tryd.prog 17 #[.slice A n c, .slice B m d] X fun e w' => e = .returned (.bool true) ∧ Below X.heap.size X w' :=
  (ss_any A n c S B m d S' X hS hS').mono fun e w' ⟨h1, k, h2⟩ => ⟨by rw [h1, decide_eq_true he], by rw [h2]; exact below_draws _ _ _⟩
theorem ss_dec {X : World} {A : Option Addr} {n c : Nat} {S : List Sl} {B : Option Addr} {m d : Nat} {S' : List Sl} {b : Bool} (hS : RS X A n c S) (hS' : RS X B m d S') (he : decide (S.map (·.l) = S'.map (·.l)) = b) :
    Calls Tryd.prog 17 #[.slice A n c, .slice B m d] X fun e w' => e = .returned (.bool b) ∧ Below X.heap.size X w' :=
  (ss_any A n c S B m d S' X hS hS').mono fun e w' ⟨h1, k, h2⟩ => ⟨by rw [h1, he], by rw [h2]; exact below_draws _ _ _⟩
theorem rjsame_bj {X : World} {b b' : Nat} {J J' : Jk} {j : Jl} (h : BJ X b J j) (h' : BJ X b' J' j) :
    Calls Tryd.prog 23 #[.agg #[.slice J.d.a J.d.n J.d.c, .slice J.d.pa J.d.pn J.d.pc, .int .i64 J.d.left, .bool J.d.down, .int .i64 J.e, .int .i64 J.h, .int .i64 J.c], .agg #[.slice J'.d.a J'.d.n J'.d.c, .slice J'.d.pa J'.d.pn J'.d.pc, .int .i64 J'.d.left, .bool J'.d.down, .int .i64 J'.e, .int .i64 J'.h, .int .i64 J'.c]] X fun e w' => e = .returned (.bool true) ∧ Below X.heap.size X w' := rjsame_true J J' X h.bx.ok h'.bx.ok (h.m.trans h'.m.symm)
theorem few_ws {d : Dk} (hLo : -9223372036854775808 ≤ d.left) (hHi : d.left ≤ 9223372036854775807) (hf : Dv.few d.m 40 = true) : WS 40 (d.m, 0) := ⟨(Dv.few_fits hf (by omega)).1, hLo, hHi⟩
theorem format_s {X : World} {d : Dk} {m : Dv.Disk} {r : Jl} {q : Int} {K : Nat} (h : d.Ok X) (hm : d.m = m) (hw : WS K (m, 0)) (hK : K ≤ 900) (ht : Tab X) (hr : Jn.fmt m = (r, q)) :
    Calls Tryd.prog 18 #[.agg #[.slice d.a d.n d.c, .slice d.pa d.pn d.pc, .int .i64 d.left, .bool d.down]] X (RetJE X d.Av (r, q)) := by
  have := format_any d K X h (by rw [hm]; exact hw) hK ht
  rw [hm, hr] at this
  exact this
theorem rformat_s {X : World} {d : Dk} {m : Dv.Disk} {r : Jl} {q : Int} {K : Nat} (h : d.Ok X) (hm : d.m = m) (hw : WS K (m, 0)) (hK : K ≤ 900) (hr : Jn.fmt m = (r, q)) :
    Calls Tryd.prog 24 #[.agg #[.slice d.a d.n d.c, .slice d.pa d.pn d.pc, .int .i64 d.left, .bool d.down]] X (RetJE X d.Av (r, q)) := by
  have := rformat_any d K X h (by rw [hm]; exact hw) hK
  rw [hm, hr] at this
  exact this
/-- Behind a Format without an error: the new journal; and the old one, if there was one. -/
theorem fmt_ok {m : Dv.Disk} {r : Jl} (hr : Jn.fmt m = (r, 0)) : Scanned r.d r [] 0 ∧ (Jn.scanE m = 0 ∨ Jn.scanE m = 4) ∧ ∀ (x : Jl) (L : List (List UInt8)), Scanned m x L 0 → r.e = x.e + 1 ∧ 0 ≤ x.e ∧ x.e ≤ 1073741824 := by
  have h0 : (Jn.fmt m).2 = 0 := by rw [hr]
  obtain ⟨hf, he, _, _, _⟩ := fmt_found h0
  rw [hr] at hf he
  refine ⟨hf.scanned, ?_, fun x L hs => ?_⟩
  · unfold Jn.fmt at h0
    unfold Jn.scanE
    split at h0
    · cases h0
    · rename_i g1
      split at h0
      · cases h0
      · rename_i g2
        rw [if_neg (by omega), if_neg g2]
        split
        · exact .inr rfl
        · exact .inl rfl
  · obtain ⟨_, h2⟩ := hs
    rcases h2 with ⟨g, _⟩ | ⟨_, a, _, _, rfl⟩
    · exact absurd rfl g
    · have hb := Jn.readHead_range (Jn.cont m 0)
      exact ⟨he, hb.1, hb.2⟩
/-- More than one behind a growing list. -/
theorem GS.apps {w w' : World} {base m : Nat} {A : Option Addr} {n c : Nat} {S T : List Sl} {A' : Option Addr} {c' : Nat} (h : GS w base A n c S) (ha : App w base 26 1 (.slice A n c) m (S.map Sl.v ++ T.map Sl.v) A' c' w')
    (hs : ∀ s ∈ T, s.Ok w) (hw : ∀ s ∈ T, s.Away ((Value.slice A n c).ownBlock)) : GS w' base A' m c' (S ++ T) := by
  have all : ∀ t ∈ S ++ T, t.Ok w ∧ t.Away ((Value.slice A n c).ownBlock) := fun t ht => by
    rcases List.mem_append.1 ht with ht | ht
    · exact ⟨h.ok t ht, h.away t ht⟩
    · exact ⟨hs t ht, hw t ht⟩
  refine ⟨by rw [List.map_append]; exact ha.tgt, fun t ht => (all t ht).1.grown ha.grown (all t ht).2, fun t ht hn a e => ?_, fun a e => ?l⟩
  case l =>
    rcases ha.at_ a e with h3 | h3
    · exact Nat.lt_of_lt_of_le (own_lt h.lt h3) ha.grown.size
    · exact h3.2
  have h1 := (all t ht).2 hn a e
  have h2 := (all t ht).1.lt hn e
  cases A' with
  | none => simp [Value.ownBlock]
  | some a' =>
    simp only [Value.ownBlock]
    intro hh
    injection hh with hh
    rcases ha.at_ a' rfl with h3 | h3
    · rw [h3, hh] at h1; exact h1 rfl
    · omega
/-- Bytes that were there lie in no block that is newer. -/
theorem away_elder {s : Sl} {w : World} {A : Option Addr} {n c N : Nat} (h : ∀ a, A = some a → N ≤ a.block) (hs : s.Ok w) (hN : w.heap.size ≤ N) : s.Away ((Value.slice A n c).ownBlock) := fun hn a ha hg => by
  have h2 := hs.lt hn ha
  cases A with
  | none => simp [Value.ownBlock] at hg
  | some x =>
    simp only [Value.ownBlock, Option.some.injEq] at hg
    have := h x rfl
    omega
/-- A list of what was there, in new memory. -/
structure WantL (w : World) (N : Nat) (A : Option Addr) (n c : Nat) (S : List Sl) : Prop where
  g : GS w N A n c S
  new : ∀ a, A = some a → N ≤ a.block
theorem WantL.below {w w' : World} {N : Nat} {A : Option Addr} {n c : Nat} {S : List Sl} (h : WantL w N A n c S) (hb : Below w.heap.size w w') : WantL w' N A n c S := ⟨h.g.below hb, h.new⟩
/-- The first append: all of a list. -/
theorem WantL.first {w w' : World} {A : Option Addr} {n c : Nat} {S : List Sl} {A' : Option Addr} {c' : Nat} (hS : RS w A n c S) (ha : App w w.heap.size 26 1 (.slice none 0 0) (0 + n) ([] ++ S.map Sl.v) A' c' w') : WantL w' w.heap.size A' n c' S := by
  have h := GS.apps (S := []) (T := S) (GS.nil w w.heap.size) (by simpa using ha) hS.ok (fun s hs hn a e => by simp [Value.ownBlock])
  rw [List.nil_append] at h
  refine ⟨h, fun a e => ?_⟩
  rcases ha.at_ a e with h3 | h3
  · simp [Value.ownBlock] at h3
  · exact h3.1
/-- The second: one more that was there before. -/
theorem WantL.snoc {w w' : World} {N : Nat} {A : Option Addr} {n c : Nat} {S : List Sl} {A' : Option Addr} {c' : Nat} {s : Sl} {w0 : World} (h : WantL w N A n c S) (ha : App w N 26 1 (.slice A n c) (n + 1) (S.map Sl.v ++ [s.v]) A' c' w') (hs : s.Ok w) (h0 : s.Ok w0) (hN : w0.heap.size ≤ N) (hw : N ≤ w.heap.size) :
    WantL w' N A' (n + 1) c' (S ++ [s]) := by
  refine ⟨h.g.app ha hs (away_elder h.new h0 hN), fun a e => ?_⟩
  rcases ha.at_ a e with h3 | h3
  · cases A with
    | none => simp [Value.ownBlock] at h3
    | some x =>
      simp only [Value.ownBlock, Option.some.injEq] at h3
      have := h.new x rfl
      omega
  · omega
theorem want_bel {w0 w4 w5 : World} {o : Obj} (h1 : Below w0.heap.size w0 w4) (h2 : Below w0.heap.size (w4.alloc o) w5) : Below w0.heap.size w0 w5 := (h1.alloc h1.size o).trans h2
end Go.Proofs.YtjficpdfofmcnaaDoor
