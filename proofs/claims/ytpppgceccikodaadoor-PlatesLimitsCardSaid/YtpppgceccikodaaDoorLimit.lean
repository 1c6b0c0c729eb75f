/- plates.Limit. -/
import Derived.Test.YtpppgceccikodaaDoorFour
namespace Go.Proofs.YtpppgceccikodaaDoor
open Go.RowKit Go.Joins

theorem made_rep (n : Nat) : madeCells #[Value.int .i64 0] n = (List.replicate n (Value.int .i64 0)).toArray := by
  unfold madeCells
  apply Array.ext
  · simp
  · intro i h1 h2
    simp [Nat.mod_one]
theorem bk_made (w : World) (t : TypeId) (n : Nat) : Bk (w.alloc (.cells (madeCells #[Value.int .i64 0] n) t)).drew w.heap.size t (List.replicate n (Value.int .i64 0)) := by
  rw [made_rep]
  exact (Bk.new w t _).drewN 1
theorem size_set3 (w : World) (p q r : Addr) (x y z : Value) : (((w.setCell p x).setCell q y).setCell r z).heap.size = w.heap.size := by simp [World.setCell]
theorem row_get {R l : List Int} {j : Nat} (h : j ≤ R.length) : (R.take j ++ l.drop j)[j]? = l[j]? := by
  rw [List.getElem?_append_right (by rw [List.length_take]; omega), List.length_take, Nat.min_eq_left h, Nat.sub_self, List.getElem?_drop, Nat.add_zero]
theorem row_set {R l : List Int} {j : Nat} {y : Int} (hR : R[j]? = some y) (hl : j < l.length) : (R.take j ++ l.drop j).set j y = R.take (j + 1) ++ l.drop (j + 1) := by
  have hjR : j < R.length := (List.getElem?_eq_some_iff.1 hR).1
  have hy : R[j] = y := (List.getElem?_eq_some_iff.1 hR).2
  rw [List.set_append_right _ _ (by rw [List.length_take]; omega), List.length_take, Nat.min_eq_left (by omega), Nat.sub_self, List.drop_eq_getElem_cons hl, List.set_cons_zero, List.take_succ_eq_append_getElem hjR, hy, List.append_assoc]
  rfl
theorem row_up {w : World} {g : Nat} {t : TypeId} {R l : List Int} {j : Nat} {y : Int} (h : Bk w g t (((R.take j ++ l.drop j).map iv).set j (.int .i64 y))) (hR : R[j]? = some y) (hl : j < l.length) : Bk w g t ((R.take (j + 1) ++ l.drop (j + 1)).map iv) := by
  rw [← row_set hR hl, List.map_set]
  exact h
theorem bk_ri {w : World} {g n : Nat} {t : TypeId} {l : List Int} (h : Bk w g t (l.map iv)) (hl : l.length = n) (hn : n ≤ 65536) : RI w (some ⟨g, 0, none⟩) n n l := by
  subst hl
  exact h.ri (by unfold maxLen; omega)
theorem bk_set12 {w : World} {g b : Nat} {t : TypeId} {cs : List Value} (h : Bk w g t cs) (hb : ¬ b = g) (u0 u1 u2 u3 u4 u5 u6 u7 u8 u9 u10 u11 : Value) : Bk ((((((((((((w.setCell ⟨b, 0, none⟩ u0).setCell ⟨b, 1, none⟩ u1).setCell ⟨b, 2, none⟩ u2).setCell ⟨b, 3, none⟩ u3).setCell ⟨b, 4, none⟩ u4).setCell ⟨b, 5, none⟩ u5).setCell ⟨b, 6, none⟩ u6).setCell ⟨b, 7, none⟩ u7).setCell ⟨b, 8, none⟩ u8).setCell ⟨b, 9, none⟩ u9).setCell ⟨b, 10, none⟩ u10).setCell ⟨b, 11, none⟩ u11) g t cs :=
  (((((((((((h.other (p := ⟨_, _, none⟩) hb _).other (p := ⟨_, _, none⟩) hb _).other (p := ⟨_, _, none⟩) hb _).other (p := ⟨_, _, none⟩) hb _).other (p := ⟨_, _, none⟩) hb _).other (p := ⟨_, _, none⟩) hb _).other (p := ⟨_, _, none⟩) hb _).other (p := ⟨_, _, none⟩) hb _).other (p := ⟨_, _, none⟩) hb _).other (p := ⟨_, _, none⟩) hb _).other (p := ⟨_, _, none⟩) hb _).other (p := ⟨_, _, none⟩) hb _
theorem int_one : (Tryd.prog.info? 3).map (·.size) = some 1 := by kernel_rfl
theorem copy_len {l : List Int} {n m : Nat} (h : l.length = n) (e : m = n) : l.length = m := by omega
theorem copy_n {l : List Int} {n m : Nat} (h : l.length = n) (e : m = n) : (l.map iv).length = Nat.min m m := by rw [List.length_map]; show _ = min m m; omega
theorem copy_fit {l : List Int} {n m : Nat} (h : l.length = n) (e : m = n) : 0 + (l.map iv).length ≤ (List.replicate m (Value.int .i64 0)).length := by rw [List.length_map, List.length_replicate]; omega
theorem copy_src {w : World} {A : Option Addr} {n c : Nat} {l : List Int} {g : Nat} (h : RI w A n c l) : 0 < (l.map iv).length → (some ⟨g, 0, none⟩ : Option Addr) = some ⟨g, 0, none⟩ ∧ ∃ ad, A = some ad ∧ ∀ j v, (l.map iv)[j]? = some v → w.cell? (ad.add j) = some v := by
  intro hp
  have hl := h.len
  rw [List.length_map] at hp
  obtain ⟨b, o, e, _, hc⟩ := Rd.mem h (by omega)
  exact ⟨rfl, _, e, fun j v hv => by rw [Addr.add_lit]; exact hc j v hv⟩
theorem splice_all {cur cs : List Value} (h : cs.length = cur.length) : splice cur 0 cs = cs := by
  unfold splice
  rw [List.take_zero, List.drop_of_length_le (by omega)]
  simp
theorem zero_ret (w : World) (p0 p1 p2 p3 : Pd) (m k : Int) (w' : World) (hk : limErr p0 p1 p2 p3 m = k) (h0 : k ≠ 0) (hb : Below w.heap.size w w') : RetFour w p0 p1 p2 p3 m (.returned (.tuple #[arr4 Pd.zero Pd.zero Pd.zero Pd.zero, .int .i64 k])) w' :=
  ⟨Pd.zero, Pd.zero, Pd.zero, Pd.zero, by rw [hk], Pd.zero_ok _, Pd.zero_ok _, Pd.zero_ok _, Pd.zero_ok _, hb, .inl ⟨by rw [hk]; exact h0, rfl, rfl, rfl, rfl⟩⟩
theorem below_set12a {b : Nat} {w w' : World} (h : Below w.heap.size w w') (hb : w.heap.size ≤ b) (u0 u1 u2 u3 u4 u5 u6 u7 u8 u9 u10 u11 : Value) (o : Obj) : Below w.heap.size w (((((((((((((w'.setCell ⟨b, 0, none⟩ u0).setCell ⟨b, 1, none⟩ u1).setCell ⟨b, 2, none⟩ u2).setCell ⟨b, 3, none⟩ u3).setCell ⟨b, 4, none⟩ u4).setCell ⟨b, 5, none⟩ u5).setCell ⟨b, 6, none⟩ u6).setCell ⟨b, 7, none⟩ u7).setCell ⟨b, 8, none⟩ u8).setCell ⟨b, 9, none⟩ u9).setCell ⟨b, 10, none⟩ u10).setCell ⟨b, 11, none⟩ u11).alloc o) := by
  have h2 := (((((((((((h.setCell (p := ⟨b, 0, none⟩) hb u0).setCell (p := ⟨b, 1, none⟩) hb u1).setCell (p := ⟨b, 2, none⟩) hb u2).setCell (p := ⟨b, 3, none⟩) hb u3).setCell (p := ⟨b, 4, none⟩) hb u4).setCell (p := ⟨b, 5, none⟩) hb u5).setCell (p := ⟨b, 6, none⟩) hb u6).setCell (p := ⟨b, 7, none⟩) hb u7).setCell (p := ⟨b, 8, none⟩) hb u8).setCell (p := ⟨b, 9, none⟩) hb u9).setCell (p := ⟨b, 10, none⟩) hb u10).setCell (p := ⟨b, 11, none⟩) hb u11
  exact h2.alloc h2.size o
theorem below_set12 {B b : Nat} {w w' : World} (h : Below B w w') (hb : B ≤ b) (u0 u1 u2 u3 u4 u5 u6 u7 u8 u9 u10 u11 : Value) : Below B w ((((((((((((w'.setCell ⟨b, 0, none⟩ u0).setCell ⟨b, 1, none⟩ u1).setCell ⟨b, 2, none⟩ u2).setCell ⟨b, 3, none⟩ u3).setCell ⟨b, 4, none⟩ u4).setCell ⟨b, 5, none⟩ u5).setCell ⟨b, 6, none⟩ u6).setCell ⟨b, 7, none⟩ u7).setCell ⟨b, 8, none⟩ u8).setCell ⟨b, 9, none⟩ u9).setCell ⟨b, 10, none⟩ u10).setCell ⟨b, 11, none⟩ u11) :=
  (((((((((((h.setCell hb _).setCell hb _).setCell hb _).setCell hb _).setCell hb _).setCell hb _).setCell hb _).setCell hb _).setCell hb _).setCell hb _).setCell hb _).setCell hb _

set_option maxRecDepth 100000 in
set_option maxHeartbeats 8000000 in
theorem limit_any (p0 p1 p2 p3 : Pd) (m : Int) (w : World) (h0 : p0.Ok w) (h1 : p1.Ok w) (h2 : p2.Ok w) (h3 : p3.Ok w) : Calls Tryd.prog 22 #[arr4 p0 p1 p2 p3, .int .i64 m] w (RetFour w p0 p1 p2 p3 m) := by
  have H0 := Lib.hid h0
  have H1 := Lib.hid h1
  have H2 := Lib.hid h2
  have H3 := Lib.hid h3
  clear h0 h1 h2 h3
  unfold arr4
  have x0 : ∀ w, (Instr.index 39 (.agg #[.int .i64 p0.w, .int .i64 p0.h, .slice p0.a p0.n p0.c, .int .i64 p1.w, .int .i64 p1.h, .slice p1.a p1.n p1.c, .int .i64 p2.w, .int .i64 p2.h, .slice p2.a p2.n p2.c, .int .i64 p3.w, .int .i64 p3.h, .slice p3.a p3.n p3.c]) (.int .i64 0)).run Tryd.prog w = .ok (.agg #[.int .i64 p0.w, .int .i64 p0.h, .slice p0.a p0.n p0.c]) w := fun _ => by kernel_rfl
  have x1 : ∀ w, (Instr.index 39 (.agg #[.int .i64 p0.w, .int .i64 p0.h, .slice p0.a p0.n p0.c, .int .i64 p1.w, .int .i64 p1.h, .slice p1.a p1.n p1.c, .int .i64 p2.w, .int .i64 p2.h, .slice p2.a p2.n p2.c, .int .i64 p3.w, .int .i64 p3.h, .slice p3.a p3.n p3.c]) (.int .i64 1)).run Tryd.prog w = .ok (.agg #[.int .i64 p1.w, .int .i64 p1.h, .slice p1.a p1.n p1.c]) w := fun _ => by kernel_rfl
  have x2 : ∀ w, (Instr.index 39 (.agg #[.int .i64 p0.w, .int .i64 p0.h, .slice p0.a p0.n p0.c, .int .i64 p1.w, .int .i64 p1.h, .slice p1.a p1.n p1.c, .int .i64 p2.w, .int .i64 p2.h, .slice p2.a p2.n p2.c, .int .i64 p3.w, .int .i64 p3.h, .slice p3.a p3.n p3.c]) (.int .i64 2)).run Tryd.prog w = .ok (.agg #[.int .i64 p2.w, .int .i64 p2.h, .slice p2.a p2.n p2.c]) w := fun _ => by kernel_rfl
  have x3 : ∀ w, (Instr.index 39 (.agg #[.int .i64 p0.w, .int .i64 p0.h, .slice p0.a p0.n p0.c, .int .i64 p1.w, .int .i64 p1.h, .slice p1.a p1.n p1.c, .int .i64 p2.w, .int .i64 p2.h, .slice p2.a p2.n p2.c, .int .i64 p3.w, .int .i64 p3.h, .slice p3.a p3.n p3.c]) (.int .i64 3)).run Tryd.prog w = .ok (.agg #[.int .i64 p3.w, .int .i64 p3.h, .slice p3.a p3.n p3.c]) w := fun _ => by kernel_rfl
  go_enter Tryd.func22, Tryd.ntmps22
  go_wp2
  have IX := Keep.mk ((Bx.new w (cells4 p0 p1 p2 p3) 39).alloc (.cells ([.int .i64 0, .int .i64 0, .slice none 0 0, .int .i64 0, .int .i64 0, .slice none 0 0, .int .i64 0, .int .i64 0, .slice none 0 0, .int .i64 0, .int .i64 0, .slice none 0 0]).toArray 39))
  have OX := Keep.mk (Bx.new (w.alloc (.cells (cells4 p0 p1 p2 p3).toArray 39)) ([.int .i64 0, .int .i64 0, .slice none 0 0, .int .i64 0, .int .i64 0, .slice none 0 0, .int .i64 0, .int .i64 0, .slice none 0 0, .int .i64 0, .int .i64 0, .slice none 0 0]) 39)
  have HB : Hid (Below w.heap.size w ((w.alloc (.cells (cells4 p0 p1 p2 p3).toArray 39)).alloc (.cells ([.int .i64 0, .int .i64 0, .slice none 0 0, .int .i64 0, .int .i64 0, .slice none 0 0, .int .i64 0, .int .i64 0, .slice none 0 0, .int .i64 0, .int .i64 0, .slice none 0 0]).toArray 39))) := (below_alloc1 _ _).alloc (by simp) _
  unfold cells4 at IX OX HB
  generalize hw2 : (w.alloc _).alloc _ = w2 at *
  rw [World.size_alloc] at OX
  clear hw2
  have HC0 : Hid (∀ X : World, Below w.heap.size w X → Calls Tryd.prog 11 #[.agg #[.int .i64 p0.w, .int .i64 p0.h, .slice p0.a p0.n p0.c]] X fun e w' => e = .returned (.int .i64 p0.chk) ∧ Below X.heap.size X w') := fun X h => check_any _ _ _ _ _ _ X (H0.out.below h)
  have HC1 : Hid (∀ X : World, Below w.heap.size w X → Calls Tryd.prog 11 #[.agg #[.int .i64 p1.w, .int .i64 p1.h, .slice p1.a p1.n p1.c]] X fun e w' => e = .returned (.int .i64 p1.chk) ∧ Below X.heap.size X w') := fun X h => check_any _ _ _ _ _ _ X (H1.out.below h)
  have HC2 : Hid (∀ X : World, Below w.heap.size w X → Calls Tryd.prog 11 #[.agg #[.int .i64 p2.w, .int .i64 p2.h, .slice p2.a p2.n p2.c]] X fun e w' => e = .returned (.int .i64 p2.chk) ∧ Below X.heap.size X w') := fun X h => check_any _ _ _ _ _ _ X (H2.out.below h)
  have HC3 : Hid (∀ X : World, Below w.heap.size w X → Calls Tryd.prog 11 #[.agg #[.int .i64 p3.w, .int .i64 p3.h, .slice p3.a p3.n p3.c]] X fun e w' => e = .returned (.int .i64 p3.chk) ∧ Below X.heap.size X w') := fun X h => check_any _ _ _ _ _ _ X (H3.out.below h)
  go_loopw [17] (fun i wr => Bx wr w.heap.size [.int .i64 p0.w, .int .i64 p0.h, .slice p0.a p0.n p0.c, .int .i64 p1.w, .int .i64 p1.h, .slice p1.a p1.n p1.c, .int .i64 p2.w, .int .i64 p2.h, .slice p2.a p2.n p2.c, .int .i64 p3.w, .int .i64 p3.h, .slice p3.a p3.n p3.c] ∧ Bx wr (w.heap.size + 1) [.int .i64 0, .int .i64 0, .slice none 0 0, .int .i64 0, .int .i64 0, .slice none 0 0, .int .i64 0, .int .i64 0, .slice none 0 0, .int .i64 0, .int .i64 0, .slice none 0 0] ∧ Below w.heap.size w wr ∧ ((i = .int .i64 0) ∨ (i = .int .i64 1 ∧ p0.chk = 0) ∨ (i = .int .i64 2 ∧ p0.chk = 0 ∧ p1.chk = 0) ∨ (i = .int .i64 3 ∧ p0.chk = 0 ∧ p1.chk = 0 ∧ p2.chk = 0) ∨ (i = .int .i64 4 ∧ p0.chk = 0 ∧ p1.chk = 0 ∧ p2.chk = 0 ∧ p3.chk = 0))) (fun i _ => 4 - (intOf i).toNat)
  case atStart => exact ⟨IX.out, OX.out, HB.out, .inl rfl⟩
  case round =>
    obtain ⟨hi, ho, hb, h⟩ := hrel
    have IX1 := Keep.mk hi
    have OX1 := Keep.mk ho
    have HB1 := Lib.hid hb
    clear hi ho hb
    rcases h with rfl | ⟨rfl, c0⟩ | ⟨rfl, c0, c1⟩ | ⟨rfl, c0, c1, c2⟩ | ⟨rfl, c0, c1, c2, c3⟩
    · go_wp2_with fail
      refine (HC0.out _ (HB1.out.alloc HB1.out.size _)).mono ?_
      rintro e w5 ⟨rfl, hb⟩
      have HB5 : Hid (Below w.heap.size w w5) := (HB1.out.alloc HB1.out.size _).trans (hb.mono (by have := HB1.out.size; simp; omega))
      have HB15 : Hid (Below wr.heap.size wr w5) := (below_alloc1 _ _).trans (hb.mono (by simp))
      have OX5 := Keep.mk (OX1.out.below HB15.out)
      have IX5 := Keep.mk (IX1.out.below HB15.out)
      clear hb
      by_cases hc : p0.chk = 0
      · have b0 : (p0.chk != 0) = false := by simp [hc]
        have KC := Keep.mk hc
        clear hc
        go_wp2
        go_roundw
        case rel => exact ⟨IX5.out, OX5.out, HB5.out, .inr (.inl ⟨rfl, KC.out⟩)⟩
        case measure => simp [intOf]
      · have b0 : (p0.chk != 0) = true := by simp [hc]
        have HER : Keep (limErr p0 p1 p2 p3 m = p0.chk) := ⟨by unfold limErr; rw [if_pos hc]⟩
        have HE0 := Keep.mk hc
        clear hc
        have o0 := OX5.out.cell 0 _ rfl
        have o1 := OX5.out.cell 1 _ rfl
        have o2 := OX5.out.cell 2 _ rfl
        have o3 := OX5.out.cell 3 _ rfl
        have o4 := OX5.out.cell 4 _ rfl
        have o5 := OX5.out.cell 5 _ rfl
        have o6 := OX5.out.cell 6 _ rfl
        have o7 := OX5.out.cell 7 _ rfl
        have o8 := OX5.out.cell 8 _ rfl
        have o9 := OX5.out.cell 9 _ rfl
        have o10 := OX5.out.cell 10 _ rfl
        have o11 := OX5.out.cell 11 _ rfl
        have of := OX5.out.fz
        have ol := OX5.out.lt
        go_wp2
        refine bodyPost_ret (v := .tuple #[arr4 Pd.zero Pd.zero Pd.zero Pd.zero, .int .i64 p0.chk]) (by simp [results, Tryd.results22, go_sem, arr4, Pd.zero, o0, o1, o2, o3, o4, o5, o6, o7, o8, o9, o10, o11]) rfl ?_
        exact zero_ret w p0 p1 p2 p3 m _ _ HER.out HE0.out (below_set12 HB5.out (Nat.le_succ _) _ _ _ _ _ _ _ _ _ _ _ _)
    · have K0 := Keep.mk c0
      clear c0
      go_wp2_with fail
      refine (HC1.out _ (HB1.out.alloc HB1.out.size _)).mono ?_
      rintro e w5 ⟨rfl, hb⟩
      have HB5 : Hid (Below w.heap.size w w5) := (HB1.out.alloc HB1.out.size _).trans (hb.mono (by have := HB1.out.size; simp; omega))
      have HB15 : Hid (Below wr.heap.size wr w5) := (below_alloc1 _ _).trans (hb.mono (by simp))
      have OX5 := Keep.mk (OX1.out.below HB15.out)
      have IX5 := Keep.mk (IX1.out.below HB15.out)
      clear hb
      by_cases hc : p1.chk = 0
      · have b0 : (p1.chk != 0) = false := by simp [hc]
        have KC := Keep.mk hc
        clear hc
        go_wp2
        go_roundw
        case rel => exact ⟨IX5.out, OX5.out, HB5.out, .inr (.inr (.inl ⟨rfl, K0.out, KC.out⟩))⟩
        case measure => simp [intOf]
      · have b0 : (p1.chk != 0) = true := by simp [hc]
        have HER : Keep (limErr p0 p1 p2 p3 m = p1.chk) := ⟨by unfold limErr; rw [if_neg (by simp [K0.out]), if_pos hc]⟩
        have HE0 := Keep.mk hc
        clear hc
        have o0 := OX5.out.cell 0 _ rfl
        have o1 := OX5.out.cell 1 _ rfl
        have o2 := OX5.out.cell 2 _ rfl
        have o3 := OX5.out.cell 3 _ rfl
        have o4 := OX5.out.cell 4 _ rfl
        have o5 := OX5.out.cell 5 _ rfl
        have o6 := OX5.out.cell 6 _ rfl
        have o7 := OX5.out.cell 7 _ rfl
        have o8 := OX5.out.cell 8 _ rfl
        have o9 := OX5.out.cell 9 _ rfl
        have o10 := OX5.out.cell 10 _ rfl
        have o11 := OX5.out.cell 11 _ rfl
        have of := OX5.out.fz
        have ol := OX5.out.lt
        go_wp2
        refine bodyPost_ret (v := .tuple #[arr4 Pd.zero Pd.zero Pd.zero Pd.zero, .int .i64 p1.chk]) (by simp [results, Tryd.results22, go_sem, arr4, Pd.zero, o0, o1, o2, o3, o4, o5, o6, o7, o8, o9, o10, o11]) rfl ?_
        exact zero_ret w p0 p1 p2 p3 m _ _ HER.out HE0.out (below_set12 HB5.out (Nat.le_succ _) _ _ _ _ _ _ _ _ _ _ _ _)
    · have K0 := Keep.mk c0
      have K1 := Keep.mk c1
      clear c0 c1
      go_wp2_with fail
      refine (HC2.out _ (HB1.out.alloc HB1.out.size _)).mono ?_
      rintro e w5 ⟨rfl, hb⟩
      have HB5 : Hid (Below w.heap.size w w5) := (HB1.out.alloc HB1.out.size _).trans (hb.mono (by have := HB1.out.size; simp; omega))
      have HB15 : Hid (Below wr.heap.size wr w5) := (below_alloc1 _ _).trans (hb.mono (by simp))
      have OX5 := Keep.mk (OX1.out.below HB15.out)
      have IX5 := Keep.mk (IX1.out.below HB15.out)
      clear hb
      by_cases hc : p2.chk = 0
      · have b0 : (p2.chk != 0) = false := by simp [hc]
        have KC := Keep.mk hc
        clear hc
        go_wp2
        go_roundw
        case rel => exact ⟨IX5.out, OX5.out, HB5.out, .inr (.inr (.inr (.inl ⟨rfl, K0.out, K1.out, KC.out⟩)))⟩
        case measure => simp [intOf]
      · have b0 : (p2.chk != 0) = true := by simp [hc]
        have HER : Keep (limErr p0 p1 p2 p3 m = p2.chk) := ⟨by unfold limErr; rw [if_neg (by simp [K0.out]), if_neg (by simp [K1.out]), if_pos hc]⟩
        have HE0 := Keep.mk hc
        clear hc
        have o0 := OX5.out.cell 0 _ rfl
        have o1 := OX5.out.cell 1 _ rfl
        have o2 := OX5.out.cell 2 _ rfl
        have o3 := OX5.out.cell 3 _ rfl
        have o4 := OX5.out.cell 4 _ rfl
        have o5 := OX5.out.cell 5 _ rfl
        have o6 := OX5.out.cell 6 _ rfl
        have o7 := OX5.out.cell 7 _ rfl
        have o8 := OX5.out.cell 8 _ rfl
        have o9 := OX5.out.cell 9 _ rfl
        have o10 := OX5.out.cell 10 _ rfl
        have o11 := OX5.out.cell 11 _ rfl
        have of := OX5.out.fz
        have ol := OX5.out.lt
        go_wp2
        refine bodyPost_ret (v := .tuple #[arr4 Pd.zero Pd.zero Pd.zero Pd.zero, .int .i64 p2.chk]) (by simp [results, Tryd.results22, go_sem, arr4, Pd.zero, o0, o1, o2, o3, o4, o5, o6, o7, o8, o9, o10, o11]) rfl ?_
        exact zero_ret w p0 p1 p2 p3 m _ _ HER.out HE0.out (below_set12 HB5.out (Nat.le_succ _) _ _ _ _ _ _ _ _ _ _ _ _)
    · have K0 := Keep.mk c0
      have K1 := Keep.mk c1
      have K2 := Keep.mk c2
      clear c0 c1 c2
      go_wp2_with fail
      refine (HC3.out _ (HB1.out.alloc HB1.out.size _)).mono ?_
      rintro e w5 ⟨rfl, hb⟩
      have HB5 : Hid (Below w.heap.size w w5) := (HB1.out.alloc HB1.out.size _).trans (hb.mono (by have := HB1.out.size; simp; omega))
      have HB15 : Hid (Below wr.heap.size wr w5) := (below_alloc1 _ _).trans (hb.mono (by simp))
      have OX5 := Keep.mk (OX1.out.below HB15.out)
      have IX5 := Keep.mk (IX1.out.below HB15.out)
      clear hb
      by_cases hc : p3.chk = 0
      · have b0 : (p3.chk != 0) = false := by simp [hc]
        have KC := Keep.mk hc
        clear hc
        go_wp2
        go_roundw
        case rel => exact ⟨IX5.out, OX5.out, HB5.out, .inr (.inr (.inr (.inr (⟨rfl, K0.out, K1.out, K2.out, KC.out⟩))))⟩
        case measure => simp [intOf]
      · have b0 : (p3.chk != 0) = true := by simp [hc]
        have HER : Keep (limErr p0 p1 p2 p3 m = p3.chk) := ⟨by unfold limErr; rw [if_neg (by simp [K0.out]), if_neg (by simp [K1.out]), if_neg (by simp [K2.out]), if_pos hc]⟩
        have HE0 := Keep.mk hc
        clear hc
        have o0 := OX5.out.cell 0 _ rfl
        have o1 := OX5.out.cell 1 _ rfl
        have o2 := OX5.out.cell 2 _ rfl
        have o3 := OX5.out.cell 3 _ rfl
        have o4 := OX5.out.cell 4 _ rfl
        have o5 := OX5.out.cell 5 _ rfl
        have o6 := OX5.out.cell 6 _ rfl
        have o7 := OX5.out.cell 7 _ rfl
        have o8 := OX5.out.cell 8 _ rfl
        have o9 := OX5.out.cell 9 _ rfl
        have o10 := OX5.out.cell 10 _ rfl
        have o11 := OX5.out.cell 11 _ rfl
        have of := OX5.out.fz
        have ol := OX5.out.lt
        go_wp2
        refine bodyPost_ret (v := .tuple #[arr4 Pd.zero Pd.zero Pd.zero Pd.zero, .int .i64 p3.chk]) (by simp [results, Tryd.results22, go_sem, arr4, Pd.zero, o0, o1, o2, o3, o4, o5, o6, o7, o8, o9, o10, o11]) rfl ?_
        exact zero_ret w p0 p1 p2 p3 m _ _ HER.out HE0.out (below_set12 HB5.out (Nat.le_succ _) _ _ _ _ _ _ _ _ _ _ _ _)
    · have K0 := Keep.mk c0
      have K1 := Keep.mk c1
      have K2 := Keep.mk c2
      have K3 := Keep.mk c3
      clear c0 c1 c2 c3
      have i0 := IX1.out.cell 0 _ rfl
      have i1 := IX1.out.cell 1 _ rfl
      have i2 := IX1.out.cell 2 _ rfl
      have i3 := IX1.out.cell 3 _ rfl
      have i4 := IX1.out.cell 4 _ rfl
      have i5 := IX1.out.cell 5 _ rfl
      have i6 := IX1.out.cell 6 _ rfl
      have i7 := IX1.out.cell 7 _ rfl
      have i8 := IX1.out.cell 8 _ rfl
      have i9 := IX1.out.cell 9 _ rfl
      have i10 := IX1.out.cell 10 _ rfl
      have i11 := IX1.out.cell 11 _ rfl
      go_wp2
      clear i0 i1 i2 i3 i4 i5 i6 i7 i8 i9 i10 i11
      obtain ⟨wo, hwo⟩ : ∃ wo : World, wo = wr := ⟨_, rfl⟩
      clear hwo wo
      go_loopw [28] (fun i wr => Bx wr w.heap.size [.int .i64 p0.w, .int .i64 p0.h, .slice p0.a p0.n p0.c, .int .i64 p1.w, .int .i64 p1.h, .slice p1.a p1.n p1.c, .int .i64 p2.w, .int .i64 p2.h, .slice p2.a p2.n p2.c, .int .i64 p3.w, .int .i64 p3.h, .slice p3.a p3.n p3.c] ∧ Bx wr (w.heap.size + 1) [.int .i64 0, .int .i64 0, .slice none 0 0, .int .i64 0, .int .i64 0, .slice none 0 0, .int .i64 0, .int .i64 0, .slice none 0 0, .int .i64 0, .int .i64 0, .slice none 0 0] ∧ Below w.heap.size w wr ∧ ((i = .int .i64 0) ∨ (i = .int .i64 1) ∨ (i = .int .i64 2 ∧ (p1.w = p0.w ∧ p1.h = p0.h)) ∨ (i = .int .i64 3 ∧ (p1.w = p0.w ∧ p1.h = p0.h) ∧ (p2.w = p0.w ∧ p2.h = p0.h)) ∨ (i = .int .i64 4 ∧ (p1.w = p0.w ∧ p1.h = p0.h) ∧ (p2.w = p0.w ∧ p2.h = p0.h) ∧ (p3.w = p0.w ∧ p3.h = p0.h)))) (fun i _ => 4 - (intOf i).toNat)
      case atStart => exact ⟨IX1.out, OX1.out, HB1.out, .inl rfl⟩
      case round =>
        obtain ⟨hi, ho, hb, h⟩ := hrel
        clear IX1 OX1 HB1
        have IX1 := Keep.mk hi
        have OX1 := Keep.mk ho
        have HB1 := Lib.hid hb
        have j0 := hi.cell 0 _ rfl
        have j1 := hi.cell 1 _ rfl
        have jl := hi.lt
        clear hi ho hb
        rcases h with rfl | rfl | ⟨rfl, c1⟩ | ⟨rfl, c1, c2⟩ | ⟨rfl, c1, c2, c3⟩
        · have b1 : (p0.w != p0.w) = false := by simp
          have b2 : (p0.h != p0.h) = false := by simp
          go_wp2
          go_roundw
          case rel => exact ⟨IX1.out.alloc _, OX1.out.alloc _, HB1.out.alloc HB1.out.size _, .inr (.inl rfl)⟩
          case measure => simp [intOf]
        · by_cases hw : p1.w = p0.w
          · have b1 : (p1.w != p0.w) = false := by simp [hw]
            by_cases hh : p1.h = p0.h
            · have b2 : (p1.h != p0.h) = false := by simp [hh]
              have EC : Keep (p1.w = p0.w ∧ p1.h = p0.h) := ⟨hw, hh⟩
              clear hw hh
              go_wp2
              go_roundw
              case rel => exact ⟨IX1.out.alloc _, OX1.out.alloc _, HB1.out.alloc HB1.out.size _, .inr (.inr (.inl ⟨rfl, EC.out⟩))⟩
              case measure => simp [intOf]
            · have b2 : (p1.h != p0.h) = true := by simp [hh]
              have HER : Keep (limErr p0 p1 p2 p3 m = 1) := ⟨by unfold limErr; rw [if_neg (by simp [K0.out]), if_neg (by simp [K1.out]), if_neg (by simp [K2.out]), if_neg (by simp [K3.out]), if_pos (.inr hh)]⟩
              clear hw hh
              have HE0 : Keep ((1 : Int) ≠ 0) := ⟨by decide⟩
              have o0 := OX1.out.cell 0 _ rfl
              have o1 := OX1.out.cell 1 _ rfl
              have o2 := OX1.out.cell 2 _ rfl
              have o3 := OX1.out.cell 3 _ rfl
              have o4 := OX1.out.cell 4 _ rfl
              have o5 := OX1.out.cell 5 _ rfl
              have o6 := OX1.out.cell 6 _ rfl
              have o7 := OX1.out.cell 7 _ rfl
              have o8 := OX1.out.cell 8 _ rfl
              have o9 := OX1.out.cell 9 _ rfl
              have o10 := OX1.out.cell 10 _ rfl
              have o11 := OX1.out.cell 11 _ rfl
              have of := OX1.out.fz
              have ol := OX1.out.lt
              go_wp2
              refine bodyPost_ret (v := .tuple #[arr4 Pd.zero Pd.zero Pd.zero Pd.zero, .int .i64 1]) (by simp [results, Tryd.results22, go_sem, arr4, Pd.zero, o0, o1, o2, o3, o4, o5, o6, o7, o8, o9, o10, o11, ol]) rfl ?_
              exact zero_ret w p0 p1 p2 p3 m _ _ HER.out HE0.out (below_set12a HB1.out (Nat.le_succ _) _ _ _ _ _ _ _ _ _ _ _ _ _)
          · have b1 : (p1.w != p0.w) = true := by simp [hw]
            have HER : Keep (limErr p0 p1 p2 p3 m = 1) := ⟨by unfold limErr; rw [if_neg (by simp [K0.out]), if_neg (by simp [K1.out]), if_neg (by simp [K2.out]), if_neg (by simp [K3.out]), if_pos (.inl hw)]⟩
            clear hw
            have HE0 : Keep ((1 : Int) ≠ 0) := ⟨by decide⟩
            have o0 := OX1.out.cell 0 _ rfl
            have o1 := OX1.out.cell 1 _ rfl
            have o2 := OX1.out.cell 2 _ rfl
            have o3 := OX1.out.cell 3 _ rfl
            have o4 := OX1.out.cell 4 _ rfl
            have o5 := OX1.out.cell 5 _ rfl
            have o6 := OX1.out.cell 6 _ rfl
            have o7 := OX1.out.cell 7 _ rfl
            have o8 := OX1.out.cell 8 _ rfl
            have o9 := OX1.out.cell 9 _ rfl
            have o10 := OX1.out.cell 10 _ rfl
            have o11 := OX1.out.cell 11 _ rfl
            have of := OX1.out.fz
            have ol := OX1.out.lt
            go_wp2
            refine bodyPost_ret (v := .tuple #[arr4 Pd.zero Pd.zero Pd.zero Pd.zero, .int .i64 1]) (by simp [results, Tryd.results22, go_sem, arr4, Pd.zero, o0, o1, o2, o3, o4, o5, o6, o7, o8, o9, o10, o11, ol]) rfl ?_
            exact zero_ret w p0 p1 p2 p3 m _ _ HER.out HE0.out (below_set12a HB1.out (Nat.le_succ _) _ _ _ _ _ _ _ _ _ _ _ _ _)
        · have E1 := Keep.mk c1
          clear c1
          by_cases hw : p2.w = p0.w
          · have b1 : (p2.w != p0.w) = false := by simp [hw]
            by_cases hh : p2.h = p0.h
            · have b2 : (p2.h != p0.h) = false := by simp [hh]
              have EC : Keep (p2.w = p0.w ∧ p2.h = p0.h) := ⟨hw, hh⟩
              clear hw hh
              go_wp2
              go_roundw
              case rel => exact ⟨IX1.out.alloc _, OX1.out.alloc _, HB1.out.alloc HB1.out.size _, .inr (.inr (.inr (.inl ⟨rfl, E1.out, EC.out⟩)))⟩
              case measure => simp [intOf]
            · have b2 : (p2.h != p0.h) = true := by simp [hh]
              have HER : Keep (limErr p0 p1 p2 p3 m = 1) := ⟨by unfold limErr; rw [if_neg (by simp [K0.out]), if_neg (by simp [K1.out]), if_neg (by simp [K2.out]), if_neg (by simp [K3.out]), if_neg (by simp [E1.out]), if_pos (.inr hh)]⟩
              clear hw hh
              have HE0 : Keep ((1 : Int) ≠ 0) := ⟨by decide⟩
              have o0 := OX1.out.cell 0 _ rfl
              have o1 := OX1.out.cell 1 _ rfl
              have o2 := OX1.out.cell 2 _ rfl
              have o3 := OX1.out.cell 3 _ rfl
              have o4 := OX1.out.cell 4 _ rfl
              have o5 := OX1.out.cell 5 _ rfl
              have o6 := OX1.out.cell 6 _ rfl
              have o7 := OX1.out.cell 7 _ rfl
              have o8 := OX1.out.cell 8 _ rfl
              have o9 := OX1.out.cell 9 _ rfl
              have o10 := OX1.out.cell 10 _ rfl
              have o11 := OX1.out.cell 11 _ rfl
              have of := OX1.out.fz
              have ol := OX1.out.lt
              go_wp2
              refine bodyPost_ret (v := .tuple #[arr4 Pd.zero Pd.zero Pd.zero Pd.zero, .int .i64 1]) (by simp [results, Tryd.results22, go_sem, arr4, Pd.zero, o0, o1, o2, o3, o4, o5, o6, o7, o8, o9, o10, o11, ol]) rfl ?_
              exact zero_ret w p0 p1 p2 p3 m _ _ HER.out HE0.out (below_set12a HB1.out (Nat.le_succ _) _ _ _ _ _ _ _ _ _ _ _ _ _)
          · have b1 : (p2.w != p0.w) = true := by simp [hw]
            have HER : Keep (limErr p0 p1 p2 p3 m = 1) := ⟨by unfold limErr; rw [if_neg (by simp [K0.out]), if_neg (by simp [K1.out]), if_neg (by simp [K2.out]), if_neg (by simp [K3.out]), if_neg (by simp [E1.out]), if_pos (.inl hw)]⟩
            clear hw
            have HE0 : Keep ((1 : Int) ≠ 0) := ⟨by decide⟩
            have o0 := OX1.out.cell 0 _ rfl
            have o1 := OX1.out.cell 1 _ rfl
            have o2 := OX1.out.cell 2 _ rfl
            have o3 := OX1.out.cell 3 _ rfl
            have o4 := OX1.out.cell 4 _ rfl
            have o5 := OX1.out.cell 5 _ rfl
            have o6 := OX1.out.cell 6 _ rfl
            have o7 := OX1.out.cell 7 _ rfl
            have o8 := OX1.out.cell 8 _ rfl
            have o9 := OX1.out.cell 9 _ rfl
            have o10 := OX1.out.cell 10 _ rfl
            have o11 := OX1.out.cell 11 _ rfl
            have of := OX1.out.fz
            have ol := OX1.out.lt
            go_wp2
            refine bodyPost_ret (v := .tuple #[arr4 Pd.zero Pd.zero Pd.zero Pd.zero, .int .i64 1]) (by simp [results, Tryd.results22, go_sem, arr4, Pd.zero, o0, o1, o2, o3, o4, o5, o6, o7, o8, o9, o10, o11, ol]) rfl ?_
            exact zero_ret w p0 p1 p2 p3 m _ _ HER.out HE0.out (below_set12a HB1.out (Nat.le_succ _) _ _ _ _ _ _ _ _ _ _ _ _ _)
        · have E1 := Keep.mk c1
          have E2 := Keep.mk c2
          clear c1 c2
          by_cases hw : p3.w = p0.w
          · have b1 : (p3.w != p0.w) = false := by simp [hw]
            by_cases hh : p3.h = p0.h
            · have b2 : (p3.h != p0.h) = false := by simp [hh]
              have EC : Keep (p3.w = p0.w ∧ p3.h = p0.h) := ⟨hw, hh⟩
              clear hw hh
              go_wp2
              go_roundw
              case rel => exact ⟨IX1.out.alloc _, OX1.out.alloc _, HB1.out.alloc HB1.out.size _, .inr (.inr (.inr (.inr (⟨rfl, E1.out, E2.out, EC.out⟩))))⟩
              case measure => simp [intOf]
            · have b2 : (p3.h != p0.h) = true := by simp [hh]
              have HER : Keep (limErr p0 p1 p2 p3 m = 1) := ⟨by unfold limErr; rw [if_neg (by simp [K0.out]), if_neg (by simp [K1.out]), if_neg (by simp [K2.out]), if_neg (by simp [K3.out]), if_neg (by simp [E1.out]), if_neg (by simp [E2.out]), if_pos (.inr hh)]⟩
              clear hw hh
              have HE0 : Keep ((1 : Int) ≠ 0) := ⟨by decide⟩
              have o0 := OX1.out.cell 0 _ rfl
              have o1 := OX1.out.cell 1 _ rfl
              have o2 := OX1.out.cell 2 _ rfl
              have o3 := OX1.out.cell 3 _ rfl
              have o4 := OX1.out.cell 4 _ rfl
              have o5 := OX1.out.cell 5 _ rfl
              have o6 := OX1.out.cell 6 _ rfl
              have o7 := OX1.out.cell 7 _ rfl
              have o8 := OX1.out.cell 8 _ rfl
              have o9 := OX1.out.cell 9 _ rfl
              have o10 := OX1.out.cell 10 _ rfl
              have o11 := OX1.out.cell 11 _ rfl
              have of := OX1.out.fz
              have ol := OX1.out.lt
              go_wp2
              refine bodyPost_ret (v := .tuple #[arr4 Pd.zero Pd.zero Pd.zero Pd.zero, .int .i64 1]) (by simp [results, Tryd.results22, go_sem, arr4, Pd.zero, o0, o1, o2, o3, o4, o5, o6, o7, o8, o9, o10, o11, ol]) rfl ?_
              exact zero_ret w p0 p1 p2 p3 m _ _ HER.out HE0.out (below_set12a HB1.out (Nat.le_succ _) _ _ _ _ _ _ _ _ _ _ _ _ _)
          · have b1 : (p3.w != p0.w) = true := by simp [hw]
            have HER : Keep (limErr p0 p1 p2 p3 m = 1) := ⟨by unfold limErr; rw [if_neg (by simp [K0.out]), if_neg (by simp [K1.out]), if_neg (by simp [K2.out]), if_neg (by simp [K3.out]), if_neg (by simp [E1.out]), if_neg (by simp [E2.out]), if_pos (.inl hw)]⟩
            clear hw
            have HE0 : Keep ((1 : Int) ≠ 0) := ⟨by decide⟩
            have o0 := OX1.out.cell 0 _ rfl
            have o1 := OX1.out.cell 1 _ rfl
            have o2 := OX1.out.cell 2 _ rfl
            have o3 := OX1.out.cell 3 _ rfl
            have o4 := OX1.out.cell 4 _ rfl
            have o5 := OX1.out.cell 5 _ rfl
            have o6 := OX1.out.cell 6 _ rfl
            have o7 := OX1.out.cell 7 _ rfl
            have o8 := OX1.out.cell 8 _ rfl
            have o9 := OX1.out.cell 9 _ rfl
            have o10 := OX1.out.cell 10 _ rfl
            have o11 := OX1.out.cell 11 _ rfl
            have of := OX1.out.fz
            have ol := OX1.out.lt
            go_wp2
            refine bodyPost_ret (v := .tuple #[arr4 Pd.zero Pd.zero Pd.zero Pd.zero, .int .i64 1]) (by simp [results, Tryd.results22, go_sem, arr4, Pd.zero, o0, o1, o2, o3, o4, o5, o6, o7, o8, o9, o10, o11, ol]) rfl ?_
            exact zero_ret w p0 p1 p2 p3 m _ _ HER.out HE0.out (below_set12a HB1.out (Nat.le_succ _) _ _ _ _ _ _ _ _ _ _ _ _ _)
        · have E1 := Keep.mk c1
          have E2 := Keep.mk c2
          have E3 := Keep.mk c3
          clear c1 c2 c3 j0 j1 jl
          by_cases hm0 : m < 0
          · have HER : Keep (limErr p0 p1 p2 p3 m = 2) := ⟨by unfold limErr; rw [if_neg (by simp [K0.out]), if_neg (by simp [K1.out]), if_neg (by simp [K2.out]), if_neg (by simp [K3.out]), if_neg (by simp [E1.out]), if_neg (by simp [E2.out]), if_neg (by simp [E3.out]), if_pos hm0]⟩
            have HE0 : Keep ((2 : Int) ≠ 0) := ⟨by decide⟩
            have o0 := OX1.out.cell 0 _ rfl
            have o1 := OX1.out.cell 1 _ rfl
            have o2 := OX1.out.cell 2 _ rfl
            have o3 := OX1.out.cell 3 _ rfl
            have o4 := OX1.out.cell 4 _ rfl
            have o5 := OX1.out.cell 5 _ rfl
            have o6 := OX1.out.cell 6 _ rfl
            have o7 := OX1.out.cell 7 _ rfl
            have o8 := OX1.out.cell 8 _ rfl
            have o9 := OX1.out.cell 9 _ rfl
            have o10 := OX1.out.cell 10 _ rfl
            have o11 := OX1.out.cell 11 _ rfl
            have of := OX1.out.fz
            have ol := OX1.out.lt
            go_wp2
            refine bodyPost_ret (v := .tuple #[arr4 Pd.zero Pd.zero Pd.zero Pd.zero, .int .i64 2]) (by simp [results, Tryd.results22, go_sem, arr4, Pd.zero, o0, o1, o2, o3, o4, o5, o6, o7, o8, o9, o10, o11]) rfl ?_
            exact zero_ret w p0 p1 p2 p3 m _ _ HER.out HE0.out (below_set12 HB1.out (Nat.le_succ _) _ _ _ _ _ _ _ _ _ _ _ _)
          · by_cases hm1 : 400 < m
            · have HER : Keep (limErr p0 p1 p2 p3 m = 2) := ⟨by unfold limErr; rw [if_neg (by simp [K0.out]), if_neg (by simp [K1.out]), if_neg (by simp [K2.out]), if_neg (by simp [K3.out]), if_neg (by simp [E1.out]), if_neg (by simp [E2.out]), if_neg (by simp [E3.out]), if_neg hm0, if_pos hm1]⟩
              have HE0 : Keep ((2 : Int) ≠ 0) := ⟨by decide⟩
              have o0 := OX1.out.cell 0 _ rfl
              have o1 := OX1.out.cell 1 _ rfl
              have o2 := OX1.out.cell 2 _ rfl
              have o3 := OX1.out.cell 3 _ rfl
              have o4 := OX1.out.cell 4 _ rfl
              have o5 := OX1.out.cell 5 _ rfl
              have o6 := OX1.out.cell 6 _ rfl
              have o7 := OX1.out.cell 7 _ rfl
              have o8 := OX1.out.cell 8 _ rfl
              have o9 := OX1.out.cell 9 _ rfl
              have o10 := OX1.out.cell 10 _ rfl
              have o11 := OX1.out.cell 11 _ rfl
              have of := OX1.out.fz
              have ol := OX1.out.lt
              go_wp2
              refine bodyPost_ret (v := .tuple #[arr4 Pd.zero Pd.zero Pd.zero Pd.zero, .int .i64 2]) (by simp [results, Tryd.results22, go_sem, arr4, Pd.zero, o0, o1, o2, o3, o4, o5, o6, o7, o8, o9, o10, o11]) rfl ?_
              exact zero_ret w p0 p1 p2 p3 m _ _ HER.out HE0.out (below_set12 HB1.out (Nat.le_succ _) _ _ _ _ _ _ _ _ _ _ _ _)
            · have HER : Keep (limErr p0 p1 p2 p3 m = 0) := ⟨by unfold limErr; rw [if_neg (by simp [K0.out]), if_neg (by simp [K1.out]), if_neg (by simp [K2.out]), if_neg (by simp [K3.out]), if_neg (by simp [E1.out]), if_neg (by simp [E2.out]), if_neg (by simp [E3.out]), if_neg hm0, if_neg hm1]⟩
              have i0 := IX1.out.cell 0 _ rfl
              have i1 := IX1.out.cell 1 _ rfl
              have i2 := IX1.out.cell 2 _ rfl
              have i3 := IX1.out.cell 3 _ rfl
              have i4 := IX1.out.cell 4 _ rfl
              have i5 := IX1.out.cell 5 _ rfl
              have i6 := IX1.out.cell 6 _ rfl
              have i7 := IX1.out.cell 7 _ rfl
              have i8 := IX1.out.cell 8 _ rfl
              have i9 := IX1.out.cell 9 _ rfl
              have i10 := IX1.out.cell 10 _ rfl
              have i11 := IX1.out.cell 11 _ rfl
              go_wp2
              clear i0 i1 i2 i3 i4 i5 i6 i7 i8 i9 i10 i11
              have L0 := H0.out.len
              have L1 := H1.out.len
              have L2 := H2.out.len
              have L3 := H3.out.len
              have G0 := Pl.check_ok K0.out
              have G1 := Pl.check_ok K1.out
              have G2 := Pl.check_ok K2.out
              have G3 := Pl.check_ok K3.out
              have e1 : p1.n = p0.n := by have h1 := G0.2.2.1; have h2 := G1.2.2.1; rw [E1.out.1, E1.out.2] at h2; omega
              have e2 : p2.n = p0.n := by have h1 := G0.2.2.1; have h2 := G2.2.2.1; rw [E2.out.1, E2.out.2] at h2; omega
              have e3 : p3.n = p0.n := by have h1 := G0.2.2.1; have h2 := G3.2.2.1; rw [E3.out.1, E3.out.2] at h2; omega
              have hN : p0.n ≤ 65536 := by have h1 := Pl.side_mul G0.1 G0.2.1; have h2 := G0.2.2.1; omega
              have HG0 : Keep (∀ x ∈ p0.l, 0 ≤ x ∧ x ≤ 100) := ⟨G0.2.2.2⟩
              have HG1 : Keep (∀ x ∈ p1.l, 0 ≤ x ∧ x ≤ 100) := ⟨G1.2.2.2⟩
              have HG2 : Keep (∀ x ∈ p2.l, 0 ≤ x ∧ x ≤ 100) := ⟨G2.2.2.2⟩
              have HG3 : Keep (∀ x ∈ p3.l, 0 ≤ x ∧ x ≤ 100) := ⟨G3.2.2.2⟩
              have HL0 : Keep (p0.l.length = p0.n) := ⟨L0⟩
              have HL1 : Keep (p1.l.length = p0.n) := ⟨by omega⟩
              have HL2 : Keep (p2.l.length = p0.n) := ⟨by omega⟩
              have HL3 : Keep (p3.l.length = p0.n) := ⟨by omega⟩
              clear L0 L1 L2 L3 G0 G1 G2 G3
              have N1 := Keep.mk e1
              have N2 := Keep.mk e2
              have N3 := Keep.mk e3
              have hN1 : p1.n ≤ 65536 := by omega
              have hN2 : p2.n ≤ 65536 := by omega
              have hN3 : p3.n ≤ 65536 := by omega
              clear e1 e2 e3
              have hmk0 := run_make_row' (P := Tryd.prog) 22 3 (.int .i64 0) 8 Tryd.underlying22 int_info rfl .i64 .i64 p0.n (by omega) (by omega)
              have hmk1 := run_make_row' (P := Tryd.prog) 22 3 (.int .i64 0) 8 Tryd.underlying22 int_info rfl .i64 .i64 p1.n (by omega) (by omega)
              have hmk2 := run_make_row' (P := Tryd.prog) 22 3 (.int .i64 0) 8 Tryd.underlying22 int_info rfl .i64 .i64 p2.n (by omega) (by omega)
              have hmk3 := run_make_row' (P := Tryd.prog) 22 3 (.int .i64 0) 8 Tryd.underlying22 int_info rfl .i64 .i64 p3.n (by omega) (by omega)
              obtain ⟨wo, rfl⟩ : ∃ wo : World, wo = wr := ⟨_, rfl⟩
              go_loopw [55] (fun i wr => ∃ (r0 r1 r2 r3 : Nat), Bx wr w.heap.size [.int .i64 p0.w, .int .i64 p0.h, .slice p0.a p0.n p0.c, .int .i64 p1.w, .int .i64 p1.h, .slice p1.a p1.n p1.c, .int .i64 p2.w, .int .i64 p2.h, .slice p2.a p2.n p2.c, .int .i64 p3.w, .int .i64 p3.h, .slice p3.a p3.n p3.c] ∧ Below w.heap.size w wr ∧ ((i = .int .i64 0 ∧ Bx wr (w.heap.size + 1) [.int .i64 0, .int .i64 0, .slice none 0 0, .int .i64 0, .int .i64 0, .slice none 0 0, .int .i64 0, .int .i64 0, .slice none 0 0, .int .i64 0, .int .i64 0, .slice none 0 0]) ∨ (i = .int .i64 1 ∧ Bx wr (w.heap.size + 1) [.int .i64 p0.w, .int .i64 p0.h, .slice (some ⟨r0, 0, none⟩) p0.n p0.n, .int .i64 0, .int .i64 0, .slice none 0 0, .int .i64 0, .int .i64 0, .slice none 0 0, .int .i64 0, .int .i64 0, .slice none 0 0] ∧ w.heap.size + 1 < r0 ∧ Bk wr r0 3 (p0.l.map iv)) ∨ (i = .int .i64 2 ∧ Bx wr (w.heap.size + 1) [.int .i64 p0.w, .int .i64 p0.h, .slice (some ⟨r0, 0, none⟩) p0.n p0.n, .int .i64 p1.w, .int .i64 p1.h, .slice (some ⟨r1, 0, none⟩) p1.n p1.n, .int .i64 0, .int .i64 0, .slice none 0 0, .int .i64 0, .int .i64 0, .slice none 0 0] ∧ w.heap.size + 1 < r0 ∧ Bk wr r0 3 (p0.l.map iv) ∧ r0 < r1 ∧ Bk wr r1 3 (p1.l.map iv)) ∨ (i = .int .i64 3 ∧ Bx wr (w.heap.size + 1) [.int .i64 p0.w, .int .i64 p0.h, .slice (some ⟨r0, 0, none⟩) p0.n p0.n, .int .i64 p1.w, .int .i64 p1.h, .slice (some ⟨r1, 0, none⟩) p1.n p1.n, .int .i64 p2.w, .int .i64 p2.h, .slice (some ⟨r2, 0, none⟩) p2.n p2.n, .int .i64 0, .int .i64 0, .slice none 0 0] ∧ w.heap.size + 1 < r0 ∧ Bk wr r0 3 (p0.l.map iv) ∧ r0 < r1 ∧ Bk wr r1 3 (p1.l.map iv) ∧ r1 < r2 ∧ Bk wr r2 3 (p2.l.map iv)) ∨ (i = .int .i64 4 ∧ Bx wr (w.heap.size + 1) [.int .i64 p0.w, .int .i64 p0.h, .slice (some ⟨r0, 0, none⟩) p0.n p0.n, .int .i64 p1.w, .int .i64 p1.h, .slice (some ⟨r1, 0, none⟩) p1.n p1.n, .int .i64 p2.w, .int .i64 p2.h, .slice (some ⟨r2, 0, none⟩) p2.n p2.n, .int .i64 p3.w, .int .i64 p3.h, .slice (some ⟨r3, 0, none⟩) p3.n p3.n] ∧ w.heap.size + 1 < r0 ∧ Bk wr r0 3 (p0.l.map iv) ∧ r0 < r1 ∧ Bk wr r1 3 (p1.l.map iv) ∧ r1 < r2 ∧ Bk wr r2 3 (p2.l.map iv) ∧ r2 < r3 ∧ Bk wr r3 3 (p3.l.map iv)))) (fun i _ => 4 - (intOf i).toNat)
              case atStart => exact ⟨0, 0, 0, 0, IX1.out, HB1.out, .inl ⟨rfl, OX1.out⟩⟩
              case round =>
                obtain ⟨r0, r1, r2, r3, hi, hb, h⟩ := hrel
                clear IX1 OX1 HB1
                have IX1 := Keep.mk hi
                have HB1 := Lib.hid hb
                have hws := hb.size
                clear hi hb
                rcases h with ⟨rfl, ho⟩ | ⟨rfl, ho, g0, q0⟩ | ⟨rfl, ho, g0, q0, g1, q1⟩ | ⟨rfl, ho, g0, q0, g1, q1, g2, q2⟩ | ⟨rfl, ho, g0, q0, g1, q1, g2, q2, g3, q3⟩
                · have OX := Keep.mk ho
                  have ol0 := ho.lt
                  clear ho
                  go_wp2
                  have PX := Keep.mk (Bx.new wr [.int .i64 p0.w, .int .i64 p0.h, .slice p0.a p0.n p0.c] 24)
                  have OX4 := Keep.mk (OX.out.alloc (.cells #[.int .i64 p0.w, .int .i64 p0.h, .slice p0.a p0.n p0.c] 24))
                  have IX4 := Keep.mk (IX1.out.alloc (.cells #[.int .i64 p0.w, .int .i64 p0.h, .slice p0.a p0.n p0.c] 24))
                  have HB4 : Hid (Below w.heap.size w (wr.alloc (.cells #[.int .i64 p0.w, .int .i64 p0.h, .slice p0.a p0.n p0.c] 24))) := HB1.out.alloc hws _
                  generalize hw4 : wr.alloc (.cells #[.int .i64 p0.w, .int .i64 p0.h, .slice p0.a p0.n p0.c] 24) = w4 at *
                  have hs4 : w4.heap.size = wr.heap.size + 1 := by rw [← hw4]; simp
                  have ob := OX4.out.lt
                  have oc0 := OX4.out.cell 0 _ rfl
                  have oc1 := OX4.out.cell 1 _ rfl
                  have oc2 := OX4.out.cell 2 _ rfl
                  have of := OX4.out.fz
                  have hne : ¬ w.heap.size + 1 = wr.heap.size := by omega
                  have hne' : ¬ wr.heap.size = w.heap.size + 1 := by omega
                  have HS4 := Keep.mk hs4
                  clear hw4 hs4
                  have P3 : Hid (∀ X, Bx X wr.heap.size [.int .i64 p0.w, .int .i64 p0.h, .slice p0.a p0.n p0.c] → X.cell? ⟨wr.heap.size, 0, none⟩ = some (.int .i64 p0.w) ∧ X.cell? ⟨wr.heap.size, 1, none⟩ = some (.int .i64 p0.h) ∧ X.cell? ⟨wr.heap.size, 2, none⟩ = some (.slice p0.a p0.n p0.c)) := fun X h => ⟨h.cell 0 _ rfl, h.cell 1 _ rfl, h.cell 2 _ rfl⟩
                  go_region_held3 (fun X => X.cell? ⟨wr.heap.size, 0, none⟩ = some (.int .i64 p0.w) ∧ X.cell? ⟨wr.heap.size, 1, none⟩ = some (.int .i64 p0.h) ∧ X.cell? ⟨wr.heap.size, 2, none⟩ = some (.slice p0.a p0.n p0.c))
                    (first | exact P3.out _ (PX.out.drewN 1) | exact P3.out _ ((PX.out.alloc _).drewN 1) | exact P3.out _ ((((((PX.out.alloc _).other (p := ⟨_, _, none⟩) hne _).other (p := ⟨_, _, none⟩) hne _).other (p := ⟨_, _, none⟩) hne _)).drewN 1) | exact P3.out _ ((((((PX.out.other (p := ⟨_, _, none⟩) hne _).other (p := ⟨_, _, none⟩) hne _).other (p := ⟨_, _, none⟩) hne _)).alloc _).drewN 1))
                    (fail)
                  go_wp2
                  have hwne : ¬ w.heap.size + 1 = w.heap.size := by omega
                  have OX5 := Keep.mk (show Bx ((((w4.setCell ⟨w.heap.size + 1, 0, none⟩ (.int .i64 p0.w)).setCell ⟨w.heap.size + 1, 1, none⟩ (.int .i64 p0.h)).setCell ⟨w.heap.size + 1, 2, none⟩ (.slice (some ⟨w4.heap.size, 0, none⟩) p0.n p0.n)).alloc (.cells (madeCells #[.int .i64 0] p0.n) 3)).drew (w.heap.size + 1) [.int .i64 p0.w, .int .i64 p0.h, .slice (some ⟨w4.heap.size, 0, none⟩) p0.n p0.n, .int .i64 0, .int .i64 0, .slice none 0 0, .int .i64 0, .int .i64 0, .slice none 0 0, .int .i64 0, .int .i64 0, .slice none 0 0] from ((((OX4.out.set (j := 0) (by simp) _).set (j := 1) (by simp) _).set (j := 2) (by simp) _).alloc _).drewN 1)
                  have PX5 := Keep.mk (show Bx ((((w4.setCell ⟨w.heap.size + 1, 0, none⟩ (.int .i64 p0.w)).setCell ⟨w.heap.size + 1, 1, none⟩ (.int .i64 p0.h)).setCell ⟨w.heap.size + 1, 2, none⟩ (.slice (some ⟨w4.heap.size, 0, none⟩) p0.n p0.n)).alloc (.cells (madeCells #[.int .i64 0] p0.n) 3)).drew wr.heap.size [.int .i64 p0.w, .int .i64 p0.h, .slice p0.a p0.n p0.c] from ((((PX.out.other (p := ⟨_, _, none⟩) hne _).other (p := ⟨_, _, none⟩) hne _).other (p := ⟨_, _, none⟩) hne _).alloc _).drewN 1)
                  have IX5 := Keep.mk (show Bx ((((w4.setCell ⟨w.heap.size + 1, 0, none⟩ (.int .i64 p0.w)).setCell ⟨w.heap.size + 1, 1, none⟩ (.int .i64 p0.h)).setCell ⟨w.heap.size + 1, 2, none⟩ (.slice (some ⟨w4.heap.size, 0, none⟩) p0.n p0.n)).alloc (.cells (madeCells #[.int .i64 0] p0.n) 3)).drew w.heap.size [.int .i64 p0.w, .int .i64 p0.h, .slice p0.a p0.n p0.c, .int .i64 p1.w, .int .i64 p1.h, .slice p1.a p1.n p1.c, .int .i64 p2.w, .int .i64 p2.h, .slice p2.a p2.n p2.c, .int .i64 p3.w, .int .i64 p3.h, .slice p3.a p3.n p3.c] from ((((IX4.out.other (p := ⟨_, _, none⟩) hwne _).other (p := ⟨_, _, none⟩) hwne _).other (p := ⟨_, _, none⟩) hwne _).alloc _).drewN 1)
                  have RW5 := Keep.mk (show Bk ((((w4.setCell ⟨w.heap.size + 1, 0, none⟩ (.int .i64 p0.w)).setCell ⟨w.heap.size + 1, 1, none⟩ (.int .i64 p0.h)).setCell ⟨w.heap.size + 1, 2, none⟩ (.slice (some ⟨w4.heap.size, 0, none⟩) p0.n p0.n)).alloc (.cells (madeCells #[.int .i64 0] p0.n) 3)).drew w4.heap.size 3 (List.replicate p0.n (.int .i64 0)) from by
                    have h := bk_made (((w4.setCell ⟨w.heap.size + 1, 0, none⟩ (.int .i64 p0.w)).setCell ⟨w.heap.size + 1, 1, none⟩ (.int .i64 p0.h)).setCell ⟨w.heap.size + 1, 2, none⟩ (.slice (some ⟨w4.heap.size, 0, none⟩) p0.n p0.n)) 3 p0.n
                    rwa [size_set3] at h)
                  have HB5 : Hid (Below w.heap.size w ((((w4.setCell ⟨w.heap.size + 1, 0, none⟩ (.int .i64 p0.w)).setCell ⟨w.heap.size + 1, 1, none⟩ (.int .i64 p0.h)).setCell ⟨w.heap.size + 1, 2, none⟩ (.slice (some ⟨w4.heap.size, 0, none⟩) p0.n p0.n)).alloc (.cells (madeCells #[.int .i64 0] p0.n) 3)).drew) := ((((HB4.out.setCell (Nat.le_succ _) _).setCell (Nat.le_succ _) _).setCell (Nat.le_succ _) _).alloc (by simp [World.setCell]; omega) _).trans (below_draws _ _ 1)
                  generalize ((((w4.setCell ⟨w.heap.size + 1, 0, none⟩ (.int .i64 p0.w)).setCell ⟨w.heap.size + 1, 1, none⟩ (.int .i64 p0.h)).setCell ⟨w.heap.size + 1, 2, none⟩ (.slice (some ⟨w4.heap.size, 0, none⟩) p0.n p0.n)).alloc (.cells (madeCells #[.int .i64 0] p0.n) 3)).drew = w5 at *
                  have KP5 : Hid (∀ X, Bx X (w.heap.size + 1) [.int .i64 p0.w, .int .i64 p0.h, .slice (some ⟨w4.heap.size, 0, none⟩) p0.n p0.n, .int .i64 0, .int .i64 0, .slice none 0 0, .int .i64 0, .int .i64 0, .slice none 0 0, .int .i64 0, .int .i64 0, .slice none 0 0] → Bx X wr.heap.size [.int .i64 p0.w, .int .i64 p0.h, .slice p0.a p0.n p0.c] → X.cell? ⟨w.heap.size + 1, 2, none⟩ = some (.slice (some ⟨w4.heap.size, 0, none⟩) p0.n p0.n) ∧ X.cell? ⟨wr.heap.size, 2, none⟩ = some (.slice p0.a p0.n p0.c)) := fun X h h' => ⟨h.cell 2 _ rfl, h'.cell 2 _ rfl⟩
                  have hobg : w.heap.size + 1 < w4.heap.size := by have := HS4.out; omega
                  have hwrg : wr.heap.size < w4.heap.size := by have := HS4.out; omega
                  clear oc0 oc1 oc2 of ob
                  go_region_held3 (fun X => X.cell? ⟨w.heap.size + 1, 2, none⟩ = some (.slice (some ⟨w4.heap.size, 0, none⟩) p0.n p0.n) ∧ X.cell? ⟨wr.heap.size, 2, none⟩ = some (.slice p0.a p0.n p0.c))
                    (first | exact KP5.out _ (OX5.out.drewN 1) (PX5.out.drewN 1) | exact KP5.out _ ((OX5.out.drewN 1).below' hb6 hobg) ((PX5.out.drewN 1).below' hb6 hwrg))
                    (first | (refine step_copy_splice rfl (.tmp 73) (.tmp 75) 22 22 rfl 3 Tryd.underlying22 int_one (some ⟨w4.heap.size, 0, none⟩) p0.a p0.n p0.n p0.n p0.c (by rfl) (by rfl) w4.heap.size 0 (List.replicate p0.n (.int .i64 0)) 3 (RW5.out.drewN 1) (p0.l.map iv) (copy_n HL0.out rfl) (copy_src ((H0.out.below HB5.out).below (below_draws _ _ 1))) (copy_fit HL0.out rfl) (iv_one _) w4.heap.size _ (Below.refl _ _) (Nat.le_refl _) ?_; intro w6 hg6 hb6))
                  have HBW6 : Hid (Below w4.heap.size w5 w6) := (below_draws _ _ 1).trans hb6
                  have RW6 : Keep (Bk w6 w4.heap.size 3 (p0.l.map iv)) := ⟨by have h := hg6.out; rwa [splice_all (by simp [copy_len HL0.out rfl])] at h⟩
                  clear hb6 hg6
                  go_wp2
                  go_roundw
                  case rel => exact ⟨w4.heap.size, 0, 0, 0, IX5.out.below' HBW6.out (by omega), HB5.out.trans (HBW6.out.mono (by have := HB4.out.size; omega)), .inr (.inl ⟨rfl, OX5.out.below' HBW6.out hobg, by omega, RW6.out⟩)⟩
                  case measure => simp [intOf]
                · have Q0 := Keep.mk q0
                  clear q0
                  have OX := Keep.mk ho
                  have ol0 := ho.lt
                  clear ho
                  have QL0 := Q0.out.lt
                  go_wp2
                  have PX := Keep.mk (Bx.new wr [.int .i64 p1.w, .int .i64 p1.h, .slice p1.a p1.n p1.c] 24)
                  have OX4 := Keep.mk (OX.out.alloc (.cells #[.int .i64 p1.w, .int .i64 p1.h, .slice p1.a p1.n p1.c] 24))
                  have IX4 := Keep.mk (IX1.out.alloc (.cells #[.int .i64 p1.w, .int .i64 p1.h, .slice p1.a p1.n p1.c] 24))
                  have QQ0 := Keep.mk (Q0.out.below (below_alloc1 wr (.cells #[.int .i64 p1.w, .int .i64 p1.h, .slice p1.a p1.n p1.c] 24)))
                  have HB4 : Hid (Below w.heap.size w (wr.alloc (.cells #[.int .i64 p1.w, .int .i64 p1.h, .slice p1.a p1.n p1.c] 24))) := HB1.out.alloc hws _
                  generalize hw4 : wr.alloc (.cells #[.int .i64 p1.w, .int .i64 p1.h, .slice p1.a p1.n p1.c] 24) = w4 at *
                  have hs4 : w4.heap.size = wr.heap.size + 1 := by rw [← hw4]; simp
                  have ob := OX4.out.lt
                  have oc0 := OX4.out.cell 3 _ rfl
                  have oc1 := OX4.out.cell 4 _ rfl
                  have oc2 := OX4.out.cell 5 _ rfl
                  have of := OX4.out.fz
                  have hne : ¬ w.heap.size + 1 = wr.heap.size := by omega
                  have hne' : ¬ wr.heap.size = w.heap.size + 1 := by omega
                  have HS4 := Keep.mk hs4
                  clear hw4 hs4
                  have P3 : Hid (∀ X, Bx X wr.heap.size [.int .i64 p1.w, .int .i64 p1.h, .slice p1.a p1.n p1.c] → X.cell? ⟨wr.heap.size, 0, none⟩ = some (.int .i64 p1.w) ∧ X.cell? ⟨wr.heap.size, 1, none⟩ = some (.int .i64 p1.h) ∧ X.cell? ⟨wr.heap.size, 2, none⟩ = some (.slice p1.a p1.n p1.c)) := fun X h => ⟨h.cell 0 _ rfl, h.cell 1 _ rfl, h.cell 2 _ rfl⟩
                  go_region_held3 (fun X => X.cell? ⟨wr.heap.size, 0, none⟩ = some (.int .i64 p1.w) ∧ X.cell? ⟨wr.heap.size, 1, none⟩ = some (.int .i64 p1.h) ∧ X.cell? ⟨wr.heap.size, 2, none⟩ = some (.slice p1.a p1.n p1.c))
                    (first | exact P3.out _ (PX.out.drewN 1) | exact P3.out _ ((PX.out.alloc _).drewN 1) | exact P3.out _ ((((((PX.out.alloc _).other (p := ⟨_, _, none⟩) hne _).other (p := ⟨_, _, none⟩) hne _).other (p := ⟨_, _, none⟩) hne _)).drewN 1) | exact P3.out _ ((((((PX.out.other (p := ⟨_, _, none⟩) hne _).other (p := ⟨_, _, none⟩) hne _).other (p := ⟨_, _, none⟩) hne _)).alloc _).drewN 1))
                    (fail)
                  go_wp2
                  have hwne : ¬ w.heap.size + 1 = w.heap.size := by omega
                  have OX5 := Keep.mk (show Bx ((((w4.setCell ⟨w.heap.size + 1, 3, none⟩ (.int .i64 p1.w)).setCell ⟨w.heap.size + 1, 4, none⟩ (.int .i64 p1.h)).setCell ⟨w.heap.size + 1, 5, none⟩ (.slice (some ⟨w4.heap.size, 0, none⟩) p1.n p1.n)).alloc (.cells (madeCells #[.int .i64 0] p1.n) 3)).drew (w.heap.size + 1) [.int .i64 p0.w, .int .i64 p0.h, .slice (some ⟨r0, 0, none⟩) p0.n p0.n, .int .i64 p1.w, .int .i64 p1.h, .slice (some ⟨w4.heap.size, 0, none⟩) p1.n p1.n, .int .i64 0, .int .i64 0, .slice none 0 0, .int .i64 0, .int .i64 0, .slice none 0 0] from ((((OX4.out.set (j := 3) (by simp) _).set (j := 4) (by simp) _).set (j := 5) (by simp) _).alloc _).drewN 1)
                  have PX5 := Keep.mk (show Bx ((((w4.setCell ⟨w.heap.size + 1, 3, none⟩ (.int .i64 p1.w)).setCell ⟨w.heap.size + 1, 4, none⟩ (.int .i64 p1.h)).setCell ⟨w.heap.size + 1, 5, none⟩ (.slice (some ⟨w4.heap.size, 0, none⟩) p1.n p1.n)).alloc (.cells (madeCells #[.int .i64 0] p1.n) 3)).drew wr.heap.size [.int .i64 p1.w, .int .i64 p1.h, .slice p1.a p1.n p1.c] from ((((PX.out.other (p := ⟨_, _, none⟩) hne _).other (p := ⟨_, _, none⟩) hne _).other (p := ⟨_, _, none⟩) hne _).alloc _).drewN 1)
                  have IX5 := Keep.mk (show Bx ((((w4.setCell ⟨w.heap.size + 1, 3, none⟩ (.int .i64 p1.w)).setCell ⟨w.heap.size + 1, 4, none⟩ (.int .i64 p1.h)).setCell ⟨w.heap.size + 1, 5, none⟩ (.slice (some ⟨w4.heap.size, 0, none⟩) p1.n p1.n)).alloc (.cells (madeCells #[.int .i64 0] p1.n) 3)).drew w.heap.size [.int .i64 p0.w, .int .i64 p0.h, .slice p0.a p0.n p0.c, .int .i64 p1.w, .int .i64 p1.h, .slice p1.a p1.n p1.c, .int .i64 p2.w, .int .i64 p2.h, .slice p2.a p2.n p2.c, .int .i64 p3.w, .int .i64 p3.h, .slice p3.a p3.n p3.c] from ((((IX4.out.other (p := ⟨_, _, none⟩) hwne _).other (p := ⟨_, _, none⟩) hwne _).other (p := ⟨_, _, none⟩) hwne _).alloc _).drewN 1)
                  have QR0 := Keep.mk (show Bk ((((w4.setCell ⟨w.heap.size + 1, 3, none⟩ (.int .i64 p1.w)).setCell ⟨w.heap.size + 1, 4, none⟩ (.int .i64 p1.h)).setCell ⟨w.heap.size + 1, 5, none⟩ (.slice (some ⟨w4.heap.size, 0, none⟩) p1.n p1.n)).alloc (.cells (madeCells #[.int .i64 0] p1.n) 3)).drew r0 3 (p0.l.map iv) from ((((QQ0.out.other (p := ⟨_, _, none⟩) (by simp only; omega) _).other (p := ⟨_, _, none⟩) (by simp only; omega) _).other (p := ⟨_, _, none⟩) (by simp only; omega) _).below (below_alloc1 _ _)).drewN 1)
                  have RW5 := Keep.mk (show Bk ((((w4.setCell ⟨w.heap.size + 1, 3, none⟩ (.int .i64 p1.w)).setCell ⟨w.heap.size + 1, 4, none⟩ (.int .i64 p1.h)).setCell ⟨w.heap.size + 1, 5, none⟩ (.slice (some ⟨w4.heap.size, 0, none⟩) p1.n p1.n)).alloc (.cells (madeCells #[.int .i64 0] p1.n) 3)).drew w4.heap.size 3 (List.replicate p1.n (.int .i64 0)) from by
                    have h := bk_made (((w4.setCell ⟨w.heap.size + 1, 3, none⟩ (.int .i64 p1.w)).setCell ⟨w.heap.size + 1, 4, none⟩ (.int .i64 p1.h)).setCell ⟨w.heap.size + 1, 5, none⟩ (.slice (some ⟨w4.heap.size, 0, none⟩) p1.n p1.n)) 3 p1.n
                    rwa [size_set3] at h)
                  have HB5 : Hid (Below w.heap.size w ((((w4.setCell ⟨w.heap.size + 1, 3, none⟩ (.int .i64 p1.w)).setCell ⟨w.heap.size + 1, 4, none⟩ (.int .i64 p1.h)).setCell ⟨w.heap.size + 1, 5, none⟩ (.slice (some ⟨w4.heap.size, 0, none⟩) p1.n p1.n)).alloc (.cells (madeCells #[.int .i64 0] p1.n) 3)).drew) := ((((HB4.out.setCell (Nat.le_succ _) _).setCell (Nat.le_succ _) _).setCell (Nat.le_succ _) _).alloc (by simp [World.setCell]; omega) _).trans (below_draws _ _ 1)
                  generalize ((((w4.setCell ⟨w.heap.size + 1, 3, none⟩ (.int .i64 p1.w)).setCell ⟨w.heap.size + 1, 4, none⟩ (.int .i64 p1.h)).setCell ⟨w.heap.size + 1, 5, none⟩ (.slice (some ⟨w4.heap.size, 0, none⟩) p1.n p1.n)).alloc (.cells (madeCells #[.int .i64 0] p1.n) 3)).drew = w5 at *
                  have KP5 : Hid (∀ X, Bx X (w.heap.size + 1) [.int .i64 p0.w, .int .i64 p0.h, .slice (some ⟨r0, 0, none⟩) p0.n p0.n, .int .i64 p1.w, .int .i64 p1.h, .slice (some ⟨w4.heap.size, 0, none⟩) p1.n p1.n, .int .i64 0, .int .i64 0, .slice none 0 0, .int .i64 0, .int .i64 0, .slice none 0 0] → Bx X wr.heap.size [.int .i64 p1.w, .int .i64 p1.h, .slice p1.a p1.n p1.c] → X.cell? ⟨w.heap.size + 1, 5, none⟩ = some (.slice (some ⟨w4.heap.size, 0, none⟩) p1.n p1.n) ∧ X.cell? ⟨wr.heap.size, 2, none⟩ = some (.slice p1.a p1.n p1.c)) := fun X h h' => ⟨h.cell 5 _ rfl, h'.cell 2 _ rfl⟩
                  have hobg : w.heap.size + 1 < w4.heap.size := by have := HS4.out; omega
                  have hwrg : wr.heap.size < w4.heap.size := by have := HS4.out; omega
                  clear oc0 oc1 oc2 of ob
                  go_region_held3 (fun X => X.cell? ⟨w.heap.size + 1, 5, none⟩ = some (.slice (some ⟨w4.heap.size, 0, none⟩) p1.n p1.n) ∧ X.cell? ⟨wr.heap.size, 2, none⟩ = some (.slice p1.a p1.n p1.c))
                    (first | exact KP5.out _ (OX5.out.drewN 1) (PX5.out.drewN 1) | exact KP5.out _ ((OX5.out.drewN 1).below' hb6 hobg) ((PX5.out.drewN 1).below' hb6 hwrg))
                    (first | (refine step_copy_splice rfl (.tmp 73) (.tmp 75) 22 22 rfl 3 Tryd.underlying22 int_one (some ⟨w4.heap.size, 0, none⟩) p1.a p1.n p1.n p1.n p1.c (by rfl) (by rfl) w4.heap.size 0 (List.replicate p1.n (.int .i64 0)) 3 (RW5.out.drewN 1) (p1.l.map iv) (copy_n HL1.out N1.out) (copy_src ((H1.out.below HB5.out).below (below_draws _ _ 1))) (copy_fit HL1.out N1.out) (iv_one _) w4.heap.size _ (Below.refl _ _) (Nat.le_refl _) ?_; intro w6 hg6 hb6))
                  have HBW6 : Hid (Below w4.heap.size w5 w6) := (below_draws _ _ 1).trans hb6
                  have RW6 : Keep (Bk w6 w4.heap.size 3 (p1.l.map iv)) := ⟨by have h := hg6.out; rwa [splice_all (by simp [copy_len HL1.out N1.out])] at h⟩
                  clear hb6 hg6
                  go_wp2
                  go_roundw
                  case rel => exact ⟨r0, w4.heap.size, 0, 0, IX5.out.below' HBW6.out (by omega), HB5.out.trans (HBW6.out.mono (by have := HB4.out.size; omega)), .inr (.inr (.inl ⟨rfl, OX5.out.below' HBW6.out hobg, g0, QR0.out.below' HBW6.out (by have := QL0; omega), by have := QL0; omega, RW6.out⟩))⟩
                  case measure => simp [intOf]
                · have Q0 := Keep.mk q0
                  have Q1 := Keep.mk q1
                  clear q0 q1
                  have OX := Keep.mk ho
                  have ol0 := ho.lt
                  clear ho
                  have QL0 := Q0.out.lt
                  have QL1 := Q1.out.lt
                  go_wp2
                  have PX := Keep.mk (Bx.new wr [.int .i64 p2.w, .int .i64 p2.h, .slice p2.a p2.n p2.c] 24)
                  have OX4 := Keep.mk (OX.out.alloc (.cells #[.int .i64 p2.w, .int .i64 p2.h, .slice p2.a p2.n p2.c] 24))
                  have IX4 := Keep.mk (IX1.out.alloc (.cells #[.int .i64 p2.w, .int .i64 p2.h, .slice p2.a p2.n p2.c] 24))
                  have QQ0 := Keep.mk (Q0.out.below (below_alloc1 wr (.cells #[.int .i64 p2.w, .int .i64 p2.h, .slice p2.a p2.n p2.c] 24)))
                  have QQ1 := Keep.mk (Q1.out.below (below_alloc1 wr (.cells #[.int .i64 p2.w, .int .i64 p2.h, .slice p2.a p2.n p2.c] 24)))
                  have HB4 : Hid (Below w.heap.size w (wr.alloc (.cells #[.int .i64 p2.w, .int .i64 p2.h, .slice p2.a p2.n p2.c] 24))) := HB1.out.alloc hws _
                  generalize hw4 : wr.alloc (.cells #[.int .i64 p2.w, .int .i64 p2.h, .slice p2.a p2.n p2.c] 24) = w4 at *
                  have hs4 : w4.heap.size = wr.heap.size + 1 := by rw [← hw4]; simp
                  have ob := OX4.out.lt
                  have oc0 := OX4.out.cell 6 _ rfl
                  have oc1 := OX4.out.cell 7 _ rfl
                  have oc2 := OX4.out.cell 8 _ rfl
                  have of := OX4.out.fz
                  have hne : ¬ w.heap.size + 1 = wr.heap.size := by omega
                  have hne' : ¬ wr.heap.size = w.heap.size + 1 := by omega
                  have HS4 := Keep.mk hs4
                  clear hw4 hs4
                  have P3 : Hid (∀ X, Bx X wr.heap.size [.int .i64 p2.w, .int .i64 p2.h, .slice p2.a p2.n p2.c] → X.cell? ⟨wr.heap.size, 0, none⟩ = some (.int .i64 p2.w) ∧ X.cell? ⟨wr.heap.size, 1, none⟩ = some (.int .i64 p2.h) ∧ X.cell? ⟨wr.heap.size, 2, none⟩ = some (.slice p2.a p2.n p2.c)) := fun X h => ⟨h.cell 0 _ rfl, h.cell 1 _ rfl, h.cell 2 _ rfl⟩
                  go_region_held3 (fun X => X.cell? ⟨wr.heap.size, 0, none⟩ = some (.int .i64 p2.w) ∧ X.cell? ⟨wr.heap.size, 1, none⟩ = some (.int .i64 p2.h) ∧ X.cell? ⟨wr.heap.size, 2, none⟩ = some (.slice p2.a p2.n p2.c))
                    (first | exact P3.out _ (PX.out.drewN 1) | exact P3.out _ ((PX.out.alloc _).drewN 1) | exact P3.out _ ((((((PX.out.alloc _).other (p := ⟨_, _, none⟩) hne _).other (p := ⟨_, _, none⟩) hne _).other (p := ⟨_, _, none⟩) hne _)).drewN 1) | exact P3.out _ ((((((PX.out.other (p := ⟨_, _, none⟩) hne _).other (p := ⟨_, _, none⟩) hne _).other (p := ⟨_, _, none⟩) hne _)).alloc _).drewN 1))
                    (fail)
                  go_wp2
                  have hwne : ¬ w.heap.size + 1 = w.heap.size := by omega
                  have OX5 := Keep.mk (show Bx ((((w4.setCell ⟨w.heap.size + 1, 6, none⟩ (.int .i64 p2.w)).setCell ⟨w.heap.size + 1, 7, none⟩ (.int .i64 p2.h)).setCell ⟨w.heap.size + 1, 8, none⟩ (.slice (some ⟨w4.heap.size, 0, none⟩) p2.n p2.n)).alloc (.cells (madeCells #[.int .i64 0] p2.n) 3)).drew (w.heap.size + 1) [.int .i64 p0.w, .int .i64 p0.h, .slice (some ⟨r0, 0, none⟩) p0.n p0.n, .int .i64 p1.w, .int .i64 p1.h, .slice (some ⟨r1, 0, none⟩) p1.n p1.n, .int .i64 p2.w, .int .i64 p2.h, .slice (some ⟨w4.heap.size, 0, none⟩) p2.n p2.n, .int .i64 0, .int .i64 0, .slice none 0 0] from ((((OX4.out.set (j := 6) (by simp) _).set (j := 7) (by simp) _).set (j := 8) (by simp) _).alloc _).drewN 1)
                  have PX5 := Keep.mk (show Bx ((((w4.setCell ⟨w.heap.size + 1, 6, none⟩ (.int .i64 p2.w)).setCell ⟨w.heap.size + 1, 7, none⟩ (.int .i64 p2.h)).setCell ⟨w.heap.size + 1, 8, none⟩ (.slice (some ⟨w4.heap.size, 0, none⟩) p2.n p2.n)).alloc (.cells (madeCells #[.int .i64 0] p2.n) 3)).drew wr.heap.size [.int .i64 p2.w, .int .i64 p2.h, .slice p2.a p2.n p2.c] from ((((PX.out.other (p := ⟨_, _, none⟩) hne _).other (p := ⟨_, _, none⟩) hne _).other (p := ⟨_, _, none⟩) hne _).alloc _).drewN 1)
                  have IX5 := Keep.mk (show Bx ((((w4.setCell ⟨w.heap.size + 1, 6, none⟩ (.int .i64 p2.w)).setCell ⟨w.heap.size + 1, 7, none⟩ (.int .i64 p2.h)).setCell ⟨w.heap.size + 1, 8, none⟩ (.slice (some ⟨w4.heap.size, 0, none⟩) p2.n p2.n)).alloc (.cells (madeCells #[.int .i64 0] p2.n) 3)).drew w.heap.size [.int .i64 p0.w, .int .i64 p0.h, .slice p0.a p0.n p0.c, .int .i64 p1.w, .int .i64 p1.h, .slice p1.a p1.n p1.c, .int .i64 p2.w, .int .i64 p2.h, .slice p2.a p2.n p2.c, .int .i64 p3.w, .int .i64 p3.h, .slice p3.a p3.n p3.c] from ((((IX4.out.other (p := ⟨_, _, none⟩) hwne _).other (p := ⟨_, _, none⟩) hwne _).other (p := ⟨_, _, none⟩) hwne _).alloc _).drewN 1)
                  have QR0 := Keep.mk (show Bk ((((w4.setCell ⟨w.heap.size + 1, 6, none⟩ (.int .i64 p2.w)).setCell ⟨w.heap.size + 1, 7, none⟩ (.int .i64 p2.h)).setCell ⟨w.heap.size + 1, 8, none⟩ (.slice (some ⟨w4.heap.size, 0, none⟩) p2.n p2.n)).alloc (.cells (madeCells #[.int .i64 0] p2.n) 3)).drew r0 3 (p0.l.map iv) from ((((QQ0.out.other (p := ⟨_, _, none⟩) (by simp only; omega) _).other (p := ⟨_, _, none⟩) (by simp only; omega) _).other (p := ⟨_, _, none⟩) (by simp only; omega) _).below (below_alloc1 _ _)).drewN 1)
                  have QR1 := Keep.mk (show Bk ((((w4.setCell ⟨w.heap.size + 1, 6, none⟩ (.int .i64 p2.w)).setCell ⟨w.heap.size + 1, 7, none⟩ (.int .i64 p2.h)).setCell ⟨w.heap.size + 1, 8, none⟩ (.slice (some ⟨w4.heap.size, 0, none⟩) p2.n p2.n)).alloc (.cells (madeCells #[.int .i64 0] p2.n) 3)).drew r1 3 (p1.l.map iv) from ((((QQ1.out.other (p := ⟨_, _, none⟩) (by simp only; omega) _).other (p := ⟨_, _, none⟩) (by simp only; omega) _).other (p := ⟨_, _, none⟩) (by simp only; omega) _).below (below_alloc1 _ _)).drewN 1)
                  have RW5 := Keep.mk (show Bk ((((w4.setCell ⟨w.heap.size + 1, 6, none⟩ (.int .i64 p2.w)).setCell ⟨w.heap.size + 1, 7, none⟩ (.int .i64 p2.h)).setCell ⟨w.heap.size + 1, 8, none⟩ (.slice (some ⟨w4.heap.size, 0, none⟩) p2.n p2.n)).alloc (.cells (madeCells #[.int .i64 0] p2.n) 3)).drew w4.heap.size 3 (List.replicate p2.n (.int .i64 0)) from by
                    have h := bk_made (((w4.setCell ⟨w.heap.size + 1, 6, none⟩ (.int .i64 p2.w)).setCell ⟨w.heap.size + 1, 7, none⟩ (.int .i64 p2.h)).setCell ⟨w.heap.size + 1, 8, none⟩ (.slice (some ⟨w4.heap.size, 0, none⟩) p2.n p2.n)) 3 p2.n
                    rwa [size_set3] at h)
                  have HB5 : Hid (Below w.heap.size w ((((w4.setCell ⟨w.heap.size + 1, 6, none⟩ (.int .i64 p2.w)).setCell ⟨w.heap.size + 1, 7, none⟩ (.int .i64 p2.h)).setCell ⟨w.heap.size + 1, 8, none⟩ (.slice (some ⟨w4.heap.size, 0, none⟩) p2.n p2.n)).alloc (.cells (madeCells #[.int .i64 0] p2.n) 3)).drew) := ((((HB4.out.setCell (Nat.le_succ _) _).setCell (Nat.le_succ _) _).setCell (Nat.le_succ _) _).alloc (by simp [World.setCell]; omega) _).trans (below_draws _ _ 1)
                  generalize ((((w4.setCell ⟨w.heap.size + 1, 6, none⟩ (.int .i64 p2.w)).setCell ⟨w.heap.size + 1, 7, none⟩ (.int .i64 p2.h)).setCell ⟨w.heap.size + 1, 8, none⟩ (.slice (some ⟨w4.heap.size, 0, none⟩) p2.n p2.n)).alloc (.cells (madeCells #[.int .i64 0] p2.n) 3)).drew = w5 at *
                  have KP5 : Hid (∀ X, Bx X (w.heap.size + 1) [.int .i64 p0.w, .int .i64 p0.h, .slice (some ⟨r0, 0, none⟩) p0.n p0.n, .int .i64 p1.w, .int .i64 p1.h, .slice (some ⟨r1, 0, none⟩) p1.n p1.n, .int .i64 p2.w, .int .i64 p2.h, .slice (some ⟨w4.heap.size, 0, none⟩) p2.n p2.n, .int .i64 0, .int .i64 0, .slice none 0 0] → Bx X wr.heap.size [.int .i64 p2.w, .int .i64 p2.h, .slice p2.a p2.n p2.c] → X.cell? ⟨w.heap.size + 1, 8, none⟩ = some (.slice (some ⟨w4.heap.size, 0, none⟩) p2.n p2.n) ∧ X.cell? ⟨wr.heap.size, 2, none⟩ = some (.slice p2.a p2.n p2.c)) := fun X h h' => ⟨h.cell 8 _ rfl, h'.cell 2 _ rfl⟩
                  have hobg : w.heap.size + 1 < w4.heap.size := by have := HS4.out; omega
                  have hwrg : wr.heap.size < w4.heap.size := by have := HS4.out; omega
                  clear oc0 oc1 oc2 of ob
                  go_region_held3 (fun X => X.cell? ⟨w.heap.size + 1, 8, none⟩ = some (.slice (some ⟨w4.heap.size, 0, none⟩) p2.n p2.n) ∧ X.cell? ⟨wr.heap.size, 2, none⟩ = some (.slice p2.a p2.n p2.c))
                    (first | exact KP5.out _ (OX5.out.drewN 1) (PX5.out.drewN 1) | exact KP5.out _ ((OX5.out.drewN 1).below' hb6 hobg) ((PX5.out.drewN 1).below' hb6 hwrg))
                    (first | (refine step_copy_splice rfl (.tmp 73) (.tmp 75) 22 22 rfl 3 Tryd.underlying22 int_one (some ⟨w4.heap.size, 0, none⟩) p2.a p2.n p2.n p2.n p2.c (by rfl) (by rfl) w4.heap.size 0 (List.replicate p2.n (.int .i64 0)) 3 (RW5.out.drewN 1) (p2.l.map iv) (copy_n HL2.out N2.out) (copy_src ((H2.out.below HB5.out).below (below_draws _ _ 1))) (copy_fit HL2.out N2.out) (iv_one _) w4.heap.size _ (Below.refl _ _) (Nat.le_refl _) ?_; intro w6 hg6 hb6))
                  have HBW6 : Hid (Below w4.heap.size w5 w6) := (below_draws _ _ 1).trans hb6
                  have RW6 : Keep (Bk w6 w4.heap.size 3 (p2.l.map iv)) := ⟨by have h := hg6.out; rwa [splice_all (by simp [copy_len HL2.out N2.out])] at h⟩
                  clear hb6 hg6
                  go_wp2
                  go_roundw
                  case rel => exact ⟨r0, r1, w4.heap.size, 0, IX5.out.below' HBW6.out (by omega), HB5.out.trans (HBW6.out.mono (by have := HB4.out.size; omega)), .inr (.inr (.inr (.inl ⟨rfl, OX5.out.below' HBW6.out hobg, g0, QR0.out.below' HBW6.out (by have := QL0; omega), g1, QR1.out.below' HBW6.out (by have := QL1; omega), by have := QL1; omega, RW6.out⟩)))⟩
                  case measure => simp [intOf]
                · have Q0 := Keep.mk q0
                  have Q1 := Keep.mk q1
                  have Q2 := Keep.mk q2
                  clear q0 q1 q2
                  have OX := Keep.mk ho
                  have ol0 := ho.lt
                  clear ho
                  have QL0 := Q0.out.lt
                  have QL1 := Q1.out.lt
                  have QL2 := Q2.out.lt
                  go_wp2
                  have PX := Keep.mk (Bx.new wr [.int .i64 p3.w, .int .i64 p3.h, .slice p3.a p3.n p3.c] 24)
                  have OX4 := Keep.mk (OX.out.alloc (.cells #[.int .i64 p3.w, .int .i64 p3.h, .slice p3.a p3.n p3.c] 24))
                  have IX4 := Keep.mk (IX1.out.alloc (.cells #[.int .i64 p3.w, .int .i64 p3.h, .slice p3.a p3.n p3.c] 24))
                  have QQ0 := Keep.mk (Q0.out.below (below_alloc1 wr (.cells #[.int .i64 p3.w, .int .i64 p3.h, .slice p3.a p3.n p3.c] 24)))
                  have QQ1 := Keep.mk (Q1.out.below (below_alloc1 wr (.cells #[.int .i64 p3.w, .int .i64 p3.h, .slice p3.a p3.n p3.c] 24)))
                  have QQ2 := Keep.mk (Q2.out.below (below_alloc1 wr (.cells #[.int .i64 p3.w, .int .i64 p3.h, .slice p3.a p3.n p3.c] 24)))
                  have HB4 : Hid (Below w.heap.size w (wr.alloc (.cells #[.int .i64 p3.w, .int .i64 p3.h, .slice p3.a p3.n p3.c] 24))) := HB1.out.alloc hws _
                  generalize hw4 : wr.alloc (.cells #[.int .i64 p3.w, .int .i64 p3.h, .slice p3.a p3.n p3.c] 24) = w4 at *
                  have hs4 : w4.heap.size = wr.heap.size + 1 := by rw [← hw4]; simp
                  have ob := OX4.out.lt
                  have oc0 := OX4.out.cell 9 _ rfl
                  have oc1 := OX4.out.cell 10 _ rfl
                  have oc2 := OX4.out.cell 11 _ rfl
                  have of := OX4.out.fz
                  have hne : ¬ w.heap.size + 1 = wr.heap.size := by omega
                  have hne' : ¬ wr.heap.size = w.heap.size + 1 := by omega
                  have HS4 := Keep.mk hs4
                  clear hw4 hs4
                  have P3 : Hid (∀ X, Bx X wr.heap.size [.int .i64 p3.w, .int .i64 p3.h, .slice p3.a p3.n p3.c] → X.cell? ⟨wr.heap.size, 0, none⟩ = some (.int .i64 p3.w) ∧ X.cell? ⟨wr.heap.size, 1, none⟩ = some (.int .i64 p3.h) ∧ X.cell? ⟨wr.heap.size, 2, none⟩ = some (.slice p3.a p3.n p3.c)) := fun X h => ⟨h.cell 0 _ rfl, h.cell 1 _ rfl, h.cell 2 _ rfl⟩
                  go_region_held3 (fun X => X.cell? ⟨wr.heap.size, 0, none⟩ = some (.int .i64 p3.w) ∧ X.cell? ⟨wr.heap.size, 1, none⟩ = some (.int .i64 p3.h) ∧ X.cell? ⟨wr.heap.size, 2, none⟩ = some (.slice p3.a p3.n p3.c))
                    (first | exact P3.out _ (PX.out.drewN 1) | exact P3.out _ ((PX.out.alloc _).drewN 1) | exact P3.out _ ((((((PX.out.alloc _).other (p := ⟨_, _, none⟩) hne _).other (p := ⟨_, _, none⟩) hne _).other (p := ⟨_, _, none⟩) hne _)).drewN 1) | exact P3.out _ ((((((PX.out.other (p := ⟨_, _, none⟩) hne _).other (p := ⟨_, _, none⟩) hne _).other (p := ⟨_, _, none⟩) hne _)).alloc _).drewN 1))
                    (fail)
                  go_wp2
                  have hwne : ¬ w.heap.size + 1 = w.heap.size := by omega
                  have OX5 := Keep.mk (show Bx ((((w4.setCell ⟨w.heap.size + 1, 9, none⟩ (.int .i64 p3.w)).setCell ⟨w.heap.size + 1, 10, none⟩ (.int .i64 p3.h)).setCell ⟨w.heap.size + 1, 11, none⟩ (.slice (some ⟨w4.heap.size, 0, none⟩) p3.n p3.n)).alloc (.cells (madeCells #[.int .i64 0] p3.n) 3)).drew (w.heap.size + 1) [.int .i64 p0.w, .int .i64 p0.h, .slice (some ⟨r0, 0, none⟩) p0.n p0.n, .int .i64 p1.w, .int .i64 p1.h, .slice (some ⟨r1, 0, none⟩) p1.n p1.n, .int .i64 p2.w, .int .i64 p2.h, .slice (some ⟨r2, 0, none⟩) p2.n p2.n, .int .i64 p3.w, .int .i64 p3.h, .slice (some ⟨w4.heap.size, 0, none⟩) p3.n p3.n] from ((((OX4.out.set (j := 9) (by simp) _).set (j := 10) (by simp) _).set (j := 11) (by simp) _).alloc _).drewN 1)
                  have PX5 := Keep.mk (show Bx ((((w4.setCell ⟨w.heap.size + 1, 9, none⟩ (.int .i64 p3.w)).setCell ⟨w.heap.size + 1, 10, none⟩ (.int .i64 p3.h)).setCell ⟨w.heap.size + 1, 11, none⟩ (.slice (some ⟨w4.heap.size, 0, none⟩) p3.n p3.n)).alloc (.cells (madeCells #[.int .i64 0] p3.n) 3)).drew wr.heap.size [.int .i64 p3.w, .int .i64 p3.h, .slice p3.a p3.n p3.c] from ((((PX.out.other (p := ⟨_, _, none⟩) hne _).other (p := ⟨_, _, none⟩) hne _).other (p := ⟨_, _, none⟩) hne _).alloc _).drewN 1)
                  have IX5 := Keep.mk (show Bx ((((w4.setCell ⟨w.heap.size + 1, 9, none⟩ (.int .i64 p3.w)).setCell ⟨w.heap.size + 1, 10, none⟩ (.int .i64 p3.h)).setCell ⟨w.heap.size + 1, 11, none⟩ (.slice (some ⟨w4.heap.size, 0, none⟩) p3.n p3.n)).alloc (.cells (madeCells #[.int .i64 0] p3.n) 3)).drew w.heap.size [.int .i64 p0.w, .int .i64 p0.h, .slice p0.a p0.n p0.c, .int .i64 p1.w, .int .i64 p1.h, .slice p1.a p1.n p1.c, .int .i64 p2.w, .int .i64 p2.h, .slice p2.a p2.n p2.c, .int .i64 p3.w, .int .i64 p3.h, .slice p3.a p3.n p3.c] from ((((IX4.out.other (p := ⟨_, _, none⟩) hwne _).other (p := ⟨_, _, none⟩) hwne _).other (p := ⟨_, _, none⟩) hwne _).alloc _).drewN 1)
                  have QR0 := Keep.mk (show Bk ((((w4.setCell ⟨w.heap.size + 1, 9, none⟩ (.int .i64 p3.w)).setCell ⟨w.heap.size + 1, 10, none⟩ (.int .i64 p3.h)).setCell ⟨w.heap.size + 1, 11, none⟩ (.slice (some ⟨w4.heap.size, 0, none⟩) p3.n p3.n)).alloc (.cells (madeCells #[.int .i64 0] p3.n) 3)).drew r0 3 (p0.l.map iv) from ((((QQ0.out.other (p := ⟨_, _, none⟩) (by simp only; omega) _).other (p := ⟨_, _, none⟩) (by simp only; omega) _).other (p := ⟨_, _, none⟩) (by simp only; omega) _).below (below_alloc1 _ _)).drewN 1)
                  have QR1 := Keep.mk (show Bk ((((w4.setCell ⟨w.heap.size + 1, 9, none⟩ (.int .i64 p3.w)).setCell ⟨w.heap.size + 1, 10, none⟩ (.int .i64 p3.h)).setCell ⟨w.heap.size + 1, 11, none⟩ (.slice (some ⟨w4.heap.size, 0, none⟩) p3.n p3.n)).alloc (.cells (madeCells #[.int .i64 0] p3.n) 3)).drew r1 3 (p1.l.map iv) from ((((QQ1.out.other (p := ⟨_, _, none⟩) (by simp only; omega) _).other (p := ⟨_, _, none⟩) (by simp only; omega) _).other (p := ⟨_, _, none⟩) (by simp only; omega) _).below (below_alloc1 _ _)).drewN 1)
                  have QR2 := Keep.mk (show Bk ((((w4.setCell ⟨w.heap.size + 1, 9, none⟩ (.int .i64 p3.w)).setCell ⟨w.heap.size + 1, 10, none⟩ (.int .i64 p3.h)).setCell ⟨w.heap.size + 1, 11, none⟩ (.slice (some ⟨w4.heap.size, 0, none⟩) p3.n p3.n)).alloc (.cells (madeCells #[.int .i64 0] p3.n) 3)).drew r2 3 (p2.l.map iv) from ((((QQ2.out.other (p := ⟨_, _, none⟩) (by simp only; omega) _).other (p := ⟨_, _, none⟩) (by simp only; omega) _).other (p := ⟨_, _, none⟩) (by simp only; omega) _).below (below_alloc1 _ _)).drewN 1)
                  have RW5 := Keep.mk (show Bk ((((w4.setCell ⟨w.heap.size + 1, 9, none⟩ (.int .i64 p3.w)).setCell ⟨w.heap.size + 1, 10, none⟩ (.int .i64 p3.h)).setCell ⟨w.heap.size + 1, 11, none⟩ (.slice (some ⟨w4.heap.size, 0, none⟩) p3.n p3.n)).alloc (.cells (madeCells #[.int .i64 0] p3.n) 3)).drew w4.heap.size 3 (List.replicate p3.n (.int .i64 0)) from by
                    have h := bk_made (((w4.setCell ⟨w.heap.size + 1, 9, none⟩ (.int .i64 p3.w)).setCell ⟨w.heap.size + 1, 10, none⟩ (.int .i64 p3.h)).setCell ⟨w.heap.size + 1, 11, none⟩ (.slice (some ⟨w4.heap.size, 0, none⟩) p3.n p3.n)) 3 p3.n
                    rwa [size_set3] at h)
                  have HB5 : Hid (Below w.heap.size w ((((w4.setCell ⟨w.heap.size + 1, 9, none⟩ (.int .i64 p3.w)).setCell ⟨w.heap.size + 1, 10, none⟩ (.int .i64 p3.h)).setCell ⟨w.heap.size + 1, 11, none⟩ (.slice (some ⟨w4.heap.size, 0, none⟩) p3.n p3.n)).alloc (.cells (madeCells #[.int .i64 0] p3.n) 3)).drew) := ((((HB4.out.setCell (Nat.le_succ _) _).setCell (Nat.le_succ _) _).setCell (Nat.le_succ _) _).alloc (by simp [World.setCell]; omega) _).trans (below_draws _ _ 1)
                  generalize ((((w4.setCell ⟨w.heap.size + 1, 9, none⟩ (.int .i64 p3.w)).setCell ⟨w.heap.size + 1, 10, none⟩ (.int .i64 p3.h)).setCell ⟨w.heap.size + 1, 11, none⟩ (.slice (some ⟨w4.heap.size, 0, none⟩) p3.n p3.n)).alloc (.cells (madeCells #[.int .i64 0] p3.n) 3)).drew = w5 at *
                  have KP5 : Hid (∀ X, Bx X (w.heap.size + 1) [.int .i64 p0.w, .int .i64 p0.h, .slice (some ⟨r0, 0, none⟩) p0.n p0.n, .int .i64 p1.w, .int .i64 p1.h, .slice (some ⟨r1, 0, none⟩) p1.n p1.n, .int .i64 p2.w, .int .i64 p2.h, .slice (some ⟨r2, 0, none⟩) p2.n p2.n, .int .i64 p3.w, .int .i64 p3.h, .slice (some ⟨w4.heap.size, 0, none⟩) p3.n p3.n] → Bx X wr.heap.size [.int .i64 p3.w, .int .i64 p3.h, .slice p3.a p3.n p3.c] → X.cell? ⟨w.heap.size + 1, 11, none⟩ = some (.slice (some ⟨w4.heap.size, 0, none⟩) p3.n p3.n) ∧ X.cell? ⟨wr.heap.size, 2, none⟩ = some (.slice p3.a p3.n p3.c)) := fun X h h' => ⟨h.cell 11 _ rfl, h'.cell 2 _ rfl⟩
                  have hobg : w.heap.size + 1 < w4.heap.size := by have := HS4.out; omega
                  have hwrg : wr.heap.size < w4.heap.size := by have := HS4.out; omega
                  clear oc0 oc1 oc2 of ob
                  go_region_held3 (fun X => X.cell? ⟨w.heap.size + 1, 11, none⟩ = some (.slice (some ⟨w4.heap.size, 0, none⟩) p3.n p3.n) ∧ X.cell? ⟨wr.heap.size, 2, none⟩ = some (.slice p3.a p3.n p3.c))
                    (first | exact KP5.out _ (OX5.out.drewN 1) (PX5.out.drewN 1) | exact KP5.out _ ((OX5.out.drewN 1).below' hb6 hobg) ((PX5.out.drewN 1).below' hb6 hwrg))
                    (first | (refine step_copy_splice rfl (.tmp 73) (.tmp 75) 22 22 rfl 3 Tryd.underlying22 int_one (some ⟨w4.heap.size, 0, none⟩) p3.a p3.n p3.n p3.n p3.c (by rfl) (by rfl) w4.heap.size 0 (List.replicate p3.n (.int .i64 0)) 3 (RW5.out.drewN 1) (p3.l.map iv) (copy_n HL3.out N3.out) (copy_src ((H3.out.below HB5.out).below (below_draws _ _ 1))) (copy_fit HL3.out N3.out) (iv_one _) w4.heap.size _ (Below.refl _ _) (Nat.le_refl _) ?_; intro w6 hg6 hb6))
                  have HBW6 : Hid (Below w4.heap.size w5 w6) := (below_draws _ _ 1).trans hb6
                  have RW6 : Keep (Bk w6 w4.heap.size 3 (p3.l.map iv)) := ⟨by have h := hg6.out; rwa [splice_all (by simp [copy_len HL3.out N3.out])] at h⟩
                  clear hb6 hg6
                  go_wp2
                  go_roundw
                  case rel => exact ⟨r0, r1, r2, w4.heap.size, IX5.out.below' HBW6.out (by omega), HB5.out.trans (HBW6.out.mono (by have := HB4.out.size; omega)), .inr (.inr (.inr (.inr (⟨rfl, OX5.out.below' HBW6.out hobg, g0, QR0.out.below' HBW6.out (by have := QL0; omega), g1, QR1.out.below' HBW6.out (by have := QL1; omega), g2, QR2.out.below' HBW6.out (by have := QL2; omega), by have := QL2; omega, RW6.out⟩))))⟩
                  case measure => simp [intOf]
                · have Q0 := Keep.mk q0
                  have Q1 := Keep.mk q1
                  have Q2 := Keep.mk q2
                  have Q3 := Keep.mk q3
                  clear q0 q1 q2 q3
                  have OX := Keep.mk ho
                  have o2 := ho.cell 2 _ rfl
                  clear ho hmk0 hmk1 hmk2 hmk3 IX1
                  go_wp2
                  clear o2
                  have gne0 : ¬ w.heap.size + 1 = r0 := by omega
                  have gne1 : ¬ w.heap.size + 1 = r1 := by omega
                  have gne2 : ¬ w.heap.size + 1 = r2 := by omega
                  have gne3 : ¬ w.heap.size + 1 = r3 := by omega
                  have LR : Keep ((redAll p0 p1 p2 p3 m).length = p0.n) := ⟨redAll_len _ _ _ _ _⟩
                  obtain ⟨wo2, rfl⟩ : ∃ wo2 : World, wo2 = wr := ⟨_, rfl⟩
                  go_loopw [82] (fun i wr => ∃ j : Nat, j ≤ p0.n ∧ i = .int .i64 j ∧ Bx wr (w.heap.size + 1) [.int .i64 p0.w, .int .i64 p0.h, .slice (some ⟨r0, 0, none⟩) p0.n p0.n, .int .i64 p1.w, .int .i64 p1.h, .slice (some ⟨r1, 0, none⟩) p1.n p1.n, .int .i64 p2.w, .int .i64 p2.h, .slice (some ⟨r2, 0, none⟩) p2.n p2.n, .int .i64 p3.w, .int .i64 p3.h, .slice (some ⟨r3, 0, none⟩) p3.n p3.n] ∧ Bk wr r0 3 ((((redAll p0 p1 p2 p3 m).map (·.1)).take j ++ p0.l.drop j).map iv) ∧ Bk wr r1 3 ((((redAll p0 p1 p2 p3 m).map (·.2.1)).take j ++ p1.l.drop j).map iv) ∧ Bk wr r2 3 ((((redAll p0 p1 p2 p3 m).map (·.2.2.1)).take j ++ p2.l.drop j).map iv) ∧ Bk wr r3 3 ((((redAll p0 p1 p2 p3 m).map (·.2.2.2)).take j ++ p3.l.drop j).map iv) ∧ Below w.heap.size w wr) (fun i _ => p0.n - (intOf i).toNat)
                  case atStart => exact ⟨0, Nat.zero_le _, rfl, OX.out, by simpa using Q0.out, by simpa using Q1.out, by simpa using Q2.out, by simpa using Q3.out, HB1.out⟩
                  case round =>
                    obtain ⟨j, hj, rfl, ho, q0, q1, q2, q3, hb⟩ := hrel
                    clear OX Q0 Q1 Q2 Q3 HB1
                    have OX := Keep.mk ho
                    have Q0 := Keep.mk q0
                    have Q1 := Keep.mk q1
                    have Q2 := Keep.mk q2
                    have Q3 := Keep.mk q3
                    have HB1 := Lib.hid hb
                    have hws := hb.size
                    have QL3 := q3.lt
                    clear ho q0 q1 q2 q3 hb
                    by_cases hlt : j < p0.n
                    · have hj1 : j < p1.n := by have := N1.out; omega
                      have hj2 : j < p2.n := by have := N2.out; omega
                      have hj3 : j < p3.n := by have := N3.out; omega
                      obtain ⟨x0, hx0⟩ : ∃ x, p0.l[j]? = some x := ⟨_, List.getElem?_eq_getElem (by have := HL0.out; omega)⟩
                      have hB0 := HG0.out x0 (List.mem_of_getElem? hx0)
                      have X0 := Keep.mk hx0
                      obtain ⟨x1, hx1⟩ : ∃ x, p1.l[j]? = some x := ⟨_, List.getElem?_eq_getElem (by have := HL1.out; omega)⟩
                      have hB1 := HG1.out x1 (List.mem_of_getElem? hx1)
                      have X1 := Keep.mk hx1
                      obtain ⟨x2, hx2⟩ : ∃ x, p2.l[j]? = some x := ⟨_, List.getElem?_eq_getElem (by have := HL2.out; omega)⟩
                      have hB2 := HG2.out x2 (List.mem_of_getElem? hx2)
                      have X2 := Keep.mk hx2
                      obtain ⟨x3, hx3⟩ : ∃ x, p3.l[j]? = some x := ⟨_, List.getElem?_eq_getElem (by have := HL3.out; omega)⟩
                      have hB3 := HG3.out x3 (List.mem_of_getElem? hx3)
                      have X3 := Keep.mk hx3
                      clear hx0 hx1 hx2 hx3
                      obtain ⟨y0, y1, y2, y3, hy⟩ : ∃ y0 y1 y2 y3, Pl.reduce x0 x1 x2 x3 m = (y0, y1, y2, y3) := ⟨_, _, _, _, rfl⟩
                      have HY : Keep ((redAll p0 p1 p2 p3 m)[j]? = some (y0, y1, y2, y3)) := ⟨by rw [List.getElem?_eq_getElem (by rw [LR.out]; exact hlt), redAll_get _ _ _ _ _ _ hlt, List.getD, List.getD, List.getD, List.getD, X0.out, X1.out, X2.out, X3.out]; exact congrArg some hy⟩
                      have HRD : Hid (∀ X : World, Calls Tryd.prog 36 #[.agg #[.int .i64 x0, .int .i64 x1, .int .i64 x2, .int .i64 x3], .int .i64 m] X fun e w' => e = .returned (.agg #[.int .i64 y0, .int .i64 y1, .int .i64 y2, .int .i64 y3]) ∧ Below X.heap.size X w') := fun X => by have h := reduce_any x0 x1 x2 x3 m X hB0 hB1 hB2 hB3 (by omega); rw [hy] at h; exact h
                      clear hy hB0 hB1 hB2 hB3
                      have D0 : Keep (∀ X, Bk X r0 3 ((((redAll p0 p1 p2 p3 m).map (·.1)).take j ++ p0.l.drop j).map iv) → X.cell? ⟨r0, j, none⟩ = some (.int .i64 x0)) := ⟨fun X h => h.bx.cell j _ (by rw [List.getElem?_map, row_get (by rw [List.length_map, LR.out]; omega), X0.out]; rfl)⟩
                      have D1 : Keep (∀ X, Bk X r1 3 ((((redAll p0 p1 p2 p3 m).map (·.2.1)).take j ++ p1.l.drop j).map iv) → X.cell? ⟨r1, j, none⟩ = some (.int .i64 x1)) := ⟨fun X h => h.bx.cell j _ (by rw [List.getElem?_map, row_get (by rw [List.length_map, LR.out]; omega), X1.out]; rfl)⟩
                      have D2 : Keep (∀ X, Bk X r2 3 ((((redAll p0 p1 p2 p3 m).map (·.2.2.1)).take j ++ p2.l.drop j).map iv) → X.cell? ⟨r2, j, none⟩ = some (.int .i64 x2)) := ⟨fun X h => h.bx.cell j _ (by rw [List.getElem?_map, row_get (by rw [List.length_map, LR.out]; omega), X2.out]; rfl)⟩
                      have D3 : Keep (∀ X, Bk X r3 3 ((((redAll p0 p1 p2 p3 m).map (·.2.2.2)).take j ++ p3.l.drop j).map iv) → X.cell? ⟨r3, j, none⟩ = some (.int .i64 x3)) := ⟨fun X h => h.bx.cell j _ (by rw [List.getElem?_map, row_get (by rw [List.length_map, LR.out]; omega), X3.out]; rfl)⟩
                      have KP : Hid (∀ X, Below wr.heap.size wr X → X.cell? ⟨w.heap.size + 1, 2, none⟩ = some (.slice (some ⟨r0, 0, none⟩) p0.n p0.n) ∧ X.cell? ⟨w.heap.size + 1, 5, none⟩ = some (.slice (some ⟨r1, 0, none⟩) p1.n p1.n) ∧ X.cell? ⟨w.heap.size + 1, 8, none⟩ = some (.slice (some ⟨r2, 0, none⟩) p2.n p2.n) ∧ X.cell? ⟨w.heap.size + 1, 11, none⟩ = some (.slice (some ⟨r3, 0, none⟩) p3.n p3.n) ∧ X.cell? ⟨r0, j, none⟩ = some (.int .i64 x0) ∧ X.cell? ⟨r1, j, none⟩ = some (.int .i64 x1) ∧ X.cell? ⟨r2, j, none⟩ = some (.int .i64 x2) ∧ X.cell? ⟨r3, j, none⟩ = some (.int .i64 x3)) := fun X h => ⟨(OX.out.below h).cell 2 _ rfl, (OX.out.below h).cell 5 _ rfl, (OX.out.below h).cell 8 _ rfl, (OX.out.below h).cell 11 _ rfl, D0.out X (Q0.out.below h), D1.out X (Q1.out.below h), D2.out X (Q2.out.below h), D3.out X (Q3.out.below h)⟩
                      have i0 : (0 : Int) ≤ (j : Int) := by omega
                      have i1 : (j : Int) < (p0.n : Int) := by omega
                      have i2 : (j : Int) < (p1.n : Int) := by omega
                      have i3 : (j : Int) < (p2.n : Int) := by omega
                      have i4 : (j : Int) < (p3.n : Int) := by omega
                      go_wp2
                      go_region_held3 (fun X => X.cell? ⟨w.heap.size + 1, 2, none⟩ = some (.slice (some ⟨r0, 0, none⟩) p0.n p0.n) ∧ X.cell? ⟨w.heap.size + 1, 5, none⟩ = some (.slice (some ⟨r1, 0, none⟩) p1.n p1.n) ∧ X.cell? ⟨w.heap.size + 1, 8, none⟩ = some (.slice (some ⟨r2, 0, none⟩) p2.n p2.n) ∧ X.cell? ⟨w.heap.size + 1, 11, none⟩ = some (.slice (some ⟨r3, 0, none⟩) p3.n p3.n) ∧ X.cell? ⟨r0, j, none⟩ = some (.int .i64 x0) ∧ X.cell? ⟨r1, j, none⟩ = some (.int .i64 x1) ∧ X.cell? ⟨r2, j, none⟩ = some (.int .i64 x2) ∧ X.cell? ⟨r3, j, none⟩ = some (.int .i64 x3))
                        (first | exact KP.out _ (below_draws _ _ 1) | exact KP.out _ ((below_alloc1 _ _).trans (below_draws _ _ 1)))
                        (fail)
                      go_wp2_with fail
                      refine (HRD.out _).mono ?_
                      rintro e w5 ⟨rfl, hb⟩
                      have HB15 : Hid (Below wr.heap.size wr w5) := ((below_alloc1 _ _).trans (below_draws _ _ 1)).trans (hb.mono ((below_alloc1 _ _).trans (below_draws _ _ 1)).size)
                      have HB5 : Hid (Below w.heap.size w w5) := HB1.out.trans (HB15.out.mono hws)
                      have OX5 := Keep.mk (OX.out.below HB15.out)
                      have V0 := Keep.mk (Q0.out.below HB15.out)
                      have V1 := Keep.mk (Q1.out.below HB15.out)
                      have V2 := Keep.mk (Q2.out.below HB15.out)
                      have V3 := Keep.mk (Q3.out.below HB15.out)
                      clear hb KP D0 D1 D2 D3 HRD
                      have z0 : ∀ w, (Instr.index 56 (.agg #[.int .i64 y0, .int .i64 y1, .int .i64 y2, .int .i64 y3]) (.int .i64 0)).run Tryd.prog w = .ok (.int .i64 y0) w := fun _ => by kernel_rfl
                      have z1 : ∀ w, (Instr.index 56 (.agg #[.int .i64 y0, .int .i64 y1, .int .i64 y2, .int .i64 y3]) (.int .i64 1)).run Tryd.prog w = .ok (.int .i64 y1) w := fun _ => by kernel_rfl
                      have z2 : ∀ w, (Instr.index 56 (.agg #[.int .i64 y0, .int .i64 y1, .int .i64 y2, .int .i64 y3]) (.int .i64 2)).run Tryd.prog w = .ok (.int .i64 y2) w := fun _ => by kernel_rfl
                      have z3 : ∀ w, (Instr.index 56 (.agg #[.int .i64 y0, .int .i64 y1, .int .i64 y2, .int .i64 y3]) (.int .i64 3)).run Tryd.prog w = .ok (.int .i64 y3) w := fun _ => by kernel_rfl
                      go_wp2
                      obtain ⟨wo3, rfl⟩ : ∃ wo3 : World, wo3 = wr := ⟨_, rfl⟩
                      go_loopw [113] (fun i wr => Bx wr (w.heap.size + 1) [.int .i64 p0.w, .int .i64 p0.h, .slice (some ⟨r0, 0, none⟩) p0.n p0.n, .int .i64 p1.w, .int .i64 p1.h, .slice (some ⟨r1, 0, none⟩) p1.n p1.n, .int .i64 p2.w, .int .i64 p2.h, .slice (some ⟨r2, 0, none⟩) p2.n p2.n, .int .i64 p3.w, .int .i64 p3.h, .slice (some ⟨r3, 0, none⟩) p3.n p3.n] ∧ Below w.heap.size w wr ∧ ((i = .int .i64 0 ∧ Bk wr r0 3 ((((redAll p0 p1 p2 p3 m).map (·.1)).take j ++ p0.l.drop j).map iv) ∧ Bk wr r1 3 ((((redAll p0 p1 p2 p3 m).map (·.2.1)).take j ++ p1.l.drop j).map iv) ∧ Bk wr r2 3 ((((redAll p0 p1 p2 p3 m).map (·.2.2.1)).take j ++ p2.l.drop j).map iv) ∧ Bk wr r3 3 ((((redAll p0 p1 p2 p3 m).map (·.2.2.2)).take j ++ p3.l.drop j).map iv)) ∨ (i = .int .i64 1 ∧ Bk wr r0 3 (((((redAll p0 p1 p2 p3 m).map (·.1)).take j ++ p0.l.drop j).map iv).set j (.int .i64 y0)) ∧ Bk wr r1 3 ((((redAll p0 p1 p2 p3 m).map (·.2.1)).take j ++ p1.l.drop j).map iv) ∧ Bk wr r2 3 ((((redAll p0 p1 p2 p3 m).map (·.2.2.1)).take j ++ p2.l.drop j).map iv) ∧ Bk wr r3 3 ((((redAll p0 p1 p2 p3 m).map (·.2.2.2)).take j ++ p3.l.drop j).map iv)) ∨ (i = .int .i64 2 ∧ Bk wr r0 3 (((((redAll p0 p1 p2 p3 m).map (·.1)).take j ++ p0.l.drop j).map iv).set j (.int .i64 y0)) ∧ Bk wr r1 3 (((((redAll p0 p1 p2 p3 m).map (·.2.1)).take j ++ p1.l.drop j).map iv).set j (.int .i64 y1)) ∧ Bk wr r2 3 ((((redAll p0 p1 p2 p3 m).map (·.2.2.1)).take j ++ p2.l.drop j).map iv) ∧ Bk wr r3 3 ((((redAll p0 p1 p2 p3 m).map (·.2.2.2)).take j ++ p3.l.drop j).map iv)) ∨ (i = .int .i64 3 ∧ Bk wr r0 3 (((((redAll p0 p1 p2 p3 m).map (·.1)).take j ++ p0.l.drop j).map iv).set j (.int .i64 y0)) ∧ Bk wr r1 3 (((((redAll p0 p1 p2 p3 m).map (·.2.1)).take j ++ p1.l.drop j).map iv).set j (.int .i64 y1)) ∧ Bk wr r2 3 (((((redAll p0 p1 p2 p3 m).map (·.2.2.1)).take j ++ p2.l.drop j).map iv).set j (.int .i64 y2)) ∧ Bk wr r3 3 ((((redAll p0 p1 p2 p3 m).map (·.2.2.2)).take j ++ p3.l.drop j).map iv)) ∨ (i = .int .i64 4 ∧ Bk wr r0 3 (((((redAll p0 p1 p2 p3 m).map (·.1)).take j ++ p0.l.drop j).map iv).set j (.int .i64 y0)) ∧ Bk wr r1 3 (((((redAll p0 p1 p2 p3 m).map (·.2.1)).take j ++ p1.l.drop j).map iv).set j (.int .i64 y1)) ∧ Bk wr r2 3 (((((redAll p0 p1 p2 p3 m).map (·.2.2.1)).take j ++ p2.l.drop j).map iv).set j (.int .i64 y2)) ∧ Bk wr r3 3 (((((redAll p0 p1 p2 p3 m).map (·.2.2.2)).take j ++ p3.l.drop j).map iv).set j (.int .i64 y3))))) (fun i _ => 4 - (intOf i).toNat)
                      case atStart => exact ⟨OX5.out, HB5.out, .inl ⟨rfl, V0.out, V1.out, V2.out, V3.out⟩⟩
                      case round =>
                        obtain ⟨ho, hb, h⟩ := hrel
                        have OX6 := Keep.mk ho
                        have HB6 := Lib.hid hb
                        clear ho hb
                        rcases h with ⟨rfl, v0, v1, v2, v3⟩ | ⟨rfl, v0, v1, v2, v3⟩ | ⟨rfl, v0, v1, v2, v3⟩ | ⟨rfl, v0, v1, v2, v3⟩ | ⟨rfl, v0, v1, v2, v3⟩
                        · have U0 := Keep.mk v0
                          have U1 := Keep.mk v1
                          have U2 := Keep.mk v2
                          have U3 := Keep.mk v3
                          have oc := OX6.out.cell 2 _ rfl
                          have ic := (v0.bx.cell j (.int .i64 x0) (by rw [List.getElem?_map, row_get (by rw [List.length_map, LR.out]; omega), X0.out]; rfl))
                          have fc := v0.bx.fz
                          clear v0 v1 v2 v3
                          go_wp2
                          go_roundw
                          case rel => exact ⟨OX6.out.other (p := ⟨r0, j, none⟩) (by simp only; omega) _, HB6.out.setCell (by simp only; omega) _, .inr (.inl ⟨rfl, U0.out.set j _, U1.out.other (p := ⟨r0, j, none⟩) (by simp only; omega) _, U2.out.other (p := ⟨r0, j, none⟩) (by simp only; omega) _, U3.out.other (p := ⟨r0, j, none⟩) (by simp only; omega) _⟩)⟩
                          case measure => simp [intOf]
                        · have U0 := Keep.mk v0
                          have U1 := Keep.mk v1
                          have U2 := Keep.mk v2
                          have U3 := Keep.mk v3
                          have oc := OX6.out.cell 5 _ rfl
                          have ic := (v1.bx.cell j (.int .i64 x1) (by rw [List.getElem?_map, row_get (by rw [List.length_map, LR.out]; omega), X1.out]; rfl))
                          have fc := v1.bx.fz
                          clear v0 v1 v2 v3
                          go_wp2
                          go_roundw
                          case rel => exact ⟨OX6.out.other (p := ⟨r1, j, none⟩) (by simp only; omega) _, HB6.out.setCell (by simp only; omega) _, .inr (.inr (.inl ⟨rfl, U0.out.other (p := ⟨r1, j, none⟩) (by simp only; omega) _, U1.out.set j _, U2.out.other (p := ⟨r1, j, none⟩) (by simp only; omega) _, U3.out.other (p := ⟨r1, j, none⟩) (by simp only; omega) _⟩))⟩
                          case measure => simp [intOf]
                        · have U0 := Keep.mk v0
                          have U1 := Keep.mk v1
                          have U2 := Keep.mk v2
                          have U3 := Keep.mk v3
                          have oc := OX6.out.cell 8 _ rfl
                          have ic := (v2.bx.cell j (.int .i64 x2) (by rw [List.getElem?_map, row_get (by rw [List.length_map, LR.out]; omega), X2.out]; rfl))
                          have fc := v2.bx.fz
                          clear v0 v1 v2 v3
                          go_wp2
                          go_roundw
                          case rel => exact ⟨OX6.out.other (p := ⟨r2, j, none⟩) (by simp only; omega) _, HB6.out.setCell (by simp only; omega) _, .inr (.inr (.inr (.inl ⟨rfl, U0.out.other (p := ⟨r2, j, none⟩) (by simp only; omega) _, U1.out.other (p := ⟨r2, j, none⟩) (by simp only; omega) _, U2.out.set j _, U3.out.other (p := ⟨r2, j, none⟩) (by simp only; omega) _⟩)))⟩
                          case measure => simp [intOf]
                        · have U0 := Keep.mk v0
                          have U1 := Keep.mk v1
                          have U2 := Keep.mk v2
                          have U3 := Keep.mk v3
                          have oc := OX6.out.cell 11 _ rfl
                          have ic := (v3.bx.cell j (.int .i64 x3) (by rw [List.getElem?_map, row_get (by rw [List.length_map, LR.out]; omega), X3.out]; rfl))
                          have fc := v3.bx.fz
                          clear v0 v1 v2 v3
                          go_wp2
                          go_roundw
                          case rel => exact ⟨OX6.out.other (p := ⟨r3, j, none⟩) (by simp only; omega) _, HB6.out.setCell (by simp only; omega) _, .inr (.inr (.inr (.inr (⟨rfl, U0.out.other (p := ⟨r3, j, none⟩) (by simp only; omega) _, U1.out.other (p := ⟨r3, j, none⟩) (by simp only; omega) _, U2.out.other (p := ⟨r3, j, none⟩) (by simp only; omega) _, U3.out.set j _⟩))))⟩
                          case measure => simp [intOf]
                        · have U0 := Keep.mk v0
                          have U1 := Keep.mk v1
                          have U2 := Keep.mk v2
                          have U3 := Keep.mk v3
                          clear v0 v1 v2 v3
                          go_wp2
                          go_roundw
                          case rel => exact ⟨j + 1, by omega, by go_num, OX6.out, row_up U0.out (by rw [List.getElem?_map, HY.out]; rfl) (by have := HL0.out; omega), row_up U1.out (by rw [List.getElem?_map, HY.out]; rfl) (by have := HL1.out; omega), row_up U2.out (by rw [List.getElem?_map, HY.out]; rfl) (by have := HL2.out; omega), row_up U3.out (by rw [List.getElem?_map, HY.out]; rfl) (by have := HL3.out; omega), HB6.out⟩
                          case measure => simp [intOf]; omega
                    · obtain rfl : j = p0.n := by omega
                      have F0 : Keep (Bk wr r0 3 (((redAll p0 p1 p2 p3 m).map (·.1)).map iv)) := ⟨by have h := Q0.out; rwa [List.take_of_length_le (by rw [List.length_map, LR.out]; omega), List.drop_of_length_le (by have := HL0.out; omega), List.append_nil] at h⟩
                      have F1 : Keep (Bk wr r1 3 (((redAll p0 p1 p2 p3 m).map (·.2.1)).map iv)) := ⟨by have h := Q1.out; rwa [List.take_of_length_le (by rw [List.length_map, LR.out]; omega), List.drop_of_length_le (by have := HL1.out; omega), List.append_nil] at h⟩
                      have F2 : Keep (Bk wr r2 3 (((redAll p0 p1 p2 p3 m).map (·.2.2.1)).map iv)) := ⟨by have h := Q2.out; rwa [List.take_of_length_le (by rw [List.length_map, LR.out]; omega), List.drop_of_length_le (by have := HL2.out; omega), List.append_nil] at h⟩
                      have F3 : Keep (Bk wr r3 3 (((redAll p0 p1 p2 p3 m).map (·.2.2.2)).map iv)) := ⟨by have h := Q3.out; rwa [List.take_of_length_le (by rw [List.length_map, LR.out]; omega), List.drop_of_length_le (by have := HL3.out; omega), List.append_nil] at h⟩
                      have o0 := OX.out.cell 0 _ rfl
                      have o1 := OX.out.cell 1 _ rfl
                      have o2 := OX.out.cell 2 _ rfl
                      have o3 := OX.out.cell 3 _ rfl
                      have o4 := OX.out.cell 4 _ rfl
                      have o5 := OX.out.cell 5 _ rfl
                      have o6 := OX.out.cell 6 _ rfl
                      have o7 := OX.out.cell 7 _ rfl
                      have o8 := OX.out.cell 8 _ rfl
                      have o9 := OX.out.cell 9 _ rfl
                      have o10 := OX.out.cell 10 _ rfl
                      have o11 := OX.out.cell 11 _ rfl
                      have of := OX.out.fz
                      have ol := OX.out.lt
                      clear Q0 Q1 Q2 Q3 hlt
                      go_wp2
                      refine bodyPost_ret (v := .tuple #[arr4 ⟨p0.w, p0.h, some ⟨r0, 0, none⟩, p0.n, p0.n, (redAll p0 p1 p2 p3 m).map (·.1)⟩ ⟨p1.w, p1.h, some ⟨r1, 0, none⟩, p1.n, p1.n, (redAll p0 p1 p2 p3 m).map (·.2.1)⟩ ⟨p2.w, p2.h, some ⟨r2, 0, none⟩, p2.n, p2.n, (redAll p0 p1 p2 p3 m).map (·.2.2.1)⟩ ⟨p3.w, p3.h, some ⟨r3, 0, none⟩, p3.n, p3.n, (redAll p0 p1 p2 p3 m).map (·.2.2.2)⟩, .int .i64 0]) (by simp [results, Tryd.results22, go_sem, arr4, o0, o1, o2, o3, o4, o5, o6, o7, o8, o9, o10, o11]) rfl ?_
                      refine ⟨⟨p0.w, p0.h, some ⟨r0, 0, none⟩, p0.n, p0.n, (redAll p0 p1 p2 p3 m).map (·.1)⟩, ⟨p1.w, p1.h, some ⟨r1, 0, none⟩, p1.n, p1.n, (redAll p0 p1 p2 p3 m).map (·.2.1)⟩, ⟨p2.w, p2.h, some ⟨r2, 0, none⟩, p2.n, p2.n, (redAll p0 p1 p2 p3 m).map (·.2.2.1)⟩, ⟨p3.w, p3.h, some ⟨r3, 0, none⟩, p3.n, p3.n, (redAll p0 p1 p2 p3 m).map (·.2.2.2)⟩, by rw [HER.out], ?_, ?_, ?_, ?_, below_set12 HB1.out (Nat.le_succ _) _ _ _ _ _ _ _ _ _ _ _ _, .inr ⟨HER.out, rfl, rfl, rfl, rfl, rfl, rfl, rfl, rfl, rfl, rfl, rfl, rfl⟩⟩
                      · exact bk_ri (bk_set12 F0.out gne0 _ _ _ _ _ _ _ _ _ _ _ _) (by rw [List.length_map, LR.out]) (by omega)
                      · exact bk_ri (bk_set12 F1.out gne1 _ _ _ _ _ _ _ _ _ _ _ _) (by rw [List.length_map, LR.out, N1.out]) (by omega)
                      · exact bk_ri (bk_set12 F2.out gne2 _ _ _ _ _ _ _ _ _ _ _ _) (by rw [List.length_map, LR.out, N2.out]) (by omega)
                      · exact bk_ri (bk_set12 F3.out gne3 _ _ _ _ _ _ _ _ _ _ _ _) (by rw [List.length_map, LR.out, N3.out]) (by omega)
end Go.Proofs.YtpppgceccikodaaDoor
