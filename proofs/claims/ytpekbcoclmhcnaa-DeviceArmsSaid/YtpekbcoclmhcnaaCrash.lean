/- device.Crash: the map of the indices that are kept. -/
import Derived.Test.YtpekbcoclmhcnaaDev3
import Derived.Maps.OwnSet
namespace Go.Proofs.Ytpekbcoclmhcnaa
open Go.RowKit Go.Joins Go.Maps

abbrev DW := DataW Unit
def trueD : DW := .lit (.bool true)
/-- The map of the indices. -/
def keepD (keep : List Int) : DW := keep.foldl (fun m x => m.put (.int .i64 x) trueD) (.map [])
theorem atKey_fold (k : Int) (z : DW) : ∀ (keep : List Int) (m : DW), IsMap m → (keep.foldl (fun m x => m.put (.int .i64 x) trueD) m).atKey (.int .i64 k) z = if keep.contains k = true then trueD else m.atKey (.int .i64 k) z
  | [], m, _ => by simp
  | x :: keep, m, hm => by
    rw [List.foldl_cons, atKey_fold k z keep _ (hm.put _ _)]
    by_cases hx : x = k
    · subst hx
      rw [atKey_put_same hm (by trivial)]
      simp
    · rw [atKey_put_other (fun h => hx (by injection h with _ h; exact h.symm))]
      have : (x :: keep).contains k = keep.contains k := by
        rw [Bool.eq_iff_iff]
        simp
        intro h
        exact absurd h.symm hx
      rw [this]
theorem keepD_at (keep : List Int) (k : Int) : (keepD keep).atKey (.int .i64 k) (.lit (.bool false)) = .lit (.bool (keep.contains k)) := by
  unfold keepD
  rw [atKey_fold k _ keep _ isMap_empty]
  cases h : keep.contains k
  · rfl
  · rfl
theorem keepD_snoc (keep : List Int) (x : Int) : keepD (keep ++ [x]) = (keepD keep).put (.int .i64 x) trueD := by simp [keepD, List.foldl_append]
theorem plainElem_bool_inv {H : Type} {P : Program} {e : TypeId} (he : P.underlying e = some .bool) {v : Value} {z : DataW H × List MemPlace} (h : plainElem P e v = some z) : ∃ x, v = .bool x ∧ z = (.lit (.bool x), []) := by
  unfold plainElem at h
  rw [he] at h
  cases v <;> simp at h
  exact ⟨_, rfl, h.symm⟩
theorem zero_bool (w : World) : (zeroValue 4).run Try.prog w = .ok (.bool false) w := by kernel_rfl
/-- The map in block b holds the indices. -/
def KM (w : World) (b n : Nat) (keep : List Int) : Prop := w.ownsMap Try.prog 3 (plainElem (H := Unit) Try.prog 4) b n (keepD keep)
theorem KM.look {w : World} {b n : Nat} {keep : List Int} (h : KM w b n keep) (i : Int) (hi : (Lit.int .i64 i).wf = true) : (Instr.lookup 65 (.map (some b)) (.int .i64 i) false).run Try.prog w = .ok (.bool (keep.contains i)) w := by
  obtain ⟨v, ps, hrun, hv⟩ := World.ownsMap.lookup h (int_keyed Try.underlying3) Try.underlying65 (zero_bool w) (plainElem_bool Try.underlying4 false) (keyOf_int_mk Try.underlying3 hi)
  obtain ⟨x, rfl, hz⟩ := plainElem_bool_inv Try.underlying4 hv
  rw [keepD_at] at hz
  simp only [Prod.mk.injEq, DataW.lit.injEq, Lit.bool.injEq] at hz
  rw [hz.1]
  exact hrun
theorem KM.below {w w' : World} {b n : Nat} {keep : List Int} (h : KM w b n keep) (hb : Below w.heap.size w w') : KM w' b n keep := World.ownsMap.kept (row := none) h ⟨hb.os, hb.tape, hb.output, hb.size, fun k hk _ => hb.block k hk⟩ (by simp)
theorem crash1_any (kv b n : Nat) (keep : List Int) (i : Nat) (w : World) (hi : i < 1000) (hv : w.cell? ⟨kv, 0, none⟩ = some (.map (some b))) (hm : KM w b n keep) :
    Calls Try.prog 40 #[.int .i64 (i : Int), .pointer (some ⟨kv, 0, none⟩)] w fun e w' => e = .returned (.bool (keep.contains (i : Int))) ∧ w = w' := by
  have hl := hm.look (i : Int) (WalkArith.wf_i64 (by omega))
  clear hm
  generalize keep.contains (i : Int) = q at *
  go_enter Try.func40, Try.ntmps40
  go_wp2
  go_ret
  exact ⟨rfl, rfl⟩

set_option maxHeartbeats 1000000 in
theorem crash_any (d : Dk) (B : Option Addr) (m c : Nat) (keep : List Int) (K : Nat) (w : World) (h : d.Ok w) (hk : RI w B m c keep) (hw : ∀ z ∈ keep, (Lit.int .i64 z).wf = true) (hf : Dv.Fits K d.m) (hK : K ≤ 1000) :
    Calls Try.prog 25 #[.agg #[.slice d.a d.n d.c, .slice d.pa d.pn d.pc, .int .i64 d.left, .bool d.down], .slice B m c] w (RetK w (fun _ => True) (Dv.crash d.m keep)) := by
  have HF := Keep.mk (fun (X : World) (hX : Below w.heap.size w X) (kv b n : Nat) (hq : ∀ Y, Below X.heap.size X Y → Y.cell? ⟨kv, 0, none⟩ = some (.map (some b)) ∧ KM Y b n keep) => settle_crash kv (fun i => keep.contains (i : Int)) d K X (h.below hX) hf hK (fun i Y hi hY => crash1_any kv b n keep i Y hi (hq Y hY).1 (hq Y hY).2))
  have HK := Keep.mk hk
  have HW := Keep.mk hw
  have hkl := hk.len
  have HKL := Keep.mk hkl
  have hbig := Nat.le_trans hk.cap hk.big
  unfold maxLen at hbig
  have hmm := @run_makeMap Try.prog
  clear h hk hw hf hkl
  go_enter Try.func25, Try.ntmps25
  go_wp2_with fail
  have IX := Keep.mk ((((Bx.new w [.slice d.a d.n d.c, .slice d.pa d.pn d.pc, .int .i64 d.left, .bool d.down] 25).alloc (.cells #[.slice none 0 0, .slice none 0 0, .int .i64 0, .bool false] 25)).alloc (.map #[] 0)).alloc (.cells #[.map (some (w.heap.size + 1 + 1))] 65))
  have OX := Keep.mk (((Bx.new (w.alloc (.cells #[.slice d.a d.n d.c, .slice d.pa d.pn d.pc, .int .i64 d.left, .bool d.down] 25)) [.slice none 0 0, .slice none 0 0, .int .i64 0, .bool false] 25).alloc (.map #[] 0)).alloc (.cells #[.map (some (w.heap.size + 1 + 1))] 65))
  have VX := Keep.mk (Bx.new (((w.alloc (.cells #[.slice d.a d.n d.c, .slice d.pa d.pn d.pc, .int .i64 d.left, .bool d.down] 25)).alloc (.cells #[.slice none 0 0, .slice none 0 0, .int .i64 0, .bool false] 25)).alloc (.map #[] 0)) [.map (some (w.heap.size + 1 + 1))] 65)
  have MX : Keep (KM ((((w.alloc (.cells #[.slice d.a d.n d.c, .slice d.pa d.pn d.pc, .int .i64 d.left, .bool d.down] 25)).alloc (.cells #[.slice none 0 0, .slice none 0 0, .int .i64 0, .bool false] 25)).alloc (.map #[] 0)).alloc (.cells #[.map (some (w.heap.size + 1 + 1))] 65)) (w.heap.size + 2) 0 []) := ⟨by
    have h := World.ownsMap.alloc (World.ownsMap_made ((w.alloc (.cells #[.slice d.a d.n d.c, .slice d.pa d.pn d.pc, .int .i64 d.left, .bool d.down] 25)).alloc (.cells #[.slice none 0 0, .slice none 0 0, .int .i64 0, .bool false] 25)) Try.prog 3 (plainElem (H := Unit) Try.prog 4)) (.cells #[.map (some (w.heap.size + 1 + 1))] 65)
    have e : ((w.alloc (.cells #[.slice d.a d.n d.c, .slice d.pa d.pn d.pc, .int .i64 d.left, .bool d.down] 25)).alloc (.cells #[.slice none 0 0, .slice none 0 0, .int .i64 0, .bool false] 25)).heap.size = w.heap.size + 2 := by simp
    rw [e] at h
    exact h⟩
  have HB : Hid (Below w.heap.size w ((((w.alloc (.cells #[.slice d.a d.n d.c, .slice d.pa d.pn d.pc, .int .i64 d.left, .bool d.down] 25)).alloc (.cells #[.slice none 0 0, .slice none 0 0, .int .i64 0, .bool false] 25)).alloc (.map #[] 0)).alloc (.cells #[.map (some (w.heap.size + 1 + 1))] 65))) := (((below_alloc1 _ _).alloc (by simp) _).alloc (by simp; omega) _).alloc (by simp; omega) _
  rw [World.size_alloc, World.size_alloc, World.size_alloc] at VX
  rw [World.size_alloc] at OX
  generalize (((w.alloc (.cells #[.slice d.a d.n d.c, .slice d.pa d.pn d.pc, .int .i64 d.left, .bool d.down] 25)).alloc (.cells #[.slice none 0 0, .slice none 0 0, .int .i64 0, .bool false] 25)).alloc (.map #[] 0)).alloc (.cells #[.map (some (w.heap.size + 1 + 1))] 65) = w1 at *
  have hvl := VX.out.lt
  go_loopw [11] (fun i wr => ∃ k : Nat, k ≤ m ∧ i = .int .i64 k ∧ KM wr (w.heap.size + 2) k (keep.take k) ∧ Off [w.heap.size + 2] w1 wr) (fun i _ => m - (intOf i).toNat)
  case atStart => exact ⟨0, Nat.zero_le _, rfl, MX.out, Off.refl _ _⟩
  case round =>
    obtain ⟨k, hk, rfl, hkm, ho⟩ := hrel
    have HKM := Keep.mk hkm
    have HO := Keep.mk ho
    have HBW := Lib.hid (HB.out.trans (ho.below (B := w.heap.size) HB.out.size (by simp)))
    have hz := ho.size
    clear hkm ho
    by_cases hlt : k < m
    · have hkK : k < keep.length := by have := HKL.out; omega
      obtain ⟨b, o, hbo, hbl, hck⟩ := (HK.out.below HBW.out).at_ (k := k) hkK
      have HWF := Keep.mk (HW.out _ (List.getElem_mem hkK))
      have HT : Keep (keep.take (k + 1) = keep.take k ++ [keep[k]]) := ⟨List.take_succ_eq_append_getElem hkK⟩
      generalize keep[k] = x at *
      subst hbo
      have v0 := (VX.out.off HO.out (by simp)).cell 0 _ rfl
      have hmax : k < maxLen := by unfold maxLen; omega
      go_wp2_with (at_mapUpdate; refine wpList_mapUpdate_own _ rfl _ _ _ 65 rfl 3 4 (int_keyed Try.underlying3) Try.underlying65 (plainElem (H := Unit) Try.prog 4) (w.heap.size + 2) k (keepD (keep.take k)) rfl HKM.out hmax _ _ _ rfl rfl (keyOf_int_mk Try.underlying3 HWF.out) trueD [] (plainElem_bool Try.underlying4 true) ?_; intro w2 hown hgr; have HOW := Keep.mk hown; have HGR := Keep.mk hgr; clear hown hgr)
      go_roundw
      case rel => exact ⟨k + 1, by omega, by go_num, by unfold KM; rw [HT.out, keepD_snoc]; exact HOW.out, HO.out.trans (Off.of_grown HGR.out (by simp))⟩
      case measure => simp [intOf]; omega
    · obtain rfl : m = k := by omega
      have hT : keep.take m = keep := List.take_of_length_le (by have := HKL.out; omega)
      rw [hT] at HKM
      have OX2 := Keep.mk (OX.out.off HO.out (by simp))
      have IX2 := Keep.mk (IX.out.off HO.out (by simp))
      have VX2 := Keep.mk (VX.out.off HO.out (by simp))
      have i0 := IX2.out.cell 0 _ rfl
      have i1 := IX2.out.cell 1 _ rfl
      have i2 := IX2.out.cell 2 _ rfl
      have i3 := IX2.out.cell 3 _ rfl
      have hmf : ∀ (fn : Fn) (first cap : Array Value) (w : World), (Instr.makeFunc fn first cap).run Try.prog w = .ok (.func fn first cap) w := fun _ _ _ _ => rfl
      clear hT
      go_wp2_with fail
      refine (HF.out _ HBW.out (w.heap.size + 3) (w.heap.size + 2) m (fun Y hY => ⟨(VX2.out.below hY).cell 0 _ rfl, HKM.out.below hY⟩)).mono ?_
      rintro e w2 ⟨D, rfl, hok, hm, hb, hav⟩
      have OX3 := Keep.mk (OX2.out.below hb)
      have HB3 := Lib.hid (below_next HBW.out hb (Nat.le_refl _))
      have HD := Keep.mk hok
      have HM := Keep.mk hm
      have HAV : Keep (∀ b, b < wr.heap.size → D.Av b) := ⟨fun b hb => hav b hb trivial⟩
      clear hok hm hb hav i0 i1 i2 i3 HF
      unfold Dk.v
      have o0 := OX3.out.cell 0 _ rfl
      have o1 := OX3.out.cell 1 _ rfl
      have o2 := OX3.out.cell 2 _ rfl
      have o3 := OX3.out.cell 3 _ rfl
      have of := OX3.out.fz
      go_upto_region 8 with (fail)
      clear o0 o1 o2 o3 of
      have HO4 := Keep.mk (off_set4 w2 (w.heap.size + 1) (.slice D.a D.n D.c) (.slice D.pa D.pn D.pc) (.int .i64 D.left) (.bool D.down))
      have OX4 := Keep.mk (OX3.out.set4 (.slice D.a D.n D.c) (.slice D.pa D.pn D.pc) (.int .i64 D.left) (.bool D.down))
      generalize hw4 : (((w2.setCell ⟨w.heap.size + 1, 0, none⟩ (.slice D.a D.n D.c)).setCell ⟨w.heap.size + 1, 1, none⟩ (.slice D.pa D.pn D.pc)).setCell ⟨w.heap.size + 1, 2, none⟩ (.int .i64 D.left)).setCell ⟨w.heap.size + 1, 3, none⟩ (.bool D.down) = w4 at *
      clear hw4
      have FIN : Keep (∀ X, Off [w.heap.size + 1] w4 X → RetK w (fun _ => True) (Dv.crash d.m keep) (.returned (.agg #[.slice D.a D.n D.c, .slice D.pa D.pn D.pc, .int .i64 (-1), .bool false])) X) := ⟨fun X hX4 => by
        have hX := HO4.out.trans hX4
        have hz3 := HB3.out.size
        have hok2 := HD.out.off hX (fun b hb => HAV.out b (by simp at hb; omega))
        refine ⟨{ D with left := -1, down := false }, rfl, ⟨hok2.sec, hok2.pen⟩, ?_, HB3.out.trans (hX.below hz3 (by simp)), fun b hb _ => ?_⟩
        · have h1 := congrArg Dv.Disk.sectors HM.out
          have h2 := congrArg Dv.Disk.pending HM.out
          simp only [Dk.m, Dv.keptq_keep] at h1 h2
          simp only [Dk.m, Dv.crash, h1, h2]
        · have h := HAV.out b (by omega)
          exact ⟨h.a_, h.s_, h.p_, h.q_⟩⟩
      clear OX3 HB3 HD HO4 HM HAV
      have o0 := OX4.out.cell 0 _ rfl
      have o1 := OX4.out.cell 1 _ rfl
      have o2 := OX4.out.cell 2 _ rfl
      have o3 := OX4.out.cell 3 _ rfl
      have of := OX4.out.fz
      go_upto_region 9 with (fail)
      clear o0 o1 o2 o3 of
      have HO5 : Keep (Off [w.heap.size + 1] w4 ((w4.setCell ⟨w.heap.size + 1, 2, none⟩ (.int .i64 (-1))).setCell ⟨w.heap.size + 1, 3, none⟩ (.bool false))) := ⟨((Off.refl _ _).setCell (by simp) _).setCell (by simp) _⟩
      have OX5 := Keep.mk ((OX4.out.set (j := 2) (by simp) (.int .i64 (-1))).set (j := 3) (by simp) (.bool false))
      simp only [List.set_cons_zero, List.set_cons_succ] at OX5
      generalize hw5 : (w4.setCell ⟨w.heap.size + 1, 2, none⟩ (.int .i64 (-1))).setCell ⟨w.heap.size + 1, 3, none⟩ (.bool false) = w5 at *
      clear hw5 OX4
      have o0 := OX5.out.cell 0 _ rfl
      have o1 := OX5.out.cell 1 _ rfl
      have o2 := OX5.out.cell 2 _ rfl
      have o3 := OX5.out.cell 3 _ rfl
      have of := OX5.out.fz
      go_wp2
      refine bodyPost_ret (v := .agg #[.slice D.a D.n D.c, .slice D.pa D.pn D.pc, .int .i64 (-1), .bool false]) (by simp [results, Try.results25, go_sem, o0, o1, o2, o3]) rfl ?_
      refine FIN.out _ (HO5.out.trans ?_)
      repeat (refine Off.setCell ?_ (by simp) _)
      exact Off.refl _ _
end Go.Proofs.Ytpekbcoclmhcnaa
