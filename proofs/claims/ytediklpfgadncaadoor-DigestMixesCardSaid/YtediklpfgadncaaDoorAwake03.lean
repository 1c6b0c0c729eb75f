/- The examples of the chapter ('awake'). -/
import Derived.Test.YtediklpfgadncaaDoorHex
import Derived.Test.YtediklpfgadncaaDoorOpen
import Derived.Lib.SlBytesConst
namespace Go.Proofs.YtediklpfgadncaaDoor
open Go.RowKit Go.Joins

theorem ex_crc : M.crc [49, 50, 51, 52, 53, 54, 55, 56, 57] = 0xcbf43926#32 := by decide +kernel
theorem ex_fnv : M.fnv [97] = 0xaf63dc4c8601ec8c#64 := by decide +kernel
theorem ex_hex : M.hexL 255 = [48, 48, 48, 48, 48, 48, 48, 48, 48, 48, 48, 48, 48, 48, 102, 102] := by decide +kernel
theorem ex_sealed : M.sealed [49, 50, 51, 52, 53, 54, 55, 56, 57] = [49, 50, 51, 52, 53, 54, 55, 56, 57, 0xcb, 0xf4, 0x39, 0x26] := by decide +kernel
theorem ex_five : ¬ M.be4 (M.crc (([0, 0, 0, 0, 0] : List UInt8).take (5 - 4))) = ([0, 0, 0, 0, 0] : List UInt8).drop (5 - 4) := by decide +kernel

set_option maxRecDepth 100000 in
theorem awake_any (w : World) (ht : Tab w) : Calls Tryd.prog 14 #[] w fun e w' => e = .returned (.bool true) ∧ Below w.heap.size w w' := by
  have HT := Lib.hid ht
  clear ht
  have kc := fun (w : World) (C : Array Value) (n c : Nat) => Lib.run_convert_bytes_const (P := Tryd.prog) w 22 5 C n c Tryd.underlying22 Tryd.underlying5
  have r9 : ∀ W : World, RB (W.alloc (.cells #[.int .u8 49, .int .u8 50, .int .u8 51, .int .u8 52, .int .u8 53, .int .u8 54, .int .u8 55, .int .u8 56, .int .u8 57] 5 (9, 10))) (some ⟨W.heap.size, 0, none⟩) 9 9 [49, 50, 51, 52, 53, 54, 55, 56, 57] := fun W => rb_lit W [49, 50, 51, 52, 53, 54, 55, 56, 57] _ _ (by decide)
  have r5 : ∀ W : World, RB (W.alloc (.cells #[.int .u8 0, .int .u8 0, .int .u8 0, .int .u8 0, .int .u8 0] 5)) (some ⟨W.heap.size, 0, none⟩) 5 5 [0, 0, 0, 0, 0] := fun W => rb_lit W [0, 0, 0, 0, 0] _ _ (by decide)
  have r1 : ∀ W : World, RB (W.alloc (.cells #[.int .u8 97] 5 (1, 2))) (some ⟨W.heap.size, 0, none⟩) 1 1 [97] := fun W => rb_lit W [97] _ _ (by decide)
  have R9 := Lib.hid r9
  have R5 := Lib.hid r5
  have R1 := Lib.hid r1
  clear r9 r5 r1
  go_enter Tryd.func14, Tryd.ntmps14
  go_wp2_with fail
  have f1 := R9.out w
  have f2 : Below w.heap.size w (w.alloc (.cells #[.int .u8 49, .int .u8 50, .int .u8 51, .int .u8 52, .int .u8 53, .int .u8 54, .int .u8 55, .int .u8 56, .int .u8 57] 5 (9, 10))) := below_alloc1 _ _
  generalize w.alloc _ = W1 at *
  refine (seal_any _ 9 9 [49, 50, 51, 52, 53, 54, 55, 56, 57] _ f1 (HT.out.below f2) (by omega)).mono ?_
  rintro e w1 ⟨A1, n1, c1, rfl, hr1, hb1⟩
  have HB1 : Hid (Below w.heap.size w w1) := f2.trans (hb1.mono f2.size)
  rw [ex_sealed] at hr1
  have hl1 : 13 = n1 := hr1.len
  subst hl1
  have HR1 := Lib.hid hr1
  clear hr1 hb1 f1 f2
  go_wp2_with fail
  have f1 := R5.out w1
  have f2 : Below w.heap.size w (w1.alloc (.cells #[.int .u8 0, .int .u8 0, .int .u8 0, .int .u8 0, .int .u8 0] 5)) := HB1.out.alloc HB1.out.size _
  have f3 := HR1.out.below (below_alloc1 w1 (.cells #[.int .u8 0, .int .u8 0, .int .u8 0, .int .u8 0, .int .u8 0] 5))
  generalize w1.alloc _ = W2 at *
  have ho := open_long _ 5 5 [0, 0, 0, 0, 0] _ f1 (HT.out.below f2) (by omega) (by omega)
  rw [if_neg ex_five] at ho
  refine ho.mono ?_
  rintro e w2 ⟨A2, n2, c2, rfl, hr2, hb2⟩
  have HB2 : Hid (Below w.heap.size w w2) := f2.trans (hb2.mono f2.size)
  have HR2 := Lib.hid (f3.below hb2)
  clear ho hr2 hb2 f1 f2 f3
  go_wp2_with fail
  refine (open_short _ 3 3 _ (by omega)).mono ?_
  rintro e w3 ⟨A3, n3, c3, rfl, hr3, hb3⟩
  have hbx : Below w2.heap.size w2 w3 := (below_alloc1 _ _).trans (hb3.mono (by simp))
  have HB3 : Hid (Below w.heap.size w w3) := HB2.out.trans (hbx.mono HB2.out.size)
  have HR3 := Lib.hid (HR2.out.below hbx)
  clear hr3 hb3 hbx
  go_wp2_with fail
  have f1 := R9.out w3
  have f2 : Below w3.heap.size w3 (w3.alloc (.cells #[.int .u8 49, .int .u8 50, .int .u8 51, .int .u8 52, .int .u8 53, .int .u8 54, .int .u8 55, .int .u8 56, .int .u8 57] 5 (9, 10))) := below_alloc1 _ _
  generalize w3.alloc _ = W4 at *
  have HB4 : Hid (Below w.heap.size w W4) := HB3.out.trans (f2.mono HB3.out.size)
  have HR4 := Lib.hid (HR3.out.below f2)
  have hc := crc_any _ 9 9 [49, 50, 51, 52, 53, 54, 55, 56, 57] _ f1 (HT.out.below HB4.out)
  rw [show w32 (M.crc [49, 50, 51, 52, 53, 54, 55, 56, 57]) = 3421780262 by rw [ex_crc]; decide] at hc
  refine hc.mono ?_
  rintro e w' ⟨rfl, rfl⟩
  clear hc f1 f2
  go_wp2_with fail
  have f1 := R1.out W4
  have f2 : Below W4.heap.size W4 (W4.alloc (.cells #[.int .u8 97] 5 (1, 2))) := below_alloc1 _ _
  generalize W4.alloc _ = W5 at *
  have HB5 : Hid (Below w.heap.size w W5) := HB4.out.trans (f2.mono HB4.out.size)
  have HR5 := Lib.hid (HR4.out.below f2)
  have hc := fnv_any _ 1 1 [97] _ f1
  rw [show w64 (M.fnv [97]) = 12638187200555641996 by rw [ex_fnv]; decide] at hc
  refine hc.mono ?_
  rintro e w' ⟨rfl, rfl⟩
  clear hc f1 f2
  go_wp2_with fail
  have hc := hex_any 255 W5 (by omega)
  rw [ex_hex] at hc
  refine hc.mono ?_
  rintro e w6 ⟨rfl, hb⟩
  have hr := HR5.out.below hb
  obtain ⟨b, o, rfl, _, h9⟩ := hr.at_ (k := 9) (by decide)
  obtain ⟨b', o', he, _, h12⟩ := hr.at_ (k := 12) (by decide)
  obtain ⟨rfl, rfl⟩ : b = b' ∧ o = o' := by injection he with he; injection he with h1 h2; exact ⟨h1, h2⟩
  have HB6 : Hid (Below w.heap.size w w6) := HB5.out.trans (hb.mono HB5.out.size)
  clear hc hb hr he
  change w6.cell? ⟨b, o + 9, none⟩ = some (.int .u8 203) at h9
  change w6.cell? ⟨b, o + 12, none⟩ = some (.int .u8 38) at h12
  go_wp2
  go_ret
  exact ⟨rfl, HB6.out⟩
end Go.Proofs.YtediklpfgadncaaDoor
