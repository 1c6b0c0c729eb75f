/- WireInts, WireTexts, WireLists. -/
import Derived.Test.YtogigdikpllieaaRef02d
import Derived.Test.YtogigdikpllieaaAwake02
namespace Go.Proofs.Ytogigdikpllieaa
open Go.RowKit Go.Joins

set_option maxHeartbeats 1000000 in
theorem law_ints (A : Option Addr) (n c : Nat) (l : List UInt8) (x : Int) (w : World) (hl : RB w A n c l) (hx : V.In x) (hroom : n + 10 ≤ 140737488355328) :
    Calls Try.prog 3 #[.slice A n c, .int .i64 x] w fun e w' => e = .returned (.bool true) ∧ Below w.heap.size w w' := by
  have HX : Keep (V.In x) := ⟨hx⟩
  have H1 := Lib.hid (int_any A n c l w hl)
  have H2 := Lib.hid (rint_any A n c l w hl)
  have HL := Lib.hid hl
  generalize V.dec l = d at *
  obtain ⟨d1, d2, d3⟩ := d
  clear hl hx
  go_enter Try.func3, Try.ntmps3
  go_wp2_with fail
  refine H1.out.mono ?_
  rintro e w' ⟨rfl, rfl⟩
  go_wp2_with fail
  refine H2.out.mono ?_
  rintro e w' ⟨rfl, rfl⟩
  go_wp2_with fail
  refine (putInt_any A n c l x w HL.out HX.out hroom).mono ?_
  rintro e w1 ⟨A1, n1, c1, rfl, hr, hb⟩
  have HR1 := Lib.hid hr.rb
  have HB1 := Lib.hid hb
  clear hr hb
  go_wp2_with fail
  refine (rputInt_any A n c l x w1 (HL.out.below HB1.out) HX.out hroom).mono ?_
  rintro e w2 ⟨A2, n2, c2, rfl, hr, hb⟩
  have HR2 := Lib.hid hr.rb
  have HR12 := Lib.hid (HR1.out.below hb)
  have HB2 : Hid (Below w.heap.size w w2) := HB1.out.trans (hb.mono HB1.out.size)
  clear hr hb
  go_wp2_with fail
  refine (same2_true A1 n1 c1 A2 n2 c2 _ w2 HR12.out HR2.out).mono ?_
  rintro e w3 ⟨rfl, k, rfl⟩
  have HB3 : Hid (Below w.heap.size w (w2.drewN k)) := HB2.out.trans (below_draws _ _ _)
  generalize w2.drewN k = w3 at *
  go_wp2_with fail
  refine (awake_any _).mono ?_
  rintro e w4 ⟨rfl, hb⟩
  have HB4 : Hid (Below w.heap.size w w4) := HB3.out.trans (hb.mono HB3.out.size)
  clear hb
  go_wp2
  go_ret
  exact ⟨rfl, HB4.out⟩

set_option maxHeartbeats 1000000 in
theorem law_texts (A : Option Addr) (n c : Nat) (l : List UInt8) (s : ByteArray) (most : Int) (w : World) (hl : RB w A n c l) (hroom : n + 10 + s.size ≤ 140737488355328) :
    Calls Try.prog 4 #[.slice A n c, .string s, .int .i64 most] w fun e w' => e = .returned (.bool true) ∧ Below w.heap.size w w' := by
  have H1 := Lib.hid (text_any A n c l most w hl)
  have H2 := Lib.hid (rtext_any A n c l most w hl)
  have HL := Lib.hid hl
  generalize V.decText l most = d at *
  obtain ⟨d1, d2, d3⟩ := d
  clear hl
  go_enter Try.func4, Try.ntmps4
  go_wp2_with fail
  refine H1.out.mono ?_
  rintro e w' ⟨rfl, rfl⟩
  go_wp2_with fail
  refine H2.out.mono ?_
  rintro e w' ⟨rfl, rfl⟩
  go_wp2_with fail
  refine (putText_any A n c l s w HL.out hroom).mono ?_
  rintro e w1 ⟨A1, n1, c1, rfl, hr, hb⟩
  have HR1 := Lib.hid hr.rb
  have HB1 := Lib.hid hb
  clear hr hb
  go_wp2_with fail
  refine (rputText_any A n c l s w1 (HL.out.below HB1.out) hroom).mono ?_
  rintro e w2 ⟨A2, n2, c2, rfl, hr, hb⟩
  have HR2 := Lib.hid hr.rb
  have HR12 := Lib.hid (HR1.out.below hb)
  have HB2 : Hid (Below w.heap.size w w2) := HB1.out.trans (hb.mono HB1.out.size)
  clear hr hb
  go_wp2_with fail
  refine (same2_true A1 n1 c1 A2 n2 c2 _ w2 HR12.out HR2.out).mono ?_
  rintro e w3 ⟨rfl, k, rfl⟩
  have HB3 : Hid (Below w.heap.size w (w2.drewN k)) := HB2.out.trans (below_draws _ _ _)
  generalize w2.drewN k = w3 at *
  go_wp2_with fail
  refine (awake_any _).mono ?_
  rintro e w4 ⟨rfl, hb⟩
  have HB4 : Hid (Below w.heap.size w w4) := HB3.out.trans (hb.mono HB3.out.size)
  clear hb
  go_wp2
  go_ret
  exact ⟨rfl, HB4.out⟩

set_option maxHeartbeats 1000000 in
theorem law_lists (A : Option Addr) (n c : Nat) (l : List UInt8) (B : Option Addr) (m d : Nat) (x : List Int) (most : Int) (w : World) (hl : RB w A n c l) (hx : RI w B m d x) (hin : V.Ins x) (hroom : n + 10 + 10 * m ≤ 140737488355328) (hroom8 : n * 8 ≤ 140737488355328) :
    Calls Try.prog 5 #[.slice A n c, .slice B m d, .int .i64 most] w fun e w' => e = .returned (.bool true) ∧ Below w.heap.size w w' := by
  have H1 := Lib.hid (fun w (hl : RB w A n c l) => list_any A n c l most w hl hroom8)
  have H2 := Lib.hid (fun w (hl : RB w A n c l) => rlist_any A n c l most w hl hroom8)
  have HL := Lib.hid hl
  have HX := Lib.hid hx
  have HI : Keep (V.Ins x) := ⟨hin⟩
  generalize V.decList l most = q at *
  obtain ⟨d1, d2, d3⟩ := q
  clear hl hx hin
  go_enter Try.func5, Try.ntmps5
  go_wp2_with fail
  refine (H1.out w HL.out).mono ?_
  rintro e w1 ⟨A1, n1, c1, rfl, hr, hb⟩
  have HR1 := Lib.hid hr
  have HB1 := Lib.hid hb
  clear hr hb
  go_wp2_with fail
  refine (H2.out w1 (HL.out.below HB1.out)).mono ?_
  rintro e w2 ⟨A2, n2, c2, rfl, hr, hb⟩
  have HR2 := Lib.hid hr
  have HR12 := Lib.hid (HR1.out.below hb)
  have HB2 : Hid (Below w.heap.size w w2) := HB1.out.trans (hb.mono HB1.out.size)
  clear hr hb
  go_wp2_with fail
  refine (putList_any A n c l B m d x w2 (HL.out.below HB2.out) (HX.out.below HB2.out) HI.out hroom).mono ?_
  rintro e w3 ⟨A3, n3, c3, rfl, hr, hb⟩
  have HR3 := Lib.hid hr.rb
  have HB23 := Lib.hid hb
  have HB3 : Hid (Below w.heap.size w w3) := HB2.out.trans (hb.mono HB2.out.size)
  clear hr hb
  go_wp2_with fail
  refine (rputList_any A n c l B m d x w3 (HL.out.below HB3.out) (HX.out.below HB3.out) HI.out hroom).mono ?_
  rintro e w4 ⟨A4, n4, c4, rfl, hr, hb⟩
  have HR4 := Lib.hid hr.rb
  have HR34 := Lib.hid (HR3.out.below hb)
  have HB24 : Hid (Below w2.heap.size w2 w4) := HB23.out.trans (hb.mono HB23.out.size)
  have HB4 : Hid (Below w.heap.size w w4) := HB3.out.trans (hb.mono HB3.out.size)
  clear hr hb
  go_wp2_with fail
  refine (same2_true A3 n3 c3 A4 n4 c4 _ w4 HR34.out HR4.out).mono ?_
  rintro e w5 ⟨rfl, k, rfl⟩
  have HB5 : Hid (Below w.heap.size w (w4.drewN k)) := HB4.out.trans (below_draws _ _ _)
  have HB25 : Hid (Below w2.heap.size w2 (w4.drewN k)) := HB24.out.trans (below_draws _ _ _)
  generalize w4.drewN k = w5 at *
  go_wp2_with fail
  refine (sameInts_true A1 n1 c1 A2 n2 c2 _ w5 (HR12.out.below HB25.out) (HR2.out.below HB25.out)).mono ?_
  rintro e w6 ⟨rfl, k2, rfl⟩
  have HB6 : Hid (Below w.heap.size w (w5.drewN k2)) := HB5.out.trans (below_draws _ _ _)
  generalize w5.drewN k2 = w6 at *
  go_wp2_with fail
  refine (awake_any _).mono ?_
  rintro e w7 ⟨rfl, hb⟩
  have HB7 : Hid (Below w.heap.size w w7) := HB6.out.trans (hb.mono HB6.out.size)
  clear hb
  go_wp2
  go_ret
  exact ⟨rfl, HB7.out⟩
end Go.Proofs.Ytogigdikpllieaa
