/- JournalOpens: for every input the law returns true, and each argument reads afterwards as it read before. Conditions: the package variable digest.steps starts as the text lays it (tied by the card). -/
import Derived.Test.YtjficpdfofmcnaaDoorBed12
import Derived.Test.YtjficpdfofmcnaaDoorBed3
import Derived.Test.YtjficpdfofmcnaaDoorBed8
import Derived.Deep.DeepHandedRow
/- JournalOpens. -/
namespace Go.Proofs.YtjficpdfofmcnaaDoor
open Go.RowKit Go.Joins

set_option maxHeartbeats 8000000 in
set_option maxRecDepth 100000 in
theorem law_opens (d : Dk) (w : World) (h : d.Ok w) (ht : Tab w) (hLo : -9223372036854775808 ≤ d.left) (hHi : d.left ≤ 9223372036854775807) :
    Calls Tryd.prog 5 #[.agg #[.slice d.a d.n d.c, .slice d.pa d.pn d.pc, .int .i64 d.left, .bool d.down]] w fun e w' => e = .returned (.bool true) ∧ Below w.heap.size w w' := by
  have HBX : Keep (BxK (w.alloc (.cells #[.slice d.a d.n d.c, .slice d.pa d.pn d.pc, .int .i64 d.left, .bool d.down] 25)) w.heap.size d) := ⟨BxK.new h⟩
  have HX0 : Hid (Below w.heap.size w (w.alloc (.cells #[.slice d.a d.n d.c, .slice d.pa d.pn d.pc, .int .i64 d.left, .bool d.down] 25))) := below_alloc1 _ _
  have HT : Keep (Tab (w.alloc (.cells #[.slice d.a d.n d.c, .slice d.pa d.pn d.pc, .int .i64 d.left, .bool d.down] 25))) := ⟨ht.below (below_alloc1 _ _)⟩
  have HWS : Keep (Dv.few d.m 40 = true → WS 40 (d.m, 0)) := ⟨few_ws hLo hHi⟩
  clear h ht hLo hHi
  cases hf : Dv.few d.m 40
  · have HF := Keep.mk hf
    clear hf
    go_enter Tryd.func5, Tryd.ntmps5
    go_upto_region 1 with (fail)
    generalize e0 : w.alloc (.cells #[.slice d.a d.n d.c, .slice d.pa d.pn d.pc, .int .i64 d.left, .bool d.down] 25) = w1 at *
    clear e0
    obtain ⟨b0, hb0⟩ : ∃ b, b = w.heap.size := ⟨_, rfl⟩
    rw [← hb0] at HBX ⊢
    clear hb0
    obtain ⟨c2, c3, c4, c5⟩ := HBX.out.cs
    go_wp2_with fail
    refine (small_any d _ HBX.out.ok).mono ?_
    rw [HF.out]
    rintro e w6 ⟨rfl, hb⟩
    have H7 := Keep.mk (HBX.out.below hb)
    have H8 := Keep.mk (HT.out.below hb)
    have B9 := Lib.hid (below_next HX0.out hb (Nat.le_refl _))
    clear c2 c3 c4 c5
    clear HBX HT HX0
    clear hb
    go_wp2_with fail
    refine (awake_any _ H8.out).mono ?_
    rintro e w10 ⟨rfl, hb⟩
    have H11 := Keep.mk (H7.out.below hb)
    have H12 := Keep.mk (H8.out.below hb)
    have B13 := Lib.hid (below_next B9.out hb (Nat.le_refl _))
    clear H7 H8 B9
    clear hb
    go_wp2
    go_ret
    exact ⟨rfl, B13.out⟩
  · have HF := Keep.mk hf
    have HW := Keep.mk (HWS.out hf)
    clear hf HWS
    go_enter Tryd.func5, Tryd.ntmps5
    go_upto_region 1 with (fail)
    generalize e0 : w.alloc (.cells #[.slice d.a d.n d.c, .slice d.pa d.pn d.pc, .int .i64 d.left, .bool d.down] 25) = w1 at *
    clear e0
    obtain ⟨b0, hb0⟩ : ∃ b, b = w.heap.size := ⟨_, rfl⟩
    rw [← hb0] at HBX ⊢
    clear hb0
    obtain ⟨c2, c3, c4, c5⟩ := HBX.out.cs
    go_wp2_with fail
    refine (small_any d _ HBX.out.ok).mono ?_
    rw [HF.out]
    rintro e w6 ⟨rfl, hb⟩
    have H7 := Keep.mk (HBX.out.below hb)
    have H8 := Keep.mk (HT.out.below hb)
    have B9 := Lib.hid (below_next HX0.out hb (Nat.le_refl _))
    clear c2 c3 c4 c5
    clear HBX HT HX0
    clear hb
    obtain ⟨c10, c11, c12, c13⟩ := H7.out.cs
    go_wp2_with fail
    refine (open_any d 40 _ H7.out.ok HW.out.fit (by decide) H8.out).mono ?_
    rintro e w14 ⟨J, k, L, rfl, hok, hb, hsc, hav⟩
    have HSC := Keep.mk hsc
    clear hsc
    have hal := below_alloc1 w14 (.cells #[.slice J.d.a J.d.n J.d.c, .slice J.d.pa J.d.pn J.d.pc, .int .i64 J.d.left, .bool J.d.down, .int .i64 J.e, .int .i64 J.h, .int .i64 J.c] 32)
    have N15 : Keep (BJ (w14.alloc (.cells #[.slice J.d.a J.d.n J.d.c, .slice J.d.pa J.d.pn J.d.pc, .int .i64 J.d.left, .bool J.d.down, .int .i64 J.e, .int .i64 J.h, .int .i64 J.c] 32)) w14.heap.size J J.m) := ⟨BJ.new hok rfl⟩
    have H17 := Keep.mk ((H7.out.below hb).below hal)
    have H18 := Keep.mk ((H8.out.below hb).below hal)
    have B19 := Lib.hid (below_next (below_next B9.out hb (Nat.le_refl _)) hal (Nat.le_refl _))
    clear c10 c11 c12 c13
    clear H7 H8 B9
    clear hb hal hok hav
    go_upto_region 4 with (fail)
    generalize e21 : w14.alloc (.cells #[.slice J.d.a J.d.n J.d.c, .slice J.d.pa J.d.pn J.d.pc, .int .i64 J.d.left, .bool J.d.down, .int .i64 J.e, .int .i64 J.h, .int .i64 J.c] 32) = w20 at *
    clear e21
    obtain ⟨b16, hbk⟩ : ∃ b, b = w14.heap.size := ⟨_, rfl⟩
    rw [← hbk] at N15 ⊢
    clear hbk
    obtain ⟨c22, c23, c24, c25⟩ := H17.out.cs
    go_wp2_with fail
    refine (ropen_s H17.out.ok rfl HW.out.fit HSC.out).mono ?_
    rintro e w26 ⟨Z, rfl, hok, hm, hb, hav⟩
    have hal := below_alloc1 w26 (.cells #[.slice Z.d.a Z.d.n Z.d.c, .slice Z.d.pa Z.d.pn Z.d.pc, .int .i64 Z.d.left, .bool Z.d.down, .int .i64 Z.e, .int .i64 Z.h, .int .i64 Z.c] 32)
    have N27 : Keep (BJ (w26.alloc (.cells #[.slice Z.d.a Z.d.n Z.d.c, .slice Z.d.pa Z.d.pn Z.d.pc, .int .i64 Z.d.left, .bool Z.d.down, .int .i64 Z.e, .int .i64 Z.h, .int .i64 Z.c] 32)) w26.heap.size Z J.m) := ⟨BJ.new hok hm⟩
    have H29 := Keep.mk ((H17.out.below hb).below hal)
    have H30 := Keep.mk ((H18.out.below hb).below hal)
    have H31 := Keep.mk ((N15.out.below hb).below hal)
    have B32 := Lib.hid (below_next (below_next B19.out hb (Nat.le_refl _)) hal (Nat.le_refl _))
    clear c22 c23 c24 c25
    clear H17 H18 N15 B19
    clear hb hal hok hav
    try clear hm
    go_upto_region 5 with (fail)
    generalize e34 : w26.alloc (.cells #[.slice Z.d.a Z.d.n Z.d.c, .slice Z.d.pa Z.d.pn Z.d.pc, .int .i64 Z.d.left, .bool Z.d.down, .int .i64 Z.e, .int .i64 Z.h, .int .i64 Z.c] 32) = w33 at *
    clear e34
    obtain ⟨b28, hbk⟩ : ∃ b, b = w26.heap.size := ⟨_, rfl⟩
    rw [← hbk] at N27 ⊢
    clear hbk
    obtain ⟨c35, c36, c37, c38⟩ := H29.out.cs
    go_wp2_with fail
    refine (records_s (J := ⟨d, 0, 0, 0⟩) H29.out.ok rfl HW.out.fit (by decide) H30.out HSC.out).mono ?_
    rintro e w39 ⟨A1, n1, c1, S1, rfl, hrs, hb, hS⟩
    have HS1 := Keep.mk hS
    clear hS
    have N40 := Keep.mk ((hrs))
    have H41 := Keep.mk (H29.out.below hb)
    have H42 := Keep.mk (H30.out.below hb)
    have H43 := Keep.mk (H31.out.below hb)
    have H44 := Keep.mk (N27.out.below hb)
    have B45 := Lib.hid (below_next B32.out hb (Nat.le_refl _))
    clear c35 c36 c37 c38
    clear H29 H30 H31 N27 B32
    clear hb
    clear hrs
    obtain ⟨c46, c47, c48, c49⟩ := H41.out.cs
    go_wp2_with fail
    refine (rrecords_s (J := ⟨d, 0, 0, 0⟩) H41.out.ok rfl HW.out.fit HSC.out).mono ?_
    rintro e w50 ⟨A2, n2, c2, S2, rfl, hrs, hb, hS⟩
    have HS2 := Keep.mk hS
    clear hS
    have N51 := Keep.mk ((hrs))
    have H52 := Keep.mk (H41.out.below hb)
    have H53 := Keep.mk (H42.out.below hb)
    have H54 := Keep.mk (H43.out.below hb)
    have H55 := Keep.mk (H44.out.below hb)
    have H56 := Keep.mk (N40.out.below hb)
    have B57 := Lib.hid (below_next B45.out hb (Nat.le_refl _))
    clear c46 c47 c48 c49
    clear H41 H42 H43 H44 N40 B45
    clear hb
    clear hrs
    obtain ⟨c58, c59, c60, c61, c62, c63, c64⟩ := H54.out.bx.cs
    obtain ⟨c65, c66, c67, c68, c69, c70, c71⟩ := H55.out.bx.cs
    go_wp2_with fail
    refine (rjsame_bj H54.out H55.out).mono ?_
    rintro e w72 ⟨rfl, hb⟩
    have H73 := Keep.mk (H52.out.below hb)
    have H74 := Keep.mk (H53.out.below hb)
    have H75 := Keep.mk (H54.out.below hb)
    have H76 := Keep.mk (H55.out.below hb)
    have H77 := Keep.mk (H56.out.below hb)
    have H78 := Keep.mk (N51.out.below hb)
    have B79 := Lib.hid (below_next B57.out hb (Nat.le_refl _))
    clear c58 c59 c60 c61 c62 c63 c64 c65 c66 c67 c68 c69 c70 c71
    clear H52 H53 H54 H55 H56 N51 B57
    clear hb
    go_wp2_with fail
    refine (ss_true H77.out H78.out (HS1.out.trans HS2.out.symm)).mono ?_
    rintro e w80 ⟨rfl, hb⟩
    have H81 := Keep.mk (H73.out.below hb)
    have H82 := Keep.mk (H74.out.below hb)
    have H83 := Keep.mk (H75.out.below hb)
    have H84 := Keep.mk (H76.out.below hb)
    have H85 := Keep.mk (H77.out.below hb)
    have H86 := Keep.mk (H78.out.below hb)
    have B87 := Lib.hid (below_next B79.out hb (Nat.le_refl _))
    clear H73 H74 H75 H76 H77 H78 B79
    clear hb
    go_wp2_with fail
    refine (awake_any _ H82.out).mono ?_
    rintro e w88 ⟨rfl, hb⟩
    have H89 := Keep.mk (H81.out.below hb)
    have H90 := Keep.mk (H82.out.below hb)
    have H91 := Keep.mk (H83.out.below hb)
    have H92 := Keep.mk (H84.out.below hb)
    have H93 := Keep.mk (H85.out.below hb)
    have H94 := Keep.mk (H86.out.below hb)
    have B95 := Lib.hid (below_next B87.out hb (Nat.le_refl _))
    clear H81 H82 H83 H84 H85 H86 B87
    clear hb
    go_wp2
    go_ret
    exact ⟨rfl, B95.out⟩
end Go.Proofs.YtjficpdfofmcnaaDoor

/- JournalOpens: for every input the law returns true, and each argument reads afterwards as it read before. Conditions: the package variable digest.steps starts as the text lays it (tied by the card). -/
namespace Go.Proofs.YtjficpdfofmcnaaDoor.journalOpensDone
open Go.ChangeShapes Go.WideShapes Go.ChangeAt Go.RowKit Go.Joins
open Go.ChangeMaps (open_string shut_string)
set_option linter.unusedVariables false

set_option maxRecDepth 100000 in
theorem contract (H : Type) (enc : TypeId × Value → H) (W : World) (base : Nat) (args : Array Value) (ds gs : List (DataW H)) (before : List MemPlace)
    (hval : ∀ (j : Nat) t v, Tryd.f5.params[j]? = some t → args[j]? = some v → Value.okWide Tryd.prog W .any base t v)
    (hW : DataW.Whole enc Tryd.prog Tryd.f5.params.toList Rows.journalOpensSpec.vars false W args.toList ds gs before)
    (hsz0 : (DataW.weightsEach Tryd.prog (Tryd.f5.params.toList ++ (OpenSpec.ofChange Rows.journalOpensSpec).bare.plain.varTypes Tryd.prog) (ds ++ gs)).all (· ≤ reachBytes) = true) (hL : laidMetH Tryd.prog Rows.journalOpensRow.laid W) :
    Calls Tryd.prog 5 args W fun e W' => ∃ v, e = .returned v ∧ Rows.journalOpensSpec.post enc Tryd.prog Tryd.f5 false true false false W args v W' := by
  have hT := tab_of hL
  have hsz : (DataW.weightsEach Tryd.prog (Tryd.f5.params.toList ++ []) (ds ++ gs)).all (· ≤ reachBytes) = true := hsz0
  have hW' := hW
  obtain ⟨p, q, hA0, hV, rfl, hfz, hnd⟩ := hW
  have hA : DataW.TrodAll enc Tryd.prog W 0 (fun _ => true) true Tryd.f5.params.toList args.toList ds p := hA0
  rw [Tryd.params5] at hA hval hsz
  obtain ⟨v0, vs0, d0, ds0, p0, q0, hargs, rfl, rfl, h0, t0⟩ := trodAll_cons hA
  obtain ⟨rfl, rfl, rfl⟩ := trodAll_nil t0
  obtain rfl : args = #[v0] := by cases args; simp_all
  obtain ⟨rfl, rfl⟩ := trodVars_none hV
  have k0 := h0
  have lt0 : ∀ x ∈ p0, x.block < W.heap.size := by obtain ⟨m, hm⟩ := k0; exact DataW.trod_lt m _ _ _ hm
  obtain ⟨o0, rfl, r0, f0⟩ := open_disk (hval 0 25 v0 rfl rfl) h0
  have s0 := bounds_i64 f0
  clear hA0 hsz0
  refine (law_opens o0 W r0 hT s0.1 s0.2).mono fun e W' ⟨he, bel⟩ => ?_
  subst he
  exact ⟨_, rfl, _, _, _, [], _, [], hW', trodAll_mk1 (shut_bool Tryd.underlying4 _), (trodAll_cons_mk (Below.trod laidOut (by kernel_rfl) (of_decide_eq_true (by kernel_rfl)) k0 bel lt0) (trodAll_mk0)), rfl, bel.frame _, fun h => by cases h⟩

theorem laid_met (os : Os) : laidMet Tryd.prog Rows.journalOpensRow.laid ((laidWorld os).forCall (fun _ _ => 0) ⟨#[], #[.agg #[.slice none 0 0, .slice none 0 0, .int .i64 0, .bool false]], []⟩).memory :=
  laidMet_of_run' 8 (by kernel_rfl) (by kernel_rfl)
theorem reads (os : Os) {H : Type} (enc : TypeId × Value → H) : ∃ places, DataW.whole enc Tryd.prog ((laidWorld os).forCall (fun _ _ => 0) ⟨#[], #[.agg #[.slice none 0 0, .slice none 0 0, .int .i64 0, .bool false]], []⟩).memory Tryd.f5.params.toList Rows.journalOpensSpec.vars false (#[.agg #[.slice none 0 0, .slice none 0 0, .int .i64 0, .bool false]] : Array Value).toList 8 = some ([.agg [.nil, .nil, .lit (.int .i64 0), .lit (.bool false)]], [], places) :=
  ⟨[], by kernel_rfl⟩
set_option maxRecDepth 100000 in
theorem lifted (os : Os) (started : os.Started) (H : Type) (enc : TypeId × Value → H) (F : Stop.Interp) :
    ReturnsInHanded {} Tryd.checked os 5 .any ((OpenSpec.ofChange Rows.journalOpensSpec).preRow enc Tryd.prog Tryd.f5 Rows.journalOpensRow.domain false Rows.journalOpensRow.laid) (((OpenSpec.ofChange Rows.journalOpensSpec).at F).post enc Tryd.prog Tryd.f5 false true false false) := by
  obtain ⟨places, hx⟩ := reads os enc
  refine returnsInHanded_of_row (C := Tryd.checked) (s := OpenSpec.ofChange Rows.journalOpensSpec) own started (by kernel_rfl) Tryd.func5
    (witness_row_at (enc := enc) (C := Tryd.checked) false (laidWorld os) #[.agg #[.slice none 0 0, .slice none 0 0, .int .i64 0, .bool false]] rfl (by kernel_rfl) (by kernel_rfl) (by kernel_rfl)
      (OpenSpec.preRow_of_cond 8 hx (by kernel_rfl) (fun k hk => by cases hk) (by kernel_rfl) (laid_met os))) ?_
  intro W base args ds gs before hval hW _ _ hsz hL _ _
  exact contract H enc W base args ds gs before hval hW hsz hL

theorem said : Rows.JournalOpensSaid :=
  OpenClaim.holds_of_cond 5 Tryd.f5 rfl rfl rfl rfl rfl rfl rfl ⟨rfl, rfl, rfl, rfl, rfl⟩ rfl rfl rfl rfl rfl (by kernel_rfl) Tryd.func5 (by kernel_rfl)
    (of_decide_eq_true (by kernel_rfl)) (by unfold Func.isWrapper; first | (rw [if_pos (by decide +kernel)]; kernel_rfl) | (rw [if_neg (by decide +kernel)]; exact ⟨rfl, rfl⟩))
    (fun os started H enc _ F => by rw [OpenClaim.pre_eq_preRow]; exact lifted os started H enc F)
theorem plain (f : FuncId) (fn : Func) (hf : Tryd.pinned.checked.prog.funcNamed "mapsheets/mapsheetslaw25.JournalOpens" = some f) (hfn : Tryd.pinned.checked.prog.funcs[f]? = some fn) :
    false = Tryd.pinned.checked.prog.looks [] ∧ ∀ (j : Nat) t, fn.params[j]? = some t → Tryd.pinned.checked.prog.wantsStandIn t = false := by
  obtain rfl : f = 5 := Option.some.inj ((show Tryd.prog.funcNamed "mapsheets/mapsheetslaw25.JournalOpens" = some 5 by kernel_rfl).symm.trans hf) |>.symm
  obtain rfl : fn = Tryd.f5 := (Option.some.inj (Tryd.func5.symm.trans hfn)).symm
  refine ⟨by kernel_rfl, fun j t ht => ?_⟩
  rw [Tryd.params5] at ht
  have hm := Array.mem_of_getElem? ht
  simp only [List.mem_toArray, List.mem_cons, List.not_mem_nil, or_false] at hm
  rcases hm with rfl
  · exact (show Tryd.prog.wantsStandIn 25 = false by kernel_rfl)
end Go.Proofs.YtjficpdfofmcnaaDoor.journalOpensDone
namespace Go.Proofs.YtjficpdfofmcnaaDoor
/-- THE STATEMENT -/
theorem journalOpens_proved : Rows.JournalOpensCardSaid :=
  Claim7.holds_tied_plain_at .later [] _ _ _ _ journalOpensDone.said (fun _ h => by cases h) (by kernel_rfl) (fun _ h => by cases h) journalOpens_row_tie rfl ⟨rfl, rfl⟩ (by kernel_rfl) rfl journalOpensDone.plain (by kernel_rfl)
#print axioms journalOpens_proved
end Go.Proofs.YtjficpdfofmcnaaDoor
