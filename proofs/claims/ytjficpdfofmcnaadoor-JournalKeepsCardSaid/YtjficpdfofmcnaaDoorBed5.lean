/- The reference of the device. -/
import Derived.Test.YtjficpdfofmcnaaDoorBed4
import Derived.Deep.QuietTactic
import Derived.BigQuiet
import Derived.Deep.RegionHeld3
import Derived.Deep.CutRange
import Derived.Test.YtjficpdfofmcnaaDoorBed1
/- The reference's own, there, SameBytes, SameSectors, Same, Few. -/
namespace Go.Proofs.YtjficpdfofmcnaaDoor
open Go.RowKit Go.Joins

theorem quiet_add {P : Program} {f : FuncId} {args : Array Value} {w : World} {a n : Nat} {v : Value}
    (h : Calls P f args (w.drewN (a + n)) fun e w' => e = .returned v ∧ ∃ m, w' = (w.drewN (a + n)).drewN m) :
    Calls P f args (w.drewN (a + n)) fun e w'' => e = .returned v ∧ ∃ m, w'' = w.drewN (a + m) :=
  h.mono fun _ _ ⟨he, m, hm⟩ => ⟨he, n + m, by rw [hm, World.drewN_drewN, Nat.add_assoc]⟩

/-- mapsheetsref24.SameBytes -/
theorem sb_any (A : Option Addr) (n c : Nat) (l : List UInt8) (B : Option Addr) (m d : Nat) (l' : List UInt8) (w : World) (hl : RB w A n c l) (hl' : RB w B m d l') :
    Calls Tryd.prog 29 #[.slice A n c, .slice B m d] w fun e w' => e = .returned (.bool (decide (l = l'))) ∧ ∃ k, w' = w.drewN k := by
  have hlen := hl.len
  have hlen' := hl'.len
  have hbig := Nat.le_trans hl.cap hl.big
  unfold maxLen at hbig
  by_cases hnm : n = m
  · subst hnm
    have h0 : ((n : Int) != (n : Int)) = false := by simp
    have HL := Lib.hid hl
    have HL' := Lib.hid hl'
    clear hl hl'
    go_enter Tryd.func29, Tryd.ntmps29
    go_wp2
    go_loopw [5] (fun i wr => ∃ k q : Nat, k ≤ n ∧ i = .int .i64 k ∧ l.take k = l'.take k ∧ wr = w.drewN q) (fun i _ => n - (intOf i).toNat)
    case atStart => exact ⟨0, 0, Nat.zero_le _, rfl, by simp, rfl⟩
    case round =>
      obtain ⟨k, q, hk, rfl, heq, rfl⟩ := hrel
      have HE := Lib.hid heq
      clear heq
      by_cases hlt : k < n
      · obtain ⟨b, o, rfl, _, hck⟩ := HL.out.at_ (k := k) (by omega)
        obtain ⟨b', o', rfl, _, hck'⟩ := HL'.out.at_ (k := k) (by omega)
        by_cases hx : l[k] = l'[k]
        · have h1 : ((l[k].toNat : Int) != (l'[k].toNat : Int)) = false := by simp [hx]
          have HX := Lib.hid hx
          clear hx
          go_wp2
          go_quiet (fail)
          go_wp2
          go_roundw
          case rel =>
            refine ⟨k + 1, _, by omega, by go_num, ?_, rfl⟩
            rw [List.take_succ_eq_append_getElem (by omega), List.take_succ_eq_append_getElem (by omega), HE.out, HX.out]
          case measure => simp [intOf]; omega
        · have h1 : ((l[k].toNat : Int) != (l'[k].toNat : Int)) = true := by
            simp only [bne_iff_ne, ne_eq]
            intro h
            exact hx (UInt8.toNat_inj.1 (by omega))
          have HX : Hid (decide (l = l') = false) := by
            refine decide_eq_false fun h => hx ?_
            subst h
            rfl
          clear hx
          go_wp2
          go_quiet (fail)
          go_wp2
          go_ret
          exact ⟨by rw [HX.out]; rfl, _, by rw [World.drewN_drewN]⟩
      · have HX : Hid (decide (l = l') = true) := by
          have heq := HE.out
          rw [List.take_of_length_le (by omega), List.take_of_length_le (by omega)] at heq
          exact decide_eq_true heq
        go_wp2
        go_ret
        exact ⟨by rw [HX.out]; rfl, _, rfl⟩
  · have h0 : ((n : Int) != (m : Int)) = true := by simp; omega
    have HX : Hid (decide (l = l') = false) := by
      refine decide_eq_false fun h => hnm ?_
      rw [← hlen, ← hlen', h]
    go_enter Tryd.func29, Tryd.ntmps29
    go_wp2
    go_ret
    exact ⟨by rw [HX.out]; rfl, 0, rfl⟩

/-- The same, where the two are known to be equal. -/
theorem sb_true (A : Option Addr) (n c : Nat) (B : Option Addr) (m d : Nat) (l : List UInt8) (w : World) (hl : RB w A n c l) (hl' : RB w B m d l) :
    Calls Tryd.prog 29 #[.slice A n c, .slice B m d] w fun e w' => e = .returned (.bool true) ∧ ∃ k, w' = w.drewN k :=
  (sb_any A n c l B m d l w hl hl').mono fun _ _ ⟨he, hw⟩ => ⟨by simpa using he, hw⟩

/-- own -/
theorem own_any (A : Option Addr) (n c : Nat) (l : List UInt8) (w : World) (hl : RB w A n c l) (hroom : n ≤ 140737488355328) : Calls Tryd.prog 73 #[.slice A n c] w (RetBF w l) := by
  have HL := Lib.hid hl
  clear hl
  go_enter Tryd.func73, Tryd.ntmps73
  go_wp2_with (at_builtin; refine wpList_append_app _ rfl (.tmp 3) (.tmp 4) 26 rfl w.heap.size 5 (.int .u8 0) 1 1 Tryd.underlying26 u8_info rfl (by decide) (by decide) (.slice (some ⟨w.heap.size, 0, none⟩) 0 0) 0 [] rfl (tgt_empty w w.heap.size 5 5 1) _ n c (l.map bv) rfl (Rd.below HL.out (below_alloc1 _ _)) (bv_one l) (by omega) (by simp) ?_; intro A' c' w2 ha; have HA := Keep.mk ha; clear ha)
  go_ret
  refine ⟨A', n, c', rfl, ?_, fun a ha => ?_, (below_alloc1 _ _).trans HA.out.below⟩
  · obtain ⟨A2, c2, e, hr⟩ := HA.out.tgt.rd
    injection e with e1 _ e3
    subst e1 e3
    simpa [RB] using hr
  · rcases HA.out.at_ a ha with h | h
    · have h2 : w.heap.size = a.block := by simpa [Value.ownBlock] using h
      omega
    · have h2 : w.heap.size + 1 ≤ a.block := by simpa using h.1
      omega

/-- there -/
theorem there_any (A : Option Addr) (n c : Nat) (pA : Option Addr) (pn pc : Nat) (left : Int) (down : Bool) (s : Int) (w : World) :
    Calls Tryd.prog 70 #[.agg #[.slice A n c, .slice pA pn pc, .int .i64 left, .bool down], .int .i64 s] w fun e w' => e = .returned (.bool (Dv.has n s)) ∧ Below w.heap.size w w' := by
  by_cases h0 : 0 ≤ s
  · have h1 : decide ((0 : Int) ≤ s) = true := decide_eq_true h0
    by_cases h2 : s < (n : Int)
    · have h3 : decide (s < (n : Int)) = true := decide_eq_true h2
      have HX : Keep (Dv.has n s = true) := ⟨decide_eq_true ⟨h0, h2⟩⟩
      go_enter Tryd.func70, Tryd.ntmps70
      go_wp2
      go_ret
      exact ⟨by rw [HX.out]; rfl, below_alloc1 _ _⟩
    · have h3 : decide (s < (n : Int)) = false := decide_eq_false h2
      have HX : Keep (Dv.has n s = false) := ⟨decide_eq_false fun h => h2 h.2⟩
      go_enter Tryd.func70, Tryd.ntmps70
      go_wp2
      go_ret
      exact ⟨by rw [HX.out]; rfl, below_alloc1 _ _⟩
  · have h1 : decide ((0 : Int) ≤ s) = false := decide_eq_false h0
    have HX : Keep (Dv.has n s = false) := ⟨decide_eq_false fun h => h0 h.1⟩
    go_enter Tryd.func70, Tryd.ntmps70
    go_wp2
    go_ret
    exact ⟨by rw [HX.out]; rfl, below_alloc1 _ _⟩

/-- SameSectors -/
theorem ss_any (A : Option Addr) (n c : Nat) (S : List Sl) (B : Option Addr) (m d : Nat) (S' : List Sl) (w : World) (hS : RS w A n c S) (hS' : RS w B m d S') :
    Calls Tryd.prog 17 #[.slice A n c, .slice B m d] w fun e w' => e = .returned (.bool (decide (S.map (·.l) = S'.map (·.l)))) ∧ ∃ k, w' = w.drewN k := by
  have hlen := hS.len
  have hlen' := hS'.len
  have hbig := Nat.le_trans hS.cap hS.big
  unfold maxLen at hbig
  by_cases hnm : n = m
  · subst hnm
    have h0 : ((n : Int) != (n : Int)) = false := by simp
    have HS := Keep.mk hS
    have HS' := Keep.mk hS'
    clear hS hS'
    go_enter Tryd.func17, Tryd.ntmps17
    go_wp2
    go_loopw [5] (fun i wr => ∃ k q : Nat, k ≤ n ∧ i = .int .i64 k ∧ (S.take k).map (·.l) = (S'.take k).map (·.l) ∧ wr = w.drewN q) (fun i _ => n - (intOf i).toNat)
    case atStart => exact ⟨0, 0, Nat.zero_le _, rfl, by simp, rfl⟩
    case round =>
      obtain ⟨k, q, hk, rfl, heq, rfl⟩ := hrel
      have HE := Lib.hid heq
      clear heq
      by_cases hlt : k < n
      · have hk1 : k < S.length := by omega
        have hk2 : k < S'.length := by omega
        obtain ⟨b, o, rfl, _, hck, hr⟩ := HS.out.at_ (k := k) hk1
        obtain ⟨b', o', rfl, _, hck', hr'⟩ := HS'.out.at_ (k := k) hk2
        have HR := Keep.mk hr
        have HR' := Keep.mk hr'
        clear hr hr'
        by_cases hx : S[k].l = S'[k].l
        · have CC : Keep (∀ X, Below w.heap.size w X → Calls Tryd.prog 29 #[.slice S[k].a S[k].n S[k].c, .slice S'[k].a S'[k].n S'[k].c] X fun e w' => e = .returned (.bool true) ∧ ∃ j, w' = X.drewN j) :=
            ⟨fun X hX => (sb_any _ _ _ _ _ _ _ _ X (HR.out.below hX) (HR'.out.below hX)).mono fun _ _ ⟨he, hw⟩ => ⟨by rw [he, hx]; simp, hw⟩⟩
          have HX : Keep ((S.take (k + 1)).map (·.l) = (S'.take (k + 1)).map (·.l)) := ⟨by
            rw [List.take_succ_eq_append_getElem hk1, List.take_succ_eq_append_getElem hk2, List.map_append, List.map_append, HE.out]
            simp [hx]⟩
          clear hx
          go_wp2
          go_quiet ((go_at_call 29; first | exact Calls.quiet_of (CC.out _ (below_draws _ _ _)) | exact quiet_add (CC.out _ (below_draws _ _ _))))
          go_wp2
          go_roundw
          case rel => exact ⟨k + 1, _, by omega, by go_num, HX.out, rfl⟩
          case measure => simp [intOf]; omega
        · have CC : Keep (∀ X, Below w.heap.size w X → Calls Tryd.prog 29 #[.slice S[k].a S[k].n S[k].c, .slice S'[k].a S'[k].n S'[k].c] X fun e w' => e = .returned (.bool false) ∧ ∃ j, w' = X.drewN j) :=
            ⟨fun X hX => (sb_any _ _ _ _ _ _ _ _ X (HR.out.below hX) (HR'.out.below hX)).mono fun _ _ ⟨he, hw⟩ => ⟨by rw [he, decide_eq_false hx], hw⟩⟩
          have HX : Hid (decide (S.map (·.l) = S'.map (·.l)) = false) := by
            refine decide_eq_false fun h => hx ?_
            have := congrArg (·[k]?) h
            simpa [List.getElem?_map, List.getElem?_eq_getElem hk1, List.getElem?_eq_getElem hk2] using this
          clear hx
          go_wp2
          go_quiet ((go_at_call 29; first | exact Calls.quiet_of (CC.out _ (below_draws _ _ _)) | exact quiet_add (CC.out _ (below_draws _ _ _))))
          go_wp2
          go_ret
          exact ⟨by rw [HX.out]; rfl, _, by rw [World.drewN_drewN]⟩
      · have HX : Hid (decide (S.map (·.l) = S'.map (·.l)) = true) := by
          have heq := HE.out
          rw [List.take_of_length_le (by omega), List.take_of_length_le (by omega)] at heq
          exact decide_eq_true heq
        go_wp2
        go_ret
        exact ⟨by rw [HX.out]; rfl, _, rfl⟩
  · have h0 : ((n : Int) != (m : Int)) = true := by simp; omega
    have HX : Hid (decide (S.map (·.l) = S'.map (·.l)) = false) := by
      refine decide_eq_false fun h => hnm ?_
      have := congrArg List.length h
      simp at this
      omega
    go_enter Tryd.func17, Tryd.ntmps17
    go_wp2
    go_ret
    exact ⟨by rw [HX.out]; rfl, 0, rfl⟩
end Go.Proofs.YtjficpdfofmcnaaDoor

/- The reference's Few and Same (of equal devices). -/
namespace Go.Proofs.YtjficpdfofmcnaaDoor
open Go.RowKit Go.Joins

set_option maxHeartbeats 1000000 in
theorem few_any (d : Dk) (most : Nat) (w : World) (h : d.Ok w) : Calls Tryd.prog 27 #[.agg #[.slice d.a d.n d.c, .slice d.pa d.pn d.pc, .int .i64 d.left, .bool d.down], .int .i64 (most : Int)] w fun e w' => e = .returned (.bool (Dv.few d.m most)) ∧ Below w.heap.size w w' := by
  have HS := Keep.mk h.sec
  have HP := Keep.mk h.pen
  have hn := h.sec.len
  have hpn := h.pen.len
  have hbig := Nat.le_trans h.sec.cap h.sec.big
  have hbig2 := Nat.le_trans h.pen.cap h.pen.big
  unfold maxLen at hbig hbig2
  clear h
  by_cases h1 : d.n ≤ most
  · by_cases h2 : d.pn ≤ most
    · have e1 : decide ((most : Int) < (d.n : Int)) = false := decide_eq_false (by omega)
      have e2 : decide ((most : Int) < (d.pn : Int)) = false := decide_eq_false (by omega)
      have e3 : decide (most < d.n) = false := decide_eq_false (by omega)
      have e4 : decide (most < d.pn) = false := decide_eq_false (by omega)
      go_enter Tryd.func27, Tryd.ntmps27
      go_wp2_with fail
      have IX := Keep.mk (Bx.new w [.slice d.a d.n d.c, .slice d.pa d.pn d.pc, .int .i64 d.left, .bool d.down] 25)
      have HB : Hid (Below w.heap.size w (w.alloc (.cells #[.slice d.a d.n d.c, .slice d.pa d.pn d.pc, .int .i64 d.left, .bool d.down] 25))) := below_alloc1 _ _
      generalize w.alloc (.cells #[.slice d.a d.n d.c, .slice d.pa d.pn d.pc, .int .i64 d.left, .bool d.down] 25) = w1 at *
      have i0 := IX.out.cell 0 _ rfl
      have i1 := IX.out.cell 1 _ rfl
      clear e1 e2 e3 e4
      go_loop [5] (fun i => ∃ k : Nat, k ≤ d.n ∧ i = .int .i64 k ∧ Keep (∀ b ∈ d.S.take k, b.n ≤ 200)) (fun i => d.n - (intOf i).toNat)
      case atStart => exact ⟨0, Nat.zero_le _, rfl, ⟨by simp⟩⟩
      case round =>
        obtain ⟨k, hk, rfl, hq⟩ := hrel
        by_cases hlt : k < d.n
        · have hkS : k < d.S.length := by omega
          have e5 : decide ((k : Int) < (d.n : Int)) = true := decide_eq_true (by omega)
          obtain ⟨b, o, hbo, hbl, hck, hr⟩ := (HS.out.below HB.out).at_ (k := k) hkS
          have HL := hr.len
          by_cases h5 : d.S[k].n ≤ 200
          · have HQ2 : Keep (∀ b ∈ d.S.take (k + 1), b.n ≤ 200) := ⟨by
              intro x hx
              rw [List.take_succ_eq_append_getElem hkS] at hx
              rcases List.mem_append.1 hx with hx | hx
              · exact hq.out x hx
              · simp only [List.mem_singleton] at hx; subst hx; exact h5⟩
            have e6 : decide ((200 : Int) < (d.S[k].n : Int)) = false := decide_eq_false (by omega)
            rw [hbo] at i0
            clear hr HL
            go_wp2
            go_round
            case rel => exact ⟨k + 1, by omega, by go_num, HQ2⟩
            case measure => simp [intOf]; omega
          · have HX : Keep (Dv.few d.m most = false) := ⟨by
              refine decide_eq_false fun hh => h5 ?_
              have := hh.2.2.1 d.S[k].l (List.mem_map.2 ⟨_, List.getElem_mem hkS, rfl⟩)
              omega⟩
            have e6 : decide ((200 : Int) < (d.S[k].n : Int)) = true := decide_eq_true (by omega)
            rw [hbo] at i0
            clear hr HL
            go_wp2
            go_ret
            exact ⟨by rw [HX.out]; rfl, HB.out⟩
        · obtain rfl : d.n = k := by omega
          have HSA : Keep (∀ b ∈ d.m.sectors, b.length ≤ 200) := ⟨by
            intro x hx
            obtain ⟨s, hs, rfl⟩ := List.mem_map.1 hx
            have h7 := hq.out s (by rw [List.take_of_length_le (by omega)]; exact hs)
            have h8 := (HS.out.ok s hs).len
            omega⟩
          have e5 : decide ((d.n : Int) < (d.n : Int)) = false := decide_eq_false (by omega)
          clear hq
          go_wp2_with fail
          go_loop [6] (fun i => ∃ k : Nat, k ≤ d.pn ∧ i = .int .i64 k ∧ Keep (∀ b ∈ d.P.take k, b.s.n ≤ 200)) (fun i => d.pn - (intOf i).toNat)
          case atStart => exact ⟨0, Nat.zero_le _, rfl, ⟨by simp⟩⟩
          case round =>
            obtain ⟨k, hk, rfl, hq⟩ := hrel
            by_cases hlt : k < d.pn
            · have hkS : k < d.P.length := by omega
              have e5 : decide ((k : Int) < (d.pn : Int)) = true := decide_eq_true (by omega)
              obtain ⟨b, o, hbo, hbl, hck, hck1, hr⟩ := (HP.out.below HB.out).at_ (k := k) hkS
              have HL := hr.len
              by_cases h5 : d.P[k].s.n ≤ 200
              · have HQ2 : Keep (∀ b ∈ d.P.take (k + 1), b.s.n ≤ 200) := ⟨by
                  intro x hx
                  rw [List.take_succ_eq_append_getElem hkS] at hx
                  rcases List.mem_append.1 hx with hx | hx
                  · exact hq.out x hx
                  · simp only [List.mem_singleton] at hx; subst hx; exact h5⟩
                have e6 : decide ((200 : Int) < (d.P[k].s.n : Int)) = false := decide_eq_false (by omega)
                rw [hbo] at i1
                clear hr HL
                go_wp2
                go_round
                case rel => exact ⟨k + 1, by omega, by go_num, HQ2⟩
                case measure => simp [intOf]; omega
              · have HX : Keep (Dv.few d.m most = false) := ⟨by
                  refine decide_eq_false fun hh => h5 ?_
                  have := hh.2.2.2 d.P[k].m (List.mem_map.2 ⟨_, List.getElem_mem hkS, rfl⟩)
                  simp only [Pe.m] at this
                  omega⟩
                have e6 : decide ((200 : Int) < (d.P[k].s.n : Int)) = true := decide_eq_true (by omega)
                rw [hbo] at i1
                clear hr HL
                go_wp2
                go_ret
                exact ⟨by rw [HX.out]; rfl, HB.out⟩
            · obtain rfl : d.pn = k := by omega
              have HX : Keep (Dv.few d.m most = true) := ⟨decide_eq_true ⟨by simpa [Dk.m, hn] using h1, by simpa [Dk.m, hpn] using h2, HSA.out, by
                intro x hx
                obtain ⟨s, hs, rfl⟩ := List.mem_map.1 hx
                have h7 := hq.out s (by rw [List.take_of_length_le (by omega)]; exact hs)
                have h8 := (HP.out.ok s hs).len
                simp only [Pe.m]
                omega⟩⟩
              clear hq
              go_wp2
              go_ret
              exact ⟨by rw [HX.out]; rfl, HB.out⟩
    · have HX : Keep (Dv.few d.m most = false) := ⟨decide_eq_false fun hh => h2 (by have := hh.2.1; simpa [Dk.m, hpn] using this)⟩
      have e1 : decide ((most : Int) < (d.n : Int)) = false := decide_eq_false (by omega)
      have e2 : decide ((most : Int) < (d.pn : Int)) = true := decide_eq_true (by omega)
      have e3 : decide (most < d.n) = false := decide_eq_false (by omega)
      have e4 : decide (most < d.pn) = true := decide_eq_true (by omega)
      go_enter Tryd.func27, Tryd.ntmps27
      go_wp2
      go_ret
      exact ⟨by rw [HX.out]; rfl, below_alloc1 _ _⟩
  · have HX : Keep (Dv.few d.m most = false) := ⟨decide_eq_false fun hh => h1 (by have := hh.1; simpa [Dk.m, hn] using this)⟩
    have e1 : decide ((most : Int) < (d.n : Int)) = true := decide_eq_true (by omega)
    have e3 : decide (most < d.n) = true := decide_eq_true (by omega)
    go_enter Tryd.func27, Tryd.ntmps27
    go_wp2
    go_ret
    exact ⟨by rw [HX.out]; rfl, below_alloc1 _ _⟩
end Go.Proofs.YtjficpdfofmcnaaDoor

/- The reference's Same (of equal devices). -/
namespace Go.Proofs.YtjficpdfofmcnaaDoor
open Go.RowKit Go.Joins

set_option maxHeartbeats 1000000 in
theorem dsame_true (d d' : Dk) (w : World) (h : d.Ok w) (h' : d'.Ok w) (he : d.m = d'.m) :
    Calls Tryd.prog 47 #[.agg #[.slice d.a d.n d.c, .slice d.pa d.pn d.pc, .int .i64 d.left, .bool d.down], .agg #[.slice d'.a d'.n d'.c, .slice d'.pa d'.pn d'.pc, .int .i64 d'.left, .bool d'.down]] w fun e w' => e = .returned (.bool true) ∧ Below w.heap.size w w' := by
  simp only [Dk.m, Dv.Disk.mk.injEq] at he
  obtain ⟨he1, he2, he3, he4⟩ := he
  have HS := Keep.mk h.sec
  have HP := Keep.mk h.pen
  have HS' := Keep.mk h'.sec
  have HP' := Keep.mk h'.pen
  have hpn := h.pen.len
  have hpn' := h'.pen.len
  have hpp : d'.pn = d.pn := by
    have := congrArg List.length he2
    simp at this
    omega
  have hbig2 := Nat.le_trans h.pen.cap h.pen.big
  unfold maxLen at hbig2
  have HE1 := Keep.mk he1
  have HE2 := Keep.mk he2
  rw [← he3, ← he4, hpp]
  have HPN := Keep.mk hpn
  have HPN' : Keep (d'.P.length = d.pn) := ⟨by omega⟩
  clear h h' he1 he2 he3 he4 hpn hpn' hpp
  generalize d.left = left at *
  generalize d.down = down at *
  generalize d.pn = pn at *
  have e1 : (left != left) = false := by simp
  have e2 : (down != down) = false := by simp
  have e3 : ((pn : Int) != (pn : Int)) = false := by simp
  go_enter Tryd.func47, Tryd.ntmps47
  go_wp2_with fail
  have IX := Keep.mk ((Bx.new w [.slice d.a d.n d.c, .slice d.pa pn d.pc, .int .i64 left, .bool down] 25).alloc (.cells #[.slice d'.a d'.n d'.c, .slice d'.pa pn d'.pc, .int .i64 left, .bool down] 25))
  have OX := Keep.mk (Bx.new (w.alloc (.cells #[.slice d.a d.n d.c, .slice d.pa pn d.pc, .int .i64 left, .bool down] 25)) [.slice d'.a d'.n d'.c, .slice d'.pa pn d'.pc, .int .i64 left, .bool down] 25)
  have HB : Hid (Below w.heap.size w ((w.alloc (.cells #[.slice d.a d.n d.c, .slice d.pa pn d.pc, .int .i64 left, .bool down] 25)).alloc (.cells #[.slice d'.a d'.n d'.c, .slice d'.pa pn d'.pc, .int .i64 left, .bool down] 25))) := (below_alloc1 _ _).alloc (by simp) _
  generalize hw1 : (w.alloc (.cells #[.slice d.a d.n d.c, .slice d.pa pn d.pc, .int .i64 left, .bool down] 25)).alloc (.cells #[.slice d'.a d'.n d'.c, .slice d'.pa pn d'.pc, .int .i64 left, .bool down] 25) = w1 at *
  rw [World.size_alloc] at OX
  clear hw1
  have CS := ss_any d.a d.n d.c d.S d'.a d'.n d'.c d'.S w1 (HS.out.below HB.out) (HS'.out.below HB.out)
  rw [decide_eq_true HE1.out] at CS
  refine CS.mono ?_
  rintro e w2 ⟨rfl, q2, hw2⟩
  have hb2 : Below w1.heap.size w1 w2 := by rw [hw2]; exact below_draws _ _ _
  have HB2 := Lib.hid (below_next HB.out hb2 (Nat.le_refl _))
  have IX2 := Keep.mk (IX.out.below hb2)
  have OX2 := Keep.mk (OX.out.below hb2)
  clear CS hw2 hb2 HB IX OX
  have i0 := IX2.out.cell 1 _ rfl
  have o0 := OX2.out.cell 1 _ rfl
  go_wp2
  go_loopw [5] (fun i wr => ∃ k q : Nat, k ≤ pn ∧ i = .int .i64 k ∧ wr = w2.drewN q) (fun i _ => pn - (intOf i).toNat)
  case atStart => exact ⟨0, 0, Nat.zero_le _, rfl, rfl⟩
  case round =>
    obtain ⟨k, q, hk, rfl, rfl⟩ := hrel
    by_cases hlt : k < pn
    · have hk1 : k < d.P.length := by have := HPN.out; omega
      have hk2 : k < d'.P.length := by have := HPN'.out; omega
      obtain ⟨b, o, hb, _, hck, hck1, hr⟩ := (HP.out.below HB2.out).at_ (k := k) hk1
      obtain ⟨b', o', hb', _, hck', hck1', hr'⟩ := (HP'.out.below HB2.out).at_ (k := k) hk2
      have hpk : d.P[k].m = d'.P[k].m := by
        have := congrArg (·[k]?) HE2.out
        simpa [List.getElem?_map, List.getElem?_eq_getElem hk1, List.getElem?_eq_getElem hk2] using this
      simp only [Pe.m, Prod.mk.injEq] at hpk
      obtain ⟨hpk1, hpk2⟩ := hpk
      have CC : Keep (∀ X, Below w2.heap.size w2 X → Calls Tryd.prog 29 #[.slice d.P[k].s.a d.P[k].s.n d.P[k].s.c, .slice d'.P[k].s.a d'.P[k].s.n d'.P[k].s.c] X fun e w' => e = .returned (.bool true) ∧ ∃ j, w' = X.drewN j) :=
        ⟨fun X hX => (sb_any _ _ _ _ _ _ _ _ X (hr.below hX) (hr'.below hX)).mono fun _ _ ⟨he, hw⟩ => ⟨by rw [he, hpk2]; simp, hw⟩⟩
      rw [← hpk1] at hck'
      rw [hb] at i0
      rw [hb'] at o0
      clear hpk1 hpk2 hr hr' hb hb'
      have e5 : (d.P[k].k != d.P[k].k) = false := by simp
      go_wp2
      go_quiet ((go_at_call 29; first | exact Calls.quiet_of (CC.out _ (below_draws _ _ _)) | exact quiet_add (CC.out _ (below_draws _ _ _))))
      go_wp2
      go_roundw
      case rel => exact ⟨k + 1, _, by omega, by go_num, rfl⟩
      case measure => simp [intOf]; omega
    · go_wp2
      go_ret
      exact ⟨rfl, HB2.out.trans (below_draws _ _ _)⟩
end Go.Proofs.YtjficpdfofmcnaaDoor

/- The reference's content, durable, Read. -/
namespace Go.Proofs.YtjficpdfofmcnaaDoor
open Go.RowKit Go.Joins

theorem content_take (b : List UInt8) (s : Int) (P : List Pe) (k : Nat) (h : k < P.length) : Dv.content b s ((P.map Pe.m).take (k + 1)) = if P[k].k = s then P[k].s.l else Dv.content b s ((P.map Pe.m).take k) := by
  rw [List.take_succ_eq_append_getElem (by simpa using h), Dv.content_append]
  simp [Pe.m]

set_option maxHeartbeats 1000000 in
/-- content: for a sector that is there -/
theorem content_any (d : Dk) (i : Nat) (A : Option Addr) (n c : Nat) (P : List Pe) (w : World) (h : d.Ok w) (hi : i < d.S.length) (hP : RP w A n c P) (hs : ∀ b ∈ d.m.sectors, b.length ≤ 200) (hp : ∀ p ∈ P, p.s.l.length ≤ 200) :
    Calls Tryd.prog 64 #[.agg #[.slice d.a d.n d.c, .slice d.pa d.pn d.pc, .int .i64 d.left, .bool d.down], .int .i64 (i : Int), .slice A n c] w (RetBF w (Dv.content d.S[i].l (i : Int) (P.map Pe.m))) := by
  have HS := Keep.mk h.sec
  have HP := Keep.mk hP
  have hpn := hP.len
  have hn := h.sec.len
  have hbig := Nat.le_trans hP.cap hP.big
  unfold maxLen at hbig
  have HB0 : Hid (Below w.heap.size w (w.alloc (.cells #[.slice d.a d.n d.c, .slice d.pa d.pn d.pc, .int .i64 d.left, .bool d.down] 25))) := below_alloc1 _ _
  obtain ⟨b, o, hb, hbl, hck, hr⟩ := (HS.out.below HB0.out).at_ (k := i) hi
  have hin : (0 : Int) ≤ (i : Int) := by omega
  have hin1 : (i : Int) < (d.n : Int) := by omega
  have hsl : d.S[i].l.length ≤ 200 := hs _ (List.mem_map.2 ⟨_, List.getElem_mem hi, rfl⟩)
  have HPS := Keep.mk hp
  have HSI := Keep.mk (HS.out.ok _ (List.getElem_mem hi))
  have HN := Keep.mk hn
  have HPN := Keep.mk hpn
  generalize d.S[i] = si at *
  have HSL := Keep.mk hsl
  rw [hb] at hck HB0 ⊢
  clear h hP hr hs hp hsl hn hpn hi
  go_enter Tryd.func64, Tryd.ntmps64
  go_wp2
  have IX := Keep.mk (Bx.new w [.slice (some ⟨b, o, none⟩) d.n d.c, .slice d.pa d.pn d.pc, .int .i64 d.left, .bool d.down] 25)
  generalize w.alloc (.cells #[.slice (some ⟨b, o, none⟩) d.n d.c, .slice d.pa d.pn d.pc, .int .i64 d.left, .bool d.down] 25) = w1 at *
  clear hck hb
  go_loop [7, 8] (fun v i' => ∃ (k : Nat) (s : Sl), k ≤ n ∧ i' = .int .i64 k ∧ v = .slice s.a s.n s.c ∧ Keep (s.Ok w ∧ s.l = Dv.content si.l (i : Int) ((P.map Pe.m).take k) ∧ s.l.length ≤ 200)) (fun _ i' => n - (intOf i').toNat)
  case atStart => exact ⟨0, si, Nat.zero_le _, rfl, rfl, ⟨HSI.out, rfl, HSL.out⟩⟩
  case round =>
    obtain ⟨k, s, hk, rfl, rfl, hq⟩ := hrel
    by_cases hlt : k < n
    · have hkP : k < P.length := by have := HPN.out; omega
      obtain ⟨b2, o2, hb2, hbl2, hck, hck1, hr⟩ := (HP.out.below HB0.out).at_ (k := k) hkP
      have HCT := Keep.mk (content_take si.l (i : Int) P k hkP)
      have HPK := Keep.mk (HP.out.ok _ (List.getElem_mem hkP))
      have HPL := Keep.mk (HPS.out _ (List.getElem_mem hkP))
      generalize P[k] = pk at *
      subst hb2
      clear hr
      by_cases hx : pk.k = (i : Int)
      · have e1 : (pk.k == (i : Int)) = true := by simpa using hx
        have HX := Keep.mk hx
        clear hx
        go_wp2
        go_round
        case rel => exact ⟨k + 1, pk.s, by omega, by go_num, rfl, ⟨HPK.out, by rw [HCT.out, if_pos HX.out], HPL.out⟩⟩
        case measure => simp [intOf]; omega
      · have e1 : (pk.k == (i : Int)) = false := by simpa using hx
        have HX := Keep.mk hx
        clear hx
        go_wp2
        go_round
        case rel => exact ⟨k + 1, s, by omega, by go_num, rfl, ⟨hq.out.1, by rw [HCT.out, if_neg HX.out]; exact hq.out.2.1, hq.out.2.2⟩⟩
        case measure => simp [intOf]; omega
    · obtain rfl : n = k := by omega
      have hfin : s.l = Dv.content si.l (i : Int) (P.map Pe.m) := by
        have := hq.out.2.1
        rwa [List.take_of_length_le (by have := HPN.out; simp; omega)] at this
      have HF := Keep.mk hfin
      have CO := Keep.mk (own_any s.a s.n s.c s.l w1 (hq.out.1.below HB0.out) (by have h1 := RB.len hq.out.1; have h2 := hq.out.2.2; omega))
      clear hfin
      go_wp2_with (go_at_call 73; refine CO.out.mono ?_; rintro e w2 ⟨A2, n2, c2, rfl, hr2, ha2, hb2⟩; have HR2 := Keep.mk hr2; have HA2 := Keep.mk ha2; have HB2 := Lib.hid hb2; clear hr2 ha2 hb2)
      go_ret
      refine ⟨A2, n2, c2, rfl, by rw [← HF.out]; exact HR2.out, fun a ha => Nat.le_trans HB0.out.size (HA2.out a ha), HB0.out.trans (HB2.out.mono HB0.out.size)⟩

theorem settle_at (d : Dk) (P : List Pe) (i : Nat) (h : i < d.S.length) : (Dv.settle d.m.sectors (P.map Pe.m))[i]? = some (Dv.content d.S[i].l (i : Int) (P.map Pe.m)) := by
  rw [Dv.settle_get]
  simp [Dk.m, h]
theorem content_le (P : List Pe) (b : List UInt8) (s : Int) (hb : b.length ≤ 200) (hp : ∀ p ∈ P, p.s.l.length ≤ 200) : (Dv.content b s (P.map Pe.m)).length ≤ 200 := by
  induction P generalizing b with
  | nil => exact hb
  | cons p P ih =>
    have h1 := hp p (List.mem_cons_self ..)
    simp only [List.map_cons, Dv.content, List.foldl_cons, Pe.m] at *
    refine ih _ ?_ fun q hq => hp q (List.mem_cons_of_mem _ hq)
    split
    · exact h1
    · exact hb
/-- WHAT durable LEAVES. -/
def RetGS (w : World) (L : List (List UInt8)) (e : Ending) (w' : World) : Prop := ∃ A n c S, e = .returned (.slice A n c) ∧ RS w' A n c S ∧ S.map (·.l) = L ∧ Below w.heap.size w w' ∧ (∀ a, A = some a → w.heap.size ≤ a.block) ∧ ∀ s ∈ S, ∀ a, s.a = some a → w.heap.size ≤ a.block
set_option maxHeartbeats 1000000 in
theorem durable_any (d : Dk) (A : Option Addr) (n c : Nat) (P : List Pe) (w : World) (h : d.Ok w) (hP : RP w A n c P) (hs : ∀ b ∈ d.m.sectors, b.length ≤ 200) (hp : ∀ p ∈ P, p.s.l.length ≤ 200) (hns : d.n ≤ 4096) :
    Calls Tryd.prog 40 #[.agg #[.slice d.a d.n d.c, .slice d.pa d.pn d.pc, .int .i64 d.left, .bool d.down], .slice A n c] w (RetGS w (Dv.settle d.m.sectors (P.map Pe.m))) := by
  have HD := Keep.mk h
  have HP := Keep.mk hP
  have HN := Keep.mk h.sec.len
  have HS := Keep.mk hs
  have HPS := Keep.mk hp
  clear h hP hs hp
  go_enter Tryd.func40, Tryd.ntmps40
  go_wp2_with fail
  have IX := Keep.mk (Bx.new w [.slice d.a d.n d.c, .slice d.pa d.pn d.pc, .int .i64 d.left, .bool d.down] 25)
  have HB0 : Hid (Below w.heap.size w (w.alloc (.cells #[.slice d.a d.n d.c, .slice d.pa d.pn d.pc, .int .i64 d.left, .bool d.down] 25))) := below_alloc1 _ _
  generalize w.alloc (.cells #[.slice d.a d.n d.c, .slice d.pa d.pn d.pc, .int .i64 d.left, .bool d.down] 25) = w1 at *
  go_loopw [5, 6] (fun v i wr => ∃ (k : Nat) (A' : Option Addr) (c' : Nat) (L : List Sl), k ≤ d.n ∧ i = .int .i64 k ∧ v = .slice A' k c' ∧ GS wr w1.heap.size A' k c' L ∧ L.map (·.l) = (Dv.settle d.m.sectors (P.map Pe.m)).take k ∧ Below w1.heap.size w1 wr ∧ Keep ((∀ a, A' = some a → w.heap.size ≤ a.block) ∧ ∀ s ∈ L, ∀ a, s.a = some a → w.heap.size ≤ a.block)) (fun _ i _ => d.n - (intOf i).toNat)
  case atStart => exact ⟨0, none, 0, [], Nat.zero_le _, rfl, rfl, GS.nil _ _, by simp, Below.refl _ _, ⟨⟨(fun a h => by cases h), (fun s h => by cases h)⟩⟩⟩
  case round =>
    obtain ⟨k, A', c', L, hk, rfl, rfl, hg, hL, hb, HNW⟩ := hrel
    have HG := Keep.mk hg
    have HL := Keep.mk hL
    have HB1 := Lib.hid hb
    have HBW := Lib.hid (below_next HB0.out hb (Nat.le_refl _))
    have IX1 := Keep.mk (IX.out.below hb)
    have i0 := IX1.out.cell 0 _ rfl
    clear hg hL hb
    by_cases hlt : k < d.n
    · have hkS : k < d.S.length := by have := HN.out; omega
      have i1 := IX1.out.cell 1 _ rfl
      have i2 := IX1.out.cell 2 _ rfl
      have i3 := IX1.out.cell 3 _ rfl
      have CO := Keep.mk (content_any d k A n c P wr (HD.out.below HBW.out) hkS (HP.out.below HBW.out) HS.out HPS.out)
      have HST := Keep.mk (settle_at d P k hkS)
      have HLE := Keep.mk (content_le P d.S[k].l (k : Int) (HS.out _ (List.mem_map.2 ⟨_, List.getElem_mem hkS, rfl⟩)) HPS.out)
      generalize Dv.content d.S[k].l (k : Int) (P.map Pe.m) = ct at *
      go_wp2_with (first
        | (go_at_call 64; refine CO.out.mono ?_; rintro e w2 ⟨A2, n2, c2, rfl, hr2, ha2, hb2⟩; have HR2 := Keep.mk hr2; have HA2 := Keep.mk ha2; have HB2 := Lib.hid hb2; have HG2 := Keep.mk (HG.out.below hb2); clear hr2 ha2 hb2)
        | (at_builtin; refine wpList_append_app _ rfl (.tmp 14) (.tmp 19) 22 rfl w1.heap.size 26 (.slice none 0 0) 1 24 Tryd.underlying22 sl_info rfl (by decide) (by decide) (.slice A' k c') k (L.map Sl.v) rfl (HG2.out.tgt.below (below_alloc1 _ _)) (some ⟨w2.heap.size, 0, none⟩) 1 1 [.slice A2 n2 c2] rfl (rd_one w2 _ _) (by simp [Value.oneCell']) (by omega) (by have := HB1.out.size; have := HB2.out.size; simp; omega) ?_; intro A3 c3 w3 ha3; have HA3 := Keep.mk ha3; clear ha3))
      have HG3 := Keep.mk (GS.app (s := ⟨A2, n2, c2, ct⟩) (HG2.out.below (below_alloc1 _ _)) HA3.out (Sl.Ok.below (s := ⟨A2, n2, c2, ct⟩) HR2.out (below_alloc1 _ _)) (away_new HG.out.lt HA2.out))
      go_roundw
      case rel =>
        refine ⟨k + 1, A3, c3, _, by omega, by go_num, rfl, HG3.out, ?_, HB1.out.trans ((HB2.out.mono HB1.out.size).trans (((below_alloc1 _ _).mono (Nat.le_trans HB1.out.size HB2.out.size)).trans HA3.out.below)), ⟨⟨fun a ha => ?n1, fun s hs a ha => ?n2⟩⟩⟩
        case n1 =>
          have hz1 := HB0.out.size
          have hz2 := HB1.out.size
          have hz3 := HB2.out.size
          rcases HA3.out.at_ a ha with h | h
          · cases A' with
            | none => simp [Value.ownBlock] at h
            | some a' =>
              have h1 := HNW.out.1 a' rfl
              have h2 : a'.block = a.block := by simpa [Value.ownBlock] using h
              omega
          · have := h.1
            simp at this
            omega
        case n2 =>
          have hz1 := HB0.out.size
          have hz2 := HB1.out.size
          rcases List.mem_append.1 hs with hs | hs
          · exact HNW.out.2 s hs a ha
          · simp only [List.mem_singleton] at hs
            subst hs
            have := HA2.out a ha
            omega
        rw [List.map_append, HL.out, List.take_add_one, HST.out]
        rfl
      case measure => simp [intOf]; omega
    · obtain rfl : d.n = k := by omega
      go_wp2
      go_ret
      refine ⟨A', d.n, c', L, rfl, HG.out.rs, ?_, HBW.out, HNW.out.1, HNW.out.2⟩
      rw [HL.out, List.take_of_length_le]
      rw [Dv.settle_length]
      have := HN.out
      simp [Dk.m]
      omega
end Go.Proofs.YtjficpdfofmcnaaDoor

/- The reference's Read, Flush, Arm, Kept, Crash. -/
namespace Go.Proofs.YtjficpdfofmcnaaDoor
open Go.RowKit Go.Joins

set_option maxHeartbeats 1000000 in
theorem rread_any (d : Dk) (s : Int) (K : Nat) (w : World) (h : d.Ok w) (hf : Dv.Fits K d.m) :
    Calls Tryd.prog 48 #[.agg #[.slice d.a d.n d.c, .slice d.pa d.pn d.pc, .int .i64 d.left, .bool d.down], .int .i64 s] w (RetBE w (Dv.read d.m s).1 (Dv.read d.m s).2) := by
  have HD := Keep.mk h
  have HF := Keep.mk hf
  have hn := h.sec.len
  have hSn : d.m.sectors.length = d.n := by simp [Dk.m, hn]
  have hB : Hid (Below w.heap.size w (w.alloc (.cells #[.slice d.a d.n d.c, .slice d.pa d.pn d.pc, .int .i64 d.left, .bool d.down] 25))) := below_alloc1 _ _
  clear h hf
  cases hdn : d.down
  · have hm : d.m.down = false := hdn
    rw [hdn] at hB
    by_cases hh : Dv.has d.n s = true
    · have hin : 0 ≤ s ∧ s < (d.n : Int) := by simpa [Dv.has] using hh
      obtain ⟨i, rfl⟩ := Int.eq_ofNat_of_zero_le hin.1
      have hi : i < d.S.length := by omega
      have HX : Keep (Dv.read d.m (i : Int) = (Dv.content d.S[i].l (i : Int) (d.P.map Pe.m), 0)) := ⟨by
        rw [Dv.read, hm, hSn, hh]
        simp [Dk.m, List.getD, List.getElem?_eq_getElem hi]⟩
      have HH := Keep.mk hh
      have CT := Keep.mk (fun (X : World) (hX : Below w.heap.size w X) => content_any d i d.pa d.pn d.pc d.P X (HD.out.below hX) hi (HD.out.pen.below hX) HF.out.ss (fun p hp => HF.out.sp p.m (List.mem_map.2 ⟨p, hp, rfl⟩)))
      rw [hdn] at CT
      rw [HX.out]
      generalize Dv.content _ _ _ = ct at *
      clear hin hi hh hSn hm hn hdn
      go_enter Tryd.func48, Tryd.ntmps48
      go_wp2_with fail
      refine (there_any d.a d.n d.c d.pa d.pn d.pc d.left false (i : Int) _).mono ?_
      rw [HH.out]
      rintro e w1 ⟨rfl, hb1⟩
      have IX1 := Keep.mk ((Bx.new w [.slice d.a d.n d.c, .slice d.pa d.pn d.pc, .int .i64 d.left, .bool false] 25).below hb1)
      have HB1 := Lib.hid (below_next hB.out hb1 (Nat.le_refl _))
      clear hb1
      have i0 := IX1.out.cell 0 _ rfl
      have i1 := IX1.out.cell 1 _ rfl
      have i2 := IX1.out.cell 2 _ rfl
      have i3 := IX1.out.cell 3 _ rfl
      go_wp2_with (go_at_call 64; refine (CT.out _ HB1.out).mono ?_; rintro e w2 ⟨A2, n2, c2, rfl, hr2, ha2, hb2⟩; have HR2 := Keep.mk hr2; have HB2 := Lib.hid hb2; clear hr2 ha2 hb2)
      go_ret2
      exact ⟨A2, n2, c2, rfl, HR2.out, below_next HB1.out HB2.out (Nat.le_refl _)⟩
    · have hh0 : Dv.has d.n s = false := by simpa using hh
      have HX : Keep (Dv.read d.m s = ([], 2)) := ⟨by simp [Dv.read, hm, hSn, hh0]⟩
      have HH := Keep.mk hh0
      clear hh hh0 hSn hm hn
      rw [HX.out]
      go_enter Tryd.func48, Tryd.ntmps48
      go_wp2_with (go_at_call 70; refine (there_any d.a d.n d.c d.pa d.pn d.pc d.left false s _).mono ?_; rw [HH.out]; rintro e w1 ⟨rfl, hb1⟩; have HB1 := Lib.hid (below_next hB.out hb1 (Nat.le_refl _)); clear hb1)
      go_ret2
      exact ⟨none, 0, 0, rfl, RB.none_ _, HB1.out⟩
  · have hm : d.m.down = true := hdn
    have HX : Keep (Dv.read d.m s = ([], 23)) := ⟨by simp [Dv.read, hm]⟩
    rw [HX.out]
    rw [hdn] at hB
    clear hm hSn hdn
    go_enter Tryd.func48, Tryd.ntmps48
    go_wp2
    go_ret2
    exact ⟨none, 0, 0, rfl, RB.none_ _, hB.out⟩

set_option maxHeartbeats 1000000 in
theorem rarm_any (d : Dk) (left : Int) (w : World) (h : d.Ok w) :
    Calls Tryd.prog 11 #[.agg #[.slice d.a d.n d.c, .slice d.pa d.pn d.pc, .int .i64 d.left, .bool d.down], .int .i64 left] w (RetK w d.Av (Dv.arm d.m left)) := by
  have HD := Keep.mk h
  clear h
  go_enter Tryd.func11, Tryd.ntmps11
  have hB : Hid (∀ x y, Below w.heap.size w ((w.alloc (.cells #[.slice d.a d.n d.c, .slice d.pa d.pn d.pc, .int .i64 x, .bool d.down] 25)).alloc (.cells #[.slice d.a d.n d.c, .slice d.pa d.pn d.pc, .int .i64 y, .bool d.down] 25))) := fun x y => (below_alloc1 _ _).alloc (by simp) _
  go_wp2
  · skip
    refine bodyPost_ret (v := .agg #[.slice d.a d.n d.c, .slice d.pa d.pn d.pc, .int .i64 (-1), .bool d.down]) (by simp [results, Tryd.results11, go_sem]) rfl ?_
    exact ⟨{ d with left := -1 }, rfl, ⟨HD.out.sec.below (hB.out _ _), HD.out.pen.below (hB.out _ _)⟩, by simp only [Dk.m, Dv.arm]; rw [Int.max_eq_right (by omega)], hB.out _ _, fun b _ h => ⟨h.a_, h.s_, h.p_, h.q_⟩⟩
  · skip
    refine bodyPost_ret (v := .agg #[.slice d.a d.n d.c, .slice d.pa d.pn d.pc, .int .i64 left, .bool d.down]) (by simp [results, Tryd.results11, go_sem]) rfl ?_
    exact ⟨{ d with left := left }, rfl, ⟨HD.out.sec.below (hB.out _ _), HD.out.pen.below (hB.out _ _)⟩, by simp only [Dk.m, Dv.arm]; rw [Int.max_eq_left (by omega)], hB.out _ _, fun b _ h => ⟨h.a_, h.s_, h.p_, h.q_⟩⟩

set_option maxHeartbeats 1000000 in
theorem rflush_any (d : Dk) (K : Nat) (w : World) (h : d.Ok w) (hf : Dv.Fits K d.m) :
    Calls Tryd.prog 52 #[.agg #[.slice d.a d.n d.c, .slice d.pa d.pn d.pc, .int .i64 d.left, .bool d.down]] w (RetKE w d.Av (Dv.flush d.m)) := by
  have HD := Keep.mk h
  have HF := Keep.mk hf
  have hns : d.n ≤ 4096 := by have := hf.ns; simpa [Dk.m, h.sec.len] using this
  clear h hf
  cases hdn : d.down
  · have hm : d.m.down = false := hdn
    have HX : Keep (Dv.flush d.m = (⟨Dv.settle d.m.sectors d.m.pending, [], d.left, false⟩, 0)) := ⟨by simp [Dv.flush, hm]; rfl⟩
    have CT := Keep.mk (fun (X : World) (hX : Below w.heap.size w X) => durable_any d d.pa d.pn d.pc d.P X (HD.out.below hX) (HD.out.pen.below hX) HF.out.ss (fun p hp => HF.out.sp p.m (List.mem_map.2 ⟨p, hp, rfl⟩)) hns)
    rw [hdn] at CT
    rw [HX.out]
    clear hdn hm hns
    go_enter Tryd.func52, Tryd.ntmps52
    go_upto_region 3 with (fail)
    have IX := Keep.mk ((Bx.new w [.slice d.a d.n d.c, .slice d.pa d.pn d.pc, .int .i64 d.left, .bool false] 25).alloc (.cells #[.slice none 0 0, .slice none 0 0, .int .i64 0, .bool false] 25))
    have OX := Keep.mk (Bx.new (w.alloc (.cells #[.slice d.a d.n d.c, .slice d.pa d.pn d.pc, .int .i64 d.left, .bool false] 25)) [.slice none 0 0, .slice none 0 0, .int .i64 0, .bool false] 25)
    have HB : Hid (Below w.heap.size w ((w.alloc (.cells #[.slice d.a d.n d.c, .slice d.pa d.pn d.pc, .int .i64 d.left, .bool false] 25)).alloc (.cells #[.slice none 0 0, .slice none 0 0, .int .i64 0, .bool false] 25))) := (below_alloc1 _ _).alloc (by simp) _
    generalize hw1 : (w.alloc (.cells #[.slice d.a d.n d.c, .slice d.pa d.pn d.pc, .int .i64 d.left, .bool false] 25)).alloc (.cells #[.slice none 0 0, .slice none 0 0, .int .i64 0, .bool false] 25) = w1 at *
    rw [World.size_alloc] at OX
    clear hw1
    have HDR : Hid (Below w1.heap.size w1 w1.drew) := below_draws _ _ 1
    have HDW := Lib.hid (below_next HB.out HDR.out (Nat.le_refl _))
    have KS : Keep (∀ X, Bx X w.heap.size [.slice d.a d.n d.c, .slice d.pa d.pn d.pc, .int .i64 d.left, .bool false] → X.cell? ⟨w.heap.size, 0, none⟩ = some (.slice d.a d.n d.c) ∧ X.cell? ⟨w.heap.size, 1, none⟩ = some (.slice d.pa d.pn d.pc) ∧ X.cell? ⟨w.heap.size, 2, none⟩ = some (.int .i64 d.left) ∧ X.cell? ⟨w.heap.size, 3, none⟩ = some (.bool false)) := ⟨fun X h => ⟨h.cell 0 _ rfl, h.cell 1 _ rfl, h.cell 2 _ rfl, h.cell 3 _ rfl⟩⟩
    go_region_held3 (fun X => X.cell? ⟨w.heap.size, 0, none⟩ = some (.slice d.a d.n d.c) ∧ X.cell? ⟨w.heap.size, 1, none⟩ = some (.slice d.pa d.pn d.pc) ∧ X.cell? ⟨w.heap.size, 2, none⟩ = some (.int .i64 d.left) ∧ X.cell? ⟨w.heap.size, 3, none⟩ = some (.bool false))
      (first | exact KS.out _ (IX.out.below HDR.out) | exact KS.out _ ((IX.out.below HDR.out).below HBN.out) | exact KS.out _ (((((((IX.out.below HDR.out).below HBN.out).other (by simp) _).other (by simp) _).other (by simp) _).other (by simp) _)))
      (first | (go_at_call 40; ((refine (CT.out _ HDW.out).mono ?_); rintro e wn ⟨A2, n2, c2, S2, rfl, hrs, hSm, hb, hn1, hn2⟩; have HN1 := Keep.mk hn1; have HN2 := Keep.mk hn2; have HBN := Lib.hid hb; have HRS := Keep.mk hrs; have HSM := Keep.mk hSm; have OXN := Keep.mk ((OX.out.below HDR.out).below hb); have o0 := OXN.out.cell 0 _ rfl; have o1 := OXN.out.cell 1 _ rfl; have o2 := OXN.out.cell 2 _ rfl; have o3 := OXN.out.cell 3 _ rfl; have of := OXN.out.fz; clear hb hrs hSm hn1 hn2)))
    go_wp2
    refine bodyPost_ret (v := .tuple #[.agg #[.slice A2 n2 c2, .slice none 0 0, .int .i64 d.left, .bool false], .int .i64 0]) (by simp [results, Tryd.results52, go_sem, o0, o1, o2, o3]) rfl ?_
    have hz := HDW.out.size
    have hz1 := HB.out.size
    have hol := OX.out.lt
    have hzd := HDR.out.size
    have hoff : Off [w.heap.size + 1] wn _ := off_set4 wn (w.heap.size + 1) (.slice A2 n2 c2) (.slice none 0 0) (.int .i64 d.left) (.bool false)
    refine ⟨⟨A2, n2, c2, S2, none, 0, 0, [], d.left, false⟩, rfl, ⟨HRS.out.off hoff (fun b hb _ a ha => ?_) (fun b hb s hs _ a ha => ?_), RP.none_ _⟩, ?_, (HDW.out.trans (HBN.out.mono hz)).trans (hoff.below (by have := HBN.out.size; omega) (by simp)), fun b hb _ => ⟨fun _ a ha => ?_, fun s hs _ a ha => ?_, (fun h => absurd h (by simp)), (fun p hp => by cases hp)⟩⟩
    · simp only [List.mem_singleton] at hb
      have := HN1.out a ha
      omega
    · simp only [List.mem_singleton] at hb
      have := HN2.out s hs a ha
      omega
    · simp only [Dk.m, HSM.out]
      rfl
    · have := HN1.out a ha
      omega
    · have := HN2.out s hs a ha
      omega
  · have hm : d.m.down = true := hdn
    have HX : Keep (Dv.flush d.m = (Dv.Disk.zero, 23)) := ⟨by simp [Dv.flush, hm]⟩
    rw [HX.out]
    clear hm hdn hns
    go_enter Tryd.func52, Tryd.ntmps52
    go_wp2
    refine bodyPost_ret (v := .tuple #[.agg #[.slice none 0 0, .slice none 0 0, .int .i64 0, .bool false], .int .i64 23]) (by simp [results, Tryd.results52, go_sem]) rfl ?_
    exact ⟨Dk.zero, rfl, Dk.zero_ok _, rfl, (below_alloc1 _ _).alloc (by simp) _, fun b _ _ => Dk.zero_av b⟩
end Go.Proofs.YtjficpdfofmcnaaDoor

/- The reference's Kept, Crash. -/
namespace Go.Proofs.YtjficpdfofmcnaaDoor
open Go.RowKit Go.Joins

/-- The pending writes that are kept, as they lie in memory. -/
def keptPe (keep : List Int) : Nat → List Pe → List Pe
  | _, [] => []
  | i, p :: ps => if keep.contains (i : Int) = true then p :: keptPe keep (i + 1) ps else keptPe keep (i + 1) ps
theorem keptPe_m (keep : List Int) : ∀ (ps : List Pe) (i : Nat), (keptPe keep i ps).map Pe.m = Dv.kept keep i (ps.map Pe.m)
  | [], _ => rfl
  | p :: ps, i => by
    simp only [keptPe, List.map_cons, Dv.kept]
    split
    · rw [List.map_cons, keptPe_m keep ps (i + 1)]
    · exact keptPe_m keep ps (i + 1)
theorem keptPe_sub (keep : List Int) : ∀ (ps : List Pe) (i : Nat), ∀ p ∈ keptPe keep i ps, p ∈ ps
  | [], _, p, h => by simp [keptPe] at h
  | q :: ps, i, p, h => by
    unfold keptPe at h
    split at h
    · rcases List.mem_cons.1 h with rfl | h
      · exact List.mem_cons_self ..
      · exact List.mem_cons_of_mem _ (keptPe_sub keep ps (i + 1) p h)
    · exact List.mem_cons_of_mem _ (keptPe_sub keep ps (i + 1) p h)
theorem keptPe_snoc (keep : List Int) : ∀ (ps : List Pe) (i : Nat) (p : Pe), keptPe keep i (ps ++ [p]) = keptPe keep i ps ++ if keep.contains ((i + ps.length : Nat) : Int) = true then [p] else []
  | [], i, p => by simp [keptPe]
  | a :: ps, i, p => by
    have h := keptPe_snoc keep ps (i + 1) p
    simp only [List.cons_append, keptPe, h, List.length_cons]
    rw [show i + 1 + ps.length = i + (ps.length + 1) by omega]
    split <;> simp
theorem keptPe_take (keep : List Int) (ps : List Pe) (k : Nat) (h : k < ps.length) : keptPe keep 0 (ps.take (k + 1)) = keptPe keep 0 (ps.take k) ++ if keep.contains (k : Int) = true then [ps[k]] else [] := by
  rw [List.take_succ_eq_append_getElem h, keptPe_snoc]
  simp [Nat.min_eq_left (Nat.le_of_lt h)]
theorem contains_snoc (l : List Int) (x y : Int) : (l ++ [y]).contains x = (l.contains x || y == x) := by
  rw [Bool.eq_iff_iff]
  simp
  rw [eq_comm (a := x) (b := y)]
theorem contains_take (keep : List Int) (x : Int) (j : Nat) (h : j < keep.length) : (keep.take (j + 1)).contains x = ((keep.take j).contains x || keep[j] == x) := by
  rw [List.take_succ_eq_append_getElem h, contains_snoc]
/-- Old bytes lie in no new block. -/
theorem away_old {s : Sl} {w : World} {A : Option Addr} {n c N : Nat} (h : ∀ a, A = some a → N ≤ a.block) (hs : s.Ok w) (hN : w.heap.size ≤ N) : s.Away ((Value.slice A n c).ownBlock) := fun hn a ha hg => by
  have h1 := hs.lt hn ha
  cases A with
  | none => simp [Value.ownBlock] at hg
  | some x =>
    have h2 := h x rfl
    have h3 : x.block = a.block := by simpa [Value.ownBlock] using hg
    omega
/-- What Kept leaves: a list of the pending writes that are kept. -/
def RetGP (w : World) (L : List Pe) (e : Ending) (w' : World) : Prop := ∃ A n c, e = .returned (.slice A n c) ∧ RP w' A n c L ∧ Below w.heap.size w w'

set_option maxHeartbeats 1000000 in
theorem kept_any (A : Option Addr) (n c : Nat) (P : List Pe) (B : Option Addr) (m d : Nat) (keep : List Int) (w : World) (hP : RP w A n c P) (hk : RI w B m d keep) (hn : n ≤ 100000) :
    Calls Tryd.prog 41 #[.slice A n c, .slice B m d] w (RetGP w (keptPe keep 0 P)) := by
  have HP := Keep.mk hP
  have HK := Keep.mk hk
  have hpl := hP.len
  have hkl := hk.len
  have hbig := Nat.le_trans hk.cap hk.big
  unfold maxLen at hbig
  have HPL := Keep.mk hpl
  have HKL := Keep.mk hkl
  clear hP hk hpl hkl
  go_enter Tryd.func41, Tryd.ntmps41
  go_wp2_with fail
  go_loopw [5, 6] (fun v i wr => ∃ (k n' : Nat) (A' : Option Addr) (c' : Nat), k ≤ n ∧ i = .int .i64 k ∧ v = .slice A' n' c' ∧ n' ≤ k ∧ GP wr w.heap.size A' n' c' (keptPe keep 0 (P.take k)) ∧ Below w.heap.size w wr ∧ Keep (∀ a, A' = some a → w.heap.size ≤ a.block)) (fun _ i _ => n - (intOf i).toNat)
  case atStart => exact ⟨0, 0, none, 0, Nat.zero_le _, rfl, rfl, Nat.le_refl _, by simpa [keptPe] using GP.nil _ _, Below.refl _ _, ⟨fun a h => by cases h⟩⟩
  case round =>
    obtain ⟨k, n', A', c', hk, rfl, rfl, hn', hg, hb, HNW⟩ := hrel
    have HG := Keep.mk hg
    have HB := Lib.hid hb
    clear hg hb
    by_cases hlt : k < n
    · have hkP : k < P.length := by have := HPL.out; omega
      obtain ⟨wo, rfl⟩ : ∃ wo : World, wo = wr := ⟨_, rfl⟩
      go_wp2_with fail
      go_loop [7, 8] (fun v i => ∃ j : Nat, j ≤ m ∧ i = .int .i64 j ∧ v = .bool ((keep.take j).contains (k : Int))) (fun _ i => m - (intOf i).toNat)
      case atStart => exact ⟨0, Nat.zero_le _, rfl, by simp⟩
      case round =>
        obtain ⟨j, hj, rfl, rfl⟩ := hrel
        by_cases hjt : j < m
        · have hjK : j < keep.length := by have := HKL.out; omega
          obtain ⟨b, o, hbo, hbl, hck⟩ := (HK.out.below HB.out).at_ (k := j) hjK
          have HCT := Keep.mk (contains_take keep (k : Int) j hjK)
          generalize keep[j] = kj at *
          subst hbo
          cases hcc : (keep.take j).contains (k : Int)
          · rw [hcc] at HCT
            clear hcc
            by_cases hx : kj = (k : Int)
            · have e1 : (kj == (k : Int)) = true := by simpa using hx
              rw [e1] at HCT
              clear hx
              go_wp2
              go_round
              case rel => exact ⟨j + 1, by omega, by go_num, by rw [HCT.out]; rfl⟩
              case measure => simp [intOf]; omega
            · have e1 : (kj == (k : Int)) = false := by simpa using hx
              rw [e1] at HCT
              clear hx
              go_wp2
              go_round
              case rel => exact ⟨j + 1, by omega, by go_num, by rw [HCT.out]; rfl⟩
              case measure => simp [intOf]; omega
          · rw [hcc] at HCT
            clear hcc
            go_wp2
            go_round
            case rel => exact ⟨j + 1, by omega, by go_num, by rw [HCT.out]; simp⟩
            case measure => simp [intOf]; omega
        · obtain rfl : m = j := by omega
          have hct : keep.take m = keep := List.take_of_length_le (by have := HKL.out; omega)
          rw [hct]
          have HKT := Keep.mk (keptPe_take keep P k hkP)
          clear hct
          obtain ⟨b, o, hbo, hbl, hck, hck1, hr⟩ := (HP.out.below HB.out).at_ (k := k) hkP
          have HPK := Keep.mk (HP.out.ok _ (List.getElem_mem hkP))
          generalize P[k] = pk at *
          subst hbo
          clear hr
          cases hcc : keep.contains (k : Int)
          · rw [hcc] at HKT
            clear hcc
            go_wp2
            go_roundw
            case rel => exact ⟨k + 1, n', A', c', by omega, by go_num, rfl, by omega, by rw [HKT.out]; simpa using HG.out, HB.out, HNW⟩
            case measure => simp [intOf]; omega
          · rw [hcc] at HKT
            clear hcc
            go_wp2_with (at_builtin; refine wpList_append_app _ rfl (.tmp 31) (.tmp 36) 23 rfl w.heap.size 79 (.agg #[.int .i64 0, .slice none 0 0]) 2 32 Tryd.underlying23 wr_info rfl (by decide) (by decide) (.slice A' n' c') n' ((keptPe keep 0 (P.take k)).flatMap Pe.cells) rfl (HG.out.tgt.below (below_alloc1 _ _)) (some ⟨wo.heap.size, 0, none⟩) 1 1 [.int .i64 pk.k, .slice pk.s.a pk.s.n pk.s.c] rfl (rd_two wo _ _ _) (by simp [Value.oneCell']) (by omega) (by have := HB.out.size; simp; omega) ?_; intro A3 c3 w3 ha3; have HA3 := Keep.mk ha3; clear ha3)
            go_roundw
            case rel =>
              refine ⟨k + 1, n' + 1, A3, c3, by omega, by go_num, rfl, by omega, ?_, HB.out.trans (((below_alloc1 _ _).mono HB.out.size).trans HA3.out.below), ⟨fun a ha => ?_⟩⟩
              · rw [HKT.out]
                exact GP.app (Q := [pk]) (HG.out.below (below_alloc1 _ _)) HA3.out (fun p hp => by simp only [List.mem_singleton] at hp; subst hp; exact (HPK.out.below HB.out).below (below_alloc1 _ _)) (fun p hp => by simp only [List.mem_singleton] at hp; subst hp; exact away_old HNW.out HPK.out (Nat.le_refl _))
              · rcases HA3.out.at_ a ha with h | h
                · cases A' with
                  | none => simp [Value.ownBlock] at h
                  | some a' =>
                    have h1 := HNW.out a' rfl
                    have h2 : a'.block = a.block := by simpa [Value.ownBlock] using h
                    omega
                · have h1 := h.1
                  have h2 := HB.out.size
                  simp at h1
                  omega
            case measure => simp [intOf]; omega
    · obtain rfl : n = k := by omega
      go_wp2
      go_ret
      refine ⟨A', n', c', rfl, ?_, HB.out⟩
      have := HG.out.rp
      rwa [List.take_of_length_le (by have := HPL.out; omega)] at this

theorem kept_fits (keep : List Int) (P : List Pe) (h : ∀ p ∈ P, p.s.l.length ≤ 200) : ∀ p ∈ keptPe keep 0 P, p.s.l.length ≤ 200 := fun p hp => h p (keptPe_sub keep P 0 p hp)
set_option maxHeartbeats 1000000 in
theorem rcrash_any (d : Dk) (B : Option Addr) (m c : Nat) (keep : List Int) (K : Nat) (w : World) (h : d.Ok w) (hk : RI w B m c keep) (hf : Dv.Fits K d.m) (hK : K ≤ 1000) :
    Calls Tryd.prog 16 #[.agg #[.slice d.a d.n d.c, .slice d.pa d.pn d.pc, .int .i64 d.left, .bool d.down], .slice B m c] w (RetK w d.Av (Dv.crash d.m keep)) := by
  have HD := Keep.mk h
  have HF := Keep.mk hf
  have HK := Keep.mk hk
  have hns : d.n ≤ 4096 := by have := hf.ns; simpa [Dk.m, h.sec.len] using this
  have hnp : d.pn ≤ 1000 := by have := hf.np; simp [Dk.m, h.pen.len] at this; omega
  have CT := Keep.mk (fun (X : World) (hX : Below w.heap.size w X) (A' : Option Addr) (n' c' : Nat) (hP : RP X A' n' c' (keptPe keep 0 d.P)) => durable_any d A' n' c' (keptPe keep 0 d.P) X (HD.out.below hX) hP HF.out.ss (kept_fits keep d.P fun p hp => HF.out.sp p.m (List.mem_map.2 ⟨p, hp, rfl⟩)) hns)
  have CK := Keep.mk (fun (X : World) (hX : Below w.heap.size w X) => kept_any d.pa d.pn d.pc d.P B m c keep X (HD.out.pen.below hX) (HK.out.below hX) (by omega))
  clear h hf hk
  go_enter Tryd.func16, Tryd.ntmps16
  go_upto_region 1 with (fail)
  have IX := Keep.mk ((Bx.new w [.slice d.a d.n d.c, .slice d.pa d.pn d.pc, .int .i64 d.left, .bool d.down] 25).alloc (.cells #[.slice none 0 0, .slice none 0 0, .int .i64 0, .bool false] 25))
  have OX := Keep.mk (Bx.new (w.alloc (.cells #[.slice d.a d.n d.c, .slice d.pa d.pn d.pc, .int .i64 d.left, .bool d.down] 25)) [.slice none 0 0, .slice none 0 0, .int .i64 0, .bool false] 25)
  have HB : Hid (Below w.heap.size w ((w.alloc (.cells #[.slice d.a d.n d.c, .slice d.pa d.pn d.pc, .int .i64 d.left, .bool d.down] 25)).alloc (.cells #[.slice none 0 0, .slice none 0 0, .int .i64 0, .bool false] 25))) := (below_alloc1 _ _).alloc (by simp) _
  generalize hw1 : (w.alloc (.cells #[.slice d.a d.n d.c, .slice d.pa d.pn d.pc, .int .i64 d.left, .bool d.down] 25)).alloc (.cells #[.slice none 0 0, .slice none 0 0, .int .i64 0, .bool false] 25) = w1 at *
  rw [World.size_alloc] at OX
  clear hw1
  have HDR : Hid (Below w1.heap.size w1 w1.drew) := below_draws _ _ 1
  have HDW := Lib.hid (below_next HB.out HDR.out (Nat.le_refl _))
  have KS : Keep (∀ X, Bx X w.heap.size [.slice d.a d.n d.c, .slice d.pa d.pn d.pc, .int .i64 d.left, .bool d.down] → X.cell? ⟨w.heap.size, 0, none⟩ = some (.slice d.a d.n d.c) ∧ X.cell? ⟨w.heap.size, 1, none⟩ = some (.slice d.pa d.pn d.pc) ∧ X.cell? ⟨w.heap.size, 2, none⟩ = some (.int .i64 d.left) ∧ X.cell? ⟨w.heap.size, 3, none⟩ = some (.bool d.down)) := ⟨fun X h => ⟨h.cell 0 _ rfl, h.cell 1 _ rfl, h.cell 2 _ rfl, h.cell 3 _ rfl⟩⟩
  go_region_held3 (fun X => X.cell? ⟨w.heap.size, 0, none⟩ = some (.slice d.a d.n d.c) ∧ X.cell? ⟨w.heap.size, 1, none⟩ = some (.slice d.pa d.pn d.pc) ∧ X.cell? ⟨w.heap.size, 2, none⟩ = some (.int .i64 d.left) ∧ X.cell? ⟨w.heap.size, 3, none⟩ = some (.bool d.down))
    (first | exact KS.out _ (IX.out.below HDR.out) | exact KS.out _ ((IX.out.below HDR.out).below HBM.out) | exact KS.out _ (((IX.out.below HDR.out).below HBM.out).below HBN.out) | exact KS.out _ ((((((((IX.out.below HDR.out).below HBM.out).below HBN.out).other (by simp) _).other (by simp) _).other (by simp) _).other (by simp) _)))
    (first
      | (go_at_call 41; ((refine (CK.out _ HDW.out).mono ?_); rintro e wm ⟨A1, n1, c1, rfl, hrp, hb⟩; have HBM := Lib.hid hb; have HRP := Keep.mk hrp; have HBMW := Lib.hid (below_next HDW.out hb (Nat.le_refl _)); clear hb hrp))
      | (go_at_call 40; ((refine (CT.out _ HBMW.out _ _ _ HRP.out).mono ?_); rintro e wn ⟨A2, n2, c2, S2, rfl, hrs, hSm, hb, hn1, hn2⟩; have HN1 := Keep.mk hn1; have HN2 := Keep.mk hn2; have HBN := Lib.hid hb; have HRS := Keep.mk hrs; have HSM := Keep.mk hSm; have OXN := Keep.mk (((OX.out.below HDR.out).below HBM.out).below hb); have o0 := OXN.out.cell 0 _ rfl; have o1 := OXN.out.cell 1 _ rfl; have o2 := OXN.out.cell 2 _ rfl; have o3 := OXN.out.cell 3 _ rfl; have of := OXN.out.fz; clear hb hrs hSm hn1 hn2)))
  go_wp2
  refine bodyPost_ret (v := .agg #[.slice A2 n2 c2, .slice none 0 0, .int .i64 (-1), .bool false]) (by simp [results, Tryd.results16, go_sem, o0, o1, o2, o3]) rfl ?_
  have hz := HBMW.out.size
  have hz1 := HB.out.size
  have hzm := HBM.out.size
  have hol := OX.out.lt
  have hzd := HDR.out.size
  have hoff : Off [w.heap.size + 1] wn _ := off_set4 wn (w.heap.size + 1) (.slice A2 n2 c2) (.slice none 0 0) (.int .i64 (-1)) (.bool false)
  refine ⟨⟨A2, n2, c2, S2, none, 0, 0, [], -1, false⟩, rfl, ⟨HRS.out.off hoff (fun b hb _ a ha => ?_) (fun b hb s hs _ a ha => ?_), RP.none_ _⟩, ?_, (HBMW.out.trans (HBN.out.mono hz)).trans (hoff.below (by have := HBN.out.size; omega) (by simp)), fun b hb _ => ⟨fun _ a ha => ?_, fun s hs _ a ha => ?_, (fun h => absurd h (by simp)), (fun p hp => by cases hp)⟩⟩
  · simp only [List.mem_singleton] at hb
    have := HN1.out a ha
    omega
  · simp only [List.mem_singleton] at hb
    have := HN2.out s hs a ha
    omega
  · simp only [Dk.m, HSM.out, Dv.crash, keptPe_m]
    rfl
  · have := HN1.out a ha
    omega
  · have := HN2.out s hs a ha
    omega
end Go.Proofs.YtjficpdfofmcnaaDoor

/- The reference's Write. -/
namespace Go.Proofs.YtjficpdfofmcnaaDoor
open Go.RowKit Go.Joins

theorem GP.empty (w : World) (t : TypeId) : GP (w.alloc (.cells #[] t)) w.heap.size (some ⟨w.heap.size, 0, none⟩) 0 0 [] :=
  ⟨tgt_empty w w.heap.size t _ 2, (fun s hs => by cases hs), (fun s hs => by cases hs), fun a h => by injection h with h; rw [← h]; simp⟩
theorem away_new' {s : Sl} {w : World} (h : s.Ok w) : s.Away ((Value.slice (some ⟨w.heap.size, 0, none⟩) 0 0).ownBlock) := fun hn a ha hg => by
  have h1 := h.lt hn ha
  have h2 : w.heap.size = a.block := by simpa [Value.ownBlock] using hg
  omega
theorem write_len (d : Dk) (w : World) (h : d.Ok w) : d.m.sectors.length = d.n := by simp [Dk.m, h.sec.len]

/-- Write's ways, the fuse parted. -/
theorem write_cases3 (d : Dk) (s : Int) (b : List UInt8) :
    (d.m.down = true ∧ Dv.write d.m s b = (d.m, 23)) ∨ (d.m.down = false ∧ Dv.has d.m.sectors.length s = false ∧ Dv.write d.m s b = (Dv.Disk.zero, 2)) ∨ (d.m.down = false ∧ Dv.has d.m.sectors.length s = true ∧ b.length ≠ 64 ∧ Dv.write d.m s b = (Dv.Disk.zero, 1)) ∨
    (d.m.down = false ∧ Dv.has d.m.sectors.length s = true ∧ b.length = 64 ∧ (d.left == 0) = true ∧ decide (0 < d.left) = false ∧ d.left ≤ 0 ∧ Dv.write d.m s b = (⟨d.m.sectors, d.m.pending ++ [(s, b)], d.left, true⟩, 23)) ∨
    (d.m.down = false ∧ Dv.has d.m.sectors.length s = true ∧ b.length = 64 ∧ (d.left == 0) = false ∧ decide (0 < d.left) = true ∧ 1 ≤ d.left ∧ Dv.write d.m s b = (⟨d.m.sectors, d.m.pending ++ [(s, b)], d.left - 1, false⟩, 0)) ∨
    (d.m.down = false ∧ Dv.has d.m.sectors.length s = true ∧ b.length = 64 ∧ (d.left == 0) = false ∧ decide (0 < d.left) = false ∧ d.left ≤ 0 ∧ Dv.write d.m s b = (⟨d.m.sectors, d.m.pending ++ [(s, b)], d.left, false⟩, 0)) := by
  have hml : d.m.left = d.left := rfl
  rcases Dv.write_cases d.m s b with h | h | h | ⟨h0, h1, h2, h3, hw⟩ | ⟨h0, h1, h2, h3, hw⟩
  · exact .inl h
  · exact .inr (.inl h)
  · exact .inr (.inr (.inl h))
  · rw [hml] at h3
    exact .inr (.inr (.inr (.inl ⟨h0, h1, h2, by simp [h3], by simp [h3], by omega, by rw [hw, h3]⟩)))
  · rw [hml] at h3 hw
    by_cases hp : 0 < d.left
    · rw [if_pos hp] at hw
      exact .inr (.inr (.inr (.inr (.inl ⟨h0, h1, h2, by simpa using h3, by simpa using hp, by omega, hw⟩))))
    · rw [if_neg hp] at hw
      exact .inr (.inr (.inr (.inr (.inr ⟨h0, h1, h2, by simpa using h3, by simpa using hp, by omega, hw⟩))))
set_option maxHeartbeats 6000000 in
set_option maxRecDepth 100000 in
theorem rwrite_any (d : Dk) (s : Int) (A : Option Addr) (n c : Nat) (l : List UInt8) (K : Nat) (w : World) (h : d.Ok w) (hl : RB w A n c l) (hf : Dv.Fits K d.m) (hK : K ≤ 100000) (hLo : -9223372036854775808 ≤ d.left) (hHi : d.left ≤ 9223372036854775807) :
    Calls Tryd.prog 50 #[.agg #[.slice d.a d.n d.c, .slice d.pa d.pn d.pc, .int .i64 d.left, .bool d.down], .int .i64 s, .slice A n c] w (RetKE w d.Av (Dv.write d.m s l)) := by
  have HD := Keep.mk h
  have HL := Keep.mk hl
  have hn := write_len d w h
  have hll := hl.len
  have hpn := h.pen.len
  have hnp : d.pn ≤ 100000 := by have := hf.np; simp [Dk.m, hpn] at this; omega
  have HPL := Keep.mk hpn
  have hB : Hid (∀ u, Below w.heap.size w ((w.alloc (.cells #[.slice d.a d.n d.c, .slice d.pa d.pn d.pc, .int .i64 d.left, .bool d.down] 25)).alloc u)) := fun u => (below_alloc1 _ _).alloc (by simp) _
  clear h hl hf hpn
  rcases write_cases3 d s l with ⟨h0, hw⟩ | ⟨h0, h1, hw⟩ | ⟨h0, h1, h2, hw⟩ | ⟨h0, h1, h2, h3, h4, h5, hw⟩ | ⟨h0, h1, h2, h3, h4, h5, hw⟩ | ⟨h0, h1, h2, h3, h4, h5, hw⟩
  · have hdn : d.down = true := h0
    have HW := Keep.mk hw
    rw [HW.out]
    rw [hdn] at hB
    rw [hdn]
    have HDN := Keep.mk hdn
    clear h0 hw hn hdn
    go_enter Tryd.func50, Tryd.ntmps50
    go_wp2
    refine bodyPost_ret (v := .tuple #[.agg #[.slice d.a d.n d.c, .slice d.pa d.pn d.pc, .int .i64 d.left, .bool true], .int .i64 23]) (by simp [results, Tryd.results50, go_sem]) rfl ?_
    exact ⟨d, by unfold Dk.v; rw [HDN.out], HD.out.below (hB.out _), rfl, hB.out _, fun b _ hb => hb⟩
  · have hdn : d.down = false := h0
    rw [hn] at h1
    have HW := Keep.mk hw
    have HH := Keep.mk h1
    rw [HW.out]
    rw [hdn] at hB
    rw [hdn]
    clear h0 hw hn hdn h1
    go_enter Tryd.func50, Tryd.ntmps50
    go_wp2_with fail
    refine (there_any d.a d.n d.c d.pa d.pn d.pc d.left false s _).mono ?_
    rw [HH.out]
    rintro e w1 ⟨rfl, hb1⟩
    have HB1 := Lib.hid (below_next (hB.out _) hb1 (Nat.le_refl _))
    have OX := Keep.mk ((Bx.new (w.alloc (.cells #[.slice d.a d.n d.c, .slice d.pa d.pn d.pc, .int .i64 d.left, .bool false] 25)) [.slice none 0 0, .slice none 0 0, .int .i64 0, .bool false] 25).below hb1)
    rw [World.size_alloc] at OX
    clear hb1
    have o0 := OX.out.cell 0 _ rfl
    have o1 := OX.out.cell 1 _ rfl
    have o2 := OX.out.cell 2 _ rfl
    have o3 := OX.out.cell 3 _ rfl
    have of := OX.out.fz
    go_wp2
    refine bodyPost_ret (v := .tuple #[.agg #[.slice none 0 0, .slice none 0 0, .int .i64 0, .bool false], .int .i64 2]) (by simp [results, Tryd.results50, go_sem, o0, o1, o2, o3]) rfl ?_
    exact ⟨Dk.zero, rfl, Dk.zero_ok _, rfl, HB1.out.trans ((off_set4 w1 (w.heap.size + 1) _ _ _ _).below (HB1.out.size) (by simp)), fun b _ _ => Dk.zero_av b⟩
  · have hdn : d.down = false := h0
    rw [hn] at h1
    have hn64 : ((n : Int) != 64) = true := by rw [bne_iff_ne]; omega
    have HW := Keep.mk hw
    have HH := Keep.mk h1
    rw [HW.out]
    rw [hdn] at hB
    rw [hdn]
    clear h0 hw hn hdn h1
    go_enter Tryd.func50, Tryd.ntmps50
    go_wp2_with fail
    refine (there_any d.a d.n d.c d.pa d.pn d.pc d.left false s _).mono ?_
    rw [HH.out]
    rintro e w1 ⟨rfl, hb1⟩
    have HB1 := Lib.hid (below_next (hB.out _) hb1 (Nat.le_refl _))
    have OX := Keep.mk ((Bx.new (w.alloc (.cells #[.slice d.a d.n d.c, .slice d.pa d.pn d.pc, .int .i64 d.left, .bool false] 25)) [.slice none 0 0, .slice none 0 0, .int .i64 0, .bool false] 25).below hb1)
    rw [World.size_alloc] at OX
    clear hb1
    have o0 := OX.out.cell 0 _ rfl
    have o1 := OX.out.cell 1 _ rfl
    have o2 := OX.out.cell 2 _ rfl
    have o3 := OX.out.cell 3 _ rfl
    have of := OX.out.fz
    go_wp2
    refine bodyPost_ret (v := .tuple #[.agg #[.slice none 0 0, .slice none 0 0, .int .i64 0, .bool false], .int .i64 1]) (by simp [results, Tryd.results50, go_sem, o0, o1, o2, o3]) rfl ?_
    exact ⟨Dk.zero, rfl, Dk.zero_ok _, rfl, HB1.out.trans ((off_set4 w1 (w.heap.size + 1) _ _ _ _).below (HB1.out.size) (by simp)), fun b _ _ => Dk.zero_av b⟩
  all_goals
    have hdn : d.down = false := h0
    rw [hn] at h1
    have hn64 : ((n : Int) != 64) = false := by rw [bne_eq_false_iff_eq]; omega
    have hn200 : n ≤ 200 := by omega
    have HW := Keep.mk hw
    have HH := Keep.mk h1
    rw [hdn] at hB
    rw [hdn]
    clear h0 hw hn hdn h1 h2
    go_enter Tryd.func50, Tryd.ntmps50
    go_wp2_with fail
    refine (there_any d.a d.n d.c d.pa d.pn d.pc d.left false s _).mono ?_
    rw [HH.out]
    rintro e w1 ⟨rfl, hb1⟩
    have HB1 := Lib.hid (below_next (hB.out _) hb1 (Nat.le_refl _))
    have IX := Keep.mk (((Bx.new w [.slice d.a d.n d.c, .slice d.pa d.pn d.pc, .int .i64 d.left, .bool false] 25).alloc (.cells #[.slice none 0 0, .slice none 0 0, .int .i64 0, .bool false] 25)).below hb1)
    have OX := Keep.mk ((Bx.new (w.alloc (.cells #[.slice d.a d.n d.c, .slice d.pa d.pn d.pc, .int .i64 d.left, .bool false] 25)) [.slice none 0 0, .slice none 0 0, .int .i64 0, .bool false] 25).below hb1)
    rw [World.size_alloc] at OX
    clear hb1
    have i0 := IX.out.cell 0 _ rfl
    have i1 := IX.out.cell 1 _ rfl
    have i2 := IX.out.cell 2 _ rfl
    have i3 := IX.out.cell 3 _ rfl
    go_upto_region 8 with (fail)
    have HB8 : Hid (Below w1.heap.size w1 (w1.alloc (.cells #[.slice d.a d.n d.c, .slice d.pa d.pn d.pc, .int .i64 d.left, .bool false] 25))) := below_alloc1 _ _
    have PX := Keep.mk (Bx.new w1 [.slice d.a d.n d.c, .slice d.pa d.pn d.pc, .int .i64 d.left, .bool false] 25)
    generalize w1.alloc (.cells #[.slice d.a d.n d.c, .slice d.pa d.pn d.pc, .int .i64 d.left, .bool false] 25) = w8 at *
    have IX8 := Keep.mk (IX.out.below HB8.out)
    have OX8 := Keep.mk (OX.out.below HB8.out)
    have HBW := Lib.hid (below_next HB1.out HB8.out (Nat.le_refl _))
    have hz1 := HB1.out.size
    have hz8 := HB8.out.size
    have hol := OX8.out.lt
    have hpl := PX.out.lt
    have hi1 := IX.out.lt
    have hol1 := OX.out.lt
    clear i0 i1 i2 i3 IX OX HB1
    have i1 := (IX8.out.alloc (.cells #[] 79)).cell 1 _ rfl
    have HG8 := Keep.mk (GP.empty w8 79)
    have HP8 := Keep.mk ((HD.out.pen.below HBW.out).below (below_alloc1 w8 (.cells #[] 79)))
    have hl8 : w.heap.size + 1 < w8.heap.size := by omega
    have hB8 : Hid (Below w8.heap.size w8 (w8.alloc (.cells #[] 79))) := below_alloc1 _ _
    go_upto_region 9 with (first
      | (at_builtin; refine wpList_append_app _ rfl (.tmp 22) (.tmp 24) 23 rfl w8.heap.size 79 (.agg #[.int .i64 0, .slice none 0 0]) 2 32 Tryd.underlying23 wr_info rfl (by decide) (by decide) (.slice (some ⟨w8.heap.size, 0, none⟩) 0 0) 0 [] rfl HG8.out.tgt d.pa d.pn d.pc (d.P.flatMap Pe.cells) rfl HP8.out.rd (pe_one _) (by omega) (by simp) ?_; intro A1 c1 w9 ha; have HA1 := Keep.mk ha; have hg9 := GP.app (P := []) (Q := d.P) HG8.out (by simpa using ha) HP8.out.ok (fun p hp => away_new' ((HD.out.pen.below HBW.out).ok p hp)); have HG9 := Keep.mk hg9; have hb9 := ha.below; have HB9 := Lib.hid (hB8.out.trans hb9); clear ha hg9 hb9)
      | (go_at_call 73; refine (own_any A n c l _ ((HL.out.below HBW.out).below HB9.out) (by omega)).mono ?_; rintro e w10 ⟨A2, n2, c2, rfl, hr2, ha2, hb2⟩; have HR2 := Keep.mk hr2; have HA2 := Keep.mk ha2; have HB10 := Lib.hid hb2; have HG10 := Keep.mk (HG9.out.below hb2); clear hr2 ha2 hb2)
      | (at_builtin; refine wpList_append_app _ rfl (.tmp 25) (.tmp 30) 23 rfl w8.heap.size 79 (.agg #[.int .i64 0, .slice none 0 0]) 2 32 Tryd.underlying23 wr_info rfl (by decide) (by decide) (.slice A1 d.pn c1) d.pn (d.P.flatMap Pe.cells) rfl (HG10.out.below (below_alloc1 _ _)).tgt (some ⟨w10.heap.size, 0, none⟩) 1 1 [.int .i64 s, .slice A2 n2 c2] rfl (rd_two w10 _ _ _) (by simp [Value.oneCell']) (by omega) (by have := HB9.out.size; have := HB10.out.size; simp; omega) ?_; intro A3 c3 w11 ha; have HA3 := Keep.mk ha; have hb11 := ha.below; have HB11 : Hid (Below w8.heap.size w8 w11) := (HB9.out.trans (HB10.out.mono HB9.out.size)).trans (((below_alloc1 _ _).mono (Nat.le_trans HB9.out.size HB10.out.size)).trans hb11); have PX11 := Keep.mk (PX.out.below HB11.out); have p1 := PX11.out.cell 1 _ rfl; have pf := PX11.out.fz 1; clear ha hb11))
    clear p1 pf i1
    have HG11 := Keep.mk (GP.app (P := d.P) (Q := [(⟨s, ⟨A2, n2, c2, l⟩⟩ : Pe)]) (HG10.out.below (below_alloc1 _ _)) (by simpa [Pe.cells, Sl.v] using HA3.out) (fun p hp => by simp only [List.mem_singleton] at hp; subst hp; exact Sl.Ok.below (s := ⟨A2, n2, c2, l⟩) HR2.out (below_alloc1 _ _)) (fun p hp => by simp only [List.mem_singleton] at hp; subst hp; exact away_new HG9.out.lt HA2.out))
    have HA : Keep (∀ a, A3 = some a → w8.heap.size ≤ a.block) := ⟨fun a ha => by
      have z9 := HB9.out.size
      have z10 := HB10.out.size
      rcases HA3.out.at_ a ha with h | h
      · cases hA1 : A1 with
        | none => rw [hA1] at h; simp [Value.ownBlock] at h
        | some x =>
          rw [hA1] at h
          have h2 : x.block = a.block := by simpa [Value.ownBlock] using h
          rcases HA1.out.at_ x hA1 with h3 | h3
          · have h4 : w8.heap.size = x.block := by simpa [Value.ownBlock] using h3
            omega
          · have := h3.1
            simp at this
            omega
      · have := h.1
        simp at this
        omega⟩
    have FIN : Keep (∀ X lf dn ek, Off [w.heap.size + 1, w1.heap.size] w11 X → RetKE w d.Av (⟨d.m.sectors, d.m.pending ++ [(s, l)], lf, dn⟩, ek) (.returned (.tuple #[.agg #[.slice d.a d.n d.c, .slice A3 (d.pn + 1) c3, .int .i64 lf, .bool dn], .int .i64 ek])) X) := ⟨fun X lf dn ek hX => by
      have hbw := HBW.out.trans (HB11.out.mono HBW.out.size)
      have z9 := HB9.out.size
      have hDX := ((HD.out.below HBW.out).sec.below HB11.out).off hX (fun b hb hn a ha => ?_) (fun b hb t ht hn a ha => ?_)
      · refine ⟨⟨d.a, d.n, d.c, d.S, A3, d.pn + 1, c3, d.P ++ [⟨s, ⟨A2, n2, c2, l⟩⟩], lf, dn⟩, rfl, ⟨hDX, HG11.out.rp.off hX (fun b hb _ a ha => ?_) (fun b hb p hp hn a ha => ?_)⟩, ?_, hbw.trans (hX.below hbw.size (by simp; omega)), fun b hb hI => ⟨hI.a_, hI.s_, fun _ a ha => ?_, fun p hp hn a ha => ?_⟩⟩
        · have h1 := HA.out a ha
          simp only [List.mem_cons, List.not_mem_nil, or_false] at hb
          omega
        · simp only [List.mem_cons, List.not_mem_nil, or_false] at hb
          rcases List.mem_append.1 hp with hp | hp
          · have := Rd.lt (HD.out.pen.ok p hp) hn ha
            omega
          · simp only [List.mem_singleton] at hp
            subst hp
            have := HA2.out a ha
            omega
        · simp [Dk.m, Pe.m]
        · have h1 := HA.out a ha
          omega
        · rcases List.mem_append.1 hp with hp | hp
          · exact hI.q_ p hp hn a ha
          · simp only [List.mem_singleton] at hp
            subst hp
            have := HA2.out a ha
            omega
      · have := Rd.lt HD.out.sec.rd hn ha
        simp only [List.mem_cons, List.not_mem_nil, or_false] at hb
        omega
      · have := Rd.lt (HD.out.sec.ok t ht) hn ha
        simp only [List.mem_cons, List.not_mem_nil, or_false] at hb
        omega⟩
    rw [HW.out]
    have IX11 := Keep.mk (IX8.out.below HB11.out)
    have OX11 := Keep.mk (OX8.out.below HB11.out)
    have i2 := IX11.out.cell 2 _ rfl
    have o0 := OX11.out.cell 0 _ rfl
    have o1 := OX11.out.cell 1 _ rfl
    have o2 := OX11.out.cell 2 _ rfl
    have o3 := OX11.out.cell 3 _ rfl
    have of := OX11.out.fz
    have p0 := PX11.out.cell 0 _ rfl
    have p1 := PX11.out.cell 1 _ rfl
    have p2 := PX11.out.cell 2 _ rfl
    have p3 := PX11.out.cell 3 _ rfl
    have pf := PX11.out.fz
    have hl11 := OX11.out.lt
    have hm11 := PX11.out.lt
    clear HA3 HA1 HG11 HG10 HG9 HG8 HP8 HR2
    go_wp2
    first
      | (have ht : (d.left == 0) = true := by assumption
         refine bodyPost_ret (v := .tuple #[.agg #[.slice d.a d.n d.c, .slice A3 (d.pn + 1) c3, .int .i64 d.left, .bool true], .int .i64 23]) ?_ rfl ?_
         · simp [results, Tryd.results50, go_sem, o0, o1, o2, o3]
         · rw [HW.out]
           refine FIN.out _ d.left true 23 ?_
           exact (((((((Off.refl _ w11).setCell (by simp) _).setCell (by simp) _).setCell (by simp) _).setCell (by simp) _).setCell (by simp) _).setCell (by simp) _))
      | (have ht : decide (0 < d.left) = true := by assumption
         refine bodyPost_ret (v := .tuple #[.agg #[.slice d.a d.n d.c, .slice A3 (d.pn + 1) c3, .int .i64 (d.left - 1), .bool false], .int .i64 0]) ?_ rfl ?_
         · simp [results, Tryd.results50, go_sem, o0, o1, o2, o3]
         · rw [HW.out]
           refine FIN.out _ (d.left - 1) false 0 ?_
           exact (((((((Off.refl _ w11).setCell (by simp) _).setCell (by simp) _).setCell (by simp) _).setCell (by simp) _).setCell (by simp) _).setCell (by simp) _))
      | (have ht : decide (0 < d.left) = false := by assumption
         refine bodyPost_ret (v := .tuple #[.agg #[.slice d.a d.n d.c, .slice A3 (d.pn + 1) c3, .int .i64 d.left, .bool false], .int .i64 0]) ?_ rfl ?_
         · simp [results, Tryd.results50, go_sem, o0, o1, o2, o3]
         · rw [HW.out]
           refine FIN.out _ d.left false 0 ?_
           exact ((((((Off.refl _ w11).setCell (by simp) _).setCell (by simp) _).setCell (by simp) _).setCell (by simp) _).setCell (by simp) _))
end Go.Proofs.YtjficpdfofmcnaaDoor

/- A device, a list of writes that came in. -/
namespace Go.Proofs.YtjficpdfofmcnaaDoor
open Go.ChangeShapes Go.WideShapes Go.ChangeAt Go.RowKit Go.Joins Go.Deep

section
variable {H : Type} {enc : TypeId × Value → H} {W : World} {v : Value} {d : DataW H} {p : List MemPlace} {r : Reach} {b0 : Nat}
theorem sl_each (m : Nat) (cs : List Value) (y : DataW H × List MemPlace) (h : DataW.trod enc Tryd.prog W 0 (fun _ => true) true m 26 cs = some y) : ∃ z : Sl, cs = z.cells ∧ z.Ok W := by
  obtain ⟨vs, hcs⟩ : ∃ v, cs = [v] := by
    rcases open_slice Tryd.underlying26 h with ⟨hcs, _⟩ | ⟨a, len, cap, m, n, D, Pl, hcs, _⟩
    · exact ⟨_, hcs⟩
    · exact ⟨_, hcs⟩
  subst hcs
  obtain ⟨A, n, c, l, rfl, hr, _⟩ := rb_of_trod Tryd.underlying26 Tryd.underlying5 (by kernel_rfl) h
  exact ⟨⟨A, n, c, l⟩, rfl, hr⟩
theorem pe_each (m : Nat) (cs : List Value) (y : DataW H × List MemPlace) (h : DataW.trod enc Tryd.prog W 0 (fun _ => true) true m 79 cs = some y) : ∃ z : Pe, cs = z.cells ∧ z.s.Ok W := by
  obtain ⟨hcl, ys, n, hy, hyl, hf⟩ := trod_fields Tryd.underlying79 (by kernel_rfl) (by kernel_rfl) h
  obtain ⟨v0, y0, c0, e0, t0⟩ := hf 0 _ rfl
  obtain ⟨v1, y1, c1, e1, t1⟩ := hf 1 _ rfl
  obtain ⟨a0, k0, _, _⟩ := DataW.trod_int Tryd.underlying3 t0
  obtain ⟨A1, n1, q1, l1, k1, r1, _⟩ := rb_of_trod Tryd.underlying26 Tryd.underlying5 (by kernel_rfl) t1
  simp only [List.cons.injEq, and_true] at k0
  subst k0 k1
  match cs, hcl, c0, c1 with
  | [w0, w1], _, c0, c1 =>
    simp only [List.getElem?_cons_zero, List.getElem?_cons_succ, Option.some.injEq] at c0 c1
    subst c0 c1
    exact ⟨⟨a0, ⟨A1, n1, q1, l1⟩⟩, rfl, r1⟩
theorem mem_get {α : Type} {l : List α} {x : α} (h : x ∈ l) : ∃ i : Nat, l[i]? = some x := List.mem_iff_getElem?.1 h
theorem flat_one (S : List Sl) : S.flatMap Sl.cells = S.map Sl.v := by
  induction S with
  | nil => rfl
  | cons s S ih => simp only [List.flatMap_cons, List.map_cons, ih, Sl.cells]; rfl
set_option maxRecDepth 100000 in
theorem disk_cells {m : Nat} {cs : List Value} {y : DataW H × List MemPlace} (h : DataW.trod enc Tryd.prog W 0 (fun _ => true) true m 25 cs = some y) : ∃ q : Dk, cs = q.cells ∧ q.Ok W ∧ (Lit.int .i64 q.left).wf = true := by
  obtain ⟨hcl, ys, n, hy, hyl, hf⟩ := trod_fields Tryd.underlying25 (by kernel_rfl) (by kernel_rfl) h
  obtain ⟨v0, y0, c0, e0, t0⟩ := hf 0 _ rfl
  obtain ⟨v1, y1, c1, e1, t1⟩ := hf 1 _ rfl
  obtain ⟨v2, y2, c2, e2, t2⟩ := hf 2 _ rfl
  obtain ⟨v3, y3, c3, e3, t3⟩ := hf 3 _ rfl
  obtain ⟨A0, n0, q0, S, k0, r0, l0, x0⟩ := rows_of_trod (cells := Sl.cells) (s := 1) Tryd.underlying22 (by kernel_rfl) (by decide) (fun _ => rfl) (fun z _ => z.Ok W) sl_each t0
  obtain ⟨A1, n1, q1, P, k1, r1, l1, x1⟩ := rows_of_trod (cells := Pe.cells) (s := 2) Tryd.underlying23 (by kernel_rfl) (by decide) pe_two (fun z _ => z.s.Ok W) pe_each t1
  obtain ⟨a2, k2, _, f2⟩ := DataW.trod_int Tryd.underlying3 t2
  obtain ⟨b3, k3, _⟩ := DataW.trod_bool Tryd.underlying4 t3
  have o0 : ∀ z ∈ S, z.Ok W := fun z hz => by
    rcases x0 with ⟨_, rfl⟩ | ⟨D, sp, _, hq⟩
    · cases hz
    · obtain ⟨i, hi⟩ := mem_get hz
      exact hq i z hi
  have o1 : ∀ z ∈ P, z.s.Ok W := fun z hz => by
    rcases x1 with ⟨_, rfl⟩ | ⟨D, sp, _, hq⟩
    · cases hz
    · obtain ⟨i, hi⟩ := mem_get hz
      exact hq i z hi
  rw [flat_one] at r0
  simp only [List.cons.injEq, and_true] at k2 k3
  subst k0 k1 k2 k3
  match cs, hcl, c0, c1, c2, c3 with
  | [w0, w1, w2, w3], _, c0, c1, c2, c3 =>
    simp only [List.getElem?_cons_zero, List.getElem?_cons_succ, Option.some.injEq] at c0 c1 c2 c3
    subst c0 c1 c2 c3
    exact ⟨⟨A0, n0, q0, S, A1, n1, q1, P, a2, b3⟩, rfl, ⟨⟨r0, o0⟩, ⟨r1, o1⟩⟩, f2⟩
set_option maxRecDepth 100000 in
theorem open_disk (hv : Value.okWide Tryd.prog W r b0 25 v) (h : DataW.Trod enc Tryd.prog W 0 (fun _ => true) true 25 v d p) :
    ∃ q : Dk, v = .agg #[.slice q.a q.n q.c, .slice q.pa q.pn q.pc, .int .i64 q.left, .bool q.down] ∧ q.Ok W ∧ (Lit.int .i64 q.left).wf = true := by
  obtain ⟨cs, rfl, hsz⟩ := okWide_struct Tryd.underlying25 hv
  obtain ⟨fuel, hf⟩ := h
  simp only [Value.cells] at hf
  obtain ⟨q, hq, ho, hl⟩ := disk_cells hf
  refine ⟨q, ?_, ho, hl⟩
  obtain ⟨l⟩ := cs
  simp only at hq
  subst hq
  rfl
end
end Go.Proofs.YtjficpdfofmcnaaDoor
