/- The reference's own, there, SameBytes, SameSectors, Same, Few. -/
import Derived.Test.YtpekbcoclmhcnaaApp
import Derived.Deep.QuietTactic
import Derived.BigQuiet
namespace Go.Proofs.Ytpekbcoclmhcnaa
open Go.RowKit Go.Joins

theorem quiet_add {P : Program} {f : FuncId} {args : Array Value} {w : World} {a n : Nat} {v : Value}
    (h : Calls P f args (w.drewN (a + n)) fun e w' => e = .returned v ∧ ∃ m, w' = (w.drewN (a + n)).drewN m) :
    Calls P f args (w.drewN (a + n)) fun e w'' => e = .returned v ∧ ∃ m, w'' = w.drewN (a + m) :=
  h.mono fun _ _ ⟨he, m, hm⟩ => ⟨he, n + m, by rw [hm, World.drewN_drewN, Nat.add_assoc]⟩

/-- mapsheetsref24.SameBytes -/
theorem sb_any (A : Option Addr) (n c : Nat) (l : List UInt8) (B : Option Addr) (m d : Nat) (l' : List UInt8) (w : World) (hl : RB w A n c l) (hl' : RB w B m d l') :
    Calls Try.prog 18 #[.slice A n c, .slice B m d] w fun e w' => e = .returned (.bool (decide (l = l'))) ∧ ∃ k, w' = w.drewN k := by
  have hlen := hl.len
  have hlen' := hl'.len
  have hbig := Nat.le_trans hl.cap hl.big
  unfold maxLen at hbig
  by_cases hnm : n = m
  · subst hnm
    have h0 : ((n : Int) != (n : Int)) = false := by simp
    have HL := Lib.hid hl
    have HL' := Lib.hid hl'
    clear hl hl'
    go_enter Try.func18, Try.ntmps18
    go_wp2
    go_loopw [5] (fun i wr => ∃ k q : Nat, k ≤ n ∧ i = .int .i64 k ∧ l.take k = l'.take k ∧ wr = w.drewN q) (fun i _ => n - (intOf i).toNat)
    case atStart => exact ⟨0, 0, Nat.zero_le _, rfl, by simp, rfl⟩
    case round =>
      obtain ⟨k, q, hk, rfl, heq, rfl⟩ := hrel
      have HE := Lib.hid heq
      clear heq
      by_cases hlt : k < n
      · obtain ⟨b, o, rfl, _, hck⟩ := HL.out.at_ (k := k) (by omega)
        obtain ⟨b', o', rfl, _, hck'⟩ := HL'.out.at_ (k := k) (by omega)
        by_cases hx : l[k] = l'[k]
        · have h1 : ((l[k].toNat : Int) != (l'[k].toNat : Int)) = false := by simp [hx]
          have HX := Lib.hid hx
          clear hx
          go_wp2
          go_quiet (fail)
          go_wp2
          go_roundw
          case rel =>
            refine ⟨k + 1, _, by omega, by go_num, ?_, rfl⟩
            rw [List.take_succ_eq_append_getElem (by omega), List.take_succ_eq_append_getElem (by omega), HE.out, HX.out]
          case measure => simp [intOf]; omega
        · have h1 : ((l[k].toNat : Int) != (l'[k].toNat : Int)) = true := by
            simp only [bne_iff_ne, ne_eq]
            intro h
            exact hx (UInt8.toNat_inj.1 (by omega))
          have HX : Hid (decide (l = l') = false) := by
            refine decide_eq_false fun h => hx ?_
            subst h
            rfl
          clear hx
          go_wp2
          go_quiet (fail)
          go_wp2
          go_ret
          exact ⟨by rw [HX.out]; rfl, _, by rw [World.drewN_drewN]⟩
      · have HX : Hid (decide (l = l') = true) := by
          have heq := HE.out
          rw [List.take_of_length_le (by omega), List.take_of_length_le (by omega)] at heq
          exact decide_eq_true heq
        go_wp2
        go_ret
        exact ⟨by rw [HX.out]; rfl, _, rfl⟩
  · have h0 : ((n : Int) != (m : Int)) = true := by simp; omega
    have HX : Hid (decide (l = l') = false) := by
      refine decide_eq_false fun h => hnm ?_
      rw [← hlen, ← hlen', h]
    go_enter Try.func18, Try.ntmps18
    go_wp2
    go_ret
    exact ⟨by rw [HX.out]; rfl, 0, rfl⟩

/-- The same, where the two are known to be equal. -/
theorem sb_true (A : Option Addr) (n c : Nat) (B : Option Addr) (m d : Nat) (l : List UInt8) (w : World) (hl : RB w A n c l) (hl' : RB w B m d l) :
    Calls Try.prog 18 #[.slice A n c, .slice B m d] w fun e w' => e = .returned (.bool true) ∧ ∃ k, w' = w.drewN k :=
  (sb_any A n c l B m d l w hl hl').mono fun _ _ ⟨he, hw⟩ => ⟨by simpa using he, hw⟩

/-- own -/
theorem own_any (A : Option Addr) (n c : Nat) (l : List UInt8) (w : World) (hl : RB w A n c l) (hroom : n ≤ 140737488355328) : Calls Try.prog 35 #[.slice A n c] w (RetBF w l) := by
  have HL := Lib.hid hl
  clear hl
  go_enter Try.func35, Try.ntmps35
  go_wp2_with (at_builtin; refine wpList_append_app _ rfl (.tmp 3) (.tmp 4) 26 rfl w.heap.size 5 (.int .u8 0) 1 1 Try.underlying26 u8_info rfl (by decide) (by decide) (.slice (some ⟨w.heap.size, 0, none⟩) 0 0) 0 [] rfl (tgt_empty w w.heap.size 5 5 1) _ n c (l.map bv) rfl (Rd.below HL.out (below_alloc1 _ _)) (bv_one l) (by omega) (by simp) ?_; intro A' c' w2 ha; have HA := Keep.mk ha; clear ha)
  go_ret
  refine ⟨A', n, c', rfl, ?_, fun a ha => ?_, (below_alloc1 _ _).trans HA.out.below⟩
  · obtain ⟨A2, c2, e, hr⟩ := HA.out.tgt.rd
    injection e with e1 _ e3
    subst e1 e3
    simpa [RB] using hr
  · rcases HA.out.at_ a ha with h | h
    · have h2 : w.heap.size = a.block := by simpa [Value.ownBlock] using h
      omega
    · have h2 : w.heap.size + 1 ≤ a.block := by simpa using h.1
      omega

/-- there -/
theorem there_any (A : Option Addr) (n c : Nat) (pA : Option Addr) (pn pc : Nat) (left : Int) (down : Bool) (s : Int) (w : World) :
    Calls Try.prog 34 #[.agg #[.slice A n c, .slice pA pn pc, .int .i64 left, .bool down], .int .i64 s] w fun e w' => e = .returned (.bool (Dv.has n s)) ∧ Below w.heap.size w w' := by
  by_cases h0 : 0 ≤ s
  · have h1 : decide ((0 : Int) ≤ s) = true := decide_eq_true h0
    by_cases h2 : s < (n : Int)
    · have h3 : decide (s < (n : Int)) = true := decide_eq_true h2
      have HX : Keep (Dv.has n s = true) := ⟨decide_eq_true ⟨h0, h2⟩⟩
      go_enter Try.func34, Try.ntmps34
      go_wp2
      go_ret
      exact ⟨by rw [HX.out]; rfl, below_alloc1 _ _⟩
    · have h3 : decide (s < (n : Int)) = false := decide_eq_false h2
      have HX : Keep (Dv.has n s = false) := ⟨decide_eq_false fun h => h2 h.2⟩
      go_enter Try.func34, Try.ntmps34
      go_wp2
      go_ret
      exact ⟨by rw [HX.out]; rfl, below_alloc1 _ _⟩
  · have h1 : decide ((0 : Int) ≤ s) = false := decide_eq_false h0
    have HX : Keep (Dv.has n s = false) := ⟨decide_eq_false fun h => h0 h.1⟩
    go_enter Try.func34, Try.ntmps34
    go_wp2
    go_ret
    exact ⟨by rw [HX.out]; rfl, below_alloc1 _ _⟩

/-- SameSectors -/
theorem ss_any (A : Option Addr) (n c : Nat) (S : List Sl) (B : Option Addr) (m d : Nat) (S' : List Sl) (w : World) (hS : RS w A n c S) (hS' : RS w B m d S') :
    Calls Try.prog 27 #[.slice A n c, .slice B m d] w fun e w' => e = .returned (.bool (decide (S.map (·.l) = S'.map (·.l)))) ∧ ∃ k, w' = w.drewN k := by
  have hlen := hS.len
  have hlen' := hS'.len
  have hbig := Nat.le_trans hS.cap hS.big
  unfold maxLen at hbig
  by_cases hnm : n = m
  · subst hnm
    have h0 : ((n : Int) != (n : Int)) = false := by simp
    have HS := Keep.mk hS
    have HS' := Keep.mk hS'
    clear hS hS'
    go_enter Try.func27, Try.ntmps27
    go_wp2
    go_loopw [5] (fun i wr => ∃ k q : Nat, k ≤ n ∧ i = .int .i64 k ∧ (S.take k).map (·.l) = (S'.take k).map (·.l) ∧ wr = w.drewN q) (fun i _ => n - (intOf i).toNat)
    case atStart => exact ⟨0, 0, Nat.zero_le _, rfl, by simp, rfl⟩
    case round =>
      obtain ⟨k, q, hk, rfl, heq, rfl⟩ := hrel
      have HE := Lib.hid heq
      clear heq
      by_cases hlt : k < n
      · have hk1 : k < S.length := by omega
        have hk2 : k < S'.length := by omega
        obtain ⟨b, o, rfl, _, hck, hr⟩ := HS.out.at_ (k := k) hk1
        obtain ⟨b', o', rfl, _, hck', hr'⟩ := HS'.out.at_ (k := k) hk2
        have HR := Keep.mk hr
        have HR' := Keep.mk hr'
        clear hr hr'
        by_cases hx : S[k].l = S'[k].l
        · have CC : Keep (∀ X, Below w.heap.size w X → Calls Try.prog 18 #[.slice S[k].a S[k].n S[k].c, .slice S'[k].a S'[k].n S'[k].c] X fun e w' => e = .returned (.bool true) ∧ ∃ j, w' = X.drewN j) :=
            ⟨fun X hX => (sb_any _ _ _ _ _ _ _ _ X (HR.out.below hX) (HR'.out.below hX)).mono fun _ _ ⟨he, hw⟩ => ⟨by rw [he, hx]; simp, hw⟩⟩
          have HX : Keep ((S.take (k + 1)).map (·.l) = (S'.take (k + 1)).map (·.l)) := ⟨by
            rw [List.take_succ_eq_append_getElem hk1, List.take_succ_eq_append_getElem hk2, List.map_append, List.map_append, HE.out]
            simp [hx]⟩
          clear hx
          go_wp2
          go_quiet ((go_at_call 18; first | exact Calls.quiet_of (CC.out _ (below_draws _ _ _)) | exact quiet_add (CC.out _ (below_draws _ _ _))))
          go_wp2
          go_roundw
          case rel => exact ⟨k + 1, _, by omega, by go_num, HX.out, rfl⟩
          case measure => simp [intOf]; omega
        · have CC : Keep (∀ X, Below w.heap.size w X → Calls Try.prog 18 #[.slice S[k].a S[k].n S[k].c, .slice S'[k].a S'[k].n S'[k].c] X fun e w' => e = .returned (.bool false) ∧ ∃ j, w' = X.drewN j) :=
            ⟨fun X hX => (sb_any _ _ _ _ _ _ _ _ X (HR.out.below hX) (HR'.out.below hX)).mono fun _ _ ⟨he, hw⟩ => ⟨by rw [he, decide_eq_false hx], hw⟩⟩
          have HX : Hid (decide (S.map (·.l) = S'.map (·.l)) = false) := by
            refine decide_eq_false fun h => hx ?_
            have := congrArg (·[k]?) h
            simpa [List.getElem?_map, List.getElem?_eq_getElem hk1, List.getElem?_eq_getElem hk2] using this
          clear hx
          go_wp2
          go_quiet ((go_at_call 18; first | exact Calls.quiet_of (CC.out _ (below_draws _ _ _)) | exact quiet_add (CC.out _ (below_draws _ _ _))))
          go_wp2
          go_ret
          exact ⟨by rw [HX.out]; rfl, _, by rw [World.drewN_drewN]⟩
      · have HX : Hid (decide (S.map (·.l) = S'.map (·.l)) = true) := by
          have heq := HE.out
          rw [List.take_of_length_le (by omega), List.take_of_length_le (by omega)] at heq
          exact decide_eq_true heq
        go_wp2
        go_ret
        exact ⟨by rw [HX.out]; rfl, _, rfl⟩
  · have h0 : ((n : Int) != (m : Int)) = true := by simp; omega
    have HX : Hid (decide (S.map (·.l) = S'.map (·.l)) = false) := by
      refine decide_eq_false fun h => hnm ?_
      have := congrArg List.length h
      simp at this
      omega
    go_enter Try.func27, Try.ntmps27
    go_wp2
    go_ret
    exact ⟨by rw [HX.out]; rfl, 0, rfl⟩
end Go.Proofs.Ytpekbcoclmhcnaa
