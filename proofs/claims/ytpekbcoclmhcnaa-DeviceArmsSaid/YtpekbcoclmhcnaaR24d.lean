/- The reference's content, durable, Read. -/
import Derived.Test.YtpekbcoclmhcnaaR24c
namespace Go.Proofs.Ytpekbcoclmhcnaa
open Go.RowKit Go.Joins

theorem content_take (b : List UInt8) (s : Int) (P : List Pe) (k : Nat) (h : k < P.length) : Dv.content b s ((P.map Pe.m).take (k + 1)) = if P[k].k = s then P[k].s.l else Dv.content b s ((P.map Pe.m).take k) := by
  rw [List.take_succ_eq_append_getElem (by simpa using h), Dv.content_append]
  simp [Pe.m]

set_option maxHeartbeats 1000000 in
/-- content: for a sector that is there -/
theorem content_any (d : Dk) (i : Nat) (A : Option Addr) (n c : Nat) (P : List Pe) (w : World) (h : d.Ok w) (hi : i < d.S.length) (hP : RP w A n c P) (hs : ∀ b ∈ d.m.sectors, b.length ≤ 200) (hp : ∀ p ∈ P, p.s.l.length ≤ 200) :
    Calls Try.prog 36 #[.agg #[.slice d.a d.n d.c, .slice d.pa d.pn d.pc, .int .i64 d.left, .bool d.down], .int .i64 (i : Int), .slice A n c] w (RetBF w (Dv.content d.S[i].l (i : Int) (P.map Pe.m))) := by
  have HS := Keep.mk h.sec
  have HP := Keep.mk hP
  have hpn := hP.len
  have hn := h.sec.len
  have hbig := Nat.le_trans hP.cap hP.big
  unfold maxLen at hbig
  have HB0 : Hid (Below w.heap.size w (w.alloc (.cells #[.slice d.a d.n d.c, .slice d.pa d.pn d.pc, .int .i64 d.left, .bool d.down] 25))) := below_alloc1 _ _
  obtain ⟨b, o, hb, hbl, hck, hr⟩ := (HS.out.below HB0.out).at_ (k := i) hi
  have hin : (0 : Int) ≤ (i : Int) := by omega
  have hin1 : (i : Int) < (d.n : Int) := by omega
  have hsl : d.S[i].l.length ≤ 200 := hs _ (List.mem_map.2 ⟨_, List.getElem_mem hi, rfl⟩)
  have HPS := Keep.mk hp
  have HSI := Keep.mk (HS.out.ok _ (List.getElem_mem hi))
  have HN := Keep.mk hn
  have HPN := Keep.mk hpn
  generalize d.S[i] = si at *
  have HSL := Keep.mk hsl
  rw [hb] at hck HB0 ⊢
  clear h hP hr hs hp hsl hn hpn hi
  go_enter Try.func36, Try.ntmps36
  go_wp2
  have IX := Keep.mk (Bx.new w [.slice (some ⟨b, o, none⟩) d.n d.c, .slice d.pa d.pn d.pc, .int .i64 d.left, .bool d.down] 25)
  generalize w.alloc (.cells #[.slice (some ⟨b, o, none⟩) d.n d.c, .slice d.pa d.pn d.pc, .int .i64 d.left, .bool d.down] 25) = w1 at *
  clear hck hb
  go_loop [7, 8] (fun v i' => ∃ (k : Nat) (s : Sl), k ≤ n ∧ i' = .int .i64 k ∧ v = .slice s.a s.n s.c ∧ Keep (s.Ok w ∧ s.l = Dv.content si.l (i : Int) ((P.map Pe.m).take k) ∧ s.l.length ≤ 200)) (fun _ i' => n - (intOf i').toNat)
  case atStart => exact ⟨0, si, Nat.zero_le _, rfl, rfl, ⟨HSI.out, rfl, HSL.out⟩⟩
  case round =>
    obtain ⟨k, s, hk, rfl, rfl, hq⟩ := hrel
    by_cases hlt : k < n
    · have hkP : k < P.length := by have := HPN.out; omega
      obtain ⟨b2, o2, hb2, hbl2, hck, hck1, hr⟩ := (HP.out.below HB0.out).at_ (k := k) hkP
      have HCT := Keep.mk (content_take si.l (i : Int) P k hkP)
      have HPK := Keep.mk (HP.out.ok _ (List.getElem_mem hkP))
      have HPL := Keep.mk (HPS.out _ (List.getElem_mem hkP))
      generalize P[k] = pk at *
      subst hb2
      clear hr
      by_cases hx : pk.k = (i : Int)
      · have e1 : (pk.k == (i : Int)) = true := by simpa using hx
        have HX := Keep.mk hx
        clear hx
        go_wp2
        go_round
        case rel => exact ⟨k + 1, pk.s, by omega, by go_num, rfl, ⟨HPK.out, by rw [HCT.out, if_pos HX.out], HPL.out⟩⟩
        case measure => simp [intOf]; omega
      · have e1 : (pk.k == (i : Int)) = false := by simpa using hx
        have HX := Keep.mk hx
        clear hx
        go_wp2
        go_round
        case rel => exact ⟨k + 1, s, by omega, by go_num, rfl, ⟨hq.out.1, by rw [HCT.out, if_neg HX.out]; exact hq.out.2.1, hq.out.2.2⟩⟩
        case measure => simp [intOf]; omega
    · obtain rfl : n = k := by omega
      have hfin : s.l = Dv.content si.l (i : Int) (P.map Pe.m) := by
        have := hq.out.2.1
        rwa [List.take_of_length_le (by have := HPN.out; simp; omega)] at this
      have HF := Keep.mk hfin
      have CO := Keep.mk (own_any s.a s.n s.c s.l w1 (hq.out.1.below HB0.out) (by have h1 := RB.len hq.out.1; have h2 := hq.out.2.2; omega))
      clear hfin
      go_wp2_with (go_at_call 35; refine CO.out.mono ?_; rintro e w2 ⟨A2, n2, c2, rfl, hr2, ha2, hb2⟩; have HR2 := Keep.mk hr2; have HA2 := Keep.mk ha2; have HB2 := Lib.hid hb2; clear hr2 ha2 hb2)
      go_ret
      refine ⟨A2, n2, c2, rfl, by rw [← HF.out]; exact HR2.out, fun a ha => Nat.le_trans HB0.out.size (HA2.out a ha), HB0.out.trans (HB2.out.mono HB0.out.size)⟩

theorem settle_at (d : Dk) (P : List Pe) (i : Nat) (h : i < d.S.length) : (Dv.settle d.m.sectors (P.map Pe.m))[i]? = some (Dv.content d.S[i].l (i : Int) (P.map Pe.m)) := by
  rw [Dv.settle_get]
  simp [Dk.m, h]
theorem content_le (P : List Pe) (b : List UInt8) (s : Int) (hb : b.length ≤ 200) (hp : ∀ p ∈ P, p.s.l.length ≤ 200) : (Dv.content b s (P.map Pe.m)).length ≤ 200 := by
  induction P generalizing b with
  | nil => exact hb
  | cons p P ih =>
    have h1 := hp p (List.mem_cons_self ..)
    simp only [List.map_cons, Dv.content, List.foldl_cons, Pe.m] at *
    refine ih _ ?_ fun q hq => hp q (List.mem_cons_of_mem _ hq)
    split
    · exact h1
    · exact hb
/-- WHAT durable LEAVES. -/
def RetGS (w : World) (L : List (List UInt8)) (e : Ending) (w' : World) : Prop := ∃ A n c S, e = .returned (.slice A n c) ∧ RS w' A n c S ∧ S.map (·.l) = L ∧ Below w.heap.size w w' ∧ (∀ a, A = some a → w.heap.size ≤ a.block) ∧ ∀ s ∈ S, ∀ a, s.a = some a → w.heap.size ≤ a.block
set_option maxHeartbeats 1000000 in
theorem durable_any (d : Dk) (A : Option Addr) (n c : Nat) (P : List Pe) (w : World) (h : d.Ok w) (hP : RP w A n c P) (hs : ∀ b ∈ d.m.sectors, b.length ≤ 200) (hp : ∀ p ∈ P, p.s.l.length ≤ 200) (hns : d.n ≤ 4096) :
    Calls Try.prog 39 #[.agg #[.slice d.a d.n d.c, .slice d.pa d.pn d.pc, .int .i64 d.left, .bool d.down], .slice A n c] w (RetGS w (Dv.settle d.m.sectors (P.map Pe.m))) := by
  have HD := Keep.mk h
  have HP := Keep.mk hP
  have HN := Keep.mk h.sec.len
  have HS := Keep.mk hs
  have HPS := Keep.mk hp
  clear h hP hs hp
  go_enter Try.func39, Try.ntmps39
  go_wp2_with fail
  have IX := Keep.mk (Bx.new w [.slice d.a d.n d.c, .slice d.pa d.pn d.pc, .int .i64 d.left, .bool d.down] 25)
  have HB0 : Hid (Below w.heap.size w (w.alloc (.cells #[.slice d.a d.n d.c, .slice d.pa d.pn d.pc, .int .i64 d.left, .bool d.down] 25))) := below_alloc1 _ _
  generalize w.alloc (.cells #[.slice d.a d.n d.c, .slice d.pa d.pn d.pc, .int .i64 d.left, .bool d.down] 25) = w1 at *
  go_loopw [5, 6] (fun v i wr => ∃ (k : Nat) (A' : Option Addr) (c' : Nat) (L : List Sl), k ≤ d.n ∧ i = .int .i64 k ∧ v = .slice A' k c' ∧ GS wr w1.heap.size A' k c' L ∧ L.map (·.l) = (Dv.settle d.m.sectors (P.map Pe.m)).take k ∧ Below w1.heap.size w1 wr ∧ Keep ((∀ a, A' = some a → w.heap.size ≤ a.block) ∧ ∀ s ∈ L, ∀ a, s.a = some a → w.heap.size ≤ a.block)) (fun _ i _ => d.n - (intOf i).toNat)
  case atStart => exact ⟨0, none, 0, [], Nat.zero_le _, rfl, rfl, GS.nil _ _, by simp, Below.refl _ _, ⟨⟨(fun a h => by cases h), (fun s h => by cases h)⟩⟩⟩
  case round =>
    obtain ⟨k, A', c', L, hk, rfl, rfl, hg, hL, hb, HNW⟩ := hrel
    have HG := Keep.mk hg
    have HL := Keep.mk hL
    have HB1 := Lib.hid hb
    have HBW := Lib.hid (below_next HB0.out hb (Nat.le_refl _))
    have IX1 := Keep.mk (IX.out.below hb)
    have i0 := IX1.out.cell 0 _ rfl
    clear hg hL hb
    by_cases hlt : k < d.n
    · have hkS : k < d.S.length := by have := HN.out; omega
      have i1 := IX1.out.cell 1 _ rfl
      have i2 := IX1.out.cell 2 _ rfl
      have i3 := IX1.out.cell 3 _ rfl
      have CO := Keep.mk (content_any d k A n c P wr (HD.out.below HBW.out) hkS (HP.out.below HBW.out) HS.out HPS.out)
      have HST := Keep.mk (settle_at d P k hkS)
      have HLE := Keep.mk (content_le P d.S[k].l (k : Int) (HS.out _ (List.mem_map.2 ⟨_, List.getElem_mem hkS, rfl⟩)) HPS.out)
      generalize Dv.content d.S[k].l (k : Int) (P.map Pe.m) = ct at *
      go_wp2_with (first
        | (go_at_call 36; refine CO.out.mono ?_; rintro e w2 ⟨A2, n2, c2, rfl, hr2, ha2, hb2⟩; have HR2 := Keep.mk hr2; have HA2 := Keep.mk ha2; have HB2 := Lib.hid hb2; have HG2 := Keep.mk (HG.out.below hb2); clear hr2 ha2 hb2)
        | (at_builtin; refine wpList_append_app _ rfl (.tmp 14) (.tmp 19) 22 rfl w1.heap.size 26 (.slice none 0 0) 1 24 Try.underlying22 sl_info rfl (by decide) (by decide) (.slice A' k c') k (L.map Sl.v) rfl (HG2.out.tgt.below (below_alloc1 _ _)) (some ⟨w2.heap.size, 0, none⟩) 1 1 [.slice A2 n2 c2] rfl (rd_one w2 _ _) (by simp [Value.oneCell']) (by omega) (by have := HB1.out.size; have := HB2.out.size; simp; omega) ?_; intro A3 c3 w3 ha3; have HA3 := Keep.mk ha3; clear ha3))
      have HG3 := Keep.mk (GS.app (s := ⟨A2, n2, c2, ct⟩) (HG2.out.below (below_alloc1 _ _)) HA3.out (Sl.Ok.below (s := ⟨A2, n2, c2, ct⟩) HR2.out (below_alloc1 _ _)) (away_new HG.out.lt HA2.out))
      go_roundw
      case rel =>
        refine ⟨k + 1, A3, c3, _, by omega, by go_num, rfl, HG3.out, ?_, HB1.out.trans ((HB2.out.mono HB1.out.size).trans (((below_alloc1 _ _).mono (Nat.le_trans HB1.out.size HB2.out.size)).trans HA3.out.below)), ⟨⟨fun a ha => ?n1, fun s hs a ha => ?n2⟩⟩⟩
        case n1 =>
          have hz1 := HB0.out.size
          have hz2 := HB1.out.size
          have hz3 := HB2.out.size
          rcases HA3.out.at_ a ha with h | h
          · cases A' with
            | none => simp [Value.ownBlock] at h
            | some a' =>
              have h1 := HNW.out.1 a' rfl
              have h2 : a'.block = a.block := by simpa [Value.ownBlock] using h
              omega
          · have := h.1
            simp at this
            omega
        case n2 =>
          have hz1 := HB0.out.size
          have hz2 := HB1.out.size
          rcases List.mem_append.1 hs with hs | hs
          · exact HNW.out.2 s hs a ha
          · simp only [List.mem_singleton] at hs
            subst hs
            have := HA2.out a ha
            omega
        rw [List.map_append, HL.out, List.take_add_one, HST.out]
        rfl
      case measure => simp [intOf]; omega
    · obtain rfl : d.n = k := by omega
      go_wp2
      go_ret
      refine ⟨A', d.n, c', L, rfl, HG.out.rs, ?_, HBW.out, HNW.out.1, HNW.out.2⟩
      rw [HL.out, List.take_of_length_le]
      rw [Dv.settle_length]
      have := HN.out
      simp [Dk.m]
      omega
end Go.Proofs.Ytpekbcoclmhcnaa
