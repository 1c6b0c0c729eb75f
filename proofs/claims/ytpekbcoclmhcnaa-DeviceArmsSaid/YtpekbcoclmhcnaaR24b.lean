/- The reference's Few and Same (of equal devices). -/
import Derived.Test.YtpekbcoclmhcnaaR24a
namespace Go.Proofs.Ytpekbcoclmhcnaa
open Go.RowKit Go.Joins

set_option maxHeartbeats 1000000 in
theorem few_any (d : Dk) (most : Nat) (w : World) (h : d.Ok w) : Calls Try.prog 11 #[.agg #[.slice d.a d.n d.c, .slice d.pa d.pn d.pc, .int .i64 d.left, .bool d.down], .int .i64 (most : Int)] w fun e w' => e = .returned (.bool (Dv.few d.m most)) ∧ Below w.heap.size w w' := by
  have HS := Keep.mk h.sec
  have HP := Keep.mk h.pen
  have hn := h.sec.len
  have hpn := h.pen.len
  have hbig := Nat.le_trans h.sec.cap h.sec.big
  have hbig2 := Nat.le_trans h.pen.cap h.pen.big
  unfold maxLen at hbig hbig2
  clear h
  by_cases h1 : d.n ≤ most
  · by_cases h2 : d.pn ≤ most
    · have e1 : decide ((most : Int) < (d.n : Int)) = false := decide_eq_false (by omega)
      have e2 : decide ((most : Int) < (d.pn : Int)) = false := decide_eq_false (by omega)
      have e3 : decide (most < d.n) = false := decide_eq_false (by omega)
      have e4 : decide (most < d.pn) = false := decide_eq_false (by omega)
      go_enter Try.func11, Try.ntmps11
      go_wp2_with fail
      have IX := Keep.mk (Bx.new w [.slice d.a d.n d.c, .slice d.pa d.pn d.pc, .int .i64 d.left, .bool d.down] 25)
      have HB : Hid (Below w.heap.size w (w.alloc (.cells #[.slice d.a d.n d.c, .slice d.pa d.pn d.pc, .int .i64 d.left, .bool d.down] 25))) := below_alloc1 _ _
      generalize w.alloc (.cells #[.slice d.a d.n d.c, .slice d.pa d.pn d.pc, .int .i64 d.left, .bool d.down] 25) = w1 at *
      have i0 := IX.out.cell 0 _ rfl
      have i1 := IX.out.cell 1 _ rfl
      clear e1 e2 e3 e4
      go_loop [5] (fun i => ∃ k : Nat, k ≤ d.n ∧ i = .int .i64 k ∧ Keep (∀ b ∈ d.S.take k, b.n ≤ 200)) (fun i => d.n - (intOf i).toNat)
      case atStart => exact ⟨0, Nat.zero_le _, rfl, ⟨by simp⟩⟩
      case round =>
        obtain ⟨k, hk, rfl, hq⟩ := hrel
        by_cases hlt : k < d.n
        · have hkS : k < d.S.length := by omega
          have e5 : decide ((k : Int) < (d.n : Int)) = true := decide_eq_true (by omega)
          obtain ⟨b, o, hbo, hbl, hck, hr⟩ := (HS.out.below HB.out).at_ (k := k) hkS
          have HL := hr.len
          by_cases h5 : d.S[k].n ≤ 200
          · have HQ2 : Keep (∀ b ∈ d.S.take (k + 1), b.n ≤ 200) := ⟨by
              intro x hx
              rw [List.take_succ_eq_append_getElem hkS] at hx
              rcases List.mem_append.1 hx with hx | hx
              · exact hq.out x hx
              · simp only [List.mem_singleton] at hx; subst hx; exact h5⟩
            have e6 : decide ((200 : Int) < (d.S[k].n : Int)) = false := decide_eq_false (by omega)
            rw [hbo] at i0
            clear hr HL
            go_wp2
            go_round
            case rel => exact ⟨k + 1, by omega, by go_num, HQ2⟩
            case measure => simp [intOf]; omega
          · have HX : Keep (Dv.few d.m most = false) := ⟨by
              refine decide_eq_false fun hh => h5 ?_
              have := hh.2.2.1 d.S[k].l (List.mem_map.2 ⟨_, List.getElem_mem hkS, rfl⟩)
              omega⟩
            have e6 : decide ((200 : Int) < (d.S[k].n : Int)) = true := decide_eq_true (by omega)
            rw [hbo] at i0
            clear hr HL
            go_wp2
            go_ret
            exact ⟨by rw [HX.out]; rfl, HB.out⟩
        · obtain rfl : d.n = k := by omega
          have HSA : Keep (∀ b ∈ d.m.sectors, b.length ≤ 200) := ⟨by
            intro x hx
            obtain ⟨s, hs, rfl⟩ := List.mem_map.1 hx
            have h7 := hq.out s (by rw [List.take_of_length_le (by omega)]; exact hs)
            have h8 := (HS.out.ok s hs).len
            omega⟩
          have e5 : decide ((d.n : Int) < (d.n : Int)) = false := decide_eq_false (by omega)
          clear hq
          go_wp2_with fail
          go_loop [6] (fun i => ∃ k : Nat, k ≤ d.pn ∧ i = .int .i64 k ∧ Keep (∀ b ∈ d.P.take k, b.s.n ≤ 200)) (fun i => d.pn - (intOf i).toNat)
          case atStart => exact ⟨0, Nat.zero_le _, rfl, ⟨by simp⟩⟩
          case round =>
            obtain ⟨k, hk, rfl, hq⟩ := hrel
            by_cases hlt : k < d.pn
            · have hkS : k < d.P.length := by omega
              have e5 : decide ((k : Int) < (d.pn : Int)) = true := decide_eq_true (by omega)
              obtain ⟨b, o, hbo, hbl, hck, hck1, hr⟩ := (HP.out.below HB.out).at_ (k := k) hkS
              have HL := hr.len
              by_cases h5 : d.P[k].s.n ≤ 200
              · have HQ2 : Keep (∀ b ∈ d.P.take (k + 1), b.s.n ≤ 200) := ⟨by
                  intro x hx
                  rw [List.take_succ_eq_append_getElem hkS] at hx
                  rcases List.mem_append.1 hx with hx | hx
                  · exact hq.out x hx
                  · simp only [List.mem_singleton] at hx; subst hx; exact h5⟩
                have e6 : decide ((200 : Int) < (d.P[k].s.n : Int)) = false := decide_eq_false (by omega)
                rw [hbo] at i1
                clear hr HL
                go_wp2
                go_round
                case rel => exact ⟨k + 1, by omega, by go_num, HQ2⟩
                case measure => simp [intOf]; omega
              · have HX : Keep (Dv.few d.m most = false) := ⟨by
                  refine decide_eq_false fun hh => h5 ?_
                  have := hh.2.2.2 d.P[k].m (List.mem_map.2 ⟨_, List.getElem_mem hkS, rfl⟩)
                  simp only [Pe.m] at this
                  omega⟩
                have e6 : decide ((200 : Int) < (d.P[k].s.n : Int)) = true := decide_eq_true (by omega)
                rw [hbo] at i1
                clear hr HL
                go_wp2
                go_ret
                exact ⟨by rw [HX.out]; rfl, HB.out⟩
            · obtain rfl : d.pn = k := by omega
              have HX : Keep (Dv.few d.m most = true) := ⟨decide_eq_true ⟨by simpa [Dk.m, hn] using h1, by simpa [Dk.m, hpn] using h2, HSA.out, by
                intro x hx
                obtain ⟨s, hs, rfl⟩ := List.mem_map.1 hx
                have h7 := hq.out s (by rw [List.take_of_length_le (by omega)]; exact hs)
                have h8 := (HP.out.ok s hs).len
                simp only [Pe.m]
                omega⟩⟩
              clear hq
              go_wp2
              go_ret
              exact ⟨by rw [HX.out]; rfl, HB.out⟩
    · have HX : Keep (Dv.few d.m most = false) := ⟨decide_eq_false fun hh => h2 (by have := hh.2.1; simpa [Dk.m, hpn] using this)⟩
      have e1 : decide ((most : Int) < (d.n : Int)) = false := decide_eq_false (by omega)
      have e2 : decide ((most : Int) < (d.pn : Int)) = true := decide_eq_true (by omega)
      have e3 : decide (most < d.n) = false := decide_eq_false (by omega)
      have e4 : decide (most < d.pn) = true := decide_eq_true (by omega)
      go_enter Try.func11, Try.ntmps11
      go_wp2
      go_ret
      exact ⟨by rw [HX.out]; rfl, below_alloc1 _ _⟩
  · have HX : Keep (Dv.few d.m most = false) := ⟨decide_eq_false fun hh => h1 (by have := hh.1; simpa [Dk.m, hn] using this)⟩
    have e1 : decide ((most : Int) < (d.n : Int)) = true := decide_eq_true (by omega)
    have e3 : decide (most < d.n) = true := decide_eq_true (by omega)
    go_enter Try.func11, Try.ntmps11
    go_wp2
    go_ret
    exact ⟨by rw [HX.out]; rfl, below_alloc1 _ _⟩
end Go.Proofs.Ytpekbcoclmhcnaa
