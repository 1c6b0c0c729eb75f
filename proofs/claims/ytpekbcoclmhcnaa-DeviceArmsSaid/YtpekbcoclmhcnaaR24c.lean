/- The reference's Same (of equal devices). -/
import Derived.Test.YtpekbcoclmhcnaaR24b
namespace Go.Proofs.Ytpekbcoclmhcnaa
open Go.RowKit Go.Joins

set_option maxHeartbeats 1000000 in
theorem same_true (d d' : Dk) (w : World) (h : d.Ok w) (h' : d'.Ok w) (he : d.m = d'.m) :
    Calls Try.prog 17 #[.agg #[.slice d.a d.n d.c, .slice d.pa d.pn d.pc, .int .i64 d.left, .bool d.down], .agg #[.slice d'.a d'.n d'.c, .slice d'.pa d'.pn d'.pc, .int .i64 d'.left, .bool d'.down]] w fun e w' => e = .returned (.bool true) ∧ Below w.heap.size w w' := by
  simp only [Dk.m, Dv.Disk.mk.injEq] at he
  obtain ⟨he1, he2, he3, he4⟩ := he
  have HS := Keep.mk h.sec
  have HP := Keep.mk h.pen
  have HS' := Keep.mk h'.sec
  have HP' := Keep.mk h'.pen
  have hpn := h.pen.len
  have hpn' := h'.pen.len
  have hpp : d'.pn = d.pn := by
    have := congrArg List.length he2
    simp at this
    omega
  have hbig2 := Nat.le_trans h.pen.cap h.pen.big
  unfold maxLen at hbig2
  have HE1 := Keep.mk he1
  have HE2 := Keep.mk he2
  rw [← he3, ← he4, hpp]
  have HPN := Keep.mk hpn
  have HPN' : Keep (d'.P.length = d.pn) := ⟨by omega⟩
  clear h h' he1 he2 he3 he4 hpn hpn' hpp
  generalize d.left = left at *
  generalize d.down = down at *
  generalize d.pn = pn at *
  have e1 : (left != left) = false := by simp
  have e2 : (down != down) = false := by simp
  have e3 : ((pn : Int) != (pn : Int)) = false := by simp
  go_enter Try.func17, Try.ntmps17
  go_wp2_with fail
  have IX := Keep.mk ((Bx.new w [.slice d.a d.n d.c, .slice d.pa pn d.pc, .int .i64 left, .bool down] 25).alloc (.cells #[.slice d'.a d'.n d'.c, .slice d'.pa pn d'.pc, .int .i64 left, .bool down] 25))
  have OX := Keep.mk (Bx.new (w.alloc (.cells #[.slice d.a d.n d.c, .slice d.pa pn d.pc, .int .i64 left, .bool down] 25)) [.slice d'.a d'.n d'.c, .slice d'.pa pn d'.pc, .int .i64 left, .bool down] 25)
  have HB : Hid (Below w.heap.size w ((w.alloc (.cells #[.slice d.a d.n d.c, .slice d.pa pn d.pc, .int .i64 left, .bool down] 25)).alloc (.cells #[.slice d'.a d'.n d'.c, .slice d'.pa pn d'.pc, .int .i64 left, .bool down] 25))) := (below_alloc1 _ _).alloc (by simp) _
  generalize hw1 : (w.alloc (.cells #[.slice d.a d.n d.c, .slice d.pa pn d.pc, .int .i64 left, .bool down] 25)).alloc (.cells #[.slice d'.a d'.n d'.c, .slice d'.pa pn d'.pc, .int .i64 left, .bool down] 25) = w1 at *
  rw [World.size_alloc] at OX
  clear hw1
  have CS := ss_any d.a d.n d.c d.S d'.a d'.n d'.c d'.S w1 (HS.out.below HB.out) (HS'.out.below HB.out)
  rw [decide_eq_true HE1.out] at CS
  refine CS.mono ?_
  rintro e w2 ⟨rfl, q2, hw2⟩
  have hb2 : Below w1.heap.size w1 w2 := by rw [hw2]; exact below_draws _ _ _
  have HB2 := Lib.hid (below_next HB.out hb2 (Nat.le_refl _))
  have IX2 := Keep.mk (IX.out.below hb2)
  have OX2 := Keep.mk (OX.out.below hb2)
  clear CS hw2 hb2 HB IX OX
  have i0 := IX2.out.cell 1 _ rfl
  have o0 := OX2.out.cell 1 _ rfl
  go_wp2
  go_loopw [5] (fun i wr => ∃ k q : Nat, k ≤ pn ∧ i = .int .i64 k ∧ wr = w2.drewN q) (fun i _ => pn - (intOf i).toNat)
  case atStart => exact ⟨0, 0, Nat.zero_le _, rfl, rfl⟩
  case round =>
    obtain ⟨k, q, hk, rfl, rfl⟩ := hrel
    by_cases hlt : k < pn
    · have hk1 : k < d.P.length := by have := HPN.out; omega
      have hk2 : k < d'.P.length := by have := HPN'.out; omega
      obtain ⟨b, o, hb, _, hck, hck1, hr⟩ := (HP.out.below HB2.out).at_ (k := k) hk1
      obtain ⟨b', o', hb', _, hck', hck1', hr'⟩ := (HP'.out.below HB2.out).at_ (k := k) hk2
      have hpk : d.P[k].m = d'.P[k].m := by
        have := congrArg (·[k]?) HE2.out
        simpa [List.getElem?_map, List.getElem?_eq_getElem hk1, List.getElem?_eq_getElem hk2] using this
      simp only [Pe.m, Prod.mk.injEq] at hpk
      obtain ⟨hpk1, hpk2⟩ := hpk
      have CC : Keep (∀ X, Below w2.heap.size w2 X → Calls Try.prog 18 #[.slice d.P[k].s.a d.P[k].s.n d.P[k].s.c, .slice d'.P[k].s.a d'.P[k].s.n d'.P[k].s.c] X fun e w' => e = .returned (.bool true) ∧ ∃ j, w' = X.drewN j) :=
        ⟨fun X hX => (sb_any _ _ _ _ _ _ _ _ X (hr.below hX) (hr'.below hX)).mono fun _ _ ⟨he, hw⟩ => ⟨by rw [he, hpk2]; simp, hw⟩⟩
      rw [← hpk1] at hck'
      rw [hb] at i0
      rw [hb'] at o0
      clear hpk1 hpk2 hr hr' hb hb'
      have e5 : (d.P[k].k != d.P[k].k) = false := by simp
      go_wp2
      go_quiet ((go_at_call 18; first | exact Calls.quiet_of (CC.out _ (below_draws _ _ _)) | exact quiet_add (CC.out _ (below_draws _ _ _))))
      go_wp2
      go_roundw
      case rel => exact ⟨k + 1, _, by omega, by go_num, rfl⟩
      case measure => simp [intOf]; omega
    · go_wp2
      go_ret
      exact ⟨rfl, HB2.out.trans (below_draws _ _ _)⟩
end Go.Proofs.Ytpekbcoclmhcnaa
