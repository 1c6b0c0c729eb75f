/- wire.length, wire.Text, wire.PutText. -/
import Derived.Test.YtogigdikpllieaaInt
namespace Go.Proofs.Ytogigdikpllieaa
open Go.RowKit Go.Joins

/-- wire.length -/
theorem length_any (A : Option Addr) (n c : Nat) (l : List UInt8) (most : Int) (w : World) (hl : RB w A n c l) : Calls Try.prog 27 #[.slice A n c, .int .i64 most] w (RetD w (V.decLen l most)) := by
  have hd := int_any A n c l w hl
  unfold V.decLen
  generalize V.dec l = d at *
  obtain ⟨d1, d2, d3⟩ := d
  have HD := Lib.hid hd
  clear hd hl
  simp only
  by_cases h3 : d3 = 0
  · have b3 : (d3 != 0) = false := by simp [h3]
    rw [if_neg (by simp [h3])]
    clear h3
    by_cases h1 : d1 < 0
    · rw [if_pos h1]
      go_enter Try.func27, Try.ntmps27
      go_wp2_with fail
      refine HD.out.mono ?_
      rintro e w' ⟨rfl, rfl⟩
      go_wp2
      go_ret3
      exact ⟨rfl, rfl⟩
    · rw [if_neg h1]
      by_cases hm : max most 0 < d1
      · rw [if_pos hm]
        go_enter Try.func27, Try.ntmps27
        go_wp2_with fail
        refine HD.out.mono ?_
        rintro e w' ⟨rfl, rfl⟩
        go_wp2
        all_goals (go_ret3; exact ⟨rfl, rfl⟩)
      · rw [if_neg hm]
        go_enter Try.func27, Try.ntmps27
        go_wp2_with fail
        refine HD.out.mono ?_
        rintro e w' ⟨rfl, rfl⟩
        go_wp2
        all_goals (go_ret3; exact ⟨rfl, rfl⟩)
  · have b3 : (d3 != 0) = true := by simp [h3]
    rw [if_pos (by simp [h3])]
    clear h3
    go_enter Try.func27, Try.ntmps27
    go_wp2_with fail
    refine HD.out.mono ?_
    rintro e w' ⟨rfl, rfl⟩
    go_wp2
    go_ret3
    exact ⟨rfl, rfl⟩

/-- What a decoder of a string leaves. -/
def RetS (w : World) (d : List UInt8 × Nat × Int) (e : Ending) (w' : World) : Prop := e = .returned (.tuple #[.string ⟨d.1.toArray⟩, .int .i64 (d.2.1 : Int), .int .i64 d.2.2]) ∧ w = w'

/-- wire.Text -/
theorem text_any (A : Option Addr) (n c : Nat) (l : List UInt8) (most : Int) (w : World) (hl : RB w A n c l) : Calls Try.prog 17 #[.slice A n c, .int .i64 most] w (RetS w (V.decText l most)) := by
  have hd := length_any A n c l most w hl
  have hlen := hl.len
  have hcap := hl.cap
  have hbig := hl.big
  unfold maxLen at hbig
  have hok : ∀ m u, V.decLen l most = (m, u, 0) → 0 ≤ m ∧ u ≤ n := fun m u h => by
    have h1 := V.decLen_is h
    have h2 := V.dec_ok h1.1
    omega
  unfold V.decText
  generalize V.decLen l most = d at *
  obtain ⟨d1, d2, d3⟩ := d
  have HD := Lib.hid hd
  have HL := Lib.hid hl
  clear hd hl
  simp only
  by_cases h3 : d3 = 0
  · subst h3
    obtain ⟨hm0, hun⟩ := hok _ _ rfl
    obtain ⟨m, rfl⟩ := Int.eq_ofNat_of_zero_le hm0
    rw [if_neg (by simp)]
    by_cases h1 : (l.length : Int) - d2 < (m : Int)
    · rw [if_pos h1]
      rw [hlen] at h1
      clear hok
      go_enter Try.func17, Try.ntmps17
      go_wp2_with fail
      refine HD.out.mono ?_
      rintro e w' ⟨rfl, rfl⟩
      go_wp2
      go_ret3
      exact ⟨rfl, rfl⟩
    · rw [if_neg h1]
      rw [hlen] at h1
      have hsl := run_cut_b A n c d2 (d2 + m) (d2 : Int) ((d2 : Int) + (m : Int)) rfl (by simp) (by omega) (by omega)
      have hrb := HL.out.cut (i := d2) (j := d2 + m) (m := c) (by omega) (by omega) (by omega) (by omega)
      rw [show d2 + m - d2 = m by omega] at hsl hrb
      have hst := run_string_rb (P := Try.prog) w 22 5 9 Try.underlying22 Try.underlying5 Try.underlying9 _ _ _ _ hrb
      have HE : Keep ((l.take (d2 + m)).drop d2 = (l.drop d2).take ((m : Int).toNat)) := ⟨by rw [List.drop_take, Int.toNat_natCast, show d2 + m - d2 = m by omega]⟩
      clear hok hrb
      go_enter Try.func17, Try.ntmps17
      go_wp2_with fail
      refine HD.out.mono ?_
      rintro e w' ⟨rfl, rfl⟩
      go_wp2
      go_ret3
      refine ⟨?_, rfl⟩
      rw [← HE.out]
      simp
  · have b3 : (d3 != 0) = true := by simp [h3]
    rw [if_pos (by simp [h3])]
    clear h3 hok
    go_enter Try.func17, Try.ntmps17
    go_wp2_with fail
    refine HD.out.mono ?_
    rintro e w' ⟨rfl, rfl⟩
    go_wp2
    go_ret3
    exact ⟨rfl, rfl⟩

/-- wire.PutText -/
theorem putText_any (A : Option Addr) (n c : Nat) (l : List UInt8) (s : ByteArray) (w : World) (hl : RB w A n c l) (hroom : n + 10 + s.size ≤ 140737488355328) :
    Calls Try.prog 19 #[.slice A n c, .string s] w (RetT w w.heap.size (l ++ V.encText s.data.toList)) := by
  have hcap := hl.cap
  have hlen := hl.len
  have hin : V.In (s.size : Int) := ⟨by omega, by omega⟩
  have hp := put_any A n n l (s.size : Int) w.heap.size w (TB.full hl) hin (by omega) (Nat.le_refl _)
  have HP := Lib.hid hp
  have HE : Keep ((V.enc (s.size : Int)).length ≤ 10) := ⟨(V.enc_length hin).2⟩
  clear hl hp hin
  go_enter Try.func19, Try.ntmps19
  go_wp2_with fail
  refine HP.out.mono ?_
  rintro e w1 ⟨A1, n1, c1, rfl, ht, hb⟩
  have hn1 : n1 ≤ n + 10 := by
    have h1 := ht.rb.len
    have h2 := HE.out
    rw [List.length_append] at h1
    omega
  have HT := Lib.hid ht
  have HB := Lib.hid hb
  clear ht hb
  go_wp2_with (at_builtin; refine append_os _ rfl (.tmp 14) (.tmp 15) rfl w.heap.size A1 n1 c1 _ rfl HT.out s rfl (by omega) HB.out.size ?_; intro A2 n2 c2 w2 ht hb; have HT2 := Lib.hid ht; have HB2 := Lib.hid hb; clear ht hb)
  go_ret
  refine ⟨A2, n2, c2, rfl, ?_, HB.out.trans HB2.out⟩
  have h := HT2.out
  rw [List.append_assoc] at h
  exact h
end Go.Proofs.Ytogigdikpllieaa
