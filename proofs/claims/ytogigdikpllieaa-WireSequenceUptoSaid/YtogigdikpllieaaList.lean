/- wire.PutList, wire.List. -/
import Derived.Test.YtogigdikpllieaaText
import Derived.Test.YtogigdikpllieaaInts
namespace Go.Proofs.Ytogigdikpllieaa
open Go.RowKit Go.Joins

theorem flat_take (x : List Int) (k : Nat) (h : k < x.length) : (x.take (k + 1)).flatMap V.enc = (x.take k).flatMap V.enc ++ V.enc x[k] := by
  rw [List.take_succ_eq_append_getElem h, List.flatMap_append]
  simp

/-- wire.PutList -/
theorem putList_any (A : Option Addr) (n c : Nat) (l : List UInt8) (B : Option Addr) (m d : Nat) (x : List Int) (w : World) (hl : RB w A n c l) (hx : RI w B m d x) (hin : V.Ins x) (hroom : n + 10 + 10 * m ≤ 140737488355328) :
    Calls Try.prog 23 #[.slice A n c, .slice B m d] w (RetT w w.heap.size (l ++ V.encList x)) := by
  have hcap := hl.cap
  have hlen := hl.len
  have hxl := hx.len
  have hin0 : V.In (m : Int) := ⟨by omega, by omega⟩
  have hp := put_any A n n l (m : Int) w.heap.size w (TB.full hl) hin0 (by omega) (Nat.le_refl _)
  have HP := Lib.hid hp
  have HE : Keep ((V.enc (m : Int)).length ≤ 10) := ⟨(V.enc_length hin0).2⟩
  have HX := Lib.hid hx
  have HI : Keep (V.Ins x) := ⟨hin⟩
  clear hl hp hin0 hx hin
  go_enter Try.func23, Try.ntmps23
  go_wp2_with fail
  refine HP.out.mono ?_
  rintro e w1 ⟨A1, n1, c1, rfl, ht, hb⟩
  have hn1 : n1 ≤ n + 10 := by
    have h1 := ht.rb.len
    have h2 := HE.out
    rw [List.length_append] at h1
    omega
  have HT := Lib.hid ht
  have HB := Lib.hid hb
  clear ht hb
  go_wp2
  go_loopw [4, 18] (fun v i wr => ∃ (k : Nat) (A' : Option Addr) (n' c' : Nat), k ≤ m ∧ i = .int .i64 k ∧ v = .slice A' n' c' ∧ OB wr w.heap.size A' n' c' (l ++ V.enc (m : Int) ++ (x.take k).flatMap V.enc) ∧ n' ≤ n + 10 + 10 * k ∧ Below w.heap.size w wr) (fun _ i _ => m - (intOf i).toNat)
  case atStart => exact ⟨0, A1, n1, c1, Nat.zero_le _, rfl, rfl, by simpa using HT.out, by omega, HB.out⟩
  case round =>
    obtain ⟨k, A', n', c', hk, rfl, rfl, ht, hn', hb⟩ := hrel
    have HT' := Lib.hid ht
    have HB' := Lib.hid hb
    clear ht hb
    by_cases hlt : k < m
    · obtain ⟨b, o, rfl, hbl, hck⟩ := (HX.out.below HB'.out).at_ (k := k) (by omega)
      have HF : Keep ((x.take (k + 1)).flatMap V.enc = (x.take k).flatMap V.enc ++ V.enc x[k]) := ⟨flat_take x k (by omega)⟩
      have HIN : Keep (V.In x[k]) := ⟨HI.out _ (List.getElem_mem _)⟩
      generalize x[k] = y at *
      go_wp2_with fail
      refine (put_any A' n' c' _ y w.heap.size wr HT'.out.tb HIN.out (by omega) HB'.out.size).mono ?_
      rintro e w2 ⟨A2, n2, c2, rfl, ht, hb⟩
      have hn2 : n2 ≤ n + 10 + 10 * (k + 1) := by
        have h1 := ht.rb.len
        have h2 := (V.enc_length HIN.out).2
        have h3 := HT'.out.rb.len
        rw [List.length_append] at h1
        omega
      have HT2 := Lib.hid ht
      have HB2 := Lib.hid hb
      clear ht hb
      go_wp2
      go_roundw
      case rel => exact ⟨k + 1, A2, n2, c2, by omega, by go_num, rfl, by rw [HF.out, ← List.append_assoc]; exact HT2.out, hn2, HB'.out.trans HB2.out⟩
      case measure => simp [intOf]; omega
    · obtain rfl : k = m := by omega
      go_wp2
      go_ret
      refine ⟨A', n', c', rfl, ?_, HB'.out⟩
      have h := HT'.out
      rw [List.take_of_length_le (by omega), List.append_assoc] at h
      unfold V.encList
      rw [hxl]
      exact h

/-- What a decoder of a list leaves. -/
def RetL (w : World) (d : List Int × Nat × Int) (e : Ending) (w' : World) : Prop :=
  ∃ A n c, e = .returned (.tuple #[.slice A n c, .int .i64 (d.2.1 : Int), .int .i64 d.2.2]) ∧ RI w' A n c d.1 ∧ Below w.heap.size w w'

/-- What is behind x and v bytes, joined to what is there. -/
def joinN (x : List Int) (v : Nat) (t : List Int × Nat × Int) : List Int × Nat × Int := if t.2.2 ≠ 0 then ([], 0, t.2.2) else (x ++ t.1, v + t.2.1, 0)
theorem joinN_zero (t : List Int × Nat × Int) (h : t.2.2 ≠ 0 → t = ([], 0, t.2.2)) : joinN [] 0 t = t := by
  unfold joinN
  split
  · rename_i h0; exact (h h0).symm
  · rename_i h0
    simp only [ne_eq, Decidable.not_not] at h0
    obtain ⟨a, b, c⟩ := t
    simp at h0 ⊢
    exact h0.symm
theorem joinN_step (x : List Int) (v k : Nat) (r : List UInt8) (n : Int) (u : Nat) (hd : V.dec r = (n, u, 0)) : joinN x v (V.decN (k + 1) r) = joinN (x ++ [n]) (v + u) (V.decN k (r.drop u)) := by
  have e : V.decN (k + 1) r = if (V.decN k (r.drop u)).2.2 ≠ 0 then ([], 0, (V.decN k (r.drop u)).2.2) else (n :: (V.decN k (r.drop u)).1, u + (V.decN k (r.drop u)).2.1, 0) := by
    conv => lhs; unfold V.decN
    rw [hd]
    simp
  rw [e]
  by_cases h : (V.decN k (r.drop u)).2.2 = 0
  · simp [joinN, h, Nat.add_assoc]
  · simp [joinN, h]
theorem joinN_err (x : List Int) (v k : Nat) (r : List UInt8) (a : Int) (b : Nat) (f : Int) (hd : V.dec r = (a, b, f)) (hf : f ≠ 0) : joinN x v (V.decN (k + 1) r) = ([], 0, f) := by
  have e : V.decN (k + 1) r = ([], 0, f) := by
    conv => lhs; unfold V.decN
    rw [hd]
    simp [hf]
  rw [e]
  simp [joinN, hf]

set_option maxHeartbeats 800000 in
/-- wire.List -/
theorem list_any (A : Option Addr) (n c : Nat) (l : List UInt8) (most : Int) (w : World) (hl : RB w A n c l) (hroom : n * 8 ≤ 140737488355328) : Calls Try.prog 21 #[.slice A n c, .int .i64 most] w (RetL w (V.decList l most)) := by
  have hd := length_any A n c l most w hl
  have hlen := hl.len
  have hcap := hl.cap
  have hok : ∀ m u, V.decLen l most = (m, u, 0) → 0 ≤ m ∧ u ≤ n ∧ m ≤ 9223372036854775807 := fun m u h => by
    have h1 := V.decLen_is h
    have h2 := V.dec_ok h1.1
    have h3 := h2.2.2.2.2
    omega
  unfold V.decList
  generalize V.decLen l most = d at *
  obtain ⟨d1, d2, d3⟩ := d
  have HD := Lib.hid hd
  have HL := Lib.hid hl
  clear hd hl
  simp only
  by_cases h3 : d3 = 0
  · subst h3
    obtain ⟨hm0, hun, hmx⟩ := hok _ _ rfl
    obtain ⟨m, rfl⟩ := Int.eq_ofNat_of_zero_le hm0
    have hmx' : m ≤ 9223372036854775807 := by omega
    rw [if_neg (by simp), Int.toNat_natCast]
    clear hok hm0 hmx
    have HJ : Keep ((if (V.decN m (l.drop d2)).2.2 ≠ 0 then (([], 0, (V.decN m (l.drop d2)).2.2) : List Int × Nat × Int) else ((V.decN m (l.drop d2)).1, d2 + (V.decN m (l.drop d2)).2.1, 0)) = joinN [] d2 (V.decN m (l.drop d2))) := ⟨by simp [joinN]⟩
    rw [HJ.out]
    go_enter Try.func21, Try.ntmps21
    go_wp2_with fail
    refine HD.out.mono ?_
    rintro e w' ⟨rfl, rfl⟩
    go_wp2
    go_loopw [4, 5, 22] (fun v u i wr => ∃ (k q : Nat) (B : Option Addr) (n' c' : Nat) (x : List Int), k ≤ m ∧ i = .int .i64 k ∧ u = .int .i64 q ∧ v = .slice B n' c' ∧ OI wr w.heap.size B n' c' x ∧ q ≤ n ∧ k ≤ q ∧ n' = k ∧ joinN [] d2 (V.decN m (l.drop d2)) = joinN x q (V.decN (m - k) (l.drop q)) ∧ Below w.heap.size w wr) (fun _ _ i _ => m - (intOf i).toNat)
    case atStart => exact ⟨0, d2, none, 0, 0, [], Nat.zero_le _, rfl, rfl, rfl, OI.nil _ _, hun, Nat.zero_le _, rfl, rfl, Below.refl _ _⟩
    case round =>
      obtain ⟨k, q, B, n', c', x, hk, rfl, rfl, rfl, ho, hqn, hkq, rfl, hj, hb⟩ := hrel
      have HO := Lib.hid ho
      have HB := Lib.hid hb
      have HJ2 : Keep (joinN [] d2 (V.decN m (l.drop d2)) = joinN x q (V.decN (m - n') (l.drop q))) := ⟨hj⟩
      clear ho hb hj
      by_cases hlt : n' < m
      · have hsl := run_cut3_b A n c q n n (q : Int) (n : Int) (n : Int) rfl rfl rfl hqn (Nat.le_refl _) hcap
        have hrb := HL.out.cut (i := q) (j := n) (m := n) hqn (Nat.le_refl _) (Nat.le_refl _) hcap
        rw [List.take_of_length_le (by omega)] at hrb
        have hdi := int_any _ _ _ _ wr (hrb.below HB.out)
        have hdk : ∀ y u, V.dec (l.drop q) = (y, u, 0) → 1 ≤ u ∧ q + u ≤ n := fun y u h => by
          have := V.dec_ok h
          rw [List.length_drop] at this
          omega
        obtain ⟨j, hj⟩ : ∃ j, m - n' = j + 1 := ⟨m - n' - 1, by omega⟩
        rw [hj] at HJ2
        have HST := fun y u h => joinN_step x q j (l.drop q) y u h
        have HER := fun a b f h hf => joinN_err x q j (l.drop q) a b f h hf
        generalize V.dec (l.drop q) = dd at *
        obtain ⟨y, u, f⟩ := dd
        have HDI := Lib.hid hdi
        clear hdi hrb
        by_cases hf : f = 0
        · subst hf
          obtain ⟨hu1, hun1⟩ := hdk _ _ rfl
          have HST1 : Keep (joinN x q (V.decN (j + 1) (l.drop q)) = joinN (x ++ [y]) (q + u) (V.decN j (l.drop (q + u)))) := ⟨by rw [HST _ _ rfl, List.drop_drop]⟩
          have HM : Keep (m - n' = j + 1) := ⟨hj⟩
          clear hdk HST HER hj
          go_wp2_with fail
          refine HDI.out.mono ?_
          rintro e w' ⟨rfl, rfl⟩
          go_wp2_with (at_builtin; refine append_oi _ rfl (.tmp 39) (.tmp 41) rfl w.heap.size B n' c' x rfl (HO.out.below (below_alloc1 _ _)) _ 1 1 [y] rfl (ri_one _ _) (by omega) (by have := HB.out.size; simp; omega) ?_; intro A2 n2 c2 w2 ht hb2; have HT2 := Lib.hid ht; have HB2 := Lib.hid hb2; clear ht hb2)
          go_roundw
          case rel =>
            have hlx : n2 = n' + 1 := by
              have h1 := HT2.out.ri.len
              have h2 := HO.out.ri.len
              simp at h1
              omega
            refine ⟨n' + 1, q + u, A2, n2, c2, x ++ [y], by omega, by go_num, by go_num, rfl, HT2.out, by omega, by omega, hlx, ?_, (HB.out.alloc HB.out.size _).trans HB2.out⟩
            rw [HJ2.out, HST1.out, show m - (n' + 1) = j by have := HM.out; omega]
          case measure => simp [intOf]; omega
        · have b3 : (f != 0) = true := by simp [hf]
          have HER1 : Keep (joinN x q (V.decN (j + 1) (l.drop q)) = ([], 0, f)) := ⟨HER _ _ _ rfl hf⟩
          clear hdk HST HER hj hf
          go_wp2_with fail
          refine HDI.out.mono ?_
          rintro e w' ⟨rfl, rfl⟩
          go_wp2
          go_ret3
          rw [HJ2.out, HER1.out]
          exact ⟨none, 0, 0, rfl, RI.none_ _, HB.out⟩
      · obtain rfl : n' = m := by omega
        go_wp2
        go_ret3
        rw [HJ2.out, Nat.sub_self]
        exact ⟨B, n', c', by simp [joinN, V.decN], by simpa [joinN, V.decN] using HO.out.ri, HB.out⟩
  · have b3 : (d3 != 0) = true := by simp [h3]
    rw [if_pos (by simp [h3])]
    clear h3 hok
    go_enter Try.func21, Try.ntmps21
    go_wp2_with fail
    refine HD.out.mono ?_
    rintro e w' ⟨rfl, rfl⟩
    go_wp2
    go_ret3
    exact ⟨none, 0, 0, rfl, RI.none_ _, Below.refl _ _⟩
end Go.Proofs.Ytogigdikpllieaa
