/- The plain mathematics of the encoding of integers (zigzag, base 128), strings and lists: no program in sight. -/
namespace Go.Proofs.YtpppgceccikodaaDoor.V

/-- An integer as a natural number: 0, -1, 1, -2 .. -/
def zig (n : Int) : Nat := if n < 0 then (2 * (-n - 1) + 1).toNat else (2 * n).toNat
def unzig (u : Nat) : Int := if u % 2 = 0 then ((u / 2 : Nat) : Int) else -((u / 2 : Nat) : Int) - 1
theorem unzig_zig (n : Int) : unzig (zig n) = n := by unfold unzig zig; split <;> split <;> omega
theorem zig_unzig (u : Nat) : zig (unzig u) = u := by unfold unzig zig; split <;> split <;> omega
/-- The integers of the machine. -/
def In (n : Int) : Prop := -9223372036854775808 ≤ n ∧ n ≤ 9223372036854775807
theorem zig_lt {n : Int} (h : In n) : zig n < 18446744073709551616 := by unfold In at h; unfold zig; split <;> omega
theorem unzig_in {u : Nat} (h : u < 18446744073709551616) : In (unzig u) := by unfold In unzig; split <;> omega

/-- The digits of u in base 128, the least significant one first; all but the last one are raised by 128. At most f + 1 of them. -/
def uvar : Nat → Nat → List UInt8
  | 0, u => [UInt8.ofNat u]
  | f + 1, u => if u < 128 then [UInt8.ofNat u] else UInt8.ofNat (u % 128 + 128) :: uvar f (u / 128)
/-- THE ENCODING OF AN INTEGER. -/
def enc (n : Int) : List UInt8 := uvar 9 (zig n)
theorem uvar_small (f u : Nat) (h : u < 128) : uvar f u = [UInt8.ofNat u] := by cases f <;> simp [uvar, h]
theorem uvar_big (f u : Nat) (h : ¬ u < 128) : uvar (f + 1) u = UInt8.ofNat (u % 128 + 128) :: uvar f (u / 128) := by simp [uvar, h]

/-- The number that digits are. -/
def val : List UInt8 → Nat
  | [] => 0
  | c :: l => c.toNat % 128 + 128 * val l
theorem val_append (l m : List UInt8) : val (l ++ m) = val l + 128 ^ l.length * val m := by
  induction l with
  | nil => simp [val]
  | cons c l ih => simp only [List.cons_append, val, ih, List.length_cons, Nat.pow_succ]; rw [Nat.mul_add, Nat.mul_comm (128 ^ l.length) 128, Nat.mul_assoc]; omega
theorem val_lt (l : List UInt8) : val l < 128 ^ l.length := by
  induction l with
  | nil => simp [val]
  | cons c l ih => simp only [val, List.length_cons, Nat.pow_succ]; have := Nat.mod_lt c.toNat (show 0 < 128 by decide); omega
theorem val_snoc (l : List UInt8) (c : UInt8) : val (l ++ [c]) = val l + 128 ^ l.length * (c.toNat % 128) := by rw [val_append]; simp [val]

/-- The number of digits at the beginning that are not the last one. -/
def lead (l : List UInt8) : Nat := (l.takeWhile fun c => decide (128 ≤ c.toNat)).length
/-- THE DECODING OF AN INTEGER: it, how many bytes it used, the error (0, 4: form, 5: short). -/
def dec (l : List UInt8) : Int × Nat × Int :=
  if 10 ≤ lead l then (0, 0, 4) else if lead l = l.length then (0, 0, 5) else
  if (0 < lead l ∧ (l.getD (lead l) 0).toNat = 0) ∨ (lead l = 9 ∧ 1 < (l.getD (lead l) 0).toNat) then (0, 0, 4) else (unzig (val (l.take (lead l + 1))), lead l + 1, 0)

/-- Raised digits. -/
def Up (l : List UInt8) : Prop := ∀ c ∈ l, 128 ≤ c.toNat
theorem lead_up {l : List UInt8} (h : Up l) : lead l = l.length := by
  induction l with
  | nil => rfl
  | cons x l ih =>
    have hx : 128 ≤ x.toNat := h x (by simp)
    have := ih (fun y hy => h y (by simp [hy]))
    unfold lead at this ⊢
    simp [hx, this]
theorem lead_at {p : List UInt8} (h : Up p) {c : UInt8} (hc : c.toNat < 128) (r : List UInt8) : lead (p ++ c :: r) = p.length := by
  induction p with
  | nil =>
    have : decide (128 ≤ c.toNat) = false := by simp; omega
    simp [lead, this]
  | cons x p ih =>
    have hx : 128 ≤ x.toNat := h x (by simp)
    have := ih (fun y hy => h y (by simp [hy]))
    unfold lead at this ⊢
    simp [hx, this]
theorem lead_mono {p : List UInt8} (h : Up p) (r : List UInt8) : p.length ≤ lead (p ++ r) := by
  induction p with
  | nil => simp
  | cons x p ih =>
    have hx : 128 ≤ x.toNat := h x (by simp)
    have := ih (fun y hy => h y (by simp [hy]))
    unfold lead at this ⊢
    simp [hx]
    omega
theorem lead_le (l : List UInt8) : lead l ≤ l.length := by
  unfold lead
  exact (List.takeWhile_prefix _).length_le
/-- Every string is raised digits alone, or such, a last digit, and a rest. -/
theorem parts (l : List UInt8) : Up l ∨ ∃ p c r, l = p ++ c :: r ∧ Up p ∧ c.toNat < 128 := by
  induction l with
  | nil => exact .inl (fun c h => by cases h)
  | cons x l ih =>
    by_cases hx : x.toNat < 128
    · exact .inr ⟨[], x, l, rfl, (fun c h => by cases h), hx⟩
    · rcases ih with h | ⟨p, c, r, rfl, hp, hc⟩
      · refine .inl (fun c hc => ?_)
        rcases List.mem_cons.1 hc with rfl | hc
        · omega
        · exact h c hc
      · refine .inr ⟨x :: p, c, r, rfl, fun y hy => ?_, hc⟩
        rcases List.mem_cons.1 hy with rfl | hy
        · omega
        · exact hp y hy
theorem dec_up {l : List UInt8} (h : Up l) : dec l = if 10 ≤ l.length then (0, 0, 4) else (0, 0, 5) := by
  unfold dec
  rw [lead_up h]
  simp
theorem dec_at {p : List UInt8} (h : Up p) {c : UInt8} (hc : c.toNat < 128) (r : List UInt8) :
    dec (p ++ c :: r) = if 10 ≤ p.length then (0, 0, 4) else if (0 < p.length ∧ c.toNat = 0) ∨ (p.length = 9 ∧ 1 < c.toNat) then (0, 0, 4) else (unzig (val (p ++ [c])), p.length + 1, 0) := by
  unfold dec
  rw [lead_at h hc r]
  have e1 : (p ++ c :: r).getD p.length 0 = c := by simp
  have e2 : (p ++ c :: r).take (p.length + 1) = p ++ [c] := by simp [List.take_append, List.take_of_length_le]
  have e3 : ¬ p.length = (p ++ c :: r).length := by simp
  rw [e1, e2, if_neg e3]

/-- What an encoding is made of. -/
structure Code (f u : Nat) (p : List UInt8) (c : UInt8) : Prop where
  up : Up p
  low : c.toNat < 128
  len : p.length ≤ f
  val : val (p ++ [c]) = u
  last : 0 < p.length → c.toNat ≠ 0
theorem Code.mk_ : ∀ (f u : Nat), u < 128 ^ (f + 1) → ∃ p c, uvar f u = p ++ [c] ∧ Code f u p c
  | 0, u, h => ⟨[], UInt8.ofNat u, rfl, ⟨(fun c h => by cases h), by rw [UInt8.toNat_ofNat']; omega, by simp, by simp [V.val]; omega, by simp⟩⟩
  | f + 1, u, h => by
    by_cases hu : u < 128
    · exact ⟨[], UInt8.ofNat u, uvar_small _ _ hu, ⟨(fun c h => by cases h), by rw [UInt8.toNat_ofNat']; omega, by simp, by simp [V.val]; omega, by simp⟩⟩
    · obtain ⟨p, c, e, hc⟩ := Code.mk_ f (u / 128) (by rw [Nat.pow_succ] at h; omega)
      have hx : (UInt8.ofNat (u % 128 + 128)).toNat = u % 128 + 128 := by rw [UInt8.toNat_ofNat']; omega
      refine ⟨UInt8.ofNat (u % 128 + 128) :: p, c, by rw [uvar_big f u hu, e]; rfl, ⟨fun y hy => ?_, hc.low, by have := hc.len; simp; omega, ?_, fun _ => ?_⟩⟩
      · rcases List.mem_cons.1 hy with rfl | hy
        · omega
        · exact hc.up y hy
      · simp only [List.cons_append, V.val, hx, hc.val]
        omega
      · intro h0
        by_cases hp : 0 < p.length
        · exact hc.last hp h0
        · have : p = [] := List.eq_nil_of_length_eq_zero (by omega)
          have hv := hc.val
          subst this
          simp [V.val, h0] at hv
          omega
theorem Code.unique : ∀ (p : List UInt8) (c : UInt8) (f : Nat), Up p → c.toNat < 128 → p.length ≤ f → (0 < p.length → c.toNat ≠ 0) → uvar f (V.val (p ++ [c])) = p ++ [c]
  | [], c, f, _, hc, _, _ => by
    have e : V.val ([] ++ [c]) = c.toNat := by simp [V.val]; omega
    rw [e, uvar_small f _ hc]
    simp
  | x :: p, c, 0, _, _, hf, _ => by simp at hf
  | x :: p, c, f + 1, hp, hc, hf, hl => by
    have hx : 128 ≤ x.toNat := hp x (by simp)
    have hx' := x.toNat_lt
    have hc0 := hl (by simp)
    have hpos : 0 < V.val (p ++ [c]) := by
      rw [val_snoc]
      have : 0 < 128 ^ p.length * (c.toNat % 128) := Nat.mul_pos (Nat.pow_pos (by decide)) (by omega)
      omega
    have ih := Code.unique p c f (fun y hy => hp y (by simp [hy])) hc (by simpa using hf) (fun _ => hc0)
    have e : V.val (x :: p ++ [c]) = x.toNat % 128 + 128 * V.val (p ++ [c]) := rfl
    rw [e, uvar_big f _ (by omega), show (x.toNat % 128 + 128 * V.val (p ++ [c])) / 128 = V.val (p ++ [c]) by omega, ih]
    have : UInt8.ofNat ((x.toNat % 128 + 128 * V.val (p ++ [c])) % 128 + 128) = x := by
      apply UInt8.toNat_inj.1
      rw [UInt8.toNat_ofNat']
      omega
    rw [this]
    rfl
theorem enc_code {n : Int} (h : In n) : ∃ p c, enc n = p ++ [c] ∧ Code 9 (zig n) p c := Code.mk_ 9 (zig n) (Nat.lt_of_lt_of_le (zig_lt h) (by decide))
/-- In ten digits the last one is at most one. -/
theorem Code.ten {u : Nat} {p : List UInt8} {c : UInt8} (h : Code 9 u p c) (hu : u < 18446744073709551616) (hp : p.length = 9) : c.toNat ≤ 1 := by
  have hv := h.val
  rw [val_snoc, hp] at hv
  have hc := h.low
  have e : (128 : Nat) ^ 9 = 9223372036854775808 := by decide
  rw [e] at hv
  have : c.toNat % 128 = c.toNat := Nat.mod_eq_of_lt hc
  rw [this] at hv
  omega
theorem enc_length {n : Int} (h : In n) : 1 ≤ (enc n).length ∧ (enc n).length ≤ 10 := by
  obtain ⟨p, c, e, hc⟩ := enc_code h
  have := hc.len
  rw [e]
  simp
  omega

/-- WHAT WAS ENCODED IS DECODED, whatever follows. -/
theorem dec_enc {n : Int} (h : In n) (r : List UInt8) : dec (enc n ++ r) = (n, (enc n).length, 0) := by
  obtain ⟨p, c, e, hc⟩ := enc_code h
  rw [e, List.append_assoc]
  show dec (p ++ c :: r) = _
  have hlen := hc.len
  rw [dec_at hc.up hc.low, if_neg (by omega), if_neg, hc.val, unzig_zig]
  · simp
  · rintro (⟨h1, h2⟩ | ⟨h1, h2⟩)
    · exact hc.last h1 h2
    · have := hc.ten (zig_lt h) h1
      omega
theorem dec_enc' {n : Int} (h : In n) : dec (enc n) = (n, (enc n).length, 0) := by simpa using dec_enc h []

/-- WHATEVER IS DECODED HAS AS ITS ENCODING THE BYTES THAT WERE USED. -/
theorem dec_ok {l : List UInt8} {n : Int} {k : Nat} (h : dec l = (n, k, 0)) : 1 ≤ k ∧ k ≤ l.length ∧ enc n = l.take k ∧ In n := by
  rcases parts l with hu | ⟨p, c, r, rfl, hp, hc⟩
  · rw [dec_up hu] at h
    split at h <;> simp at h
  · rw [dec_at hp hc] at h
    split at h
    · simp at h
    · split at h
      · simp at h
      · rename_i h10 hb
        simp only [Prod.mk.injEq, and_true] at h
        obtain ⟨rfl, rfl⟩ := h
        have hv : val (p ++ [c]) < 18446744073709551616 := by
          rw [val_snoc]
          have h1 := val_lt p
          have hcm : c.toNat % 128 = c.toNat := Nat.mod_eq_of_lt hc
          rw [hcm]
          by_cases h9 : p.length = 9
          · have : c.toNat ≤ 1 := by
              rcases Nat.lt_or_ge 1 c.toNat with hh | hh
              · exact absurd (Or.inr ⟨h9, hh⟩) hb
              · exact hh
            rw [h9] at h1 ⊢
            have e : (128 : Nat) ^ 9 = 9223372036854775808 := by decide
            rw [e] at h1 ⊢
            omega
          · have hle : p.length ≤ 8 := by omega
            have hpow : 128 ^ p.length ≤ 128 ^ 8 := Nat.pow_le_pow_right (by decide) hle
            have : 128 ^ p.length * c.toNat ≤ 128 ^ 8 * 127 := Nat.mul_le_mul hpow (by omega)
            have e : (128 : Nat) ^ 8 = 72057594037927936 := by decide
            rw [e] at hpow this
            omega
        refine ⟨by omega, by simp, ?_, unzig_in hv⟩
        unfold enc
        rw [zig_unzig, Code.unique p c 9 hp hc (by omega) (fun h1 h2 => hb (.inl ⟨h1, h2⟩))]
        simp [List.take_append, List.take_of_length_le]
/-- An error leaves nothing. -/
theorem dec_err {l : List UInt8} (h : (dec l).2.2 ≠ 0) : (dec l) = (0, 0, 4) ∨ dec l = (0, 0, 5) := by
  rcases parts l with hu | ⟨p, c, r, rfl, hp, hc⟩
  · rw [dec_up hu] at h ⊢
    split <;> simp
  · rw [dec_at hp hc] at h ⊢
    split
    · simp
    · split
      · simp
      · rename_i h1 h2
        rw [if_neg h1, if_neg h2] at h
        simp at h
theorem dec_cases (l : List UInt8) : dec l = (0, 0, 4) ∨ dec l = (0, 0, 5) ∨ ∃ n k, dec l = (n, k, 0) := by
  by_cases h : (dec l).2.2 = 0
  · exact .inr (.inr ⟨(dec l).1, (dec l).2.1, by rw [← h]⟩)
  · rcases dec_err h with h | h
    · exact .inl h
    · exact .inr (.inl h)
/-- AN ENCODING WITHOUT ITS LAST BYTES IS TOO SHORT. -/
theorem dec_cut {n : Int} (h : In n) {j : Nat} (hj : j < (enc n).length) : dec ((enc n).take j) = (0, 0, 5) := by
  obtain ⟨p, c, e, hc⟩ := enc_code h
  rw [e] at hj ⊢
  have hjp : j ≤ p.length := by simp at hj; omega
  have et : (p ++ [c]).take j = p.take j := by rw [List.take_append_of_le_length hjp]
  rw [et, dec_up (fun y hy => hc.up y (List.mem_of_mem_take hy)), if_neg]
  have := hc.len
  rw [List.length_take]
  omega
/-- HOW MANY BYTES. -/
theorem enc_size {n : Int} (h : In n) {k : Nat} (h1 : 1 ≤ k) (_h9 : k ≤ 9) : (enc n).length ≤ k ↔ zig n < 128 ^ k := by
  obtain ⟨p, c, e, hc⟩ := enc_code h
  have hl : (enc n).length = p.length + 1 := by rw [e]; simp
  rw [hl]
  have hv := hc.val
  constructor
  · intro hle
    rw [← hv]
    refine Nat.lt_of_lt_of_le (val_lt _) ?_
    exact Nat.pow_le_pow_right (by decide) (by simpa using hle)
  · intro hlt
    rcases Nat.lt_or_ge k (p.length + 1) with hk | hk
    · exfalso
      rw [← hv, val_snoc] at hlt
      have hc0 := hc.last (by omega)
      have hcl := hc.low
      have : 128 ^ k ≤ 128 ^ p.length := Nat.pow_le_pow_right (by decide) (by omega)
      have h2 : 128 ^ p.length * 1 ≤ 128 ^ p.length * (c.toNat % 128) := Nat.mul_le_mul_left _ (by omega)
      omega
    · exact hk
theorem zig_bound (n : Int) (b : Nat) : zig n < 2 * b ↔ (-(b : Int) ≤ n ∧ n < b) := by unfold zig; split <;> omega

/-! ### lengths, strings, lists -/
/-- A length of at most 'most'. -/
def decLen (l : List UInt8) (most : Int) : Int × Nat × Int :=
  if (dec l).2.2 ≠ 0 then (0, 0, (dec l).2.2) else if (dec l).1 < 0 then (0, 0, 4) else if max most 0 < (dec l).1 then (0, 0, 3) else ((dec l).1, (dec l).2.1, 0)
def encText (s : List UInt8) : List UInt8 := enc s.length ++ s
def decText (l : List UInt8) (most : Int) : List UInt8 × Nat × Int :=
  if (decLen l most).2.2 ≠ 0 then ([], 0, (decLen l most).2.2) else
  if (l.length : Int) - (decLen l most).2.1 < (decLen l most).1 then ([], 0, 5) else
  ((l.drop (decLen l most).2.1).take (decLen l most).1.toNat, (decLen l most).2.1 + (decLen l most).1.toNat, 0)
def encList (x : List Int) : List UInt8 := enc x.length ++ x.flatMap enc
/-- So many integers one behind the other. -/
def decN : Nat → List UInt8 → List Int × Nat × Int
  | 0, _ => ([], 0, 0)
  | k + 1, l => if (dec l).2.2 ≠ 0 then ([], 0, (dec l).2.2) else
    if (decN k (l.drop (dec l).2.1)).2.2 ≠ 0 then ([], 0, (decN k (l.drop (dec l).2.1)).2.2) else
    ((dec l).1 :: (decN k (l.drop (dec l).2.1)).1, (dec l).2.1 + (decN k (l.drop (dec l).2.1)).2.1, 0)
def decList (l : List UInt8) (most : Int) : List Int × Nat × Int :=
  if (decLen l most).2.2 ≠ 0 then ([], 0, (decLen l most).2.2) else
  if (decN (decLen l most).1.toNat (l.drop (decLen l most).2.1)).2.2 ≠ 0 then ([], 0, (decN (decLen l most).1.toNat (l.drop (decLen l most).2.1)).2.2) else
  ((decN (decLen l most).1.toNat (l.drop (decLen l most).2.1)).1, (decLen l most).2.1 + (decN (decLen l most).1.toNat (l.drop (decLen l most).2.1)).2.1, 0)

theorem decLen_ok {l : List UInt8} {most m : Int} {k : Nat} (h : dec l = (m, k, 0)) (h0 : 0 ≤ m) (h1 : m ≤ max most 0) : decLen l most = (m, k, 0) := by
  unfold decLen
  rw [h]
  simp only [ne_eq, not_true_eq_false, if_false]
  rw [if_neg (by omega), if_neg (by omega)]
theorem decLen_is {l : List UInt8} {most m : Int} {k : Nat} (h : decLen l most = (m, k, 0)) : dec l = (m, k, 0) ∧ 0 ≤ m ∧ m ≤ max most 0 := by
  unfold decLen at h
  split at h
  · rename_i h0; simp at h; exact absurd h.2.2 h0
  · rename_i h0
    split at h
    · simp at h
    · split at h
      · simp at h
      · rename_i h1 h2
        simp only [Prod.mk.injEq, and_true] at h
        simp only [ne_eq, Decidable.not_not] at h0
        refine ⟨by rw [← h.1, ← h.2, ← h0], by omega, by omega⟩
theorem decLen_err {l : List UInt8} {most : Int} (h : (decLen l most).2.2 ≠ 0) : (decLen l most) = (0, 0, (decLen l most).2.2) := by
  unfold decLen at h ⊢
  split
  · rfl
  · split
    · rfl
    · split
      · rfl
      · rename_i h0 h1 h2
        rw [if_neg h0, if_neg h1, if_neg h2] at h
        simp at h
theorem decLen_short {l : List UInt8} {most : Int} (h : dec l = (0, 0, 5)) : decLen l most = (0, 0, 5) := by
  unfold decLen
  rw [h]
  simp

theorem decText_enc {s r : List UInt8} {most : Int} (hs : In s.length) (hm : (s.length : Int) ≤ max most 0) : decText (encText s ++ r) most = (s, (encText s).length, 0) := by
  have hd : dec (encText s ++ r) = ((s.length : Int), (enc s.length).length, 0) := by unfold encText; rw [List.append_assoc]; exact dec_enc hs _
  have hl := decLen_ok hd (by omega) hm
  have hlen : (encText s ++ r).length = (enc s.length).length + s.length + r.length := by simp [encText]; omega
  unfold decText
  rw [hl]
  simp only [ne_eq, not_true_eq_false, if_false]
  rw [if_neg (by rw [hlen]; omega)]
  simp [encText]
theorem decText_ok {l s : List UInt8} {most : Int} {k : Nat} (h : decText l most = (s, k, 0)) : 1 ≤ k ∧ k ≤ l.length ∧ encText s = l.take k ∧ In s.length := by
  unfold decText at h
  split at h
  · rename_i h0; simp at h; exact absurd h.2.2 h0
  · split at h
    · simp at h
    · rename_i h0 h1
      simp only [ne_eq, Decidable.not_not] at h0
      have hl := decLen_is (l := l) (most := most) (m := (decLen l most).1) (k := (decLen l most).2.1) (by rw [← h0])
      generalize (decLen l most).1 = m at *
      generalize (decLen l most).2.1 = u at *
      simp only [Prod.mk.injEq, and_true] at h
      obtain ⟨hd, hm0, hm1⟩ := hl
      obtain ⟨h1u, hul, he, hin⟩ := dec_ok hd
      obtain ⟨rfl, rfl⟩ := h
      have hsl : ((l.drop u).take m.toNat).length = m.toNat := by rw [List.length_take, List.length_drop]; omega
      refine ⟨by omega, by omega, ?_, by rw [hsl, Int.toNat_of_nonneg hm0]; exact hin⟩
      unfold encText
      rw [hsl, Int.toNat_of_nonneg hm0, he]
      rw [List.take_add]
theorem decText_err {l : List UInt8} {most : Int} (h : (decText l most).2.2 ≠ 0) : decText l most = ([], 0, (decText l most).2.2) := by
  unfold decText at h ⊢
  split
  · rfl
  · split
    · rfl
    · rename_i h0 h1
      rw [if_neg h0, if_neg h1] at h
      simp at h
theorem decText_cut {s : List UInt8} {most : Int} (hs : In s.length) (hm : (s.length : Int) ≤ max most 0) {j : Nat} (hj : j < (encText s).length) : decText ((encText s).take j) most = ([], 0, 5) := by
  unfold encText at hj ⊢
  by_cases h : j < (enc s.length).length
  · rw [List.take_append_of_le_length (by omega)]
    unfold decText
    rw [decLen_short (dec_cut hs h)]
    simp
  · have e : (enc s.length ++ s).take j = enc s.length ++ s.take (j - (enc s.length).length) := by
      rw [List.take_append, List.take_of_length_le (by omega)]
    rw [e]
    have hd := dec_enc hs (s.take (j - (enc s.length).length))
    have hl := decLen_ok hd (by omega) hm
    unfold decText
    rw [hl]
    simp only [ne_eq, not_true_eq_false, if_false]
    rw [if_pos]
    rw [List.length_append, List.length_take]
    simp at hj
    omega

/-- All of them are integers of the machine. -/
def Ins (x : List Int) : Prop := ∀ n ∈ x, In n
theorem decN_enc : ∀ (x : List Int) (r : List UInt8), Ins x → decN x.length (x.flatMap enc ++ r) = (x, (x.flatMap enc).length, 0)
  | [], r, _ => rfl
  | n :: x, r, h => by
    have hn : In n := h n (by simp)
    have ih := decN_enc x r (fun m hm => h m (by simp [hm]))
    simp only [List.length_cons, List.flatMap_cons, List.append_assoc]
    have hd := dec_enc hn (x.flatMap enc ++ r)
    unfold decN
    rw [hd]
    simp only [ne_eq, not_true_eq_false, if_false, List.drop_left, ih, List.length_append]
theorem decN_ok : ∀ {k : Nat} {l : List UInt8} {x : List Int} {u : Nat}, decN k l = (x, u, 0) → x.length = k ∧ u ≤ l.length ∧ x.flatMap enc = l.take u ∧ Ins x
  | 0, l, x, u, h => by
    simp only [decN, Prod.mk.injEq, and_true] at h
    obtain ⟨rfl, rfl⟩ := h
    exact ⟨rfl, Nat.zero_le _, by simp, fun n hn => by cases hn⟩
  | k + 1, l, x, u, h => by
    unfold decN at h
    split at h
    · rename_i h0; simp at h; exact absurd h.2.2 h0
    · split at h
      · rename_i h0; simp at h; exact absurd h.2.2 h0
      · rename_i h0 h1
        simp only [ne_eq, Decidable.not_not] at h0 h1
        have hd := dec_ok (l := l) (n := (dec l).1) (k := (dec l).2.1) (by rw [← h0])
        have hr := decN_ok (k := k) (l := l.drop (dec l).2.1) (x := (decN k (l.drop (dec l).2.1)).1) (u := (decN k (l.drop (dec l).2.1)).2.1) (by rw [← h1])
        generalize (decN k (l.drop (dec l).2.1)).1 = y at *
        generalize (decN k (l.drop (dec l).2.1)).2.1 = v at *
        simp only [Prod.mk.injEq, and_true] at h
        obtain ⟨rfl, rfl⟩ := h
        obtain ⟨a1, a2, a3, a4⟩ := hd
        obtain ⟨b1, b2, b3, b4⟩ := hr
        rw [List.length_drop] at b2
        refine ⟨by simp [b1], by omega, ?_, fun n hn => ?_⟩
        · rw [List.flatMap_cons, a3, b3, List.take_add]
        · rcases List.mem_cons.1 hn with rfl | hn
          · exact a4
          · exact b4 n hn
theorem decN_err : ∀ (k : Nat) (l : List UInt8), (decN k l).2.2 ≠ 0 → decN k l = ([], 0, (decN k l).2.2)
  | 0, l, h => by simp [decN] at h
  | k + 1, l, h => by
    unfold decN at h ⊢
    split
    · rfl
    · split
      · rfl
      · rename_i h0 h1
        rw [if_neg h0, if_neg h1] at h
        simp at h
theorem decN_cut : ∀ (x : List Int) (j : Nat), Ins x → j < (x.flatMap enc).length → decN x.length ((x.flatMap enc).take j) = ([], 0, 5)
  | [], j, _, h => by simp at h
  | n :: x, j, h, hj => by
    have hn : In n := h n (by simp)
    simp only [List.flatMap_cons, List.length_cons] at hj ⊢
    by_cases hlt : j < (enc n).length
    · rw [List.take_append_of_le_length (by omega)]
      unfold decN
      rw [dec_cut hn hlt]
      simp
    · have e : (enc n ++ x.flatMap enc).take j = enc n ++ (x.flatMap enc).take (j - (enc n).length) := by
        rw [List.take_append, List.take_of_length_le (by omega)]
      have ih := decN_cut x (j - (enc n).length) (fun m hm => h m (by simp [hm])) (by rw [List.length_append] at hj; omega)
      rw [e]
      unfold decN
      rw [dec_enc hn]
      simp only [ne_eq, not_true_eq_false, if_false, List.drop_left, ih]
      simp

theorem decList_enc {x : List Int} {r : List UInt8} {most : Int} (hx : Ins x) (hn : In x.length) (hm : (x.length : Int) ≤ max most 0) : decList (encList x ++ r) most = (x, (encList x).length, 0) := by
  have hd : dec (encList x ++ r) = ((x.length : Int), (enc x.length).length, 0) := by unfold encList; rw [List.append_assoc]; exact dec_enc hn _
  have hl := decLen_ok hd (by omega) hm
  unfold decList
  rw [hl]
  have e : (encList x ++ r).drop (enc x.length).length = x.flatMap enc ++ r := by unfold encList; rw [List.append_assoc, List.drop_left]
  simp only [ne_eq, not_true_eq_false, if_false, e, Int.toNat_natCast, decN_enc x r hx]
  simp [encList]
theorem decList_ok {l : List UInt8} {x : List Int} {most : Int} {k : Nat} (h : decList l most = (x, k, 0)) : 1 ≤ k ∧ k ≤ l.length ∧ encList x = l.take k ∧ Ins x ∧ In x.length := by
  unfold decList at h
  split at h
  · rename_i h0; simp at h; exact absurd h.2.2 h0
  · split at h
    · rename_i h0; simp at h; exact absurd h.2.2 h0
    · rename_i h0 h1
      simp only [ne_eq, Decidable.not_not] at h0 h1
      have hl := decLen_is (l := l) (most := most) (m := (decLen l most).1) (k := (decLen l most).2.1) (by rw [← h0])
      generalize (decLen l most).1 = m at *
      generalize (decLen l most).2.1 = u at *
      have hr := decN_ok (k := m.toNat) (l := l.drop u) (x := (decN m.toNat (l.drop u)).1) (u := (decN m.toNat (l.drop u)).2.1) (by rw [← h1])
      generalize (decN m.toNat (l.drop u)).1 = y at *
      generalize (decN m.toNat (l.drop u)).2.1 = v at *
      simp only [Prod.mk.injEq, and_true] at h
      obtain ⟨rfl, rfl⟩ := h
      obtain ⟨hd, hm0, hm1⟩ := hl
      obtain ⟨h1u, hul, he, hin⟩ := dec_ok hd
      obtain ⟨b1, b2, b3, b4⟩ := hr
      rw [List.length_drop] at b2
      refine ⟨by omega, by omega, ?_, b4, by rw [b1, Int.toNat_of_nonneg hm0]; exact hin⟩
      unfold encList
      rw [b1, Int.toNat_of_nonneg hm0, he, b3, List.take_add]
theorem decList_err {l : List UInt8} {most : Int} (h : (decList l most).2.2 ≠ 0) : decList l most = ([], 0, (decList l most).2.2) := by
  unfold decList at h ⊢
  split
  · rfl
  · split
    · rfl
    · rename_i h0 h1
      rw [if_neg h0, if_neg h1] at h
      simp at h
theorem decList_cut {x : List Int} {most : Int} (hx : Ins x) (hn : In x.length) (hm : (x.length : Int) ≤ max most 0) {j : Nat} (hj : j < (encList x).length) : decList ((encList x).take j) most = ([], 0, 5) := by
  unfold encList at hj ⊢
  by_cases h : j < (enc x.length).length
  · rw [List.take_append_of_le_length (by omega)]
    unfold decList
    rw [decLen_short (dec_cut hn h)]
    simp
  · have e : (enc x.length ++ x.flatMap enc).take j = enc x.length ++ (x.flatMap enc).take (j - (enc x.length).length) := by
      rw [List.take_append, List.take_of_length_le (by omega)]
    rw [e]
    have hd := dec_enc hn ((x.flatMap enc).take (j - (enc x.length).length))
    have hl := decLen_ok hd (by omega) hm
    have hc := decN_cut x (j - (enc x.length).length) hx (by rw [List.length_append] at hj; omega)
    unfold decList
    rw [hl]
    simp only [ne_eq, not_true_eq_false, if_false, List.drop_left, Int.toNat_natCast, hc]
    simp
theorem flat_length {x : List Int} (hx : Ins x) : (x.flatMap enc).length ≤ 10 * x.length := by
  induction x with
  | nil => simp
  | cons n x ih =>
    have h1 := (enc_length (hx n (by simp))).2
    have h2 := ih (fun m hm => hx m (by simp [hm]))
    simp only [List.flatMap_cons, List.length_append, List.length_cons]
    omega
end Go.Proofs.YtpppgceccikodaaDoor.V
