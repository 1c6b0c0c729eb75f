/- The plain mathematics of plates: validity, run-length encoding, limits. No program in sight. -/
import Derived.Test.YtpppgceccikodaaDoorVar
import Derived.Test.YtpppgceccikodaaDoorCrc
namespace Go.Proofs.YtpppgceccikodaaDoor.Pl

/-- A number of columns or rows. -/
def side (n : Int) : Bool := decide (1 ≤ n ∧ n ≤ 256)
/-- A value. -/
def ink (n : Int) : Bool := decide (0 ≤ n ∧ n ≤ 100)
/-- Is a plate valid? The error's number. -/
def check (w h : Int) (l : List Int) : Int :=
  if (side w && side h) = false then 2 else if (l.length : Int) ≠ w * h then 1 else if l.all ink then 0 else 2
theorem check_ok {w h : Int} {l : List Int} (e : check w h l = 0) : (1 ≤ w ∧ w ≤ 256) ∧ (1 ≤ h ∧ h ≤ 256) ∧ (l.length : Int) = w * h ∧ ∀ x ∈ l, 0 ≤ x ∧ x ≤ 100 := by
  unfold check at e
  split at e
  · simp at e
  · rename_i h1
    split at e
    · simp at e
    · rename_i h2
      split at e
      · rename_i h3
        simp [side] at h1
        simp at h2
        refine ⟨by omega, by omega, h2, fun x hx => ?_⟩
        have := List.all_eq_true.1 h3 x hx
        simpa [ink] using this
      · simp at e
theorem check_mk {w h : Int} {l : List Int} (h1 : 1 ≤ w ∧ w ≤ 256) (h2 : 1 ≤ h ∧ h ≤ 256) (h3 : (l.length : Int) = w * h) (h4 : ∀ x ∈ l, 0 ≤ x ∧ x ≤ 100) : check w h l = 0 := by
  unfold check
  rw [if_neg (by simp [side]; omega), if_neg (by simpa using h3), if_pos]
  rw [List.all_eq_true]
  intro x hx
  simpa [ink] using h4 x hx
theorem side_mul {w h : Int} (h1 : 1 ≤ w ∧ w ≤ 256) (h2 : 1 ≤ h ∧ h ≤ 256) : 1 ≤ w * h ∧ w * h ≤ 65536 := by
  constructor
  · have := Int.mul_le_mul h1.1 h2.1 (by omega) (by omega); omega
  · have := Int.mul_le_mul h1.2 h2.2 (by omega) (by omega); omega

/-- The sum. -/
def total (w h : Int) (l : List Int) : Int := if check w h l ≠ 0 then 0 else l.sum

/-! ### Runs -/
/-- The sequences of equal values, each as long as can be. -/
def runs : List Int → List (Nat × Int)
  | [] => []
  | v :: l => ((l.takeWhile (· == v)).length + 1, v) :: runs (l.dropWhile (· == v))
termination_by l => l.length
decreasing_by
  have := (List.dropWhile_suffix (l := l) (· == v)).length_le
  simp only [List.length_cons]
  omega
/-- Their bytes. -/
def packed (l : List Int) : List UInt8 := (runs l).flatMap fun r => V.enc (r.1 : Int) ++ V.enc r.2
theorem runs_nil : runs [] = [] := by unfold runs; rfl
theorem packed_nil : packed [] = [] := by unfold packed; rw [runs_nil]; rfl
theorem takeWhile_rep (v : Int) : ∀ (n : Nat) (r : List Int), r.head? ≠ some v → (List.replicate n v ++ r).takeWhile (· == v) = List.replicate n v
  | 0, [], _ => rfl
  | 0, x :: r, h => by
    have : ¬ x = v := fun e => h (by simp [e])
    simp [this]
  | n + 1, r, h => by
    have ih := takeWhile_rep v n r h
    simp only [List.replicate_succ, List.cons_append, List.takeWhile_cons, beq_self_eq_true, if_true, ih]
theorem dropWhile_rep (v : Int) : ∀ (n : Nat) (r : List Int), r.head? ≠ some v → (List.replicate n v ++ r).dropWhile (· == v) = r
  | 0, [], _ => rfl
  | 0, x :: r, h => by
    have : ¬ x = v := fun e => h (by simp [e])
    simp [this]
  | n + 1, r, h => by
    have ih := dropWhile_rep v n r h
    simp only [List.replicate_succ, List.cons_append, List.dropWhile_cons, beq_self_eq_true, if_true, ih]
/-- A run and what is behind it. -/
theorem runs_rep (v : Int) (n : Nat) (r : List Int) (h : r.head? ≠ some v) : runs (List.replicate (n + 1) v ++ r) = (n + 1, v) :: runs r := by
  rw [List.replicate_succ, List.cons_append]
  conv => lhs; unfold runs
  rw [takeWhile_rep v n r h, dropWhile_rep v n r h, List.length_replicate]
theorem packed_rep (v : Int) (n : Nat) (r : List Int) (hn : 1 ≤ n) (h : r.head? ≠ some v) : packed (List.replicate n v ++ r) = V.enc (n : Int) ++ V.enc v ++ packed r := by
  obtain ⟨m, rfl⟩ : ∃ m, n = m + 1 := ⟨n - 1, by omega⟩
  unfold packed
  rw [runs_rep v m r h, List.flatMap_cons]
/-- Every list that is not empty begins with a run. -/
theorem run_first (v : Int) : ∀ (l : List Int), ∃ n r, v :: l = List.replicate (n + 1) v ++ r ∧ r.head? ≠ some v
  | [] => ⟨0, [], rfl, by simp⟩
  | x :: l => by
    by_cases hx : x = v
    · subst hx
      obtain ⟨n, r, e, h⟩ := run_first x l
      exact ⟨n + 1, r, by rw [e, List.replicate_succ (n := n + 1), List.cons_append], h⟩
    · exact ⟨0, x :: l, rfl, by simpa using hx⟩
/-- The run that begins at i and ends before j. -/
theorem run_at (l : List Int) (i n : Nat) (v : Int) (hn : 1 ≤ n) (heq : ∀ j, j < n → l[i + j]? = some v) (hend : l[i + n]? ≠ some v) :
    packed (l.drop i) = V.enc (n : Int) ++ V.enc v ++ packed (l.drop (i + n)) := by
  have e : l.drop i = List.replicate n v ++ l.drop (i + n) := by
    rw [← List.take_append_drop n (l.drop i), List.drop_drop]
    congr 1
    apply List.ext_getElem?
    intro k
    rw [List.getElem?_take, List.getElem?_replicate]
    split
    · rw [List.getElem?_drop]; exact heq k ‹_›
    · rfl
  rw [e]
  exact packed_rep v n _ hn (by rw [List.head?_drop]; exact hend)
/-- THE ENCODING OF A PLATE. -/
def body (w h : Int) (l : List Int) : List UInt8 := V.enc w ++ V.enc h ++ packed l
def pack (w h : Int) (l : List Int) : List UInt8 := M.sealed (body w h l)

/-! ### Reading -/
/-- Two numbers and what follows them; the error's number. -/
def two (b : List UInt8) : Int × Int × Nat × Int :=
  if (V.dec b).2.2 ≠ 0 then (0, 0, 0, (V.dec b).2.2) else
  if (V.dec (b.drop (V.dec b).2.1)).2.2 ≠ 0 then (0, 0, 0, (V.dec (b.drop (V.dec b).2.1)).2.2) else
  ((V.dec b).1, (V.dec (b.drop (V.dec b).2.1)).1, (V.dec b).2.1 + (V.dec (b.drop (V.dec b).2.1)).2.1, 0)
/-- The runs that make c more cells, at most f of them. -/
def unrun : Nat → Nat → Int → List UInt8 → List Int × Int
  | 0, _, _, r => ([], if r = [] then 0 else 4)
  | f + 1, c, last, r =>
    if c = 0 then ([], if r = [] then 0 else 4) else
    if (two r).2.2.2 ≠ 0 then ([], (two r).2.2.2) else
    if (two r).1 < 1 ∨ (c : Int) < (two r).1 ∨ (two r).2.1 < 0 ∨ 100 < (two r).2.1 ∨ (two r).2.1 = last then ([], 4) else
    if (unrun f (c - (two r).1.toNat) (two r).2.1 (r.drop (two r).2.2.1)).2 ≠ 0 then ([], (unrun f (c - (two r).1.toNat) (two r).2.1 (r.drop (two r).2.2.1)).2) else
    (List.replicate (two r).1.toNat (two r).2.1 ++ (unrun f (c - (two r).1.toNat) (two r).2.1 (r.drop (two r).2.2.1)).1, 0)
/-- What Open finds: the content; the error's number. -/
def opened (b : List UInt8) : List UInt8 × Int :=
  if b.length < 4 then ([], 5) else if M.be4 (M.crc (b.take (b.length - 4))) = b.drop (b.length - 4) then (b.take (b.length - 4), 0) else ([], 6)
/-- Of an opened content. -/
def unbody (x : List UInt8) : Int × Int × List Int × Int :=
  if (two x).2.2.2 ≠ 0 then (0, 0, [], (two x).2.2.2) else
  if (side (two x).1 && side (two x).2.1) = false then (0, 0, [], 2) else
  if (unrun ((two x).1 * (two x).2.1).toNat ((two x).1 * (two x).2.1).toNat (-1) (x.drop (two x).2.2.1)).2 ≠ 0 then (0, 0, [], (unrun ((two x).1 * (two x).2.1).toNat ((two x).1 * (two x).2.1).toNat (-1) (x.drop (two x).2.2.1)).2) else
  ((two x).1, (two x).2.1, (unrun ((two x).1 * (two x).2.1).toNat ((two x).1 * (two x).2.1).toNat (-1) (x.drop (two x).2.2.1)).1, 0)
/-- THE PLATE OF AN ENCODING; the error's number. -/
def unpack (b : List UInt8) : Int × Int × List Int × Int :=
  if 1048576 < b.length then (0, 0, [], 3) else if (opened b).2 ≠ 0 then (0, 0, [], (opened b).2) else unbody (opened b).1

theorem two_enc {m n : Int} (hm : V.In m) (hn : V.In n) (r : List UInt8) : two (V.enc m ++ V.enc n ++ r) = (m, n, (V.enc m).length + (V.enc n).length, 0) := by
  have h1 : V.dec (V.enc m ++ V.enc n ++ r) = (m, (V.enc m).length, 0) := by rw [List.append_assoc]; exact V.dec_enc hm _
  have h2 : V.dec ((V.enc m ++ V.enc n ++ r).drop (V.enc m).length) = (n, (V.enc n).length, 0) := by
    rw [List.append_assoc, List.drop_left]; exact V.dec_enc hn _
  unfold two
  rw [h1]
  simp only [h2]
  simp
theorem two_mk {b : List UInt8} {m n : Int} {u v : Nat} (h1 : V.dec b = (m, u, 0)) (h2 : V.dec (b.drop u) = (n, v, 0)) : two b = (m, n, u + v, 0) := by
  unfold two
  rw [h1]
  simp [h2]
theorem two_e1 {b : List UInt8} {m e : Int} {u : Nat} (h1 : V.dec b = (m, u, e)) (he : e ≠ 0) : two b = (0, 0, 0, e) := by
  unfold two
  rw [h1]
  simp [he]
theorem two_e2 {b : List UInt8} {m n e : Int} {u v : Nat} (h1 : V.dec b = (m, u, 0)) (h2 : V.dec (b.drop u) = (n, v, e)) (he : e ≠ 0) : two b = (0, 0, 0, e) := by
  unfold two
  rw [h1]
  simp [h2, he]
theorem two_err (b : List UInt8) (h : (two b).2.2.2 ≠ 0) : two b = (0, 0, 0, (two b).2.2.2) := by
  rcases V.dec_cases b with h1 | h1 | ⟨m, u, h1⟩
  · rw [two_e1 h1 (by decide)]
  · rw [two_e1 h1 (by decide)]
  · rcases V.dec_cases (b.drop u) with h2 | h2 | ⟨n, v, h2⟩
    · rw [two_e2 h1 h2 (by decide)]
    · rw [two_e2 h1 h2 (by decide)]
    · rw [two_mk h1 h2] at h
      simp at h
theorem two_ok {b : List UInt8} {m n : Int} {u : Nat} (h : two b = (m, n, u, 0)) : V.In m ∧ V.In n ∧ u ≤ b.length ∧ 2 ≤ u ∧ b = V.enc m ++ V.enc n ++ b.drop u := by
  rcases V.dec_cases b with h1 | h1 | ⟨m', u', h1⟩
  · rw [two_e1 h1 (by decide)] at h; simp at h
  · rw [two_e1 h1 (by decide)] at h; simp at h
  · rcases V.dec_cases (b.drop u') with h2 | h2 | ⟨n', v', h2⟩
    · rw [two_e2 h1 h2 (by decide)] at h; simp at h
    · rw [two_e2 h1 h2 (by decide)] at h; simp at h
    · rw [two_mk h1 h2] at h
      simp only [Prod.mk.injEq] at h
      obtain ⟨rfl, rfl, rfl, _⟩ := h
      have k1 := V.dec_ok h1
      have k2 := V.dec_ok h2
      rw [List.length_drop] at k2
      refine ⟨k1.2.2.2, k2.2.2.2, by omega, by omega, ?_⟩
      rw [k1.2.2.1, k2.2.2.1, List.append_assoc, ← List.drop_drop, List.take_append_drop, List.take_append_drop]

/-! ### There and back -/
theorem unrun_zero (f : Nat) (last : Int) (r : List UInt8) : unrun f 0 last r = ([], if r = [] then 0 else 4) := by
  cases f <;> simp [unrun]
theorem unrun_err (f c : Nat) (last : Int) (r : List UInt8) (hc : c ≠ 0) {e : Int} (h : (two r).2.2.2 = e) (he : e ≠ 0) : unrun (f + 1) c last r = ([], e) := by
  subst h
  simp only [unrun]
  rw [if_neg hc, if_pos he]
theorem unrun_bad (f c : Nat) (last : Int) (r : List UInt8) (hc : c ≠ 0) {n v : Int} {u : Nat} (h : two r = (n, v, u, 0)) (hb : n < 1 ∨ (c : Int) < n ∨ v < 0 ∨ 100 < v ∨ v = last) : unrun (f + 1) c last r = ([], 4) := by
  simp only [unrun, h]
  rw [if_neg hc, if_neg (by simp), if_pos hb]
/-- What is behind x, joined to it. -/
def join (x : List Int) (t : List Int × Int) : List Int × Int := if t.2 ≠ 0 then ([], t.2) else (x ++ t.1, 0)
theorem unrun_step (f c : Nat) (last : Int) (r : List UInt8) (hc : c ≠ 0) {n v : Int} {u : Nat} (h : two r = (n, v, u, 0)) (hb : ¬ (n < 1 ∨ (c : Int) < n ∨ v < 0 ∨ 100 < v ∨ v = last)) :
    unrun (f + 1) c last r = join (List.replicate n.toNat v) (unrun f (c - n.toNat) v (r.drop u)) := by
  simp only [unrun, h]
  rw [if_neg hc, if_neg (by simp), if_neg hb]
  rfl
theorem join_join (x y : List Int) (t : List Int × Int) : join x (join y t) = join (x ++ y) t := by
  by_cases h : t.2 = 0 <;> simp [join, h]
theorem join_err (x : List Int) (t : List Int × Int) {e : Int} (h : t = ([], e)) (he : e ≠ 0) : join x t = ([], e) := by
  subst h
  simp [join, he]
theorem unrun_fail : ∀ (f c : Nat) (last : Int) (r : List UInt8), (unrun f c last r).2 ≠ 0 → unrun f c last r = ([], (unrun f c last r).2)
  | 0, c, last, r, h => by simp [unrun]
  | f + 1, c, last, r, h => by
    by_cases hc : c = 0
    · subst hc; rw [unrun_zero]
    · by_cases h2 : (two r).2.2.2 = 0
      · obtain ⟨n, v, u, e, ht⟩ : ∃ n v u e, two r = (n, v, u, e) := ⟨_, _, _, _, rfl⟩
        rw [ht] at h2
        simp only at h2
        subst h2
        by_cases hb : n < 1 ∨ (c : Int) < n ∨ v < 0 ∨ 100 < v ∨ v = last
        · rw [unrun_bad f c last r hc ht hb]
        · rw [unrun_step f c last r hc ht hb] at h ⊢
          unfold join at h ⊢
          split
          · rfl
          · rename_i h0; rw [if_neg h0] at h; simp at h
      · rw [unrun_err f c last r hc rfl h2]
theorem join_nil (f c : Nat) (last : Int) (r : List UInt8) : join [] (unrun f c last r) = unrun f c last r := by
  unfold join
  split
  · rename_i h; exact (unrun_fail f c last r h).symm
  · rename_i h
    simp only [ne_eq, Decidable.not_not] at h
    rw [List.nil_append, ← h]

theorem unrun_packed (f : Nat) : ∀ (l : List Int) (last : Int), l.length ≤ f → (∀ x ∈ l, 0 ≤ x ∧ x ≤ 100) → l.head? ≠ some last → V.In (l.length : Int) → unrun f l.length last (packed l) = (l, 0) := by
  induction f with
  | zero =>
    intro l last hf _ _ _
    obtain rfl : l = [] := List.eq_nil_of_length_eq_zero (by omega)
    rw [packed_nil, List.length_nil, unrun_zero]; simp
  | succ f ih =>
    intro l last hf hi hl hbig
    cases l with
    | nil => rw [packed_nil, List.length_nil, unrun_zero]; simp
    | cons v l =>
      obtain ⟨n, r, e, h⟩ := run_first v l
      rw [e] at hf hi hbig ⊢
      have hv : ¬ v = last := fun e => hl (by simp [e])
      have hv2 := hi v (by simp)
      have hlen : (List.replicate (n + 1) v ++ r).length = n + 1 + r.length := by simp
      rw [hlen] at hf hbig ⊢
      unfold V.In at hbig
      have ht := two_enc (m := ((n + 1 : Nat) : Int)) (n := v) (by unfold V.In; omega) (by unfold V.In; omega) (packed r)
      rw [packed_rep v (n + 1) r (by omega) h, unrun_step f _ last _ (by omega) ht (by omega), Int.toNat_natCast]
      have hd : (V.enc ((n + 1 : Nat) : Int) ++ V.enc v ++ packed r).drop ((V.enc ((n + 1 : Nat) : Int)).length + (V.enc v).length) = packed r := by
        rw [← List.length_append, List.drop_left]
      rw [hd, show n + 1 + r.length - (n + 1) = r.length by omega, ih r v (by omega) (fun x hx => hi x (by simp [hx])) h (by unfold V.In; omega)]
      simp [join]
theorem unrun_ok : ∀ (f c : Nat) (last : Int) (r : List UInt8) (l : List Int), c ≤ f → unrun f c last r = (l, 0) → l.length = c ∧ (∀ x ∈ l, 0 ≤ x ∧ x ≤ 100) ∧ l.head? ≠ some last ∧ r = packed l
  | 0, c, last, r, l, hc, h => by
    obtain rfl : c = 0 := by omega
    rw [unrun_zero] at h
    simp only [Prod.mk.injEq] at h
    obtain ⟨rfl, h⟩ := h
    split at h
    · rename_i h0; subst h0; simp [packed_nil]
    · simp at h
  | f + 1, c, last, r, l, hc, h => by
    by_cases hc0 : c = 0
    · subst hc0
      rw [unrun_zero] at h
      simp only [Prod.mk.injEq] at h
      obtain ⟨rfl, h⟩ := h
      split at h
      · rename_i h0; subst h0; simp [packed_nil]
      · simp at h
    · by_cases h2 : (two r).2.2.2 = 0
      · obtain ⟨n, v, u, e, ht⟩ : ∃ n v u e, two r = (n, v, u, e) := ⟨_, _, _, _, rfl⟩
        rw [ht] at h2
        simp only at h2
        subst h2
        by_cases hb : n < 1 ∨ (c : Int) < n ∨ v < 0 ∨ 100 < v ∨ v = last
        · rw [unrun_bad f c last r hc0 ht hb] at h; simp at h
        · rw [unrun_step f c last r hc0 ht hb] at h
          obtain ⟨m, rfl⟩ := Int.eq_ofNat_of_zero_le (show 0 ≤ n by omega)
          rw [Int.toNat_natCast] at h
          unfold join at h
          split at h
          · rename_i h0; simp at h; exact absurd h.2 h0
          · rename_i h0
            simp only [ne_eq, Decidable.not_not] at h0
            simp only [Prod.mk.injEq, and_true] at h
            obtain ⟨k1, k2, k3, k4⟩ := unrun_ok f (c - m) v (r.drop u) (unrun f (c - m) v (r.drop u)).1 (by omega) (by rw [← h0])
            generalize (unrun f (c - m) v (r.drop u)).1 = l' at *
            subst h
            have h2 := (two_ok ht).2.2.2.2
            refine ⟨by simp; omega, fun x hx => ?_, ?_, ?_⟩
            · rcases List.mem_append.1 hx with hx | hx
              · obtain ⟨_, rfl⟩ := List.mem_replicate.1 hx; omega
              · exact k2 x hx
            · obtain ⟨q, rfl⟩ : ∃ q, m = q + 1 := ⟨m - 1, by omega⟩
              rw [List.replicate_succ]
              simp
              omega
            · rw [packed_rep v m l' (by omega) k3, ← k4]
              exact h2
      · rw [unrun_err f c last r hc0 rfl h2] at h
        simp at h
        exact absurd h.2 h2
theorem opened_sealed (l : List UInt8) : opened (M.sealed l) = (l, 0) := by
  have hl := M.length_sealed l
  unfold opened
  rw [if_neg (by omega), show (M.sealed l).length - 4 = l.length by omega]
  unfold M.sealed
  rw [List.take_left, List.drop_left]
  simp
theorem opened_ok {b x : List UInt8} (h : opened b = (x, 0)) : b = M.sealed x := by
  unfold opened at h
  split at h
  · simp at h
  · split at h
    · rename_i h1
      simp only [Prod.mk.injEq, and_true] at h
      subst h
      unfold M.sealed
      rw [h1, List.take_append_drop]
    · simp at h
theorem unbody_body {w h : Int} {l : List Int} (hc : check w h l = 0) : unbody (body w h l) = (w, h, l, 0) := by
  obtain ⟨hw, hh, hl, hi⟩ := check_ok hc
  have hm := side_mul hw hh
  have ht := two_enc (m := w) (n := h) (by unfold V.In; omega) (by unfold V.In; omega) (packed l)
  have hd : (V.enc w ++ V.enc h ++ packed l).drop ((V.enc w).length + (V.enc h).length) = packed l := by
    rw [← List.length_append, List.drop_left]
  unfold unbody body
  rw [ht]
  simp only [hd]
  have hn : (w * h).toNat = l.length := by omega
  rw [if_neg (by simp), if_neg (by simp [side]; omega), hn, unrun_packed l.length l (-1) (Nat.le_refl _) hi ?_ (by unfold V.In; omega)]
  · simp
  · intro e
    have := hi (-1) (List.mem_of_mem_head? (by rw [e]; simp))
    omega
theorem unbody_ok {x : List UInt8} {w h : Int} {l : List Int} (e : unbody x = (w, h, l, 0)) : check w h l = 0 ∧ x = body w h l := by
  unfold unbody at e
  split at e
  · rename_i h1; simp at e; exact absurd e.2.2.2 h1
  · rename_i h1
    split at e
    · simp at e
    · rename_i h2
      split at e
      · rename_i h3; simp at e; exact absurd e.2.2.2 h3
      · rename_i h3
        simp only [ne_eq, Decidable.not_not] at h1 h3
        simp only [Prod.mk.injEq, and_true] at e
        obtain ⟨rfl, rfl, rfl⟩ := e
        have ht : two x = ((two x).1, (two x).2.1, (two x).2.2.1, 0) := by rw [← h1]
        have h5 := (two_ok ht).2.2.2.2
        clear ht
        generalize two x = t at *
        obtain ⟨w, h, u, e⟩ := t
        simp only at *
        simp [side] at h2
        have hm := side_mul (w := w) (h := h) (by omega) (by omega)
        obtain ⟨k1, k2, k3, k4⟩ := unrun_ok _ _ _ _ _ (Nat.le_refl _) (show unrun (w * h).toNat (w * h).toNat (-1) (x.drop u) = (_, 0) by rw [← h3])
        generalize (unrun (w * h).toNat (w * h).toNat (-1) (x.drop u)).1 = L at *
        refine ⟨check_mk (by omega) (by omega) (by omega) k2, ?_⟩
        unfold body
        rw [← k4]
        exact h5
theorem packed_length (f : Nat) : ∀ (l : List Int), l.length ≤ f → (∀ x ∈ l, 0 ≤ x ∧ x ≤ 100) → V.In (l.length : Int) → (packed l).length ≤ 20 * l.length := by
  induction f with
  | zero =>
    intro l hf _ _
    obtain rfl : l = [] := List.eq_nil_of_length_eq_zero (by omega)
    simp [packed_nil]
  | succ f ih =>
    intro l hf hi hbig
    cases l with
    | nil => simp [packed_nil]
    | cons v l =>
      obtain ⟨n, r, e, h⟩ := run_first v l
      rw [e] at hf hi hbig ⊢
      have hv2 := hi v (by simp)
      have hlen : (List.replicate (n + 1) v ++ r).length = n + 1 + r.length := by simp
      rw [hlen] at hf hbig ⊢
      unfold V.In at hbig
      have ih' := ih r (by omega) (fun x hx => hi x (by simp [hx])) (by unfold V.In; omega)
      have e1 := (V.enc_length (n := ((n + 1 : Nat) : Int)) (by unfold V.In; omega)).2
      have e2 := (V.enc_length (n := v) (by unfold V.In; omega)).2
      rw [packed_rep v (n + 1) r (by omega) h, List.length_append, List.length_append]
      omega
theorem body_length {w h : Int} {l : List Int} (hc : check w h l = 0) : (body w h l).length ≤ 20 * l.length + 20 ∧ 2 ≤ (body w h l).length := by
  obtain ⟨hw, hh, hl, hi⟩ := check_ok hc
  have hm := side_mul hw hh
  have e1 := V.enc_length (n := w) (by unfold V.In; omega)
  have e2 := V.enc_length (n := h) (by unfold V.In; omega)
  have e3 := packed_length l.length l (Nat.le_refl _) hi (by unfold V.In; omega)
  unfold body
  rw [List.length_append, List.length_append]
  omega
/-- What was packed is unpacked. -/
theorem unpack_pack {w h : Int} {l : List Int} (hc : check w h l = 0) (hl : l.length ≤ 5000) : unpack (pack w h l) = (w, h, l, 0) := by
  have hb := body_length hc
  unfold unpack pack
  rw [if_neg (by rw [M.length_sealed]; omega), opened_sealed, if_neg (by simp)]
  exact unbody_body hc
/-- What is unpacked was packed. -/
theorem unpack_ok {b : List UInt8} {w h : Int} {l : List Int} (e : unpack b = (w, h, l, 0)) : check w h l = 0 ∧ pack w h l = b := by
  unfold unpack at e
  split at e
  · simp at e
  · split at e
    · rename_i h1; simp at e; exact absurd e.2.2.2 h1
    · rename_i h1
      simp only [ne_eq, Decidable.not_not] at h1
      obtain ⟨h2, h3⟩ := unbody_ok e
      have h4 := opened_ok (b := b) (x := (opened b).1) (by rw [← h1])
      refine ⟨h2, ?_⟩
      unfold pack
      rw [← h3, ← h4]
theorem unpack_sum {b : List UInt8} (h1 : b.length ≤ 1048576) (h2 : opened b = ([], 6)) : unpack b = (0, 0, [], 6) := by
  unfold unpack
  rw [if_neg (by omega), h2]
  simp

/-! ### The limit -/
/-- The inks of a cell with at most m percent together. -/
def reduce (a b c k m : Int) : Int × Int × Int × Int :=
  if a + b + c + k ≤ m then (a, b, c, k) else if m < k then (0, 0, 0, m) else (a * (m - k) / (a + b + c), b * (m - k) / (a + b + c), c * (m - k) / (a + b + c), k)
theorem div_part {a s q : Int} (ha : 0 ≤ a) (hs : 0 < s) (hq : 0 ≤ q) (hqs : q < s) : 0 ≤ a * q / s ∧ a * q / s ≤ a := by
  have h1 : 0 ≤ a * q := Int.mul_nonneg ha hq
  refine ⟨Int.ediv_nonneg h1 (by omega), ?_⟩
  have h2 : a * q ≤ a * s := Int.mul_le_mul_of_nonneg_left (by omega) ha
  have h3 := Int.ediv_le_ediv hs h2
  rwa [Int.mul_ediv_cancel _ (by omega)] at h3
theorem div_sum {a b c q s : Int} (hs : 0 < s) (e : a + b + c = s) : a * q / s + b * q / s + c * q / s ≤ q := by
  have h1 := Int.ediv_mul_le (a * q) (b := s) (by omega)
  have h2 := Int.ediv_mul_le (b * q) (b := s) (by omega)
  have h3 := Int.ediv_mul_le (c * q) (b := s) (by omega)
  have h4 : (a * q / s + b * q / s + c * q / s) * s ≤ q * s := by
    rw [Int.add_mul, Int.add_mul, ← e, Int.mul_comm q, Int.add_mul, Int.add_mul]
    rw [← e] at h1 h2 h3
    omega
  exact Int.le_of_mul_le_mul_right h4 hs
end Go.Proofs.YtpppgceccikodaaDoor.Pl
