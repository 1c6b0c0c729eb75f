/- The plain mathematics of the device: durable sectors, pending writes. No program in sight. -/
namespace Go.Proofs.Ytpekbcoclmhcnaa.Dv

structure Disk where
  sectors : List (List UInt8)
  pending : List (Int × List UInt8)
  left : Int
  down : Bool
def Disk.zero : Disk := ⟨[], [], 0, false⟩
/-- Is there such a sector? -/
def has (n : Nat) (s : Int) : Bool := decide (0 ≤ s ∧ s < (n : Int))
/-- One write made durable. -/
def put (S : List (List UInt8)) (p : Int × List UInt8) : List (List UInt8) := if has S.length p.1 = true then S.set p.1.toNat p.2 else S
/-- All of them, in order. -/
def settle (S : List (List UInt8)) (ps : List (Int × List UInt8)) : List (List UInt8) := ps.foldl put S
/-- The content of a sector behind these writes. -/
def content (b : List UInt8) (s : Int) (ps : List (Int × List UInt8)) : List UInt8 := ps.foldl (fun b p => if p.1 = s then p.2 else b) b
theorem put_length (S : List (List UInt8)) (p : Int × List UInt8) : (put S p).length = S.length := by
  unfold put
  split <;> simp
theorem settle_length (ps : List (Int × List UInt8)) : ∀ S : List (List UInt8), (settle S ps).length = S.length := by
  induction ps with
  | nil => intro S; rfl
  | cons p ps ih => intro S; exact (ih (put S p)).trans (put_length S p)
theorem put_get (S : List (List UInt8)) (p : Int × List UInt8) (i : Nat) : (put S p)[i]? = (S[i]?).map fun b => if p.1 = (i : Int) then p.2 else b := by
  unfold put
  by_cases h : has S.length p.1 = true
  · rw [if_pos h]
    simp only [has, decide_eq_true_eq] at h
    by_cases e : p.1 = (i : Int)
    · rw [show p.1.toNat = i by omega, List.getElem?_set_self (by omega)]
      simp [e, List.getElem?_eq_getElem (show i < S.length by omega)]
    · rw [List.getElem?_set_ne (by omega)]
      simp [e]
  · rw [if_neg h]
    simp only [has, decide_eq_true_eq] at h
    by_cases e : p.1 = (i : Int)
    · rw [List.getElem?_eq_none (by omega)]; rfl
    · simp [e]
/-- The sectors behind the writes, one by one. -/
theorem settle_get (ps : List (Int × List UInt8)) : ∀ (S : List (List UInt8)) (i : Nat), (settle S ps)[i]? = (S[i]?).map fun b => content b (i : Int) ps := by
  induction ps with
  | nil => intro S i; simp [settle, content]
  | cons p ps ih =>
    intro S i
    have h : settle S (p :: ps) = settle (put S p) ps := rfl
    rw [h, ih, put_get, Option.map_map]
    rfl
/-- Those pending writes whose numbers are in keep. -/
def kept (keep : List Int) : Nat → List (Int × List UInt8) → List (Int × List UInt8)
  | _, [] => []
  | i, p :: ps => if keep.contains (i : Int) then p :: kept keep (i + 1) ps else kept keep (i + 1) ps
theorem kept_nil : ∀ (i : Nat) (ps : List (Int × List UInt8)), kept [] i ps = []
  | _, [] => rfl
  | i, p :: ps => by simp [kept, kept_nil (i + 1) ps]

/-! ### The functions -/
def new (n : Int) : Disk × Int := if n < 1 ∨ 4096 < n then (Disk.zero, 2) else (⟨List.replicate n.toNat (List.replicate 64 0), [], -1, false⟩, 0)
def write (d : Disk) (s : Int) (b : List UInt8) : Disk × Int :=
  if d.down = true then (d, 23) else if has d.sectors.length s = false then (Disk.zero, 2) else if b.length ≠ 64 then (Disk.zero, 1) else
  if d.left = 0 then (⟨d.sectors, d.pending ++ [(s, b)], 0, true⟩, 23) else (⟨d.sectors, d.pending ++ [(s, b)], if 0 < d.left then d.left - 1 else d.left, d.down⟩, 0)
def flush (d : Disk) : Disk × Int := if d.down = true then (Disk.zero, 23) else (⟨settle d.sectors d.pending, [], d.left, false⟩, 0)
def read (d : Disk) (s : Int) : List UInt8 × Int :=
  if d.down = true then ([], 23) else if has d.sectors.length s = false then ([], 2) else (content (d.sectors.getD s.toNat []) s d.pending, 0)
def arm (d : Disk) (left : Int) : Disk := ⟨d.sectors, d.pending, max left (-1), d.down⟩
def crash (d : Disk) (keep : List Int) : Disk := ⟨settle d.sectors (kept keep 0 d.pending), [], -1, false⟩

/-! ### Sizes -/
/-- A device of at most 4096 sectors and k pending writes, of at most 200 bytes each. -/
structure Fits (k : Nat) (d : Disk) : Prop where
  ns : d.sectors.length ≤ 4096
  np : d.pending.length ≤ k
  ss : ∀ b ∈ d.sectors, b.length ≤ 200
  sp : ∀ p ∈ d.pending, p.2.length ≤ 200
theorem Fits.mono {k k' : Nat} {d : Disk} (h : Fits k d) (hk : k ≤ k') : Fits k' d := ⟨h.ns, Nat.le_trans h.np hk, h.ss, h.sp⟩
theorem zero_fits (k : Nat) : Fits k Disk.zero := ⟨by simp [Disk.zero], by simp [Disk.zero], by simp [Disk.zero], by simp [Disk.zero]⟩
def tot (l : List (List UInt8)) : Nat := (l.map List.length).sum
theorem tot_le (l : List (List UInt8)) (h : ∀ b ∈ l, b.length ≤ 200) : tot l ≤ l.length * 200 := by
  induction l with
  | nil => simp [tot]
  | cons b l ih =>
    have h1 := ih fun x hx => h x (List.mem_cons_of_mem _ hx)
    have h2 := h b (List.mem_cons_self ..)
    simp only [tot, List.map_cons, List.sum_cons, List.length_cons] at *
    omega
theorem tot_take (l : List (List UInt8)) (k : Nat) (h : k < l.length) : tot (l.take (k + 1)) = tot (l.take k) + l[k].length := by
  rw [List.take_succ_eq_append_getElem h]
  unfold tot
  rw [List.map_append, List.sum_append]
  simp
theorem tot_take_le (l : List (List UInt8)) (k : Nat) : tot (l.take k) ≤ tot l := by
  have : tot l = tot (l.take k) + tot (l.drop k) := by
    conv => lhs; rw [← List.take_append_drop k l]
    unfold tot
    rw [List.map_append, List.sum_append]
  omega
theorem put_fits (S : List (List UInt8)) (p : Int × List UInt8) (h : ∀ b ∈ S, b.length ≤ 200) (hp : p.2.length ≤ 200) : ∀ b ∈ put S p, b.length ≤ 200 := by
  intro b hb
  unfold put at hb
  split at hb
  · rcases List.mem_or_eq_of_mem_set hb with hb | rfl
    · exact h b hb
    · exact hp
  · exact h b hb
theorem settle_fits (ps : List (Int × List UInt8)) : ∀ (S : List (List UInt8)), (∀ b ∈ S, b.length ≤ 200) → (∀ p ∈ ps, p.2.length ≤ 200) → ∀ b ∈ settle S ps, b.length ≤ 200 := by
  induction ps with
  | nil => intro S h _; exact h
  | cons p ps ih => intro S h hp; exact ih (put S p) (put_fits S p h (hp p (List.mem_cons_self ..))) fun q hq => hp q (List.mem_cons_of_mem _ hq)
theorem kept_sub (keep : List Int) : ∀ (ps : List (Int × List UInt8)) (i : Nat), ∀ p ∈ kept keep i ps, p ∈ ps
  | [], _, p, h => by simp [kept] at h
  | q :: ps, i, p, h => by
    unfold kept at h
    split at h
    · rcases List.mem_cons.1 h with rfl | h
      · exact List.mem_cons_self ..
      · exact List.mem_cons_of_mem _ (kept_sub keep ps (i + 1) p h)
    · exact List.mem_cons_of_mem _ (kept_sub keep ps (i + 1) p h)
theorem new_fits (n : Int) : Fits 0 (new n).1 := by
  unfold new
  split
  · exact zero_fits 0
  · refine ⟨by simp; omega, by simp, fun b hb => ?_, by simp⟩
    rw [(List.mem_replicate.1 hb).2]
    simp
theorem write_fits {k : Nat} {d : Disk} (h : Fits k d) (s : Int) (b : List UInt8) : Fits (k + 1) (write d s b).1 := by
  unfold write
  split
  · exact h.mono (by omega)
  · split
    · exact zero_fits _
    · split
      · exact zero_fits _
      · rename_i hb
        have hp : ∀ p ∈ d.pending ++ [(s, b)], p.2.length ≤ 200 := by
          intro p hp
          rcases List.mem_append.1 hp with hp | hp
          · exact h.sp p hp
          · simp at hp
            subst hp
            simp; omega
        have hn : (d.pending ++ [(s, b)]).length ≤ k + 1 := by have := h.np; simp; omega
        split <;> exact ⟨h.ns, hn, h.ss, hp⟩
theorem flush_fits {k : Nat} {d : Disk} (h : Fits k d) : Fits 0 (flush d).1 := by
  unfold flush
  split
  · exact zero_fits _
  · exact ⟨by simpa [settle_length] using h.ns, by simp, settle_fits _ _ h.ss h.sp, by simp⟩
theorem arm_fits {k : Nat} {d : Disk} (h : Fits k d) (left : Int) : Fits k (arm d left) := ⟨h.ns, h.np, h.ss, h.sp⟩
theorem crash_fits {k : Nat} {d : Disk} (h : Fits k d) (keep : List Int) : Fits 0 (crash d keep) :=
  ⟨by simpa [crash, settle_length] using h.ns, by simp [crash], settle_fits _ _ h.ss fun p hp => h.sp p (kept_sub keep _ _ p hp), by simp [crash]⟩

/-! ### What was written is read -/
theorem content_append (b : List UInt8) (s : Int) (ps : List (Int × List UInt8)) (p : Int × List UInt8) : content b s (ps ++ [p]) = if p.1 = s then p.2 else content b s ps := by
  simp [content, List.foldl_append]
theorem read_mk (S : List (List UInt8)) (P : List (Int × List UInt8)) (l : Int) (i : Int) (h : has S.length i = true) : read ⟨S, P, l, false⟩ i = (content (S.getD i.toNat []) i P, 0) := by
  simp [read, h]
theorem settle_getD (S : List (List UInt8)) (P : List (Int × List UInt8)) (i : Nat) (h : i < S.length) : (settle S P).getD i [] = content (S.getD i []) (i : Int) P := by
  have := settle_get P S i
  rw [List.getElem?_eq_getElem h] at this
  simp [List.getD, this, List.getElem?_eq_getElem h]
theorem has_nat {n i : Nat} (h : i < n) : has n (i : Int) = true := by simp [has]; omega

/-! ### A sequence of writes -/
def written (d : Disk) (i : Nat) : List (Int × UInt8) → Disk × Nat × Int
  | [] => (d, i, 0)
  | o :: os => if (write d o.1 (List.replicate 64 o.2)).2 = 23 then ((write d o.1 (List.replicate 64 o.2)).1, i, 23) else
    if (write d o.1 (List.replicate 64 o.2)).2 = 0 then written (write d o.1 (List.replicate 64 o.2)).1 (i + 1) os else written d (i + 1) os
theorem write_cases (d : Disk) (s : Int) (b : List UInt8) :
    (d.down = true ∧ write d s b = (d, 23)) ∨ (d.down = false ∧ has d.sectors.length s = false ∧ write d s b = (Disk.zero, 2)) ∨ (d.down = false ∧ has d.sectors.length s = true ∧ b.length ≠ 64 ∧ write d s b = (Disk.zero, 1)) ∨
    (d.down = false ∧ has d.sectors.length s = true ∧ b.length = 64 ∧ d.left = 0 ∧ write d s b = (⟨d.sectors, d.pending ++ [(s, b)], 0, true⟩, 23)) ∨
    (d.down = false ∧ has d.sectors.length s = true ∧ b.length = 64 ∧ d.left ≠ 0 ∧ write d s b = (⟨d.sectors, d.pending ++ [(s, b)], if 0 < d.left then d.left - 1 else d.left, false⟩, 0)) := by
  unfold write
  cases hd : d.down
  · cases hh : has d.sectors.length s
    · simp
    · by_cases hb : b.length = 64
      · by_cases hl : d.left = 0
        · simp [hb, hl]
        · simp [hb, hl]
      · simp [hb]
  · simp
theorem written_sectors (os : List (Int × UInt8)) : ∀ (d : Disk) (i : Nat), (written d i os).1.sectors = d.sectors := by
  induction os with
  | nil => intro d i; rfl
  | cons o os ih =>
    intro d i
    unfold written
    rcases write_cases d o.1 (List.replicate 64 o.2) with ⟨_, h⟩ | ⟨_, _, h⟩ | ⟨_, _, _, h⟩ | ⟨_, _, _, _, h⟩ | ⟨_, _, _, _, h⟩ <;> rw [h] <;> simp [ih]
theorem written_fits (os : List (Int × UInt8)) : ∀ (k : Nat) (d : Disk) (i : Nat), Fits k d → Fits (k + os.length) (written d i os).1 := by
  induction os with
  | nil => intro k d i h; exact h
  | cons o os ih =>
    intro k d i h
    have hf := write_fits h o.1 (List.replicate 64 o.2)
    unfold written
    split
    · exact hf.mono (by simp)
    · split
      · exact (ih (k + 1) _ _ hf).mono (by simp; omega)
      · exact (ih k _ _ h).mono (by simp)
/-- Without a fuse no write crashes the device. -/
theorem written_safe (os : List (Int × UInt8)) : ∀ (d : Disk) (i : Nat), d.down = false → d.left = -1 → (written d i os).2 = (i + os.length, 0) ∧ (written d i os).1.down = false ∧ (written d i os).1.left = -1 := by
  induction os with
  | nil => intro d i h1 h2; exact ⟨rfl, h1, h2⟩
  | cons o os ih =>
    intro d i h1 h2
    unfold written
    rcases write_cases d o.1 (List.replicate 64 o.2) with ⟨h0, h⟩ | ⟨_, _, h⟩ | ⟨_, _, _, h⟩ | ⟨_, _, _, h0, h⟩ | ⟨_, _, _, _, h⟩
    · rw [h1] at h0; cases h0
    · rw [h]
      have := ih d (i + 1) h1 h2
      simp only [show ((2 : Int) = 23) = False by simp, show ((2 : Int) = 0) = False by simp, if_false, List.length_cons]
      rw [show i + (os.length + 1) = i + 1 + os.length by omega]
      exact this
    · rw [h]
      have := ih d (i + 1) h1 h2
      simp only [show ((1 : Int) = 23) = False by simp, show ((1 : Int) = 0) = False by simp, if_false, List.length_cons]
      rw [show i + (os.length + 1) = i + 1 + os.length by omega]
      exact this
    · omega
    · rw [h]
      have := ih (⟨d.sectors, d.pending ++ [(o.1, List.replicate 64 o.2)], if 0 < d.left then d.left - 1 else d.left, false⟩ : Disk) (i + 1) rfl (by rw [h2]; rfl)
      simp only [show ((0 : Int) = 23) = False by simp, if_false, if_true, List.length_cons]
      rw [show i + (os.length + 1) = i + 1 + os.length by omega]
      exact this
/-- With a fuse of left writes. -/
theorem written_fuse (os : List (Int × UInt8)) : ∀ (d : Disk) (i left : Nat), d.down = false → d.left = (left : Int) → (∀ o ∈ os, has d.sectors.length o.1 = true) →
    if os.length ≤ left then (written d i os).2 = (i + os.length, 0) ∧ (written d i os).1.down = false ∧ (written d i os).1.left = ((left - os.length : Nat) : Int) ∧ (written d i os).1.pending.length = d.pending.length + os.length
    else (written d i os).2 = (i + left, 23) ∧ (written d i os).1.down = true ∧ (written d i os).1.pending.length = d.pending.length + left + 1 := by
  induction os with
  | nil => intro d i left h1 h2 _; simp [written, h1, h2]
  | cons o os ih =>
    intro d i left h1 h2 hs
    have ho := hs o (List.mem_cons_self ..)
    rcases write_cases d o.1 (List.replicate 64 o.2) with ⟨h0, h⟩ | ⟨_, h0, h⟩ | ⟨_, _, h0, h⟩ | ⟨_, _, _, h0, h⟩ | ⟨_, _, _, h0, h⟩
    · rw [h1] at h0; cases h0
    · rw [ho] at h0; cases h0
    · simp at h0
    · have hl : left = 0 := by omega
      subst hl
      unfold written
      rw [h]
      simp
    · obtain ⟨l', rfl⟩ : ∃ l', left = l' + 1 := ⟨left - 1, by omega⟩
      have hw : written d i (o :: os) = written ⟨d.sectors, d.pending ++ [(o.1, List.replicate 64 o.2)], (l' : Int), false⟩ (i + 1) os := by
        conv => lhs; unfold written
        rw [h]
        simp only [show ((0 : Int) = 23) = False by simp, if_false, if_true]
        rw [if_pos (show 0 < d.left by omega), show d.left - 1 = (l' : Int) by omega]
      rw [hw]
      have := ih ⟨d.sectors, d.pending ++ [(o.1, List.replicate 64 o.2)], (l' : Int), false⟩ (i + 1) l' rfl rfl fun q hq => hs q (List.mem_cons_of_mem _ hq)
      by_cases hle : os.length ≤ l'
      · rw [if_pos hle] at this
        rw [if_pos (by simp; omega)]
        obtain ⟨a, b, c, e⟩ := this
        refine ⟨by rw [a]; simp; omega, b, by rw [c]; simp, by rw [e]; simp; omega⟩
      · rw [if_neg hle] at this
        rw [if_neg (by simp; omega)]
        obtain ⟨a, b, e⟩ := this
        refine ⟨by rw [a]; simp; omega, b, by rw [e]; simp; omega⟩
/-- The pending writes are all old or of 64 bytes (for the crash behind them only the sectors count). -/
theorem crash_nil (d : Disk) : crash d [] = ⟨d.sectors, [], -1, false⟩ := by simp [crash, kept_nil, settle]
theorem kept_all (keep : List Int) : ∀ (ps : List (Int × List UInt8)) (i : Nat), (∀ j, i ≤ j → j < i + ps.length → keep.contains (j : Int) = true) → kept keep i ps = ps
  | [], _, _ => rfl
  | p :: ps, i, h => by
    unfold kept
    rw [if_pos (h i (Nat.le_refl _) (by simp)), kept_all keep ps (i + 1) fun j h1 h2 => h j (by omega) (by simp; omega)]

/-- Those pending writes whose numbers q accepts. -/
def keptq (q : Nat → Bool) : Nat → List (Int × List UInt8) → List (Int × List UInt8)
  | _, [] => []
  | i, p :: ps => if q i = true then p :: keptq q (i + 1) ps else keptq q (i + 1) ps
theorem keptq_snoc (q : Nat → Bool) : ∀ (ps : List (Int × List UInt8)) (i : Nat) (p : Int × List UInt8), keptq q i (ps ++ [p]) = keptq q i ps ++ if q (i + ps.length) = true then [p] else []
  | [], i, p => by simp [keptq]
  | a :: ps, i, p => by
    have h := keptq_snoc q ps (i + 1) p
    simp only [List.cons_append, keptq, h, List.length_cons]
    rw [show i + 1 + ps.length = i + (ps.length + 1) by omega]
    split <;> simp
theorem keptq_take (q : Nat → Bool) (ps : List (Int × List UInt8)) (k : Nat) (h : k < ps.length) : keptq q 0 (ps.take (k + 1)) = keptq q 0 (ps.take k) ++ if q k = true then [ps[k]] else [] := by
  rw [List.take_succ_eq_append_getElem h, keptq_snoc]
  simp [Nat.min_eq_left (Nat.le_of_lt h)]
theorem keptq_true : ∀ (ps : List (Int × List UInt8)) (i : Nat), keptq (fun _ => true) i ps = ps
  | [], _ => rfl
  | p :: ps, i => by simp [keptq, keptq_true ps (i + 1)]
theorem keptq_keep (keep : List Int) : ∀ (ps : List (Int × List UInt8)) (i : Nat), keptq (fun j => keep.contains (j : Int)) i ps = kept keep i ps
  | [], _ => rfl
  | p :: ps, i => by rw [keptq, kept, keptq_keep keep ps (i + 1)]
theorem settle_snoc (S : List (List UInt8)) (ps : List (Int × List UInt8)) (p : Int × List UInt8) : settle S (ps ++ [p]) = put (settle S ps) p := by simp [settle, List.foldl_append]
/-- The step of settling, by cases. -/
theorem settle_step (q : Nat → Bool) (S : List (List UInt8)) (ps : List (Int × List UInt8)) (k : Nat) (h : k < ps.length) :
    settle S (keptq q 0 (ps.take (k + 1))) = if q k = true then (if has S.length ps[k].1 = true then (settle S (keptq q 0 (ps.take k))).set ps[k].1.toNat ps[k].2 else settle S (keptq q 0 (ps.take k))) else settle S (keptq q 0 (ps.take k)) := by
  rw [keptq_take q ps k h]
  by_cases hq : q k = true
  · rw [if_pos hq, if_pos hq, settle_snoc]
    unfold put
    rw [settle_length]
  · rw [if_neg hq, if_neg hq, List.append_nil]

/-- At most so many sectors and pending writes, of at most 200 bytes. -/
def few (d : Disk) (m : Nat) : Bool := decide (d.sectors.length ≤ m ∧ d.pending.length ≤ m ∧ (∀ b ∈ d.sectors, b.length ≤ 200) ∧ ∀ p ∈ d.pending, p.2.length ≤ 200)
theorem few_fits {d : Disk} {m : Nat} (h : few d m = true) (hm : m ≤ 4096) : Fits m d ∧ d.sectors.length ≤ m := by
  simp only [few, decide_eq_true_eq] at h
  exact ⟨⟨Nat.le_trans h.1 hm, h.2.1, h.2.2.1, h.2.2.2⟩, h.1⟩
end Go.Proofs.Ytpekbcoclmhcnaa.Dv
