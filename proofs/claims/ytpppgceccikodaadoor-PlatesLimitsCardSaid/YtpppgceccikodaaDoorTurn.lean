/- One turn of the reference's Limit: the four rows grow one by one. -/
import Derived.Test.YtpppgceccikodaaDoorRows4
import Derived.Test.YtpppgceccikodaaDoorLimit
import Derived.Test.YtpppgceccikodaaDoorInts
namespace Go.Proofs.YtpppgceccikodaaDoor
open Go.RowKit Go.Joins

/-- The rows that limiting gives, by number. -/
def redc (p0 p1 p2 p3 : Pd) (m : Int) : Nat → List Int
  | 0 => (redAll p0 p1 p2 p3 m).map (·.1)
  | 1 => (redAll p0 p1 p2 p3 m).map (·.2.1)
  | 2 => (redAll p0 p1 p2 p3 m).map (·.2.2.1)
  | _ => (redAll p0 p1 p2 p3 m).map (·.2.2.2)
/-- The cells of the four plates that are to be answered. -/
def outv (p0 p1 p2 p3 : Pd) (v : Nat → Value) : List Value :=
  [.int .i64 p0.w, .int .i64 p0.h, v 0, .int .i64 p1.w, .int .i64 p1.h, v 1, .int .i64 p2.w, .int .i64 p2.h, v 2, .int .i64 p3.w, .int .i64 p3.h, v 3]
/-- How long row t is when k rows have grown. -/
def cnt (j k t : Nat) : Nat := if t < k then j + 1 else j
/-- k of the four rows have grown to j + 1. -/
def Turn (B lb : Nat) (p0 p1 p2 p3 : Pd) (m : Int) (j k : Nat) (X : World) (v : Nat → Value) : Prop :=
  Bx X (B + 2) (outv p0 p1 p2 p3 v) ∧ Rows4 X (B + 3) v (cnt j k) (fun t => (redc p0 p1 p2 p3 m t).take (cnt j k t)) ∧ (∀ t, t < 4 → some lb ≠ (v t).ownBlock)
section
variable {B lb j k : Nat} {p0 p1 p2 p3 : Pd} {m : Int} {X X' : World} {v : Nat → Value}
theorem Turn.below (h : Turn B lb p0 p1 p2 p3 m j k X v) (hb : Below X.heap.size X X') : Turn B lb p0 p1 p2 p3 m j k X' v := ⟨h.1.below hb, h.2.1.below hb, h.2.2⟩
theorem Turn.start (ho : Bx X (B + 2) (outv p0 p1 p2 p3 v)) (hr : Rows4 X (B + 3) v (fun _ => j) (fun t => (redc p0 p1 p2 p3 m t).take j)) (hl : ∀ t, t < 4 → some lb ≠ (v t).ownBlock) : Turn B lb p0 p1 p2 p3 m j 0 X v :=
  ⟨ho, hr.congr (fun _ _ => by simp [cnt]) (fun _ _ => by simp [cnt]), hl⟩
theorem Turn.finish (h : Turn B lb p0 p1 p2 p3 m j 4 X v) : Rows4 X (B + 3) v (fun _ => j + 1) (fun t => (redc p0 p1 p2 p3 m t).take (j + 1)) :=
  h.2.1.congr (fun t ht => by simp [cnt, ht]) (fun t ht => by simp [cnt, ht])
theorem outv_set (x : Value) (hk : k < 4) : (outv p0 p1 p2 p3 v).set (3 * k + 2) x = outv p0 p1 p2 p3 (upd v k x) := by
  match k, hk with
  | 0, _ => simp [outv, upd]
  | 1, _ => simp [outv, upd]
  | 2, _ => simp [outv, upd]
  | 3, _ => simp [outv, upd]
theorem redc_at {y0 y1 y2 y3 : Int} (h : (redAll p0 p1 p2 p3 m)[j]? = some (y0, y1, y2, y3)) :
    (redc p0 p1 p2 p3 m 0)[j]? = some y0 ∧ (redc p0 p1 p2 p3 m 1)[j]? = some y1 ∧ (redc p0 p1 p2 p3 m 2)[j]? = some y2 ∧ (redc p0 p1 p2 p3 m 3)[j]? = some y3 := by
  simp [redc, h]
/-- Row k has grown, and lies in its plate again. -/
theorem Turn.step {w1 : World} {y : Int} {g cap : Nat} (h : Turn B lb p0 p1 p2 p3 m j k X v) (hk : k < 4) (hlb : lb < X.heap.size) (hy : (redc p0 p1 p2 p3 m k)[j]? = some y)
    (hown : w1.ownsRow (B + 3) 3 1 (.slice (some ⟨g, 0, none⟩) (cnt j k k + 1) cap) (cnt j k k + 1) (((redc p0 p1 p2 p3 m k).take (cnt j k k)).map iv ++ [.int .i64 y])) (hgrow : X.grownBy w1 (v k).ownBlock) (hat : (v k).ownBlock = some g ∨ g = X.heap.size) :
    Turn B lb p0 p1 p2 p3 m j (k + 1) (w1.setCell ⟨B + 2, 3 * k + 2, none⟩ (.slice (some ⟨g, 0, none⟩) (cnt j k k + 1) cap)) (upd v k (.slice (some ⟨g, 0, none⟩) (cnt j k k + 1) cap)) := by
  have hkk : cnt j k k = j := by simp [cnt]
  refine ⟨?_, ?_, fun t ht => ?_⟩
  · have := (h.1.grown hgrow (h.2.1.far hk (by omega))).set (j := 3 * k + 2) (by simp [outv]; omega) (.slice (some ⟨g, 0, none⟩) (cnt j k k + 1) cap)
    rw [outv_set _ hk] at this
    exact this
  · refine ((h.2.1.grow hown hgrow hat hk).set (p := ⟨B + 2, 3 * k + 2, none⟩) (by simp only; omega) _).congr (fun t ht => ?_) (fun t ht => ?_)
    · by_cases e : t = k
      · subst e; rw [upd_same]; simp [cnt]
      · rw [upd_other _ e]; simp only [cnt]; split <;> split <;> omega
    · by_cases e : t = k
      · subst e
        rw [upd_same]
        simp only [cnt, Nat.lt_irrefl, if_false, Nat.lt_succ_self, if_true]
        rw [List.take_add_one, hy]; rfl
      · rw [upd_other _ e]
        have : cnt j k t = cnt j (k + 1) t := by simp only [cnt]; split <;> split <;> omega
        rw [this]
  · by_cases e : t = k
    · subst e
      rw [upd_same]
      intro he
      injection he with he
      have he : lb = g := he
      rcases hat with hg | hg
      · exact h.2.2 t hk (by rw [hg, he])
      · omega
    · rw [upd_other _ e]; exact h.2.2 t ht
/-- Row k grows at a step of a region that draws. -/
theorem step_append_turn {ops : Array Oper} {o : Oper} {a : Act} {K : Act → World → Prop} {Q : Exit → Act → World → Prop} {E : Prop} (X' : World) (hgd : o.guard = none) (s x : Operand)
    (ho : o.op = .call { callee := .builtin .append, args := #[s, x], argTypes := #[22, 22] })
    (h : Turn B lb p0 p1 p2 p3 m j k X v) (hk : k < 4) (q : Nat) (hq : q = 3 * k + 2) (hb : Below X.heap.size X X') (hs : a.eval s = v k) (b : Nat) (hx : a.eval x = .slice (some ⟨b, 0, none⟩) 1 1) (y : Int) (hc : X'.cell? ⟨b, 0, none⟩ = some (.int .i64 y))
    (hj : j < 65536) (hB : B + 3 ≤ X.heap.size) (hlb : lb < X.heap.size) (hlb3 : B + 3 ≤ lb) (hy : (redc p0 p1 p2 p3 m k)[j]? = some y)
    (H : ∀ g cap w1, w1.frozen? ⟨B + 2, q, none⟩ = false → w1.cell? ⟨B + 2, q, none⟩ = some (v k) →
      Hid (Turn B lb p0 p1 p2 p3 m j (k + 1) (w1.setCell ⟨B + 2, q, none⟩ (.slice (some ⟨g, 0, none⟩) (j + 1) cap)) (upd v k (.slice (some ⟨g, 0, none⟩) (j + 1) cap)) ∧
        (∀ c cs, Bx X c cs → (c < B + 2 ∨ c = lb) → Bx (w1.setCell ⟨B + 2, q, none⟩ (.slice (some ⟨g, 0, none⟩) (j + 1) cap)) c cs) ∧
        (∀ w, Below B w X → Below B w (w1.setCell ⟨B + 2, q, none⟩ (.slice (some ⟨g, 0, none⟩) (j + 1) cap)))) →
      K (a.put o.dst (.slice (some ⟨g, 0, none⟩) (j + 1) cap)) w1) :
    if Region.wanted o (yielded ops a.tmps) = true then Oper.wp Tryd.prog o a X' K Q else E := by
  subst hq
  obtain ⟨i0, hi0, hz0, hz1, hz2⟩ := info_parts int_info
  have hkk : cnt j k k = j := by simp [cnt]
  have hT := h.below hb
  have hs' := hb.size
  refine step_append_lies _ hgd s x 22 ho (B + 3) 3 i0 _ 1 8 Tryd.underlying22 hi0 hz0 hz1 hz2 rfl (by decide) (v k) (cnt j k k) _ hs (hT.2.1.own k hk) ⟨b, 0, none⟩ 1 1 [.int .i64 y] hx rfl ?_ (by simp [Value.oneCell']) (by decide) (by rw [hkk]; simp [maxLen]; omega) (by rw [hkk]; omega) (by omega) X'.heap.size rfl ?_
  · intro i u hu
    match i, hu with
    | 0, hu => simp at hu; subst hu; simpa [Addr.add] using hc
  · intro g cap w1 hown hgrow hat hlt
    have hst := hT.step hk (by omega) hy hown hgrow hat
    have hfr : ∀ c cs, Bx X c cs → (c < B + 3 ∨ c = lb) → Bx w1 c cs := fun c cs hcs hor => (hcs.below hb).grown hgrow (by
      rcases hor with hor | rfl
      · exact hT.2.1.far hk hor
      · exact hT.2.2 k hk)
    have hO := hfr _ _ h.1 (.inl (by omega))
    rw [hkk] at hst ⊢
    refine H g cap w1 (hO.fz _) (hO.cell _ _ ?_) ⟨hst, fun c cs hcs hor => (hfr c cs hcs (by omega)).other (p := ⟨_, _, none⟩) (by simp only; omega) _, fun w hbw => ?_⟩
    · match k, hk with
      | 0, _ => rfl
      | 1, _ => rfl
      | 2, _ => rfl
      | 3, _ => rfl
    · have h1 : Below B w X' := hbw.trans (hb.mono (by omega))
      exact (h1.grown hgrow (by omega) (fun c hc' => by have := ((hT.2.1.own k hk).lt c hc').1; omega)).setCell (by simp only; omega) _
end
end Go.Proofs.YtpppgceccikodaaDoor
