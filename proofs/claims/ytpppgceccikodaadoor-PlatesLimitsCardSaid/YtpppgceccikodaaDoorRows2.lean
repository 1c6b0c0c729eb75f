/- Slices whose elements take several cells, or are slices themselves. -/
import Derived.Test.YtpppgceccikodaaDoorLift
import Derived.Deep.Slices
import Derived.Deep.Fields
import Derived.ChangeSame
namespace Go.Proofs.YtpppgceccikodaaDoor
open Go.ChangeShapes Go.WideShapes Go.ChangeAt Go.RowKit Go.Joins Go.Deep

section
variable {α : Type} {cells : α → List Value} {s : Nat}
theorem flat_len (hc : ∀ e, (cells e).length = s) : ∀ es : List α, (es.flatMap cells).length = es.length * s
  | [] => by simp
  | e :: es => by rw [List.flatMap_cons, List.length_append, hc e, flat_len hc es, List.length_cons, Nat.succ_mul]; omega
theorem flat_get (hc : ∀ e, (cells e).length = s) : ∀ (es : List α) (i j : Nat), j < s → (es.flatMap cells)[i * s + j]? = (es[i]?).bind fun e => (cells e)[j]?
  | [], i, j, _ => by simp
  | e :: es, 0, j, hj => by
    rw [List.flatMap_cons, List.getElem?_append_left (by rw [hc e]; omega)]
    simp
  | e :: es, i + 1, j, hj => by
    rw [List.flatMap_cons, List.getElem?_append_right (by rw [hc e, Nat.succ_mul]; omega), hc e, show (i + 1) * s + j - s = i * s + j by rw [Nat.succ_mul]; omega, flat_get hc es i j hj]
    simp
/-- An element's cells. -/
theorem Rd.row {w : World} {A : Option Addr} {n c : Nat} {es : List α} (h : Rd w s A n c (es.flatMap cells)) (hc : ∀ e, (cells e).length = s) {k : Nat} (hk : k < es.length) (hn : es.length = n) :
    ∃ b o, A = some ⟨b, o, none⟩ ∧ b < w.heap.size ∧ ∀ j u, (cells es[k])[j]? = some u → w.cell? ⟨b, o + k * s + j, none⟩ = some u := by
  obtain ⟨b, o, e, hlt, hcell⟩ := h.mem (by omega)
  refine ⟨b, o, e, hlt, fun j u hu => ?_⟩
  have hj : j < s := by
    have := (List.getElem?_eq_some_iff.1 hu).1
    rwa [hc] at this
  have := hcell (k * s + j) u (by rw [flat_get hc es k j hj, List.getElem?_eq_getElem hk]; exact hu)
  rwa [← Nat.add_assoc] at this
theorem Rd.rows {w : World} {A : Option Addr} {n c : Nat} {es : List α} (h : Rd w s A n c (es.flatMap cells)) (hc : ∀ e, (cells e).length = s) (hs : 0 < s) : es.length = n := by
  have := h.len
  rw [flat_len hc] at this
  exact Nat.eq_of_mul_eq_mul_right hs this
/-- Elements, one by one, to a list. -/
theorem rows_of {w : World} {a : Addr} (hc : ∀ e, (cells e).length = s) (Q : Nat → α → Prop) : ∀ n, (∀ i, i < n → ∃ e, Q i e ∧ ∀ j u, (cells e)[j]? = some u → w.cell? (a.add (i * s + j)) = some u) →
    ∃ es : List α, es.length = n ∧ (∀ i e, es[i]? = some e → Q i e) ∧ ∀ j u, (es.flatMap cells)[j]? = some u → w.cell? (a.add j) = some u
  | 0, _ => ⟨[], rfl, fun i e h => by simp at h, fun j u h => by simp at h⟩
  | n + 1, h => by
    obtain ⟨es, hl, hQ, hcell⟩ := rows_of hc Q n (fun i hi => h i (by omega))
    obtain ⟨e, hq, he⟩ := h n (by omega)
    refine ⟨es ++ [e], by simp [hl], fun i x hx => ?_, fun j u hu => ?_⟩
    · rw [List.getElem?_append] at hx
      split at hx
      · exact hQ i x hx
      · rename_i hi
        have h0 : i - es.length = 0 := by
          have := (List.getElem?_eq_some_iff.1 hx).1
          simp at this
          omega
        rw [h0] at hx
        simp at hx
        subst hx
        rw [show i = n by omega]
        exact hq
    · rw [List.flatMap_append, List.getElem?_append] at hu
      have hfl := flat_len hc es
      split at hu
      · exact hcell j u hu
      · rename_i hj
        simp only [List.flatMap_cons, List.flatMap_nil, List.append_nil] at hu
        have := he _ u hu
        rwa [hfl, hl, show n * s + (j - n * s) = j by rw [hfl, hl] at hj; omega] at this
end

section
variable {H : Type} {enc : TypeId × Value → H} {P : Program} {W : World} {t e : TypeId} {v : Value} {x : DataW H × List MemPlace} {fuel : Nat}
/-- A slice of integers, by its cell. -/
theorem rd_of_trod {k : IntKind} (ht : P.underlying t = some (.slice e)) (he : P.underlying e = some (.int k)) (hc : P.cellsOf e = 1) (h : DataW.trod enc P W 0 (fun _ => true) true fuel t [v] = some x) :
    ∃ (A : Option Addr) (n c : Nat) (zs : List Int), v = .slice A n c ∧ Rd W 1 A n c (zs.map (Value.int k)) ∧ (∀ z ∈ zs, (Lit.int k z).wf = true) ∧ LenIs x.1 n ∧ zs.length = n := by
  rcases open_ints ht he hc h with ⟨hcs, hx⟩ | ⟨a, n, c, zs, hcs, _, hl, hm, hz, hx, hcell, hwz⟩
  · simp at hcs
    subst hcs
    exact ⟨none, 0, 0, [], rfl, Rd.none_ _ _, (fun z h => by cases h), .inl ⟨by rw [hx], rfl⟩, rfl⟩
  · simp at hcs
    subst hcs
    simp only [if_true] at hz
    refine ⟨some a, n, c, zs.take n, rfl, ⟨by simp; omega, hl, hm, (fun h => by cases h), fun hn => ?_⟩, fun z h => hwz z (List.mem_of_mem_take h), .inr ⟨_, _, by rw [hx], by simp [lits]; omega⟩, by simp; omega⟩
    obtain ⟨b, o, spot⟩ := a
    have h0 := hcell 0 (by omega)
    have hspot : spot = none := by simpa [Addr.add] using World.cell?_spot h0
    subst hspot
    refine ⟨b, o, rfl, World.block_lt_of_cell? W _ (by simpa [Addr.add] using h0), fun j u hu => ?_⟩
    rw [List.getElem?_map, List.getElem?_take] at hu
    split at hu
    · rename_i hj
      have hj' : j < zs.length := by omega
      rw [List.getElem?_eq_getElem hj'] at hu
      simp only [Option.map_some, Option.some.injEq] at hu
      subst hu
      have := hcell j hj'
      rw [Addr.add_lit] at this
      rw [this]
      simp [List.getD, List.getElem?_eq_getElem hj']
    · cases hu
theorem rb_of_trod (ht : P.underlying t = some (.slice e)) (he : P.underlying e = some (.int .u8)) (hc : P.cellsOf e = 1) (h : DataW.trod enc P W 0 (fun _ => true) true fuel t [v] = some x) :
    ∃ A n c l, v = .slice A n c ∧ RB W A n c l ∧ LenIs x.1 n := by
  obtain ⟨A, n, c, zs, hv', hr, hw, hd, hz⟩ := rd_of_trod ht he hc h
  obtain ⟨l, hl⟩ := bytes_of_wf zs hw
  exact ⟨A, n, c, l, hv', by unfold RB; rw [← hl]; exact hr, hd⟩
theorem ri_of_trod (ht : P.underlying t = some (.slice e)) (he : P.underlying e = some (.int .i64)) (hc : P.cellsOf e = 1) (h : DataW.trod enc P W 0 (fun _ => true) true fuel t [v] = some x) :
    ∃ A n c l, v = .slice A n c ∧ RI W A n c l ∧ (∀ z ∈ l, (Lit.int .i64 z).wf = true) ∧ LenIs x.1 n := by
  obtain ⟨A, n, c, zs, hv', hr, hw, hd, hz⟩ := rd_of_trod ht he hc h
  exact ⟨A, n, c, zs, hv', hr, hw, hd⟩
/-- A slice of whatever elements, by its cell: each element's cells are handed to 'each'. -/
theorem rows_of_trod {α : Type} {cells : α → List Value} {s : Nat} (ht : P.underlying t = some (.slice e)) (hC : P.cellsOf e = s) (hs : 0 < s) (hc : ∀ y : α, (cells y).length = s) (Q : α → DataW H → Prop)
    (each : ∀ (m : Nat) (cs : List Value) (y : DataW H × List MemPlace), DataW.trod enc P W 0 (fun _ => true) true m e cs = some y → ∃ z : α, cs = cells z ∧ Q z y.1)
    (h : DataW.trod enc P W 0 (fun _ => true) true fuel t [v] = some x) :
    ∃ (A : Option Addr) (n c : Nat) (es : List α), v = .slice A n c ∧ Rd W s A n c (es.flatMap cells) ∧ es.length = n ∧
      ((x.1 = .nil ∧ es = []) ∨ ∃ (D : Nat → DataW H) (sp : List (DataW H)), x.1 = .slice ((List.range n).map D) sp ∧ ∀ i z, es[i]? = some z → Q z (D i)) := by
  rcases open_slice ht h with ⟨hcs, hx⟩ | ⟨a, len, cap, m, n, D, Pl, hcs, hb, hl, hm, hmm, hx, hi⟩
  · simp at hcs
    subst hcs
    exact ⟨none, 0, 0, [], rfl, Rd.none_ _ _, rfl, .inl ⟨by rw [hx], rfl⟩⟩
  · simp at hcs
    subst hcs
    simp only [if_true] at hmm
    subst hmm
    rcases Nat.eq_zero_or_pos len with h0 | h0
    · subst h0
      exact ⟨some a, 0, m, [], rfl, ⟨by simp, Nat.zero_le _, hm, (fun h => by cases h), fun h => absurd h (by omega)⟩, rfl, .inr ⟨D, _, by rw [hx], fun i z hz => by simp at hz⟩⟩
    · have hspot : a.spot = none := by
        obtain ⟨cs, hc1, _⟩ := hi 0 (by omega)
        obtain ⟨_, hcl, hat⟩ := World.cells?_some hc1
        have := hat 0 (by omega)
        rw [List.getElem?_eq_getElem (by omega)] at this
        simpa [Addr.add] using World.cell?_spot this
      obtain ⟨b, o, spot⟩ := a
      simp only at hspot
      subst hspot
      obtain ⟨es, hel, hQ, hcell⟩ := rows_of (w := W) (a := ⟨b, o, none⟩) hc (fun i z => Q z (D i)) len (fun i hi' => by
        obtain ⟨cs, hc1, ht'⟩ := hi i (by omega)
        obtain ⟨z, rfl, hz⟩ := each _ _ _ ht'
        obtain ⟨_, hcl, hat⟩ := World.cells?_some hc1
        refine ⟨z, hz, fun j u hu => ?_⟩
        have hj : j < (cells z).length := (List.getElem?_eq_some_iff.1 hu).1
        have := hat j (by rw [← hcl]; exact hj)
        rw [hC, Go.Deep.add_add] at this
        rw [this]
        exact hu)
      refine ⟨_, len, m, es, rfl, ⟨by rw [flat_len hc, hel], hl, hm, (fun h => by cases h), fun _ => ⟨b, o, rfl, ?_, fun j u hu => ?_⟩⟩, hel, .inr ⟨D, _, by rw [hx], hQ⟩⟩
      · have := hcell 0
        have hpos : 0 < (es.flatMap cells).length := by rw [flat_len hc, hel]; exact Nat.mul_pos h0 hs
        have := this _ (List.getElem?_eq_getElem hpos)
        exact World.block_lt_of_cell? W _ (by simpa [Addr.add] using this)
      · have := hcell j u hu
        rwa [Addr.add_lit] at this
/-- A struct of one-cell fields, by its cells. -/
theorem trod_fields {fs : Array Field} {cs : List Value} (hs : P.underlying t = some (.struct fs)) (hone : oneCellFields P fs = true) (hC : P.cellsOf t = fs.size) (h : DataW.trod enc P W 0 (fun _ => true) true fuel t cs = some x) :
    cs.length = fs.size ∧ ∃ (ys : List (DataW H × List MemPlace)) (n : Nat), x.1 = .agg (ys.map (·.1)) ∧ ys.length = fs.size ∧
      ∀ (j : Nat) (f : Field), fs[j]? = some f → ∃ (u : Value) (y : DataW H × List MemPlace), cs[j]? = some u ∧ ys[j]? = some y ∧ DataW.trod enc P W 0 (fun _ => true) true n f.type [u] = some y := by
  obtain ⟨ys, n', hn', hy, hlen, hyl, hf⟩ := DataW.trod_struct hs h
  have hcl : cs.length = fs.size := hlen.trans hC
  refine ⟨hcl, ys, n', by rw [hy], hyl, fun j f hj => ?_⟩
  obtain ⟨ho, hk⟩ := hone_of hone j f hj
  have hjl : j < fs.size := (Array.getElem?_eq_some_iff.1 hj).1
  have h1 := hf j f hj
  rw [ho, hk] at h1
  have hone' : (cs.drop j).take 1 = [cs[j]'(by omega)] := by
    rw [List.drop_eq_getElem_cons (by omega)]
    rfl
  rw [hone'] at h1
  have hys : ys[j]? = some (ys[j]'(by omega)) := List.getElem?_eq_getElem (by omega)
  exact ⟨_, _, List.getElem?_eq_getElem (by omega), hys, h1.trans hys⟩
end
end Go.Proofs.YtpppgceccikodaaDoor
