/- JournalKeeps: for every input the law returns true, and each argument reads afterwards as it read before. Conditions: the package variable digest.steps starts as the text lays it (tied by the card). -/
import Derived.Test.YtjficpdfofmcnaaDoorBed12
import Derived.Deep.RegionHeld3
import Derived.Test.YtjficpdfofmcnaaDoorBed3
import Derived.Test.YtjficpdfofmcnaaDoorBed8
import Derived.Deep.DeepHandedRow
/- What is carried through the loop of JournalKeeps: the journal, the records that it has, the list that should be read. -/
namespace Go.Proofs.YtjficpdfofmcnaaDoor
open Go.RowKit Go.Joins

/-! ### The journal as a value -/
structure PJ (j : Jl) (L : List (List UInt8)) (ns : Nat) : Prop where
  fd : ∃ F, Found j L F
  ln : j.d.sectors.length = ns
  lf : j.d.left = -1
  ws : WS 0 (j.d, 0)
theorem PJ.new {ns : Nat} (h : 2 ≤ ns) (h2 : ns ≤ 4096) : ∃ j, Jn.fmt (Ds ns) = (j, 0) ∧ PJ j [] ns := by
  obtain ⟨f0, hj, je, jl, jn, jw⟩ := ds_fmt h h2
  exact ⟨_, Prod.ext rfl f0, ⟨⟨_, hj⟩, jn, jl, jw⟩⟩
theorem PJ.scanned {j : Jl} {L : List (List UInt8)} {ns : Nat} (h : PJ j L ns) : Scanned j.d j L 0 := by
  obtain ⟨F, hf⟩ := h.fd
  exact hf.scanned
theorem PJ.count {j : Jl} {L : List (List UInt8)} {ns : Nat} (h : PJ j L ns) : j.c = (L.length : Int) := by
  obtain ⟨F, hf⟩ := h.fd
  exact hf.c
theorem PJ.inn {j : Jl} {L : List (List UInt8)} {ns : Nat} (h : PJ j L ns) (hn : ns ≤ 4096) : V.In j.h := by
  obtain ⟨F, hf⟩ := h.fd
  have h1 := hf.h
  have h2 := hf.bounds
  have h3 := h.ln
  unfold V.In
  omega
theorem PJ.few {j : Jl} {L : List (List UInt8)} {ns : Nat} (h : PJ j L ns) (hn : ns ≤ 4096) : L.length ≤ 4096 := by
  obtain ⟨F, hf⟩ := h.fd
  have h2 := hf.bounds
  have h3 := h.ln
  omega
theorem PJ.fit {j : Jl} {L : List (List UInt8)} {ns : Nat} (h : PJ j L ns) (hn : ns ≤ 4096) {l : List UInt8} (hl : l.length ≤ 3000) (hf : (l.length : Int) ≤ j.free) : ∃ r, j.append l = (r, 0) ∧ PJ r (L ++ [l]) ns := by
  obtain ⟨F, hF⟩ := h.fd
  have hns : j.d.sectors.length ≤ 4096 := by rw [h.ln]; exact hn
  have hs := hF.safe hns hl (by rw [h.lf]; decide)
  rw [if_pos hf] at hs
  obtain ⟨h1, _, h3, h4, h5⟩ := hF.added hns hl hs
  exact ⟨_, Prod.ext rfl hs, ⟨⟨_, h1⟩, h5.trans h.ln, (h4 (by rw [h.lf]; decide)).trans h.lf, (append_ws h.ws hl).settled h3⟩⟩
theorem PJ.full {j : Jl} {L : List (List UInt8)} {ns : Nat} (h : PJ j L ns) (hn : ns ≤ 4096) {l : List UInt8} (hl : l.length ≤ 3000) (hf : ¬ (l.length : Int) ≤ j.free) : ∃ r, j.append l = (r, 18) := by
  obtain ⟨F, hF⟩ := h.fd
  have hs := hF.safe (by rw [h.ln]; exact hn) hl (by rw [h.lf]; decide)
  rw [if_neg hf] at hs
  exact ⟨_, Prod.ext rfl hs⟩

/-! ### In memory -/
theorem GS.put {w : World} {base : Nat} {A : Option Addr} {n c : Nat} {S : List Sl} (h : GS w base A n c S) {p : Addr} (hp : p.block < base) (hA : ∀ a, A = some a → base ≤ a.block) (hs : ∀ s ∈ S, s.Av p.block) (v : Value) : GS (w.setCell p v) base A n c S := by
  refine ⟨?_, fun s hh => (h.ok s hh).off ((Off.refl [p.block] w).setCell (by simp) v) (fun b hb => by simp only [List.mem_singleton] at hb; rw [hb]; exact hs s hh), h.away, fun a ha => by simpa [World.setCell] using h.lt a ha⟩
  rcases h.tgt with ⟨A', e, hr⟩ | ho
  · injection e with e1 e2 e3
    subst e1 e3
    exact .inl ⟨A, rfl, hr.set_other (fun a ha => by have := hA a ha; omega) v⟩
  · exact .inr (ownsRow_set ho hp v)
theorem WantL.put {w : World} {N : Nat} {A : Option Addr} {n c : Nat} {S : List Sl} (h : WantL w N A n c S) {p : Addr} (hp : p.block < N) (hs : ∀ s ∈ S, s.Av p.block) (v : Value) : WantL (w.setCell p v) N A n c S := ⟨h.g.put hp h.new hs v, h.new⟩
/-- The loop's memory: the list that should be read, the journal in its box. -/
structure KB (w X : World) (b : Nat) (J : Jk) (j : Jl) (A : Option Addr) (q c : Nat) (W : List Sl) : Prop where
  g : WantL X (b + 1) A q c W
  el : ∀ s ∈ W, s.Ok w
  bj : BJ X b J j
  av : J.d.Av b
  avw : ∀ a, A = some a → J.d.Av a.block
  bel : Below w.heap.size w X
  lo : w.heap.size ≤ b
section
variable {w X : World} {b : Nat} {J : Jk} {j : Jl} {A : Option Addr} {q c : Nat} {W : List Sl}
theorem KB.below (h : KB w X b J j A q c W) {Y : World} (hb : Below X.heap.size X Y) : KB w Y b J j A q c W := ⟨h.g.below hb, h.el, h.bj.below hb, h.av, h.avw, below_next h.bel hb (Nat.le_refl _), h.lo⟩
theorem KB.qlen (h : KB w X b J j A q c W) : W.length = q := h.g.g.rs.len
theorem KB.store (h : KB w X b J j A q c W) {K : Jk} {r : Jl} (hok : K.d.Ok X) (hm : K.m = r) (h1 : K.d.Av b) (h2 : ∀ a, A = some a → K.d.Av a.block) : KB w (((((((X.setCell ⟨b, 0, none⟩ (.slice K.d.a K.d.n K.d.c)).setCell ⟨b, 1, none⟩ (.slice K.d.pa K.d.pn K.d.pc)).setCell ⟨b, 2, none⟩ (.int .i64 K.d.left)).setCell ⟨b, 3, none⟩ (.bool K.d.down)).setCell ⟨b, 4, none⟩ (.int .i64 K.e)).setCell ⟨b, 5, none⟩ (.int .i64 K.h)).setCell ⟨b, 6, none⟩ (.int .i64 K.c)) b K r A q c W := by
  have hs : ∀ s ∈ W, s.Av b := fun s hs => (h.el s hs).av h.lo
  have hlt := h.bj.bx.bx.lt
  refine ⟨?_, h.el, BJ.set h.bj.bx.bx hok hm h1, h1, h2, h.bel.trans ((off_set7 X b (.slice K.d.a K.d.n K.d.c) (.slice K.d.pa K.d.pn K.d.pc) (.int .i64 K.d.left) (.bool K.d.down) (.int .i64 K.e) (.int .i64 K.h) (.int .i64 K.c)).below h.bel.size (by simpa using h.lo)), h.lo⟩
  exact ((((((h.g.put (p := ⟨b, 0, none⟩) (Nat.lt_succ_self _) hs _).put (p := ⟨b, 1, none⟩) (Nat.lt_succ_self _) hs _).put (p := ⟨b, 2, none⟩) (Nat.lt_succ_self _) hs _).put (p := ⟨b, 3, none⟩) (Nat.lt_succ_self _) hs _).put (p := ⟨b, 4, none⟩) (Nat.lt_succ_self _) hs _).put (p := ⟨b, 5, none⟩) (Nat.lt_succ_self _) hs _).put (p := ⟨b, 6, none⟩) (Nat.lt_succ_self _) hs _
theorem KB.app (h : KB w X b J j A q c W) {s : Sl} (hs : s.Ok w) {A' : Option Addr} {c' : Nat} {Y : World} (ha : App X (b + 1) 26 1 (.slice A q c) (q + 1) (W.map Sl.v ++ [s.v]) A' c' Y) : KB w Y b J j A' (q + 1) c' (W ++ [s]) := by
  have hlt := h.bj.bx.bx.lt
  have hlo := h.lo
  have hg := h.g.snoc ha (hs.below h.bel) hs (by omega) hlt
  have hof : Off ((Value.slice A q c).ownBlock).toList X Y := Off.of_grown ha.grown fun k hk => by simp [hk]
  have hT : ∀ t ∈ ((Value.slice A q c).ownBlock).toList, ∃ a, A = some a ∧ t = a.block := fun t ht => by
    cases A with
    | none => simp [Value.ownBlock] at ht
    | some a => exact ⟨a, rfl, by simpa [Value.ownBlock] using ht⟩
  refine ⟨hg, fun t ht => ?_, ⟨⟨h.bj.bx.bx.off hof fun hb => ?_, h.bj.bx.ok.off hof fun t ht => ?_⟩, h.bj.m⟩, h.av, fun a e => ?_, h.bel.trans (ha.below.mono (by omega)), h.lo⟩
  · rcases List.mem_append.1 ht with ht | ht
    · exact h.el t ht
    · simp only [List.mem_singleton] at ht
      rw [ht]
      exact hs
  · obtain ⟨a, e, e2⟩ := hT _ hb
    have := h.g.new a e
    omega
  · obtain ⟨a, e, rfl⟩ := hT _ ht
    exact h.avw a e
  · rcases ha.at_ a e with h3 | h3
    · cases A with
      | none => simp [Value.ownBlock] at h3
      | some x =>
        simp only [Value.ownBlock, Option.some.injEq] at h3
        rw [← h3]
        exact h.avw x rfl
    · exact h.bj.bx.ok.av h3.1
end
end Go.Proofs.YtjficpdfofmcnaaDoor

/- JournalKeeps. -/
namespace Go.Proofs.YtjficpdfofmcnaaDoor
open Go.RowKit Go.Joins

set_option maxHeartbeats 8000000 in
set_option maxRecDepth 100000 in
theorem law_keeps (sectors : Int) (A : Option Addr) (n c : Nat) (S : List Sl) (w : World) (hR : RS w A n c S) (ht : Tab w) :
    Calls Tryd.prog 4 #[.int .i64 sectors, .slice A n c] w fun e w' => e = .returned (.bool true) ∧ Below w.heap.size w w' := by
  have HR := Keep.mk hR
  have HT := Keep.mk ht
  have hcap := hR.cap
  have hbig := hR.big
  have HLN := Keep.mk hR.len
  unfold maxLen at hbig
  clear hR ht
  by_cases h2 : sectors < 2
  · have g1 : decide (sectors < 2) = true := decide_eq_true h2
    clear h2
    go_enter Tryd.func4, Tryd.ntmps4
    go_wp2_with fail
    refine (awake_any _ HT.out).mono ?_
    rintro e w1 ⟨rfl, hb⟩
    have HB := Lib.hid hb
    clear hb
    go_wp2
    go_ret
    exact ⟨rfl, HB.out⟩
  have g1 : decide (sectors < 2) = false := decide_eq_false h2
  by_cases h40 : 40 < sectors
  · have g2 : decide (40 < sectors) = true := decide_eq_true h40
    clear h2 h40
    go_enter Tryd.func4, Tryd.ntmps4
    go_wp2_with fail
    refine (awake_any _ HT.out).mono ?_
    rintro e w1 ⟨rfl, hb⟩
    have HB := Lib.hid hb
    clear hb
    go_wp2
    go_ret
    exact ⟨rfl, HB.out⟩
  have g2 : decide (40 < sectors) = false := decide_eq_false h40
  by_cases h60 : 60 < n
  · have g3 : decide ((60 : Int) < (n : Int)) = true := decide_eq_true (by omega)
    have g4 : decide (60 < n) = true := decide_eq_true h60
    clear h2 h40 h60
    go_enter Tryd.func4, Tryd.ntmps4
    go_wp2_with fail
    refine (awake_any _ HT.out).mono ?_
    rintro e w1 ⟨rfl, hb⟩
    have HB := Lib.hid hb
    clear hb
    go_wp2
    go_ret
    exact ⟨rfl, HB.out⟩
  have g3 : decide ((60 : Int) < (n : Int)) = false := decide_eq_false (by omega)
  have g4 : decide (60 < n) = false := decide_eq_false h60
  obtain ⟨ns, hns⟩ : ∃ ns : Nat, sectors = (ns : Int) := ⟨sectors.toNat, by omega⟩
  have hns2 : 2 ≤ ns := by omega
  have hns3 : ns ≤ 4096 := by omega
  have HSN := Keep.mk hns
  obtain ⟨j0, hf0, hp0⟩ := PJ.new hns2 hns3
  have HF0 := Keep.mk hf0
  have HP0 := Keep.mk hp0
  clear h2 h40 hns hf0 hp0
  go_enter Tryd.func4, Tryd.ntmps4
  go_wp2_with fail
  refine (ldisk_any sectors _).mono ?_
  rintro e w1 ⟨D, rfl, hok, hm, hb, hav⟩
  have HDM : Keep (D.m = Ds ns) := ⟨by rw [hm, HSN.out]; exact ds_new (by omega) hns3⟩
  have HOK := Keep.mk hok
  have HB1 := Lib.hid hb
  clear hok hm hb hav
  go_wp2_with fail
  refine (format_s (K := 10) HOK.out HDM.out ((ds_ws hns3).mono (by omega)) (by decide) (HT.out.below HB1.out) HF0.out).mono ?_
  rintro e w2 ⟨J0, rfl, hok, hm, hb, hav⟩
  have HB2 := Lib.hid (below_next HB1.out hb (Nat.le_refl _))
  have BJ2 : Keep (BJ (w2.alloc (.cells #[.slice J0.d.a J0.d.n J0.d.c, .slice J0.d.pa J0.d.pn J0.d.pc, .int .i64 J0.d.left, .bool J0.d.down, .int .i64 J0.e, .int .i64 J0.h, .int .i64 J0.c] 32)) w2.heap.size J0 j0) := ⟨BJ.new hok hm⟩
  have HAV2 : Keep (J0.d.Av w2.heap.size) := ⟨hok.av (Nat.le_refl _)⟩
  clear hok hm hb hav HOK HDM HB1
  have HB3 : Hid (Below w.heap.size w (w2.alloc (.cells #[.slice J0.d.a J0.d.n J0.d.c, .slice J0.d.pa J0.d.pn J0.d.pc, .int .i64 J0.d.left, .bool J0.d.down, .int .i64 J0.e, .int .i64 J0.h, .int .i64 J0.c] 32))) := HB2.out.alloc HB2.out.size _
  have hlo := HB2.out.size
  go_upto_region 4 with (fail)
  generalize hw3 : w2.alloc (.cells #[.slice J0.d.a J0.d.n J0.d.c, .slice J0.d.pa J0.d.pn J0.d.pc, .int .i64 J0.d.left, .bool J0.d.down, .int .i64 J0.e, .int .i64 J0.h, .int .i64 J0.c] 32) = w3 at *
  clear hw3 HB2
  obtain ⟨b5, hb5⟩ : ∃ b, b = w2.heap.size := ⟨_, rfl⟩
  rw [← hb5] at BJ2 HAV2 hlo ⊢
  clear hb5
  have HK0 : Keep (KB w w3 b5 J0 j0 none 0 0 []) := ⟨⟨⟨GS.nil _ _, fun a h => by cases h⟩, (fun s h => by cases h), BJ2.out, HAV2.out, (fun a h => by cases h), HB3.out, hlo⟩⟩
  clear BJ2 HAV2 HB3 HF0
  go_wp2
  go_loopw [7, 8] (fun v i wr => ∃ (k : Nat) (J : Jk) (j : Jl) (A' : Option Addr) (q c' : Nat) (W : List Sl), k ≤ n ∧ i = .int .i64 k ∧ v = .slice A' q c' ∧ Keep (KB w wr b5 J j A' q c' W) ∧ Keep (PJ j (W.map (·.l)) ns)) (fun _ i _ => n - (intOf i).toNat)
  case atStart => exact ⟨0, J0, j0, none, 0, 0, [], Nat.zero_le _, rfl, rfl, HK0, HP0⟩
  case round =>
    clear HK0 HP0
    obtain ⟨k, J, j, A', q, c', W, hk, rfl, rfl, HK, HP⟩ := hrel
    have hq4 : q ≤ 4096 := by have h1 := HP.out.few hns3; have h2 := HK.out.qlen; rw [List.length_map] at h1; omega
    have HIN := Keep.mk (HP.out.inn hns3)
    by_cases hlt : k < n
    · have hkS : k < S.length := by have := HLN.out; omega
      obtain ⟨b, o, rfl, hbl, hck, hr⟩ := (HR.out.below HK.out.bel).at_ (k := k) hkS
      have HSK := Keep.mk (HR.out.ok S[k] (List.getElem_mem hkS))
      have HCK : Keep (∀ X, Below w.heap.size w X → X.cell? ⟨b, o + k, none⟩ = some (.slice S[k].a S[k].n S[k].c)) := ⟨fun X hX => by
        obtain ⟨b', o', h1, _, h2, _⟩ := (HR.out.below hX).at_ (k := k) hkS
        injection h1 with h1
        injection h1 with h3 h4
        subst h3 h4
        exact h2⟩
      have hsl : S[k].l.length = S[k].n := HSK.out.len
      have HSL := Keep.mk hsl
      clear hr hsl
      generalize S[k] = s at *
      by_cases hlen : 3000 < s.n
      · have g5 : decide ((3000 : Int) < (s.n : Int)) = true := decide_eq_true (by omega)
        have g6 : decide (3000 < s.n) = true := decide_eq_true hlen
        clear hlen
        go_wp2_with fail
        refine (awake_any _ (HT.out.below HK.out.bel)).mono ?_
        rintro e w4 ⟨rfl, hb⟩
        have HB := Lib.hid (below_next HK.out.bel hb (Nat.le_refl _))
        clear hb
        go_wp2
        go_ret
        exact ⟨rfl, HB.out⟩
      have g5 : decide ((3000 : Int) < (s.n : Int)) = false := decide_eq_false (by omega)
      have g6 : decide (3000 < s.n) = false := decide_eq_false hlen
      have HL3 : Keep (s.l.length ≤ 3000) := ⟨by rw [HSL.out]; omega⟩
      have CF := Keep.mk (free_bj HK.out.bj HP.out.ws HIN.out)
      by_cases hfit : (s.n : Int) ≤ j.free
      · obtain ⟨r, hr, hpr⟩ := HP.out.fit hns3 HL3.out (by rw [HSL.out]; exact hfit)
        have HAP := Keep.mk hr
        have HPR := Keep.mk hpr
        have g7 : decide ((s.n : Int) ≤ j.free) = true := decide_eq_true hfit
        clear hr hpr hfit
        generalize j.free = fr at *
        obtain ⟨c0, c1, c2, c3, c4, c5, c6⟩ := HK.out.bj.bx.cs
        go_wp2_with fail
        refine CF.out.mono ?_
        rintro e w4 ⟨rfl, hb⟩
        have HK4 := Keep.mk (HK.out.below hb)
        clear hb c0 c1 c2 c3 c4 c5 c6 hck CF
        have CA := Keep.mk (fun (X : World) (hX : Below w4.heap.size w4 X) => append_bj (HK4.out.below hX).bj HP.out.ws (by decide) HIN.out (Sl.Ok.below HSK.out (below_next HK4.out.bel hX (Nat.le_refl _))) HL3.out (HT.out.below (below_next HK4.out.bel hX (Nat.le_refl _))) HAP.out)
        obtain ⟨c0, c1, c2, c3, c4, c5, c6⟩ := HK4.out.bj.bx.cs
        have ck := HCK.out _ HK4.out.bel
        go_upto_region 13 with (fail)
        have KS : Keep (∀ X, Below w4.heap.size w4 X → X.cell? ⟨b5, 0, none⟩ = some (.slice J.d.a J.d.n J.d.c) ∧ X.cell? ⟨b5, 1, none⟩ = some (.slice J.d.pa J.d.pn J.d.pc) ∧ X.cell? ⟨b5, 2, none⟩ = some (.int .i64 J.d.left) ∧ X.cell? ⟨b5, 3, none⟩ = some (.bool J.d.down) ∧ X.cell? ⟨b5, 4, none⟩ = some (.int .i64 J.e) ∧ X.cell? ⟨b5, 5, none⟩ = some (.int .i64 J.h) ∧ X.cell? ⟨b5, 6, none⟩ = some (.int .i64 J.c) ∧ X.cell? ⟨b, o + k, none⟩ = some (.slice s.a s.n s.c)) := ⟨fun X hX => by
          obtain ⟨c0, c1, c2, c3, c4, c5, c6⟩ := (HK4.out.below hX).bj.bx.cs
          exact ⟨c0, c1, c2, c3, c4, c5, c6, HCK.out _ (below_next HK4.out.bel hX (Nat.le_refl _))⟩⟩
        go_cut [10, 11] from 50 to 57 (fun s10 s11 X => ∃ (b3 : Nat) (K : Jk), s10 = .pointer (some ⟨b3, 0, none⟩) ∧ s11 = .int .i64 0 ∧ Keep (BJ X b3 K r ∧ Below w4.heap.size w4 X ∧ ∀ t, t < w4.heap.size → J.d.Av t → K.d.Av t))
        case first =>
          have HWa : Hid (Below w4.heap.size w4 w4.drew) := below_draws _ _ _
          have HWb : Hid (Below w4.heap.size w4 (w4.alloc (.cells #[.slice none 0 0, .slice none 0 0, .int .i64 0, .bool false, .int .i64 0, .int .i64 0, .int .i64 0] 32)).drew) := (below_alloc1 _ _).trans (below_draws _ _ _)
          have HBN : Keep (Bx (w4.alloc (.cells #[.slice none 0 0, .slice none 0 0, .int .i64 0, .bool false, .int .i64 0, .int .i64 0, .int .i64 0] 32)).drew w4.heap.size [.slice none 0 0, .slice none 0 0, .int .i64 0, .bool false, .int .i64 0, .int .i64 0, .int .i64 0]) := ⟨(Bx.new w4 [.slice none 0 0, .slice none 0 0, .int .i64 0, .bool false, .int .i64 0, .int .i64 0, .int .i64 0] 32).drewN 1⟩
          have HJO := Keep.mk HK4.out.bj.bx.ok
          go_region_held3 (fun X => X.cell? ⟨b5, 0, none⟩ = some (.slice J.d.a J.d.n J.d.c) ∧ X.cell? ⟨b5, 1, none⟩ = some (.slice J.d.pa J.d.pn J.d.pc) ∧ X.cell? ⟨b5, 2, none⟩ = some (.int .i64 J.d.left) ∧ X.cell? ⟨b5, 3, none⟩ = some (.bool J.d.down) ∧ X.cell? ⟨b5, 4, none⟩ = some (.int .i64 J.e) ∧ X.cell? ⟨b5, 5, none⟩ = some (.int .i64 J.h) ∧ X.cell? ⟨b5, 6, none⟩ = some (.int .i64 J.c) ∧ X.cell? ⟨b, o + k, none⟩ = some (.slice s.a s.n s.c))
            (first
              | with_reducible exact KS.out _ HDN.out
              | with_reducible exact KS.out _ (HDN.out.alloc HDN.out.size _)
              | with_reducible exact KS.out _ (HDN.out.trans ((off_set7 _ _ _ _ _ _ _ _ _).below HDN.out.size (by simp)))
              | exact KS.out _ (below_draws _ _ 1)
              | exact KS.out _ ((below_alloc1 _ _).trans (below_draws _ _ _))
              | fail)
            ((go_at_call 15; (first
              | ((with_reducible refine (CA.out _ HWa.out).mono ?_); rintro e wn ⟨K, rfl, hok, hm, hb, hav⟩; have HDN := Lib.hid (below_next HWa.out hb (Nat.le_refl _)); have BM := True.intro; have HOK := Keep.mk hok; have HM := Keep.mk hm; have HAV := Keep.mk hav; clear hok hm hb hav)
              | ((with_reducible refine (CA.out _ HWb.out).mono ?_); rintro e wn ⟨K, rfl, hok, hm, hb, hav⟩; have HDN := Lib.hid (below_next HWb.out hb (Nat.le_refl _)); have BM := Keep.mk (HBN.out.below hb); have m0 := BM.out.cell 0 _ rfl; have m1 := BM.out.cell 1 _ rfl; have m2 := BM.out.cell 2 _ rfl; have m3 := BM.out.cell 3 _ rfl; have m4 := BM.out.cell 4 _ rfl; have m5 := BM.out.cell 5 _ rfl; have m6 := BM.out.cell 6 _ rfl; have mf := BM.out.fz; have HOK := Keep.mk hok; have HM := Keep.mk hm; have HAV := Keep.mk hav; clear hok hm hb hav) | fail)))
          all_goals go_wp2
          all_goals go_meet
          · have hzn := HDN.out.size
            exact ⟨_, K, rfl, rfl, ⟨BJ.new HOK.out HM.out, HDN.out.alloc hzn _, fun t ht hj => HAV.out t (Nat.lt_of_lt_of_le ht HWa.out.size) hj⟩⟩
          · have hzn := HDN.out.size
            have hbs := BJ.set BM.out HOK.out HM.out (HAV.out _ (by simp) (HJO.out.av (Nat.le_refl _)))
            have hbl := HDN.out.trans ((off_set7 wn w4.heap.size (.slice K.d.a K.d.n K.d.c) (.slice K.d.pa K.d.pn K.d.pc) (.int .i64 K.d.left) (.bool K.d.down) (.int .i64 K.e) (.int .i64 K.h) (.int .i64 K.c)).below hzn (by simp))
            exact ⟨_, K, rfl, rfl, ⟨hbs, hbl, fun t ht hj => HAV.out t (Nat.lt_of_lt_of_le ht HWb.out.size) hj⟩⟩
        case rest =>
          obtain ⟨X1, hX1⟩ : ∃ X1, X1 = wc := ⟨_, rfl⟩
          subst hX1
          obtain ⟨b3, K, rfl, rfl, HX⟩ := hcut
          have HKX := Keep.mk (HK4.out.below HX.out.2.1)
          clear c0 c1 c2 c3 c4 c5 c6 ck KS CA
          have ck := HCK.out _ HKX.out.bel
          have BK := Keep.mk HX.out.1
          have HAK : Keep (K.d.Av b5 ∧ ∀ a, A' = some a → K.d.Av a.block) := ⟨HX.out.2.2 _ HK4.out.bj.bx.bx.lt HK.out.av, fun a ha => HX.out.2.2 _ (HK4.out.g.g.lt a ha) (HK.out.avw a ha)⟩
          obtain ⟨k0, k1, k2, k3, k4, k5, k6⟩ := BK.out.bx.cs
          obtain ⟨c0, c1, c2, c3, c4, c5, c6⟩ := HKX.out.bj.bx.cs
          have of := HKX.out.bj.bx.bx.fz
          go_upto_region 18 with (fail)
          clear k0 k1 k2 k3 k4 k5 k6 c0 c1 c2 c3 c4 c5 c6 of ck
          have HK6 := Keep.mk (HKX.out.store BK.out.bx.ok BK.out.m HAK.out.1 HAK.out.2)
          generalize hX2 : (((((((X1.setCell ⟨b5, 0, none⟩ (.slice K.d.a K.d.n K.d.c)).setCell ⟨b5, 1, none⟩ (.slice K.d.pa K.d.pn K.d.pc)).setCell ⟨b5, 2, none⟩ (.int .i64 K.d.left)).setCell ⟨b5, 3, none⟩ (.bool K.d.down)).setCell ⟨b5, 4, none⟩ (.int .i64 K.e)).setCell ⟨b5, 5, none⟩ (.int .i64 K.h)).setCell ⟨b5, 6, none⟩ (.int .i64 K.c)) = X2 at *
          clear hX2
          have ck := HCK.out _ HK6.out.bel
          have HLT := Keep.mk HK6.out.bj.bx.bx.lt
          go_wp2_with (first
            | (at_builtin; refine wpList_append_app _ rfl (.tmp 79) (.tmp 84) 22 rfl (b5 + 1) 26 (.slice none 0 0) 1 24 Tryd.underlying22 sl_info rfl (by decide) (by decide) (.slice A' q c') q (W.map Sl.v) rfl (HK6.out.below (below_alloc1 _ _)).g.g.tgt (some ⟨X2.heap.size, 0, none⟩) 1 1 [.slice s.a s.n s.c] rfl (rd_one X2 _ _) (by simp [Value.oneCell']) (by omega) (by have := HLT.out; simp; omega) ?_; intro A3 c3 w7 ha; have HA3 := Keep.mk ha; clear ha))
          have HK7 := Keep.mk ((HK6.out.below (below_alloc1 _ _)).app HSK.out HA3.out)
          go_roundw
          case rel => exact ⟨k + 1, K, r, A3, q + 1, c3, W ++ [s], by omega, by go_num, rfl, HK7, ⟨by rw [List.map_append]; exact HPR.out⟩⟩
          case measure => simp [intOf]; omega
      · obtain ⟨r, hr⟩ := HP.out.full hns3 HL3.out (by rw [HSL.out]; exact hfit)
        have HAP := Keep.mk hr
        have g7 : decide ((s.n : Int) ≤ j.free) = false := decide_eq_false hfit
        clear hr hfit
        generalize j.free = fr at *
        obtain ⟨c0, c1, c2, c3, c4, c5, c6⟩ := HK.out.bj.bx.cs
        go_wp2_with fail
        refine CF.out.mono ?_
        rintro e w4 ⟨rfl, hb⟩
        have HK4 := Keep.mk (HK.out.below hb)
        clear hb c0 c1 c2 c3 c4 c5 c6 hck CF
        have CA := Keep.mk (fun (X : World) (hX : Below w4.heap.size w4 X) => append_bj (HK4.out.below hX).bj HP.out.ws (by decide) HIN.out (Sl.Ok.below HSK.out (below_next HK4.out.bel hX (Nat.le_refl _))) HL3.out (HT.out.below (below_next HK4.out.bel hX (Nat.le_refl _))) HAP.out)
        obtain ⟨c0, c1, c2, c3, c4, c5, c6⟩ := HK4.out.bj.bx.cs
        have ck := HCK.out _ HK4.out.bel
        go_upto_region 13 with (fail)
        have KS : Keep (∀ X, Below w4.heap.size w4 X → X.cell? ⟨b5, 0, none⟩ = some (.slice J.d.a J.d.n J.d.c) ∧ X.cell? ⟨b5, 1, none⟩ = some (.slice J.d.pa J.d.pn J.d.pc) ∧ X.cell? ⟨b5, 2, none⟩ = some (.int .i64 J.d.left) ∧ X.cell? ⟨b5, 3, none⟩ = some (.bool J.d.down) ∧ X.cell? ⟨b5, 4, none⟩ = some (.int .i64 J.e) ∧ X.cell? ⟨b5, 5, none⟩ = some (.int .i64 J.h) ∧ X.cell? ⟨b5, 6, none⟩ = some (.int .i64 J.c) ∧ X.cell? ⟨b, o + k, none⟩ = some (.slice s.a s.n s.c)) := ⟨fun X hX => by
          obtain ⟨c0, c1, c2, c3, c4, c5, c6⟩ := (HK4.out.below hX).bj.bx.cs
          exact ⟨c0, c1, c2, c3, c4, c5, c6, HCK.out _ (below_next HK4.out.bel hX (Nat.le_refl _))⟩⟩
        go_cut [10, 11] from 50 to 57 (fun s10 s11 X => ∃ (b3 : Nat) (K : Jk), s10 = .pointer (some ⟨b3, 0, none⟩) ∧ s11 = .int .i64 18 ∧ Keep (BJ X b3 K r ∧ Below w4.heap.size w4 X ∧ ∀ t, t < w4.heap.size → J.d.Av t → K.d.Av t))
        case first =>
          have HWa : Hid (Below w4.heap.size w4 w4.drew) := below_draws _ _ _
          have HWb : Hid (Below w4.heap.size w4 (w4.alloc (.cells #[.slice none 0 0, .slice none 0 0, .int .i64 0, .bool false, .int .i64 0, .int .i64 0, .int .i64 0] 32)).drew) := (below_alloc1 _ _).trans (below_draws _ _ _)
          have HBN : Keep (Bx (w4.alloc (.cells #[.slice none 0 0, .slice none 0 0, .int .i64 0, .bool false, .int .i64 0, .int .i64 0, .int .i64 0] 32)).drew w4.heap.size [.slice none 0 0, .slice none 0 0, .int .i64 0, .bool false, .int .i64 0, .int .i64 0, .int .i64 0]) := ⟨(Bx.new w4 [.slice none 0 0, .slice none 0 0, .int .i64 0, .bool false, .int .i64 0, .int .i64 0, .int .i64 0] 32).drewN 1⟩
          have HJO := Keep.mk HK4.out.bj.bx.ok
          go_region_held3 (fun X => X.cell? ⟨b5, 0, none⟩ = some (.slice J.d.a J.d.n J.d.c) ∧ X.cell? ⟨b5, 1, none⟩ = some (.slice J.d.pa J.d.pn J.d.pc) ∧ X.cell? ⟨b5, 2, none⟩ = some (.int .i64 J.d.left) ∧ X.cell? ⟨b5, 3, none⟩ = some (.bool J.d.down) ∧ X.cell? ⟨b5, 4, none⟩ = some (.int .i64 J.e) ∧ X.cell? ⟨b5, 5, none⟩ = some (.int .i64 J.h) ∧ X.cell? ⟨b5, 6, none⟩ = some (.int .i64 J.c) ∧ X.cell? ⟨b, o + k, none⟩ = some (.slice s.a s.n s.c))
            (first
              | with_reducible exact KS.out _ HDN.out
              | with_reducible exact KS.out _ (HDN.out.alloc HDN.out.size _)
              | with_reducible exact KS.out _ (HDN.out.trans ((off_set7 _ _ _ _ _ _ _ _ _).below HDN.out.size (by simp)))
              | exact KS.out _ (below_draws _ _ 1)
              | exact KS.out _ ((below_alloc1 _ _).trans (below_draws _ _ _))
              | fail)
            ((go_at_call 15; (first
              | ((with_reducible refine (CA.out _ HWa.out).mono ?_); rintro e wn ⟨K, rfl, hok, hm, hb, hav⟩; have HDN := Lib.hid (below_next HWa.out hb (Nat.le_refl _)); have BM := True.intro; have HOK := Keep.mk hok; have HM := Keep.mk hm; have HAV := Keep.mk hav; clear hok hm hb hav)
              | ((with_reducible refine (CA.out _ HWb.out).mono ?_); rintro e wn ⟨K, rfl, hok, hm, hb, hav⟩; have HDN := Lib.hid (below_next HWb.out hb (Nat.le_refl _)); have BM := Keep.mk (HBN.out.below hb); have m0 := BM.out.cell 0 _ rfl; have m1 := BM.out.cell 1 _ rfl; have m2 := BM.out.cell 2 _ rfl; have m3 := BM.out.cell 3 _ rfl; have m4 := BM.out.cell 4 _ rfl; have m5 := BM.out.cell 5 _ rfl; have m6 := BM.out.cell 6 _ rfl; have mf := BM.out.fz; have HOK := Keep.mk hok; have HM := Keep.mk hm; have HAV := Keep.mk hav; clear hok hm hb hav) | fail)))
          all_goals go_wp2
          all_goals go_meet
          · have hzn := HDN.out.size
            exact ⟨_, K, rfl, rfl, ⟨BJ.new HOK.out HM.out, HDN.out.alloc hzn _, fun t ht hj => HAV.out t (Nat.lt_of_lt_of_le ht HWa.out.size) hj⟩⟩
          · have hzn := HDN.out.size
            have hbs := BJ.set BM.out HOK.out HM.out (HAV.out _ (by simp) (HJO.out.av (Nat.le_refl _)))
            have hbl := HDN.out.trans ((off_set7 wn w4.heap.size (.slice K.d.a K.d.n K.d.c) (.slice K.d.pa K.d.pn K.d.pc) (.int .i64 K.d.left) (.bool K.d.down) (.int .i64 K.e) (.int .i64 K.h) (.int .i64 K.c)).below hzn (by simp))
            exact ⟨_, K, rfl, rfl, ⟨hbs, hbl, fun t ht hj => HAV.out t (Nat.lt_of_lt_of_le ht HWb.out.size) hj⟩⟩
        case rest =>
          obtain ⟨X1, hX1⟩ : ∃ X1, X1 = wc := ⟨_, rfl⟩
          subst hX1
          obtain ⟨b3, K, rfl, rfl, HX⟩ := hcut
          have HKX := Keep.mk (HK4.out.below HX.out.2.1)
          clear c0 c1 c2 c3 c4 c5 c6 ck KS CA
          have ck := HCK.out _ HKX.out.bel
          go_wp2
          go_roundw
          case rel => exact ⟨k + 1, J, j, A', q, c', W, by omega, by go_num, rfl, HKX, HP⟩
          case measure => simp [intOf]; omega
    · obtain rfl : n = k := by omega
      obtain ⟨c0, c1, c2, c3, c4, c5, c6⟩ := HK.out.bj.bx.cs
      go_wp2_with fail
      refine (records_s HK.out.bj.bx.ok HK.out.bj.dm HP.out.ws.fit (by decide) (HT.out.below HK.out.bel) HP.out.scanned).mono ?_
      rintro e w4 ⟨A2, n2, c2', S2, rfl, hrs, hb, hS⟩
      have HK4 := Keep.mk (HK.out.below hb)
      have HRS := Keep.mk hrs
      have HS2 := Keep.mk hS
      clear hrs hb hS c0 c1 c2 c3 c4 c5 c6
      go_wp2_with fail
      refine (ss_true HRS.out HK4.out.g.g.rs HS2.out).mono ?_
      rintro e w5 ⟨rfl, hb⟩
      have HK5 := Keep.mk (HK4.out.below hb)
      clear hb
      have hjc : (J.c == (q : Int)) = true := by rw [HK5.out.bj.ec, HP.out.count, List.length_map, HK5.out.qlen]; simp
      obtain ⟨c0, c1, c2, c3, c4, c5, c6⟩ := HK5.out.bj.bx.cs
      go_wp2_with fail
      refine (awake_any _ (HT.out.below HK5.out.bel)).mono ?_
      rintro e w6 ⟨rfl, hb⟩
      have HB := Lib.hid (below_next HK5.out.bel hb (Nat.le_refl _))
      clear hb
      go_wp2
      go_ret
      exact ⟨rfl, HB.out⟩
end Go.Proofs.YtjficpdfofmcnaaDoor

/- JournalKeeps: for every input the law returns true, and each argument reads afterwards as it read before. Conditions: the package variable digest.steps starts as the text lays it (tied by the card). -/
namespace Go.Proofs.YtjficpdfofmcnaaDoor.journalKeepsDone
open Go.ChangeShapes Go.WideShapes Go.ChangeAt Go.RowKit Go.Joins
open Go.ChangeMaps (open_string shut_string)
set_option linter.unusedVariables false

set_option maxRecDepth 100000 in
theorem contract (H : Type) (enc : TypeId × Value → H) (W : World) (base : Nat) (args : Array Value) (ds gs : List (DataW H)) (before : List MemPlace)
    (hval : ∀ (j : Nat) t v, Tryd.f4.params[j]? = some t → args[j]? = some v → Value.okWide Tryd.prog W .any base t v)
    (hW : DataW.Whole enc Tryd.prog Tryd.f4.params.toList Rows.journalKeepsSpec.vars false W args.toList ds gs before)
    (hsz0 : (DataW.weightsEach Tryd.prog (Tryd.f4.params.toList ++ (OpenSpec.ofChange Rows.journalKeepsSpec).bare.plain.varTypes Tryd.prog) (ds ++ gs)).all (· ≤ reachBytes) = true) (hL : laidMetH Tryd.prog Rows.journalKeepsRow.laid W) :
    Calls Tryd.prog 4 args W fun e W' => ∃ v, e = .returned v ∧ Rows.journalKeepsSpec.post enc Tryd.prog Tryd.f4 false true false false W args v W' := by
  have hT := tab_of hL
  have hsz : (DataW.weightsEach Tryd.prog (Tryd.f4.params.toList ++ []) (ds ++ gs)).all (· ≤ reachBytes) = true := hsz0
  have hW' := hW
  obtain ⟨p, q, hA0, hV, rfl, hfz, hnd⟩ := hW
  have hA : DataW.TrodAll enc Tryd.prog W 0 (fun _ => true) true Tryd.f4.params.toList args.toList ds p := hA0
  rw [Tryd.params4] at hA hval hsz
  obtain ⟨v0, vs0, d0, ds0, p0, q0, hargs, rfl, rfl, h0, t0⟩ := trodAll_cons hA
  obtain ⟨v1, vs1, d1, ds1, p1, q1, rfl, rfl, rfl, h1, t1⟩ := trodAll_cons t0
  obtain ⟨rfl, rfl, rfl⟩ := trodAll_nil t1
  obtain rfl : args = #[v0, v1] := by cases args; simp_all
  obtain ⟨rfl, rfl⟩ := trodVars_none hV
  have k0 := h0
  have lt0 : ∀ x ∈ p0, x.block < W.heap.size := by obtain ⟨m, hm⟩ := k0; exact DataW.trod_lt m _ _ _ hm
  have k1 := h1
  have lt1 : ∀ x ∈ p1, x.block < W.heap.size := by obtain ⟨m, hm⟩ := k1; exact DataW.trod_lt m _ _ _ hm
  obtain ⟨a0, rfl, rfl, rfl, f0⟩ := open_int Tryd.underlying3 (hval 0 3 v0 rfl rfl) h0
  have s0 := bounds_i64 f0
  obtain ⟨A1, n1, c1, l1, rfl, r1⟩ := open_secs (hval 1 22 v1 rfl rfl) h1
  clear hA0 hsz0
  refine (law_keeps a0 A1 n1 c1 l1 W r1 hT).mono fun e W' ⟨he, bel⟩ => ?_
  subst he
  exact ⟨_, rfl, _, _, _, [], _, [], hW', trodAll_mk1 (shut_bool Tryd.underlying4 _), (trodAll_cons_mk (Below.trod laidOut (by kernel_rfl) (of_decide_eq_true (by kernel_rfl)) k0 bel lt0) (trodAll_cons_mk (Below.trod laidOut (by kernel_rfl) (of_decide_eq_true (by kernel_rfl)) k1 bel lt1) (trodAll_mk0))), rfl, bel.frame _, fun h => by cases h⟩

theorem laid_met (os : Os) : laidMet Tryd.prog Rows.journalKeepsRow.laid ((laidWorld os).forCall (fun _ _ => 0) ⟨#[], #[.int .i64 0, .slice none 0 0], []⟩).memory :=
  laidMet_of_run' 8 (by kernel_rfl) (by kernel_rfl)
theorem reads (os : Os) {H : Type} (enc : TypeId × Value → H) : ∃ places, DataW.whole enc Tryd.prog ((laidWorld os).forCall (fun _ _ => 0) ⟨#[], #[.int .i64 0, .slice none 0 0], []⟩).memory Tryd.f4.params.toList Rows.journalKeepsSpec.vars false (#[.int .i64 0, .slice none 0 0] : Array Value).toList 8 = some ([.lit (.int .i64 0), .nil], [], places) :=
  ⟨[], by kernel_rfl⟩
set_option maxRecDepth 100000 in
theorem lifted (os : Os) (started : os.Started) (H : Type) (enc : TypeId × Value → H) (F : Stop.Interp) :
    ReturnsInHanded {} Tryd.checked os 4 .any ((OpenSpec.ofChange Rows.journalKeepsSpec).preRow enc Tryd.prog Tryd.f4 Rows.journalKeepsRow.domain false Rows.journalKeepsRow.laid) (((OpenSpec.ofChange Rows.journalKeepsSpec).at F).post enc Tryd.prog Tryd.f4 false true false false) := by
  obtain ⟨places, hx⟩ := reads os enc
  refine returnsInHanded_of_row (C := Tryd.checked) (s := OpenSpec.ofChange Rows.journalKeepsSpec) own started (by kernel_rfl) Tryd.func4
    (witness_row_at (enc := enc) (C := Tryd.checked) false (laidWorld os) #[.int .i64 0, .slice none 0 0] rfl (by kernel_rfl) (by kernel_rfl) (by kernel_rfl)
      (OpenSpec.preRow_of_cond 8 hx (by kernel_rfl) (fun k hk => by cases hk) (by kernel_rfl) (laid_met os))) ?_
  intro W base args ds gs before hval hW _ _ hsz hL _ _
  exact contract H enc W base args ds gs before hval hW hsz hL

theorem said : Rows.JournalKeepsSaid :=
  OpenClaim.holds_of_cond 4 Tryd.f4 rfl rfl rfl rfl rfl rfl rfl ⟨rfl, rfl, rfl, rfl, rfl⟩ rfl rfl rfl rfl rfl (by kernel_rfl) Tryd.func4 (by kernel_rfl)
    (of_decide_eq_true (by kernel_rfl)) (by unfold Func.isWrapper; first | (rw [if_pos (by decide +kernel)]; kernel_rfl) | (rw [if_neg (by decide +kernel)]; exact ⟨rfl, rfl⟩))
    (fun os started H enc _ F => by rw [OpenClaim.pre_eq_preRow]; exact lifted os started H enc F)
theorem plain (f : FuncId) (fn : Func) (hf : Tryd.pinned.checked.prog.funcNamed "mapsheets/mapsheetslaw25.JournalKeeps" = some f) (hfn : Tryd.pinned.checked.prog.funcs[f]? = some fn) :
    false = Tryd.pinned.checked.prog.looks [] ∧ ∀ (j : Nat) t, fn.params[j]? = some t → Tryd.pinned.checked.prog.wantsStandIn t = false := by
  obtain rfl : f = 4 := Option.some.inj ((show Tryd.prog.funcNamed "mapsheets/mapsheetslaw25.JournalKeeps" = some 4 by kernel_rfl).symm.trans hf) |>.symm
  obtain rfl : fn = Tryd.f4 := (Option.some.inj (Tryd.func4.symm.trans hfn)).symm
  refine ⟨by kernel_rfl, fun j t ht => ?_⟩
  rw [Tryd.params4] at ht
  have hm := Array.mem_of_getElem? ht
  simp only [List.mem_toArray, List.mem_cons, List.not_mem_nil, or_false] at hm
  rcases hm with rfl | rfl
  · exact (show Tryd.prog.wantsStandIn 3 = false by kernel_rfl)
  · exact (show Tryd.prog.wantsStandIn 22 = false by kernel_rfl)
end Go.Proofs.YtjficpdfofmcnaaDoor.journalKeepsDone
namespace Go.Proofs.YtjficpdfofmcnaaDoor
/-- THE STATEMENT -/
theorem journalKeeps_proved : Rows.JournalKeepsCardSaid :=
  Claim7.holds_tied_plain_at .later [] _ _ _ _ journalKeepsDone.said (fun _ h => by cases h) (by kernel_rfl) (fun _ h => by cases h) journalKeeps_row_tie rfl ⟨rfl, rfl⟩ (by kernel_rfl) rfl journalKeepsDone.plain (by kernel_rfl)
#print axioms journalKeeps_proved
end Go.Proofs.YtjficpdfofmcnaaDoor
