/- WireSequence. -/
import Derived.Test.YtogigdikpllieaaLaw02e
import Derived.Test.YtogigdikpllieaaRows2
namespace Go.Proofs.Ytogigdikpllieaa
open Go.RowKit Go.Joins

/-- An item, as it lies in memory and as it reads. -/
structure Itm where
  kind : Int
  n : Int
  s : ByteArray
  a : Option Addr
  m : Nat
  d : Nat
  x : List Int
def Itm.cells (t : Itm) : List Value := [.int .i64 t.kind, .int .i64 t.n, .string t.s, .slice t.a t.m t.d]
/-- Its bytes. -/
def Itm.enc (t : Itm) : List UInt8 := if t.kind = 0 then V.enc t.n else if t.kind = 1 then V.encText t.s.data.toList else V.encList t.x
/-- What is known of it. -/
structure Itm.Ok (w : World) (t : Itm) : Prop where
  ri : RI w t.a t.m t.d t.x
  ins : V.Ins t.x
  inn : V.In t.n
  ss : t.s.size ≤ 1048576
  ms : t.m ≤ 1048576
theorem Itm.Ok.below {w w' : World} {t : Itm} (h : t.Ok w) (hb : Below w.heap.size w w') : t.Ok w' := ⟨h.ri.below hb, h.ins, h.inn, h.ss, h.ms⟩
theorem Itm.enc_len {w : World} {t : Itm} (h : t.Ok w) : 1 ≤ t.enc.length ∧ t.enc.length ≤ 10485800 := by
  have h1 := h.ss
  have h2 := h.ms
  have h3 := h.ri.len
  unfold Itm.enc
  split
  · have := V.enc_length h.inn; omega
  · split
    · have := V.enc_length (n := (t.s.data.toList.length : Int)) (by unfold V.In; rw [show t.s.data.toList.length = t.s.size from rfl]; omega)
      unfold V.encText
      rw [List.length_append]
      rw [show t.s.data.toList.length = t.s.size from rfl] at this ⊢
      omega
    · have := V.enc_length (n := (t.x.length : Int)) (by unfold V.In; omega)
      have h4 := V.flat_length h.ins
      unfold V.encList
      rw [List.length_append]
      omega
theorem itm_take (l : List Itm) (k : Nat) (h : k < l.length) : (l.take (k + 1)).flatMap Itm.enc = (l.take k).flatMap Itm.enc ++ l[k].enc := by
  rw [List.take_succ_eq_append_getElem h, List.flatMap_append]
  simp
theorem itm_drop (l : List Itm) (k : Nat) (h : k < l.length) : (l.drop k).flatMap Itm.enc = l[k].enc ++ (l.drop (k + 1)).flatMap Itm.enc := by
  rw [List.drop_eq_getElem_cons h, List.flatMap_cons]
/-- Items in memory. -/
def RIt (w : World) (A : Option Addr) (n c : Nat) (l : List Itm) : Prop := Rd w 4 A n c (l.flatMap Itm.cells) ∧ ∀ t ∈ l, t.Ok w
theorem RIt.below {w w' : World} {A : Option Addr} {n c : Nat} {l : List Itm} (h : RIt w A n c l) (hb : Below w.heap.size w w') : RIt w' A n c l := ⟨h.1.below hb, fun t ht => (h.2 t ht).below hb⟩
theorem RIt.len {w : World} {A : Option Addr} {n c : Nat} {l : List Itm} (h : RIt w A n c l) : l.length = n := h.1.rows (fun _ => rfl) (by omega)
/-- The cells of one. -/
theorem RIt.at_ {w : World} {A : Option Addr} {n c : Nat} {l : List Itm} (h : RIt w A n c l) {k : Nat} (hk : k < l.length) : ∃ b o, A = some ⟨b, o, none⟩ ∧ b < w.heap.size ∧
    w.cell? ⟨b, o + k * 4, none⟩ = some (.int .i64 l[k].kind) ∧ w.cell? ⟨b, o + k * 4 + 1, none⟩ = some (.int .i64 l[k].n) ∧ w.cell? ⟨b, o + k * 4 + 2, none⟩ = some (.string l[k].s) ∧ w.cell? ⟨b, o + k * 4 + 3, none⟩ = some (.slice l[k].a l[k].m l[k].d) := by
  obtain ⟨b, o, e, hlt, hc⟩ := h.1.row (fun _ => rfl) hk h.len
  exact ⟨b, o, e, hlt, hc 0 _ rfl, hc 1 _ rfl, hc 2 _ rfl, hc 3 _ rfl⟩

set_option maxRecDepth 100000 in
set_option maxHeartbeats 4000000 in
theorem law_sequence (A : Option Addr) (n c : Nat) (l : List Itm) (B : Option Addr) (m d : Nat) (r : List UInt8) (w : World) (hl : RIt w A n c l) (hr : RB w B m d r) (hm : m ≤ 1048576) :
    Calls Try.prog 6 #[.slice A n c, .slice B m d] w fun e w' => e = .returned (.bool true) ∧ Below w.heap.size w w' := by
  have hln := hl.len
  have hrm := hr.len
  have HL := Lib.hid hl
  have HR := Lib.hid hr
  clear hl hr
  by_cases h100 : n ≤ 100
  · have d1 : decide ((100 : Int) < (n : Int)) = false := by simp; omega
    go_enter Try.func6, Try.ntmps6
    go_wp2
    go_loopw [5, 6] (fun v i wr => ∃ (k : Nat) (A' : Option Addr) (n' c' : Nat), k ≤ n ∧ i = .int .i64 k ∧ v = .slice A' n' c' ∧ RB wr A' n' c' ((l.take k).flatMap Itm.enc) ∧ n' ≤ k * 10485800 ∧ Below w.heap.size w wr) (fun _ i _ => n - (intOf i).toNat)
    case atStart => exact ⟨0, none, 0, 0, Nat.zero_le _, rfl, rfl, RB.none_ _, by omega, Below.refl _ _⟩
    case round =>
      obtain ⟨k, A', n', c', hk, rfl, rfl, ht, hn', hb⟩ := hrel
      have HT := Lib.hid ht
      have HB := Lib.hid hb
      clear ht hb
      by_cases hlt : k < n
      · obtain ⟨b, o, rfl, hbl, hc0, hc1, hc2, hc3⟩ := (HL.out.below HB.out).at_ (k := k) (by omega)
        have HF : Keep ((l.take (k + 1)).flatMap Itm.enc = (l.take k).flatMap Itm.enc ++ l[k].enc) := ⟨itm_take l k (by omega)⟩
        have HOK : Keep (l[k].Ok wr) := ⟨((HL.out.below HB.out).2 _ (List.getElem_mem _))⟩
        have HE : Keep (l[k].enc.length ≤ 10485800) := ⟨(Itm.enc_len HOK.out).2⟩
        have hss := HOK.out.ss
        have hms := HOK.out.ms
        generalize l[k] = y at *
        have hfin : ∀ (A2 : Option Addr) (n2 c2 : Nat) (w2 : World) (q : List UInt8), RetT wr wr.heap.size ((l.take k).flatMap Itm.enc ++ q) (.returned (.slice A2 n2 c2)) w2 → y.enc = q → RB w2 A2 n2 c2 ((l.take (k + 1)).flatMap Itm.enc) ∧ n2 ≤ (k + 1) * 10485800 ∧ Below w.heap.size w w2 := by
          rintro A2 n2 c2 w2 q ⟨A3, n3, c3, he, ho, hb⟩ rfl
          simp only [Ending.returned.injEq, Value.slice.injEq] at he
          obtain ⟨rfl, rfl, rfl⟩ := he
          refine ⟨by rw [HF.out]; exact ho.rb, ?_, HB.out.trans (hb.mono HB.out.size)⟩
          have h1 := ho.rb.len
          have h2 := HT.out.len
          have h3 := HE.out
          rw [List.length_append] at h1
          omega
        have HFIN := Keep.mk hfin
        clear hfin
        by_cases h0 : y.kind = 0
        · have g0 : (y.kind == 0) = true := by simp [h0]
          have HY : Keep (y.enc = V.enc y.n) := ⟨by unfold Itm.enc; rw [if_pos h0]⟩
          clear h0
          go_wp2_with fail
          refine (putInt_any A' n' c' _ y.n wr HT.out HOK.out.inn (by omega)).mono ?_
          intro e w2 hp
          obtain ⟨A2, n2, c2, rfl, hrest⟩ := hp
          have HP : Keep _ := ⟨HFIN.out A2 n2 c2 w2 _ ⟨A2, n2, c2, rfl, hrest⟩ HY.out⟩
          clear hrest
          go_wp2
          go_roundw
          case rel => exact ⟨k + 1, A2, n2, c2, by omega, by go_num, rfl, HP.out.1, HP.out.2.1, HP.out.2.2⟩
          case measure => simp [intOf]; omega
        · have g0 : (y.kind == 0) = false := by simp [h0]
          by_cases h1 : y.kind = 1
          · have g1 : (y.kind == 1) = true := by simp [h1]
            have HY : Keep (y.enc = V.encText y.s.data.toList) := ⟨by unfold Itm.enc; rw [if_neg h0, if_pos h1]⟩
            clear h0 h1
            go_wp2_with fail
            refine (putText_any A' n' c' _ y.s wr HT.out (by omega)).mono ?_
            intro e w2 hp
            obtain ⟨A2, n2, c2, rfl, hrest⟩ := hp
            have HP : Keep _ := ⟨HFIN.out A2 n2 c2 w2 _ ⟨A2, n2, c2, rfl, hrest⟩ HY.out⟩
            clear hrest
            go_wp2
            go_roundw
            case rel => exact ⟨k + 1, A2, n2, c2, by omega, by go_num, rfl, HP.out.1, HP.out.2.1, HP.out.2.2⟩
            case measure => simp [intOf]; omega
          · have g1 : (y.kind == 1) = false := by simp [h1]
            have HY : Keep (y.enc = V.encList y.x) := ⟨by unfold Itm.enc; rw [if_neg h0, if_neg h1]⟩
            clear h0 h1
            go_wp2_with fail
            refine (putList_any A' n' c' _ y.a y.m y.d y.x wr HT.out HOK.out.ri HOK.out.ins (by omega)).mono ?_
            intro e w2 hp
            obtain ⟨A2, n2, c2, rfl, hrest⟩ := hp
            have HP : Keep _ := ⟨HFIN.out A2 n2 c2 w2 _ ⟨A2, n2, c2, rfl, hrest⟩ HY.out⟩
            clear hrest
            go_wp2
            go_roundw
            case rel => exact ⟨k + 1, A2, n2, c2, by omega, by go_num, rfl, HP.out.1, HP.out.2.1, HP.out.2.2⟩
            case measure => simp [intOf]; omega
      · obtain rfl : k = n := by omega
        have HT1 : Hid (RB wr A' n' c' (l.flatMap Itm.enc)) := by have h := HT.out; rwa [List.take_of_length_le (by omega)] at h
        clear HT
        have hwr := HB.out.size
        go_wp2_with (first
          | (at_builtin; refine append_b _ rfl (.tmp 53) (.tmp 54) rfl w.heap.size _ 0 0 [] rfl (tb_empty _ _) A' n' c' _ rfl (HT1.out.below (below_alloc1 _ _)) (by omega) (by simp; omega) ?_; intro A2 n2 c2 w2 ht hb; have hn2 : (l.flatMap Itm.enc).length = n2 := ht.len; have hn2' := HT1.out.len; have HO := Lib.hid ht; have HB2 : Hid (Below w.heap.size w w2) := (HB.out.alloc hwr _).trans hb; obtain rfl : n' = n2 := (by omega); clear ht hb hn2 hn2')
          | (at_builtin; refine append_b _ rfl (.tmp 55) (.tmp 56) rfl w.heap.size A2 n' c2 _ rfl HO.out B m d r rfl (HR.out.below HB2.out) (by omega) HB2.out.size ?_; intro A3 n3 c3 w3 ht hb; have hn3 : n3 ≤ 1100000000 := (by have h1 := ht.len; have h2 := HO.out.len; rw [List.length_append] at h1; omega); have HO3 : Hid (RB w3 A3 n3 c3 (l.flatMap Itm.enc ++ r)) := ht.rb; have HB3 : Hid (Below w.heap.size w w3) := HB2.out.trans hb; clear ht hb))
        clear HT1 HO HB2 HB hwr hlt hk hn'
        go_loopw [5, 7] (fun v i wr => ∃ (j : Nat) (A' : Option Addr) (n' c' : Nat), j ≤ k ∧ i = .int .i64 j ∧ v = .slice A' n' c' ∧ RB wr A' n' c' ((l.drop j).flatMap Itm.enc ++ r) ∧ n' ≤ 1100000000 ∧ Below w.heap.size w wr) (fun _ i _ => k - (intOf i).toNat)
        case atStart => exact ⟨0, A3, n3, c3, Nat.zero_le _, rfl, rfl, by simpa using HO3.out, hn3, HB3.out⟩
        case round =>
          obtain ⟨j, A', n', c', hj, rfl, rfl, ht, hn', hb⟩ := hrel
          have HT := Lib.hid ht
          have HB := Lib.hid hb
          have hlen := ht.len
          have hcap := ht.cap
          clear ht hb HO3 HB3 hn3
          by_cases hlt : j < k
          · obtain ⟨b, o, rfl, hbl, hc0, hc1, hc2, hc3⟩ := (HL.out.below HB.out).at_ (k := j) (by omega)
            have HF : Keep ((l.drop j).flatMap Itm.enc = l[j].enc ++ (l.drop (j + 1)).flatMap Itm.enc) := ⟨itm_drop l j (by omega)⟩
            have HOK : Keep (l[j].Ok wr) := ⟨((HL.out.below HB.out).2 _ (List.getElem_mem _))⟩
            have HE := Itm.enc_len HOK.out
            have hss := HOK.out.ss
            have hms := HOK.out.ms
            generalize l[j] = y at *
            generalize hrest : (l.drop (j + 1)).flatMap Itm.enc = q at *
            have HT1 : Hid (RB wr A' n' c' (y.enc ++ (q ++ r))) := by have h := HT.out; rwa [HF.out, List.append_assoc] at h
            have HQ : Keep (q = (l.drop (j + 1)).flatMap Itm.enc) := ⟨hrest.symm⟩
            have hle : y.enc.length ≤ n' := by have h := HT1.out.len; rw [List.length_append] at h; omega
            obtain ⟨u, hu⟩ : ∃ u, u = y.enc.length := ⟨_, rfl⟩
            have HU : Keep (u = y.enc.length) := ⟨hu⟩
            have hu1 : 1 ≤ u := by omega
            have hun : u ≤ n' := by omega
            have HC : Keep (RB wr (cutA A' u c' 1) (n' - u) (c' - u) (q ++ r)) := ⟨by
              have h := HT1.out.cut (i := u) (j := n') (m := c') hun (Nat.le_refl _) hcap (Nat.le_refl _)
              rw [List.take_of_length_le (by have := HT1.out.len; omega), hu, List.drop_left] at h
              rw [hu]
              exact h⟩
            have hsl := run_from_b A' n' c' u (u : Int) rfl hun
            have nn : (y.n != y.n) = false := by simp
            clear hlen HF HE hle hu hrest HT
            have b1 : decide ((u : Int) < 1) = false := by simp; omega
            by_cases h0 : y.kind = 0
            · have g0 : (y.kind == 0) = true := by simp [h0]
              have HY : Keep (y.enc = V.enc y.n) := ⟨by unfold Itm.enc; rw [if_pos h0]⟩
              have H1 : Keep (∀ q, Calls Try.prog 11 #[.slice A' n' c'] (wr.drewN q) (RetD (wr.drewN q) (y.n, u, 0))) := ⟨fun q => by
                have hd := int_any A' n' c' _ (wr.drewN q) (HT1.out.below (below_draws _ _ _))
                rw [HY.out, V.dec_enc HOK.out.inn, ← HY.out, ← HU.out] at hd
                exact hd⟩
              clear h0
              go_wp2
              go_quiet (fail)
              go_wp2_with fail
              refine (H1.out _).mono ?_
              rintro e w8 ⟨rfl, rfl⟩
              go_wp2_with fail
              refine (sameInts_true y.a y.m y.d y.a y.m y.d y.x _ (HOK.out.ri.below (below_draws _ _ _)) (HOK.out.ri.below (below_draws _ _ _))).mono ?_
              rintro e w9 ⟨rfl, q9, hw9⟩
              have HB9 : Hid (Below wr.heap.size wr w9) := by rw [hw9]; exact (below_draws _ _ _).trans (below_draws _ _ _)
              clear hw9
              go_wp2
              go_roundw
              case rel => exact ⟨j + 1, _, _, _, by omega, by go_num, rfl, by rw [← HQ.out]; exact HC.out.below HB9.out, by omega, HB.out.trans (HB9.out.mono HB.out.size)⟩
              case measure => simp [intOf]; omega
            · have g0 : (y.kind == 0) = false := by simp [h0]
              by_cases h1 : y.kind = 1
              · have g1 : (y.kind == 1) = true := by simp [h1]
                have HY : Keep (y.enc = V.encText y.s.data.toList) := ⟨by unfold Itm.enc; rw [if_neg h0, if_pos h1]⟩
                have H1 : Keep (∀ q, Calls Try.prog 17 #[.slice A' n' c', .int .i64 (y.s.size : Int)] (wr.drewN q) (fun e w' => e = .returned (.tuple #[.string y.s, .int .i64 (u : Int), .int .i64 0]) ∧ wr.drewN q = w')) := ⟨fun q => by
                  have hd := text_any A' n' c' _ (y.s.size : Int) (wr.drewN q) (HT1.out.below (below_draws _ _ _))
                  rw [HY.out, V.decText_enc (by unfold V.In; rw [show y.s.data.toList.length = y.s.size from rfl]; omega) (by rw [show y.s.data.toList.length = y.s.size from rfl]; omega), ← HY.out, ← HU.out] at hd
                  refine hd.mono fun e w' h => ⟨?_, h.2⟩
                  rw [h.1]⟩
                clear h0 h1
                go_wp2
                go_quiet (fail)
                go_wp2_with fail
                refine (H1.out _).mono ?_
                rintro e w8 ⟨rfl, rfl⟩
                go_wp2_with fail
                refine (sameInts_true y.a y.m y.d y.a y.m y.d y.x _ (HOK.out.ri.below (below_draws _ _ _)) (HOK.out.ri.below (below_draws _ _ _))).mono ?_
                rintro e w9 ⟨rfl, q9, hw9⟩
                have HB9 : Hid (Below wr.heap.size wr w9) := by rw [hw9]; exact (below_draws _ _ _).trans (below_draws _ _ _)
                clear hw9
                go_wp2
                go_roundw
                case rel => exact ⟨j + 1, _, _, _, by omega, by go_num, rfl, by rw [← HQ.out]; exact HC.out.below HB9.out, by omega, HB.out.trans (HB9.out.mono HB.out.size)⟩
                case measure => simp [intOf]; omega
              · have g1 : (y.kind == 1) = false := by simp [h1]
                have HY : Keep (y.enc = V.encList y.x) := ⟨by unfold Itm.enc; rw [if_neg h0, if_neg h1]⟩
                have hxl := HOK.out.ri.len
                have H1 : Keep (∀ q, Calls Try.prog 21 #[.slice A' n' c', .int .i64 (y.m : Int)] (wr.drewN q) (RetL (wr.drewN q) (y.x, u, 0))) := ⟨fun q => by
                  have hd := list_any A' n' c' _ (y.m : Int) (wr.drewN q) (HT1.out.below (below_draws _ _ _)) (by omega)
                  rw [HY.out, V.decList_enc HOK.out.ins (by unfold V.In; omega) (by omega), ← HY.out, ← HU.out] at hd
                  exact hd⟩
                clear h0 h1
                go_wp2
                go_quiet (fail)
                go_wp2_with fail
                refine (H1.out _).mono ?_
                rintro e w8 ⟨A8, n8, c8, rfl, hr8, hb8⟩
                have HR8 := Lib.hid hr8
                have HB8 : Hid (Below wr.heap.size wr w8) := (below_draws _ _ _).trans (hb8.mono (below_draws 0 _ _).size)
                have HC8 := HC.out.below HB8.out
                have HC8' := Lib.hid HC8
                have k0 : w8.cell? ⟨b, o + j * 4, none⟩ = some (.int .i64 y.kind) := (HB8.out.cell (p := ⟨_, _, none⟩) hbl).trans hc0
                have k1 : w8.cell? ⟨b, o + j * 4 + 1, none⟩ = some (.int .i64 y.n) := (HB8.out.cell (p := ⟨_, _, none⟩) hbl).trans hc1
                have k2 : w8.cell? ⟨b, o + j * 4 + 2, none⟩ = some (.string y.s) := (HB8.out.cell (p := ⟨_, _, none⟩) hbl).trans hc2
                have k3 : w8.cell? ⟨b, o + j * 4 + 3, none⟩ = some (.slice y.a y.m y.d) := (HB8.out.cell (p := ⟨_, _, none⟩) hbl).trans hc3
                clear hr8 hb8 HC8
                go_wp2_with fail
                refine (sameInts_true A8 n8 c8 y.a y.m y.d y.x _ HR8.out (HOK.out.ri.below HB8.out)).mono ?_
                rintro e w9 ⟨rfl, q9, hw9⟩
                have HB9 : Hid (Below wr.heap.size wr w9) := by rw [hw9]; exact HB8.out.trans (below_draws _ _ _)
                clear hw9
                go_wp2
                go_roundw
                case rel => exact ⟨j + 1, _, _, _, by omega, by go_num, rfl, by rw [← HQ.out]; exact HC.out.below HB9.out, by omega, HB.out.trans (HB9.out.mono HB.out.size)⟩
                case measure => simp [intOf]; omega
          · obtain rfl : j = k := by omega
            have HT1 : Hid (RB wr A' n' c' r) := by have h := HT.out; rwa [List.drop_of_length_le (by omega)] at h
            clear HT
            go_wp2_with fail
            refine (same2_true A' n' c' B m d r _ HT1.out (HR.out.below HB.out)).mono ?_
            rintro e w9 ⟨rfl, q9, hw9⟩
            have HB9 : Hid (Below w.heap.size w w9) := by rw [hw9]; exact HB.out.trans (below_draws _ _ _)
            clear hw9
            go_wp2_with fail
            refine (awake_any _).mono ?_
            rintro e w10 ⟨rfl, hb⟩
            have HB10 : Hid (Below w.heap.size w w10) := HB9.out.trans (hb.mono HB9.out.size)
            clear hb
            go_wp2
            go_ret
            exact ⟨rfl, HB10.out⟩
  · have d1 : decide ((100 : Int) < (n : Int)) = true := by simp; omega
    go_enter Try.func6, Try.ntmps6
    go_wp2_with fail
    refine (awake_any _).mono ?_
    rintro e w2 ⟨rfl, hb⟩
    have HB := Lib.hid hb
    clear hb
    go_wp2
    go_ret
    exact ⟨rfl, HB.out⟩
end Go.Proofs.Ytogigdikpllieaa
