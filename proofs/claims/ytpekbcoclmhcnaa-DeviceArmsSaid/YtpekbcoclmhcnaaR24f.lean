/- The reference's Kept, Crash. -/
import Derived.Test.YtpekbcoclmhcnaaR24e
namespace Go.Proofs.Ytpekbcoclmhcnaa
open Go.RowKit Go.Joins

/-- The pending writes that are kept, as they lie in memory. -/
def keptPe (keep : List Int) : Nat → List Pe → List Pe
  | _, [] => []
  | i, p :: ps => if keep.contains (i : Int) = true then p :: keptPe keep (i + 1) ps else keptPe keep (i + 1) ps
theorem keptPe_m (keep : List Int) : ∀ (ps : List Pe) (i : Nat), (keptPe keep i ps).map Pe.m = Dv.kept keep i (ps.map Pe.m)
  | [], _ => rfl
  | p :: ps, i => by
    simp only [keptPe, List.map_cons, Dv.kept]
    split
    · rw [List.map_cons, keptPe_m keep ps (i + 1)]
    · exact keptPe_m keep ps (i + 1)
theorem keptPe_sub (keep : List Int) : ∀ (ps : List Pe) (i : Nat), ∀ p ∈ keptPe keep i ps, p ∈ ps
  | [], _, p, h => by simp [keptPe] at h
  | q :: ps, i, p, h => by
    unfold keptPe at h
    split at h
    · rcases List.mem_cons.1 h with rfl | h
      · exact List.mem_cons_self ..
      · exact List.mem_cons_of_mem _ (keptPe_sub keep ps (i + 1) p h)
    · exact List.mem_cons_of_mem _ (keptPe_sub keep ps (i + 1) p h)
theorem keptPe_snoc (keep : List Int) : ∀ (ps : List Pe) (i : Nat) (p : Pe), keptPe keep i (ps ++ [p]) = keptPe keep i ps ++ if keep.contains ((i + ps.length : Nat) : Int) = true then [p] else []
  | [], i, p => by simp [keptPe]
  | a :: ps, i, p => by
    have h := keptPe_snoc keep ps (i + 1) p
    simp only [List.cons_append, keptPe, h, List.length_cons]
    rw [show i + 1 + ps.length = i + (ps.length + 1) by omega]
    split <;> simp
theorem keptPe_take (keep : List Int) (ps : List Pe) (k : Nat) (h : k < ps.length) : keptPe keep 0 (ps.take (k + 1)) = keptPe keep 0 (ps.take k) ++ if keep.contains (k : Int) = true then [ps[k]] else [] := by
  rw [List.take_succ_eq_append_getElem h, keptPe_snoc]
  simp [Nat.min_eq_left (Nat.le_of_lt h)]
theorem contains_snoc (l : List Int) (x y : Int) : (l ++ [y]).contains x = (l.contains x || y == x) := by
  rw [Bool.eq_iff_iff]
  simp
  rw [eq_comm (a := x) (b := y)]
theorem contains_take (keep : List Int) (x : Int) (j : Nat) (h : j < keep.length) : (keep.take (j + 1)).contains x = ((keep.take j).contains x || keep[j] == x) := by
  rw [List.take_succ_eq_append_getElem h, contains_snoc]
/-- Old bytes lie in no new block. -/
theorem away_old {s : Sl} {w : World} {A : Option Addr} {n c N : Nat} (h : ∀ a, A = some a → N ≤ a.block) (hs : s.Ok w) (hN : w.heap.size ≤ N) : s.Away ((Value.slice A n c).ownBlock) := fun hn a ha hg => by
  have h1 := hs.lt hn ha
  cases A with
  | none => simp [Value.ownBlock] at hg
  | some x =>
    have h2 := h x rfl
    have h3 : x.block = a.block := by simpa [Value.ownBlock] using hg
    omega
/-- What Kept leaves: a list of the pending writes that are kept. -/
def RetGP (w : World) (L : List Pe) (e : Ending) (w' : World) : Prop := ∃ A n c, e = .returned (.slice A n c) ∧ RP w' A n c L ∧ Below w.heap.size w w'

set_option maxHeartbeats 1000000 in
theorem kept_any (A : Option Addr) (n c : Nat) (P : List Pe) (B : Option Addr) (m d : Nat) (keep : List Int) (w : World) (hP : RP w A n c P) (hk : RI w B m d keep) (hn : n ≤ 100000) :
    Calls Try.prog 30 #[.slice A n c, .slice B m d] w (RetGP w (keptPe keep 0 P)) := by
  have HP := Keep.mk hP
  have HK := Keep.mk hk
  have hpl := hP.len
  have hkl := hk.len
  have hbig := Nat.le_trans hk.cap hk.big
  unfold maxLen at hbig
  have HPL := Keep.mk hpl
  have HKL := Keep.mk hkl
  clear hP hk hpl hkl
  go_enter Try.func30, Try.ntmps30
  go_wp2_with fail
  go_loopw [5, 6] (fun v i wr => ∃ (k n' : Nat) (A' : Option Addr) (c' : Nat), k ≤ n ∧ i = .int .i64 k ∧ v = .slice A' n' c' ∧ n' ≤ k ∧ GP wr w.heap.size A' n' c' (keptPe keep 0 (P.take k)) ∧ Below w.heap.size w wr ∧ Keep (∀ a, A' = some a → w.heap.size ≤ a.block)) (fun _ i _ => n - (intOf i).toNat)
  case atStart => exact ⟨0, 0, none, 0, Nat.zero_le _, rfl, rfl, Nat.le_refl _, by simpa [keptPe] using GP.nil _ _, Below.refl _ _, ⟨fun a h => by cases h⟩⟩
  case round =>
    obtain ⟨k, n', A', c', hk, rfl, rfl, hn', hg, hb, HNW⟩ := hrel
    have HG := Keep.mk hg
    have HB := Lib.hid hb
    clear hg hb
    by_cases hlt : k < n
    · have hkP : k < P.length := by have := HPL.out; omega
      obtain ⟨wo, rfl⟩ : ∃ wo : World, wo = wr := ⟨_, rfl⟩
      go_wp2_with fail
      go_loop [7, 8] (fun v i => ∃ j : Nat, j ≤ m ∧ i = .int .i64 j ∧ v = .bool ((keep.take j).contains (k : Int))) (fun _ i => m - (intOf i).toNat)
      case atStart => exact ⟨0, Nat.zero_le _, rfl, by simp⟩
      case round =>
        obtain ⟨j, hj, rfl, rfl⟩ := hrel
        by_cases hjt : j < m
        · have hjK : j < keep.length := by have := HKL.out; omega
          obtain ⟨b, o, hbo, hbl, hck⟩ := (HK.out.below HB.out).at_ (k := j) hjK
          have HCT := Keep.mk (contains_take keep (k : Int) j hjK)
          generalize keep[j] = kj at *
          subst hbo
          cases hcc : (keep.take j).contains (k : Int)
          · rw [hcc] at HCT
            clear hcc
            by_cases hx : kj = (k : Int)
            · have e1 : (kj == (k : Int)) = true := by simpa using hx
              rw [e1] at HCT
              clear hx
              go_wp2
              go_round
              case rel => exact ⟨j + 1, by omega, by go_num, by rw [HCT.out]; rfl⟩
              case measure => simp [intOf]; omega
            · have e1 : (kj == (k : Int)) = false := by simpa using hx
              rw [e1] at HCT
              clear hx
              go_wp2
              go_round
              case rel => exact ⟨j + 1, by omega, by go_num, by rw [HCT.out]; rfl⟩
              case measure => simp [intOf]; omega
          · rw [hcc] at HCT
            clear hcc
            go_wp2
            go_round
            case rel => exact ⟨j + 1, by omega, by go_num, by rw [HCT.out]; simp⟩
            case measure => simp [intOf]; omega
        · obtain rfl : m = j := by omega
          have hct : keep.take m = keep := List.take_of_length_le (by have := HKL.out; omega)
          rw [hct]
          have HKT := Keep.mk (keptPe_take keep P k hkP)
          clear hct
          obtain ⟨b, o, hbo, hbl, hck, hck1, hr⟩ := (HP.out.below HB.out).at_ (k := k) hkP
          have HPK := Keep.mk (HP.out.ok _ (List.getElem_mem hkP))
          generalize P[k] = pk at *
          subst hbo
          clear hr
          cases hcc : keep.contains (k : Int)
          · rw [hcc] at HKT
            clear hcc
            go_wp2
            go_roundw
            case rel => exact ⟨k + 1, n', A', c', by omega, by go_num, rfl, by omega, by rw [HKT.out]; simpa using HG.out, HB.out, HNW⟩
            case measure => simp [intOf]; omega
          · rw [hcc] at HKT
            clear hcc
            go_wp2_with (at_builtin; refine wpList_append_app _ rfl (.tmp 31) (.tmp 36) 23 rfl w.heap.size 53 (.agg #[.int .i64 0, .slice none 0 0]) 2 32 Try.underlying23 wr_info rfl (by decide) (by decide) (.slice A' n' c') n' ((keptPe keep 0 (P.take k)).flatMap Pe.cells) rfl (HG.out.tgt.below (below_alloc1 _ _)) (some ⟨wo.heap.size, 0, none⟩) 1 1 [.int .i64 pk.k, .slice pk.s.a pk.s.n pk.s.c] rfl (rd_two wo _ _ _) (by simp [Value.oneCell']) (by omega) (by have := HB.out.size; simp; omega) ?_; intro A3 c3 w3 ha3; have HA3 := Keep.mk ha3; clear ha3)
            go_roundw
            case rel =>
              refine ⟨k + 1, n' + 1, A3, c3, by omega, by go_num, rfl, by omega, ?_, HB.out.trans (((below_alloc1 _ _).mono HB.out.size).trans HA3.out.below), ⟨fun a ha => ?_⟩⟩
              · rw [HKT.out]
                exact GP.app (Q := [pk]) (HG.out.below (below_alloc1 _ _)) HA3.out (fun p hp => by simp only [List.mem_singleton] at hp; subst hp; exact (HPK.out.below HB.out).below (below_alloc1 _ _)) (fun p hp => by simp only [List.mem_singleton] at hp; subst hp; exact away_old HNW.out HPK.out (Nat.le_refl _))
              · rcases HA3.out.at_ a ha with h | h
                · cases A' with
                  | none => simp [Value.ownBlock] at h
                  | some a' =>
                    have h1 := HNW.out a' rfl
                    have h2 : a'.block = a.block := by simpa [Value.ownBlock] using h
                    omega
                · have h1 := h.1
                  have h2 := HB.out.size
                  simp at h1
                  omega
            case measure => simp [intOf]; omega
    · obtain rfl : n = k := by omega
      go_wp2
      go_ret
      refine ⟨A', n', c', rfl, ?_, HB.out⟩
      have := HG.out.rp
      rwa [List.take_of_length_le (by have := HPL.out; omega)] at this

theorem kept_fits (keep : List Int) (P : List Pe) (h : ∀ p ∈ P, p.s.l.length ≤ 200) : ∀ p ∈ keptPe keep 0 P, p.s.l.length ≤ 200 := fun p hp => h p (keptPe_sub keep P 0 p hp)
set_option maxHeartbeats 1000000 in
theorem rcrash_any (d : Dk) (B : Option Addr) (m c : Nat) (keep : List Int) (K : Nat) (w : World) (h : d.Ok w) (hk : RI w B m c keep) (hf : Dv.Fits K d.m) (hK : K ≤ 1000) :
    Calls Try.prog 26 #[.agg #[.slice d.a d.n d.c, .slice d.pa d.pn d.pc, .int .i64 d.left, .bool d.down], .slice B m c] w (RetK w d.Av (Dv.crash d.m keep)) := by
  have HD := Keep.mk h
  have HF := Keep.mk hf
  have HK := Keep.mk hk
  have hns : d.n ≤ 4096 := by have := hf.ns; simpa [Dk.m, h.sec.len] using this
  have hnp : d.pn ≤ 1000 := by have := hf.np; simp [Dk.m, h.pen.len] at this; omega
  have CT := Keep.mk (fun (X : World) (hX : Below w.heap.size w X) (A' : Option Addr) (n' c' : Nat) (hP : RP X A' n' c' (keptPe keep 0 d.P)) => durable_any d A' n' c' (keptPe keep 0 d.P) X (HD.out.below hX) hP HF.out.ss (kept_fits keep d.P fun p hp => HF.out.sp p.m (List.mem_map.2 ⟨p, hp, rfl⟩)) hns)
  have CK := Keep.mk (fun (X : World) (hX : Below w.heap.size w X) => kept_any d.pa d.pn d.pc d.P B m c keep X (HD.out.pen.below hX) (HK.out.below hX) (by omega))
  clear h hf hk
  go_enter Try.func26, Try.ntmps26
  go_upto_region 1 with (fail)
  have IX := Keep.mk ((Bx.new w [.slice d.a d.n d.c, .slice d.pa d.pn d.pc, .int .i64 d.left, .bool d.down] 25).alloc (.cells #[.slice none 0 0, .slice none 0 0, .int .i64 0, .bool false] 25))
  have OX := Keep.mk (Bx.new (w.alloc (.cells #[.slice d.a d.n d.c, .slice d.pa d.pn d.pc, .int .i64 d.left, .bool d.down] 25)) [.slice none 0 0, .slice none 0 0, .int .i64 0, .bool false] 25)
  have HB : Hid (Below w.heap.size w ((w.alloc (.cells #[.slice d.a d.n d.c, .slice d.pa d.pn d.pc, .int .i64 d.left, .bool d.down] 25)).alloc (.cells #[.slice none 0 0, .slice none 0 0, .int .i64 0, .bool false] 25))) := (below_alloc1 _ _).alloc (by simp) _
  generalize hw1 : (w.alloc (.cells #[.slice d.a d.n d.c, .slice d.pa d.pn d.pc, .int .i64 d.left, .bool d.down] 25)).alloc (.cells #[.slice none 0 0, .slice none 0 0, .int .i64 0, .bool false] 25) = w1 at *
  rw [World.size_alloc] at OX
  clear hw1
  have HDR : Hid (Below w1.heap.size w1 w1.drew) := below_draws _ _ 1
  have HDW := Lib.hid (below_next HB.out HDR.out (Nat.le_refl _))
  have KS : Keep (∀ X, Bx X w.heap.size [.slice d.a d.n d.c, .slice d.pa d.pn d.pc, .int .i64 d.left, .bool d.down] → X.cell? ⟨w.heap.size, 0, none⟩ = some (.slice d.a d.n d.c) ∧ X.cell? ⟨w.heap.size, 1, none⟩ = some (.slice d.pa d.pn d.pc) ∧ X.cell? ⟨w.heap.size, 2, none⟩ = some (.int .i64 d.left) ∧ X.cell? ⟨w.heap.size, 3, none⟩ = some (.bool d.down)) := ⟨fun X h => ⟨h.cell 0 _ rfl, h.cell 1 _ rfl, h.cell 2 _ rfl, h.cell 3 _ rfl⟩⟩
  go_region_held3 (fun X => X.cell? ⟨w.heap.size, 0, none⟩ = some (.slice d.a d.n d.c) ∧ X.cell? ⟨w.heap.size, 1, none⟩ = some (.slice d.pa d.pn d.pc) ∧ X.cell? ⟨w.heap.size, 2, none⟩ = some (.int .i64 d.left) ∧ X.cell? ⟨w.heap.size, 3, none⟩ = some (.bool d.down))
    (first | exact KS.out _ (IX.out.below HDR.out) | exact KS.out _ ((IX.out.below HDR.out).below HBM.out) | exact KS.out _ (((IX.out.below HDR.out).below HBM.out).below HBN.out) | exact KS.out _ ((((((((IX.out.below HDR.out).below HBM.out).below HBN.out).other (by simp) _).other (by simp) _).other (by simp) _).other (by simp) _)))
    (first
      | (go_at_call 30; ((refine (CK.out _ HDW.out).mono ?_); rintro e wm ⟨A1, n1, c1, rfl, hrp, hb⟩; have HBM := Lib.hid hb; have HRP := Keep.mk hrp; have HBMW := Lib.hid (below_next HDW.out hb (Nat.le_refl _)); clear hb hrp))
      | (go_at_call 39; ((refine (CT.out _ HBMW.out _ _ _ HRP.out).mono ?_); rintro e wn ⟨A2, n2, c2, S2, rfl, hrs, hSm, hb, hn1, hn2⟩; have HN1 := Keep.mk hn1; have HN2 := Keep.mk hn2; have HBN := Lib.hid hb; have HRS := Keep.mk hrs; have HSM := Keep.mk hSm; have OXN := Keep.mk (((OX.out.below HDR.out).below HBM.out).below hb); have o0 := OXN.out.cell 0 _ rfl; have o1 := OXN.out.cell 1 _ rfl; have o2 := OXN.out.cell 2 _ rfl; have o3 := OXN.out.cell 3 _ rfl; have of := OXN.out.fz; clear hb hrs hSm hn1 hn2)))
  go_wp2
  refine bodyPost_ret (v := .agg #[.slice A2 n2 c2, .slice none 0 0, .int .i64 (-1), .bool false]) (by simp [results, Try.results26, go_sem, o0, o1, o2, o3]) rfl ?_
  have hz := HBMW.out.size
  have hz1 := HB.out.size
  have hzm := HBM.out.size
  have hol := OX.out.lt
  have hzd := HDR.out.size
  have hoff : Off [w.heap.size + 1] wn _ := off_set4 wn (w.heap.size + 1) (.slice A2 n2 c2) (.slice none 0 0) (.int .i64 (-1)) (.bool false)
  refine ⟨⟨A2, n2, c2, S2, none, 0, 0, [], -1, false⟩, rfl, ⟨HRS.out.off hoff (fun b hb _ a ha => ?_) (fun b hb s hs _ a ha => ?_), RP.none_ _⟩, ?_, (HBMW.out.trans (HBN.out.mono hz)).trans (hoff.below (by have := HBN.out.size; omega) (by simp)), fun b hb _ => ⟨fun _ a ha => ?_, fun s hs _ a ha => ?_, (fun h => absurd h (by simp)), (fun p hp => by cases hp)⟩⟩
  · simp only [List.mem_singleton] at hb
    have := HN1.out a ha
    omega
  · simp only [List.mem_singleton] at hb
    have := HN2.out s hs a ha
    omega
  · simp only [Dk.m, HSM.out, Dv.crash, keptPe_m]
    rfl
  · have := HN1.out a ha
    omega
  · have := HN2.out s hs a ha
    omega
end Go.Proofs.Ytpekbcoclmhcnaa
