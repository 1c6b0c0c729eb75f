/- device.fresh. -/
import Derived.Test.YtpekbcoclmhcnaaApp
import Derived.Deep.OwnRows
import Derived.Deep.CutRange
import Derived.Deep.RegionHeld3
namespace Go.Proofs.Ytpekbcoclmhcnaa
open Go.RowKit Go.Joins

theorem made_one (z : Value) (n : Nat) : madeCells #[z] n = (List.replicate n z).toArray := by
  unfold madeCells
  apply Array.ext
  · simp
  · intro i h1 h2
    simp [Nat.mod_one]
/-- n pairs of cells. -/
def prs (x y : Value) (n : Nat) : List Value := (List.replicate n [x, y]).flatten
theorem prs_length (x y : Value) (n : Nat) : (prs x y n).length = n * 2 := by
  unfold prs
  rw [List.length_flatten]
  simp
theorem prs_succ (x y : Value) (n : Nat) : prs x y (n + 1) = x :: y :: prs x y n := by simp [prs, List.replicate_succ]
theorem prs_get (x y : Value) : ∀ (n i : Nat), i < n * 2 → (prs x y n)[i]? = some (if i % 2 = 0 then x else y)
  | 0, i, h => by omega
  | n + 1, 0, h => by simp [prs_succ]
  | n + 1, 1, h => by simp [prs_succ]
  | n + 1, i + 2, h => by
    rw [prs_succ, List.getElem?_cons_succ, List.getElem?_cons_succ, prs_get x y n i (by omega)]
    simp
theorem made_two (x y : Value) (n : Nat) : madeCells #[x, y] (n * 2) = (prs x y n).toArray := by
  unfold madeCells
  apply Array.ext
  · simp [prs_length]
  · intro i h1 h2
    have h3 : i < n * 2 := by simpa using h1
    have := prs_get x y n i h3
    rw [List.getElem?_eq_getElem (by rw [prs_length]; exact h3)] at this
    injection this with this
    simp only [Array.getElem_map, Array.getElem_range, List.size_toArray, List.getElem_toArray, this]
    rcases Nat.mod_two_eq_zero_or_one i with h | h <;> simp [h]
theorem run_make_two {P : Program} (t e : TypeId) (x y : Value) (bytes : Nat) (ht : P.underlying t = some (.slice e)) (hi : (P.info? e).map (fun i => (i.zero, i.size, i.bytes)) = some (some (.agg #[x, y]), 2, bytes))
    (kl kc : IntKind) (n : Nat) (hbytes : bytes * n ≤ 281474976710656) (h63 : n ≤ 9223372036854775807) (w : World) :
    (Instr.makeSlice t (.int kl (n : Int)) (.int kc (n : Int))).run P w = .ok (.slice (some ⟨w.heap.size, 0, none⟩) n n) (w.alloc (.cells (prs x y n).toArray e)) := by
  obtain ⟨i, hi, hzz⟩ := Option.map_eq_some_iff.1 hi
  simp only [Prod.mk.injEq] at hzz
  obtain ⟨hz, hs, hb⟩ := hzz
  have hb' : (i.bytes : Int) * (n : Int) ≤ 281474976710656 := by
    have h : ((i.bytes * n : Nat) : Int) ≤ 281474976710656 := by rw [hb]; omega
    rwa [Int.natCast_mul] at h
  have hr := run_make (P := P) w t e i _ ht hi hz kl kc n n (by omega) (by omega) hb' (by omega)
  simp only [Int.toNat_natCast, hs] at hr
  rw [hr]
  congr 4
  exact made_two x y n
/-- A row that is filled from the left. -/
theorem fill_set (L : List Value) (z v : Value) (k : Nat) (h : L.length = k) (m : Nat) : (L ++ List.replicate (m + 1) z).set k v = (L ++ [v]) ++ List.replicate m z := by
  subst h
  rw [List.set_append_right _ _ (Nat.le_refl _), Nat.sub_self, List.replicate_succ, List.set_cons_zero]
  simp
theorem fill_two (L : List Value) (x y u v : Value) (k m : Nat) (h : L.length = k * 2) : ((L ++ prs x y (m + 1)).set (k * 2) u).set (k * 2 + 1) v = (L ++ [u, v]) ++ prs x y m := by
  rw [← h, List.set_append_right _ _ (Nat.le_refl _), Nat.sub_self, prs_succ, List.set_cons_zero, List.set_append_right _ _ (by omega), show L.length + 1 - L.length = 1 by omega, List.set_cons_succ, List.set_cons_zero]
  simp
theorem sum_take (l : List Nat) (k : Nat) (h : k < l.length) : (l.take (k + 1)).sum = (l.take k).sum + l[k] := by
  rw [List.take_succ_eq_append_getElem h, List.sum_append]
  simp
theorem sum_take_le (l : List Nat) (k : Nat) : (l.take k).sum ≤ l.sum := by
  have : l.sum = (l.take k).sum + (l.drop k).sum := by
    conv => lhs; rw [← List.take_append_drop k l]
    rw [List.sum_append]
  omega
theorem sum_bound (l : List Nat) (b : Nat) (h : ∀ x ∈ l, x ≤ b) : l.sum ≤ l.length * b := by
  induction l with
  | nil => simp
  | cons x l ih =>
    have h1 := ih fun y hy => h y (List.mem_cons_of_mem _ hy)
    have h2 := h x (List.mem_cons_self ..)
    simp only [List.sum_cons, List.length_cons, Nat.succ_mul]
    omega

/-- The state of fresh's great block behind some pieces. -/
structure Fs (wr : World) (F V T off : Nat) (fa : Option Addr) (cur : List Value) (ps : List Sl) : Prop where
  blk : Wh wr F 5 cur
  len : cur.length = T
  var : Bx wr V [.slice fa (T - off) (T - off)]
  lft : Lft F off (T - off) fa
  pc : ∀ s ∈ ps, Pc F off cur s
  le : off ≤ T
theorem Fs.off {wr w' : World} {F V T off : Nat} {fa : Option Addr} {cur : List Value} {ps : List Sl} {L : List Nat} (h : Fs wr F V T off fa cur ps) (ho : Off L wr w') (h1 : F ∉ L) (h2 : V ∉ L) : Fs w' F V T off fa cur ps :=
  ⟨h.blk.off ho h1, h.len, h.var.off ho h2, h.lft, h.pc, h.le⟩
theorem Fs.below {wr w' : World} {F V T off : Nat} {fa : Option Addr} {cur : List Value} {ps : List Sl} (h : Fs wr F V T off fa cur ps) (ho : Below wr.heap.size wr w') : Fs w' F V T off fa cur ps :=
  ⟨h.blk.below ho, h.len, h.var.below ho, h.lft, h.pc, h.le⟩
theorem Fs.ok {wr : World} {F V T off : Nat} {fa : Option Addr} {cur : List Value} {ps : List Sl} (h : Fs wr F V T off fa cur ps) : ∀ s ∈ ps, s.Ok wr := fun s hs => (h.pc s hs).ok h.blk
set_option maxHeartbeats 400000 in
theorem Fs.take {wr : World} {F V T off : Nat} {fa : Option Addr} {cur : List Value} {ps : List Sl} (h : Fs wr F V T off fa cur ps) (A : Option Addr) (n c : Nat) (l : List UInt8) (hl : RB wr A n c l) (hn : off + n ≤ T) (hT : T ≤ 1000000000) (hne : V ≠ F) :
    Calls Try.prog 41 #[.slice A n c, .pointer (some ⟨V, 0, none⟩)] wr fun e w' =>
      e = .returned (.slice fa n n) ∧ (∃ fa' cur', Fs w' F V T (off + n) fa' cur' (ps ++ [⟨fa, n, n, l⟩])) ∧ Off [F, V] wr w' := by
  have hlen := RB.len hl
  have hle := h.le
  have hfit : off + (T - off) ≤ cur.length := by have := h.len; omega
  refine (take_any A n c l V F off (T - off) fa cur 5 wr hl h.var h.blk h.lft hfit (by omega) (by omega) hne).mono ?_
  rintro e w' ⟨rfl, hv, hF, ho⟩
  refine ⟨rfl, ⟨_, _, hF, ?_, by rw [← Nat.sub_sub]; exact hv, by rw [← Nat.sub_sub]; exact h.lft.cut (by omega), fun s hs => ?_, hn⟩, ho⟩
  · rw [length_splice _ _ _ (by simp; omega)]; exact h.len
  · rcases List.mem_append.1 hs with hs | hs
    · exact (h.pc s hs).laid (Nat.le_refl _) (by simp; omega) (by omega)
    · simp only [List.mem_singleton] at hs
      subst hs
      exact Pc.new h.lft hlen (by omega) hfit (by omega)

/-- A device in new memory: its rows are known whole, its bytes lie in one block. -/
structure Fq (B : Nat) (w : World) (R Q F off : Nat) (cur : List Value) (ps : List Sl) (qs : List Pe) : Prop where
  rR : Wh w R 26 (ps.map Sl.v)
  rQ : Wh w Q 53 (qs.flatMap Pe.cells)
  rF : Wh w F 5 cur
  pc : ∀ s ∈ ps, Pc F off cur s
  qc : ∀ p ∈ qs, Pc F off cur p.s
  lR : B ≤ R
  lQ : B ≤ Q
  lF : B ≤ F
  nRQ : R ≠ Q
  nRF : R ≠ F
  nQF : Q ≠ F
theorem Fq.off {B : Nat} {w w' : World} {R Q F off : Nat} {cur : List Value} {ps : List Sl} {qs : List Pe} {L : List Nat} (h : Fq B w R Q F off cur ps qs) (ho : Off L w w') (h1 : ∀ t ∈ L, t < B) : Fq B w' R Q F off cur ps qs :=
  have n1 := h.lR
  have n2 := h.lQ
  have n3 := h.lF
  ⟨h.rR.off ho fun hh => by have := h1 _ hh; omega, h.rQ.off ho fun hh => by have := h1 _ hh; omega, h.rF.off ho fun hh => by have := h1 _ hh; omega, h.pc, h.qc, h.lR, h.lQ, h.lF, h.nRQ, h.nRF, h.nQF⟩
theorem Fq.below {B : Nat} {w w' : World} {R Q F off : Nat} {cur : List Value} {ps : List Sl} {qs : List Pe} (h : Fq B w R Q F off cur ps qs) (ho : Below w.heap.size w w') : Fq B w' R Q F off cur ps qs :=
  h.off (L := []) (Off.of_below ho []) (fun t ht => by cases ht)
theorem Fq.rs {B : Nat} {w : World} {R Q F off : Nat} {cur : List Value} {ps : List Sl} {qs : List Pe} (h : Fq B w R Q F off cur ps qs) {n : Nat} (hn : ps.length = n) (hb : n ≤ 100000) : RS w (some ⟨R, 0, none⟩) n n ps :=
  ⟨h.rR.rd (by simp [hn]) (Nat.le_refl _) (by unfold maxLen; omega) (fun j u hu => by rw [Nat.zero_add]; exact hu), fun s hs => (h.pc s hs).ok h.rF⟩
theorem Fq.rp {B : Nat} {w : World} {R Q F off : Nat} {cur : List Value} {ps : List Sl} {qs : List Pe} (h : Fq B w R Q F off cur ps qs) {n : Nat} (hn : qs.length = n) (hb : n ≤ 100000) : RP w (some ⟨Q, 0, none⟩) n n qs :=
  ⟨h.rQ.rd (by rw [flat_len pe_two, hn]) (Nat.le_refl _) (by unfold maxLen; omega) (fun j u hu => by rw [Nat.zero_add]; exact hu), fun s hs => (h.qc s hs).ok h.rF⟩
/-- WHAT fresh LEAVES. -/
def RetF (w : World) (m : Dv.Disk) (e : Ending) (w' : World) : Prop := ∃ (R Q F off n pn : Nat) (cur : List Value) (ps : List Sl) (qs : List Pe),
  e = .returned (.agg #[.slice (some ⟨R, 0, none⟩) n n, .slice (some ⟨Q, 0, none⟩) pn pn, .int .i64 m.left, .bool m.down]) ∧ Fq (w.heap.size + 2) w' R Q F off cur ps qs ∧ ps.length = n ∧ qs.length = pn ∧ n ≤ 4096 ∧ pn ≤ 1000 ∧
  ps.map (·.l) = m.sectors ∧ qs.map Pe.m = m.pending ∧ Below w.heap.size w w'
theorem Pc.av {F off b : Nat} {cur : List Value} {s : Sl} (h : Pc F off cur s) (hb : F ≠ b) : s.Av b := fun hn a ha => by
  obtain ⟨o, e, _⟩ := h.at_ hn
  rw [ha] at e
  injection e with e
  rw [e]
  exact hb
theorem Fq.av {B : Nat} {w : World} {R Q F off : Nat} {cur : List Value} {ps : List Sl} {qs : List Pe} (h : Fq B w R Q F off cur ps qs) {b : Nat} (hb : b < B) (n pn : Nat) (left : Int) (down : Bool) : Dk.Av ⟨some ⟨R, 0, none⟩, n, n, ps, some ⟨Q, 0, none⟩, pn, pn, qs, left, down⟩ b := by
  have h1 := h.lR
  have h2 := h.lQ
  have h3 := h.lF
  refine ⟨fun _ a ha => ?_, fun s hs => (h.pc s hs).av (by omega), fun _ a ha => ?_, fun p hp => (h.qc p hp).av (by omega)⟩
  · injection ha with ha
    rw [← ha]
    show R ≠ b
    omega
  · injection ha with ha
    rw [← ha]
    show Q ≠ b
    omega
theorem RetF.k {w : World} {m : Dv.Disk} {e : Ending} {w' : World} (h : RetF w m e w') : RetK w (fun _ => True) m e w' := by
  obtain ⟨R, Q, F, off, n, pn, cur, ps, qs, rfl, hq, h1, h2, h3, h4, h5, h6, hb⟩ := h
  refine ⟨⟨some ⟨R, 0, none⟩, n, n, ps, some ⟨Q, 0, none⟩, pn, pn, qs, m.left, m.down⟩, rfl, ⟨hq.rs h1 (by show n ≤ 100000; omega), hq.rp h2 (by show pn ≤ 100000; omega)⟩, ?_, hb, fun b hb _ => hq.av (by omega) n pn m.left m.down⟩
  simp only [Dk.m, h5, h6]

set_option maxHeartbeats 2000000 in
set_option maxRecDepth 100000 in
theorem fresh_any (d : Dk) (K : Nat) (w : World) (h : d.Ok w) (hf : Dv.Fits K d.m) (hK : K ≤ 1000) :
    Calls Try.prog 32 #[.agg #[.slice d.a d.n d.c, .slice d.pa d.pn d.pc, .int .i64 d.left, .bool d.down]] w (RetF w d.m) := by
  obtain ⟨A, n, c, S, pA, pn, pc, P, left, down⟩ := d
  simp only
  have HS := Keep.mk h.sec
  have HP := Keep.mk h.pen
  have hn := h.sec.len
  have hpn := h.pen.len
  simp only at hn hpn HS HP
  have hn1 : n ≤ 4096 := by have := hf.ns; simp [Dk.m] at this; omega
  have hpn1 : pn ≤ 1000 := by have := hf.np; simp [Dk.m] at this; omega
  obtain ⟨NS, hNS⟩ : ∃ NS : List Nat, NS = S.map (·.n) := ⟨_, rfl⟩
  obtain ⟨NP, hNP⟩ : ∃ NP : List Nat, NP = P.map (·.s.n) := ⟨_, rfl⟩
  have hs1 : ∀ x ∈ NS, x ≤ 200 := by
    intro x hx
    rw [hNS] at hx
    obtain ⟨s, hs, rfl⟩ := List.mem_map.1 hx
    have h1 := hf.ss s.l (List.mem_map.2 ⟨s, hs, rfl⟩)
    have h2 := RB.len (h.sec.ok s hs)
    omega
  have hp1 : ∀ x ∈ NP, x ≤ 200 := by
    intro x hx
    rw [hNP] at hx
    obtain ⟨s, hs, rfl⟩ := List.mem_map.1 hx
    have h1 := hf.sp s.m (List.mem_map.2 ⟨s, hs, rfl⟩)
    have h2 := RB.len (h.pen.ok s hs)
    simp [Pe.m] at h1
    omega
  have hls : NS.length = n := by rw [hNS]; simpa using hn
  have hlp : NP.length = pn := by rw [hNP]; simpa using hpn
  have hts := sum_bound NS 200 hs1
  have htp := sum_bound NP 200 hp1
  rw [hls] at hts
  rw [hlp] at htp
  have hts1 : NS.sum ≤ 819200 := by omega
  have htp1 : NP.sum ≤ 200000 := by omega
  have HN := Keep.mk hNS
  have HNP := Keep.mk hNP
  have HLN := Keep.mk hls
  have HLP := Keep.mk hlp
  have HSL := Keep.mk hn
  have HPL := Keep.mk hpn
  have hmf : ∀ (fn : Fn) (first cap : Array Value) (w : World), (Instr.makeFunc fn first cap).run Try.prog w = .ok (.func fn first cap) w := fun _ _ _ _ => rfl
  clear h hf hs1 hp1 hNS hNP hts htp hls hlp hn hpn
  go_enter Try.func32, Try.ntmps32
  go_wp2
  have IX := Keep.mk ((Bx.new w [.slice A n c, .slice pA pn pc, .int .i64 left, .bool down] 25).alloc (.cells #[.slice none 0 0, .slice none 0 0, .int .i64 0, .bool false] 25))
  have OX := Keep.mk (Bx.new (w.alloc (.cells #[.slice A n c, .slice pA pn pc, .int .i64 left, .bool down] 25)) [.slice none 0 0, .slice none 0 0, .int .i64 0, .bool false] 25)
  have HB : Hid (Below w.heap.size w ((w.alloc (.cells #[.slice A n c, .slice pA pn pc, .int .i64 left, .bool down] 25)).alloc (.cells #[.slice none 0 0, .slice none 0 0, .int .i64 0, .bool false] 25))) := (below_alloc1 _ _).alloc (by simp) _
  generalize hw1 : (w.alloc (.cells #[.slice A n c, .slice pA pn pc, .int .i64 left, .bool down] 25)).alloc (.cells #[.slice none 0 0, .slice none 0 0, .int .i64 0, .bool false] 25) = w1 at *
  rw [World.size_alloc] at OX
  clear hw1
  go_loop [3, 17] (fun t i => ∃ k : Nat, k ≤ n ∧ i = .int .i64 k ∧ t = .int .i64 ((NS.take k).sum : Nat)) (fun _ i => n - (intOf i).toNat)
  case atStart => exact ⟨0, Nat.zero_le _, rfl, rfl⟩
  case round =>
    obtain ⟨k, hk, rfl, rfl⟩ := hrel
    by_cases hlt : k < n
    · have hkS : k < S.length := by have := HSL.out; omega
      obtain ⟨b, o, rfl, hbl, hck, hrb⟩ := (HS.out.below HB.out).at_ (k := k) hkS
      have hl := RB.len hrb
      have hcap := RB.cap hrb
      have hsum := sum_take_le NS (k + 1)
      have hst : Keep ((NS.take (k + 1)).sum = (NS.take k).sum + S[k].n) := ⟨by
        rw [sum_take NS k (by have := HLN.out; omega)]
        congr 1
        simp only [HN.out, List.getElem_map]⟩
      have hle : (NS.take k).sum + S[k].n ≤ 819200 := by rw [← hst.out]; omega
      clear hrb hl hcap
      go_wp2
      go_round
      case rel => exact ⟨k + 1, by omega, by go_num, by rw [hst.out]; go_num⟩
      case measure => simp [intOf]; omega
    · obtain rfl : n = k := by omega
      have hT : (NS.take n).sum = NS.sum := by rw [List.take_of_length_le (by have := HLN.out; omega)]
      rw [hT]
      clear hT hlt hk
      have p0 := IX.out.cell 1 _ rfl
      go_wp2
      clear p0
      go_loopw [3, 29] (fun t i wr => ∃ k : Nat, k ≤ pn ∧ i = .int .i64 k ∧ t = .int .i64 ((NS.sum + (NP.take k).sum : Nat)) ∧ Below w1.heap.size w1 wr) (fun _ i _ => pn - (intOf i).toNat)
      case atStart => exact ⟨0, Nat.zero_le _, rfl, rfl, Below.refl _ _⟩
      case round =>
        obtain ⟨k, hk, rfl, rfl, hb2⟩ := hrel
        have HB2 := Lib.hid (below_next HB.out hb2 (Nat.le_refl _))
        have HC2 := Lib.hid hb2
        clear hb2
        by_cases hlt : k < pn
        · have hkP : k < P.length := by have := HPL.out; omega
          obtain ⟨b, o, rfl, hbl, hck, hck1, hrb⟩ := (HP.out.below HB2.out).at_ (k := k) hkP
          have hl := RB.len hrb
          have hcap := RB.cap hrb
          have hsum := sum_take_le NP (k + 1)
          have hst : Keep ((NP.take (k + 1)).sum = (NP.take k).sum + P[k].s.n) := ⟨by
            rw [sum_take NP k (by have := HLP.out; omega)]
            congr 1
            simp only [HNP.out, List.getElem_map]⟩
          have hle : (NP.take k).sum + P[k].s.n ≤ 200000 := by rw [← hst.out]; omega
          clear hrb hl hcap
          go_wp2
          go_roundw
          case rel => exact ⟨k + 1, by omega, by go_num, by rw [hst.out]; go_num, HC2.out.alloc HC2.out.size _⟩
          case measure => simp [intOf]; omega
        · obtain rfl : pn = k := by omega
          have hT : (NP.take pn).sum = NP.sum := by rw [List.take_of_length_le (by have := HLP.out; omega)]
          rw [hT]
          clear hT hlt hk
          have IX2 := Keep.mk (IX.out.below HC2.out)
          have OX2 := Keep.mk (OX.out.below HC2.out)
          clear IX OX HC2
          obtain ⟨T, hT⟩ : ∃ T : Nat, T = NS.sum + NP.sum := ⟨_, rfl⟩
          have HT := Keep.mk hT
          have hT1 : T ≤ 1019200 := by omega
          rw [← hT]
          clear hT
          have hmk := run_make_row' (P := Try.prog) 26 5 (.int .u8 0) 1 Try.underlying26 u8_info rfl .i64 .i64 T (by omega) (by omega)
          have hmk1 := run_make_row' (P := Try.prog) 22 26 (.slice none 0 0) 24 Try.underlying22 sl_info rfl .i64 .i64 n (by omega) (by omega)
          have hz := HB2.out.size
          have iz := IX2.out.lt
          have oz := OX2.out.lt
          go_upto_region 14 with (fail)
          have HF3 := Keep.mk (show Wh ((wr.alloc (.cells (madeCells #[.int .u8 0] T) 5)).alloc (.cells #[.slice (some ⟨wr.heap.size, 0, none⟩) T T] 26)) wr.heap.size 5 (List.replicate T (.int .u8 0)) by rw [made_one]; exact (Wh.new wr 5 _).below (below_alloc1 _ _))
          have HV3 := Keep.mk (show Bx ((wr.alloc (.cells (madeCells #[.int .u8 0] T) 5)).alloc (.cells #[.slice (some ⟨wr.heap.size, 0, none⟩) T T] 26)) (wr.heap.size + 1) [.slice (some ⟨wr.heap.size, 0, none⟩) T T] by rw [← World.size_alloc wr (.cells (madeCells #[.int .u8 0] T) 5)]; exact Bx.new _ [.slice (some ⟨wr.heap.size, 0, none⟩) T T] 26)
          have HC3 : Hid (Below wr.heap.size wr ((wr.alloc (.cells (madeCells #[.int .u8 0] T) 5)).alloc (.cells #[.slice (some ⟨wr.heap.size, 0, none⟩) T T] 26))) := (below_alloc1 _ _).alloc (by simp) _
          have hz3 : wr.heap.size + 1 < ((wr.alloc (.cells (madeCells #[.int .u8 0] T) 5)).alloc (.cells #[.slice (some ⟨wr.heap.size, 0, none⟩) T T] 26)).heap.size := by simp
          generalize (wr.alloc (.cells (madeCells #[.int .u8 0] T) 5)).alloc (.cells #[.slice (some ⟨wr.heap.size, 0, none⟩) T T] 26) = w3 at *
          have HB3 := Lib.hid (below_next HB2.out HC3.out (Nat.le_refl _))
          have IX3 := Keep.mk (IX2.out.below HC3.out)
          have OX3 := Keep.mk (OX2.out.below HC3.out)
          clear IX2 OX2 HC3
          have i0 := IX3.out.cell 0 _ rfl
          have i2 := IX3.out.cell 2 _ rfl
          have i3 := IX3.out.cell 3 _ rfl
          have o0 := OX3.out.cell 0 _ rfl
          have o1 := OX3.out.cell 1 _ rfl
          have o2 := OX3.out.cell 2 _ rfl
          have o3 := OX3.out.cell 3 _ rfl
          have of := OX3.out.fz
          go_upto_region 15 with (fail)
          clear i0 i2 i3 o0 o1 o2 o3 of
          have HO4 : Keep (Off [w.heap.size + 1] w3 ((((w3.setCell ⟨w.heap.size + 1, 0, none⟩ (.slice none 0 0)).setCell ⟨w.heap.size + 1, 1, none⟩ (.slice none 0 0)).setCell ⟨w.heap.size + 1, 2, none⟩ (.int .i64 left)).setCell ⟨w.heap.size + 1, 3, none⟩ (.bool down))) := ⟨((((Off.refl _ _).setCell (by simp) _).setCell (by simp) _).setCell (by simp) _).setCell (by simp) _⟩
          have OX4 := Keep.mk ((((OX3.out.set (j := 0) (by simp) (.slice none 0 0)).set (j := 1) (by simp) (.slice none 0 0)).set (j := 2) (by simp) (.int .i64 left)).set (j := 3) (by simp) (.bool down))
          simp only [List.set_cons_zero, List.set_cons_succ] at OX4
          generalize (((w3.setCell ⟨w.heap.size + 1, 0, none⟩ (.slice none 0 0)).setCell ⟨w.heap.size + 1, 1, none⟩ (.slice none 0 0)).setCell ⟨w.heap.size + 1, 2, none⟩ (.int .i64 left)).setCell ⟨w.heap.size + 1, 3, none⟩ (.bool down) = w4 at *
          have IX4 := Keep.mk (IX3.out.off HO4.out (by simp))
          have HF4 := Keep.mk (HF3.out.off HO4.out (by simp; omega))
          have HV4 := Keep.mk (HV3.out.off HO4.out (by simp; omega))
          have HB4 := Lib.hid (HB3.out.trans (HO4.out.below (B := w.heap.size) (by omega) (by simp)))
          have hz4 := HO4.out.size
          clear IX3 HF3 HV3 HB3 OX3 HO4
          have i0 := IX4.out.cell 0 _ rfl
          have o0 := OX4.out.cell 0 _ rfl
          have of := OX4.out.fz
          have hol := OX4.out.lt
          go_upto_region 16 with (fail)
          clear i0 o0 of
          have HO5 : Keep (Off [w.heap.size + 1] w4 ((w4.setCell ⟨w.heap.size + 1, 0, none⟩ (.slice (some ⟨w4.heap.size, 0, none⟩) n n)).alloc (.cells (madeCells #[.slice none 0 0] n) 26))) := ⟨((Off.refl _ _).setCell (by simp) _).alloc _⟩
          have OX5 := Keep.mk ((OX4.out.set (j := 0) (by simp) (.slice (some ⟨w4.heap.size, 0, none⟩) n n)).alloc (.cells (madeCells #[.slice none 0 0] n) 26))
          simp only [List.set_cons_zero] at OX5
          have HR5 := Keep.mk (show Wh ((w4.setCell ⟨w.heap.size + 1, 0, none⟩ (.slice (some ⟨w4.heap.size, 0, none⟩) n n)).alloc (.cells (madeCells #[.slice none 0 0] n) 26)) w4.heap.size 26 (List.replicate n (.slice none 0 0)) by rw [made_one]; simpa [World.setCell] using Wh.new (w4.setCell ⟨w.heap.size + 1, 0, none⟩ (.slice (some ⟨w4.heap.size, 0, none⟩) n n)) 26 (List.replicate n (.slice none 0 0)))
          generalize (w4.setCell ⟨w.heap.size + 1, 0, none⟩ (.slice (some ⟨w4.heap.size, 0, none⟩) n n)).alloc (.cells (madeCells #[.slice none 0 0] n) 26) = w5 at *
          have IX5 := Keep.mk (IX4.out.off HO5.out (by simp))
          have HF5 := Keep.mk (HF4.out.off HO5.out (by simp; omega))
          have HV5 := Keep.mk (HV4.out.off HO5.out (by simp; omega))
          have HB5 := Lib.hid (HB4.out.trans (HO5.out.below (B := w.heap.size) (by omega) (by simp)))
          have hz5 := HO5.out.size
          clear IX4 HF4 HV4 HB4 OX4 HO5 hmk hmk1
          generalize wr.heap.size = F at *
          have hR : F + 1 < w4.heap.size := by omega
          generalize w4.heap.size = R at *
          have FS5 : Keep (Fs w5 F (F + 1) T 0 (some ⟨F, 0, none⟩) (List.replicate T (.int .u8 0)) []) := ⟨⟨HF5.out, by simp, by simpa using HV5.out, ⟨fun _ => rfl, (fun h => by cases h)⟩, (fun s h => by cases h), Nat.zero_le _⟩⟩
          clear HF5 HV5
          have i0 := IX5.out.cell 0 _ rfl
          go_wp2
          clear i0
          go_loopw [55] (fun i wr => ∃ (k : Nat) (fa : Option Addr) (cur : List Value) (ps : List Sl), k ≤ n ∧ i = .int .i64 k ∧ Fs wr F (F + 1) T (NS.take k).sum fa cur ps ∧ ps.map (·.l) = (S.take k).map (·.l) ∧
            Bx wr (w.heap.size + 1) [.slice (some ⟨R, 0, none⟩) n n, .slice none 0 0, .int .i64 left, .bool down] ∧ Bx wr w.heap.size [.slice A n c, .slice pA pn pc, .int .i64 left, .bool down] ∧
            Wh wr R 26 (ps.map Sl.v ++ List.replicate (n - k) (.slice none 0 0)) ∧ Below w.heap.size w wr) (fun i _ => n - (intOf i).toNat)
          case atStart => exact ⟨0, _, _, [], Nat.zero_le _, rfl, FS5.out, by simp, OX5.out, IX5.out, HR5.out, HB5.out⟩
          case round =>
            clear FS5 OX5 IX5 HR5 HB5
            rename_i wr0 _ _ _
            obtain ⟨k, fa, cur, ps, hk, rfl, hfs, hps, hox, hix, hrw, hb⟩ := hrel
            have FS6 := Keep.mk hfs
            have HP6 := Keep.mk hps
            have OX6 := Keep.mk hox
            have IX6 := Keep.mk hix
            have HR6 := Keep.mk hrw
            have HB6 := Lib.hid hb
            have hz6 := hb.size
            have hol6 := hox.lt
            clear hfs hps hox hix hrw hb
            by_cases hlt : k < n
            · have hkS : k < S.length := by have := HSL.out; omega
              have hkn : (0 : Int) ≤ (k : Int) := by omega
              have hkn1 : (k : Int) < (n : Int) := by omega
              obtain ⟨b, o, rfl, hbl, hck, hrb⟩ := (HS.out.below HB6.out).at_ (k := k) hkS
              have hsum := sum_take_le NS (k + 1)
              have hst : (NS.take (k + 1)).sum = (NS.take k).sum + S[k].n := by
                rw [sum_take NS k (by have := HLN.out; omega)]
                congr 1
                simp only [HN.out, List.getElem_map]
              have hpl : ps.length = k := by
                have := congrArg List.length HP6.out
                simpa [Nat.min_eq_left (show k ≤ S.length by omega)] using this
              have hTT := HT.out
              have CT : Keep (∀ X, Below wr.heap.size wr X → Calls Try.prog 41 #[.slice S[k].a S[k].n S[k].c, .pointer (some ⟨F + 1, 0, none⟩)] X fun e w' =>
                  e = .returned (.slice fa S[k].n S[k].n) ∧ (∃ fa' cur', Fs w' F (F + 1) T ((NS.take k).sum + S[k].n) fa' cur' (ps ++ [⟨fa, S[k].n, S[k].n, S[k].l⟩])) ∧ Off [F, F + 1] X w') :=
                ⟨fun X hX => (FS6.out.below hX).take S[k].a S[k].n S[k].c S[k].l (RB.below hrb hX) (by omega) (by omega) (by omega)⟩
              have HL6 : Keep ((S.take (k + 1)).map (·.l) = (S.take k).map (·.l) ++ [S[k].l]) := ⟨by rw [List.take_succ_eq_append_getElem hkS, List.map_append]; simp⟩
              have HST := Keep.mk hst
              have HPL6 := Keep.mk hpl
              generalize S[k] = sk at *
              clear hrb hst hpl hTT hsum
              have o0 := OX6.out.cell 0 _ rfl
              have RK : Keep ((ps.map Sl.v ++ List.replicate (n - k) (.slice none 0 0))[k]? = some (.slice none 0 0)) := ⟨by
                have h1 := HPL6.out
                rw [List.getElem?_append_right (by simp; omega), show k - (ps.map Sl.v).length = 0 by simp; omega, show n - k = (n - k - 1) + 1 by omega, List.replicate_succ, List.getElem?_cons_zero]⟩
              go_upto_region 19 with (fail)
              have hdr : Below wr.heap.size wr wr.drew := below_draws _ _ 1
              have HDR := Lib.hid hdr
              clear hdr
              go_region_held3 (fun X => X.cell? ⟨w.heap.size + 1, 0, none⟩ = some (.slice (some ⟨R, 0, none⟩) n n))
                (first | exact (OX6.out.below HDR.out).cell 0 _ rfl | exact ((OX6.out.below HDR.out).off HO.out (by simp; omega)).cell 0 _ rfl | exact (((OX6.out.below HDR.out).off HO.out (by simp; omega)).other (by simp; omega) _).cell 0 _ rfl)
                (first | (go_at_call 41; ((refine (CT.out _ HDR.out).mono ?_); rintro e wn ⟨rfl, hfs, ho⟩; have HO := Keep.mk ho; have HFS := Keep.mk hfs; have hrw := (HR6.out.below HDR.out).off ho (by simp; omega); have HRW := Keep.mk hrw; have rc := (hrw.cell k).trans RK.out; have rf := hrw.bx.fz k; clear hfs ho hrw)))
              have HW : Keep (Wh (wn.setCell ⟨R, k, none⟩ (.slice fa sk.n sk.n)) R 26 ((ps ++ [(⟨fa, sk.n, sk.n, sk.l⟩ : Sl)]).map Sl.v ++ List.replicate (n - (k + 1)) (.slice none 0 0))) := ⟨by
                have h1 := HRW.out.set (j := k) (.slice fa sk.n sk.n)
                rw [show n - k = (n - (k + 1)) + 1 by omega, fill_set _ _ _ k (by have := HPL6.out; simp; omega)] at h1
                simpa [Sl.v] using h1⟩
              have HOS : Keep (Off [F, F + 1, R] wr.drew (wn.setCell ⟨R, k, none⟩ (.slice fa sk.n sk.n))) := ⟨(HO.out.sub (by simp)).setCell (by simp) _⟩
              have hO9 := HFS.out
              obtain ⟨fa', cur', hfs⟩ := hO9
              have hfs1 := hfs.off ((Off.refl [R] wn).setCell (p := ⟨R, k, none⟩) (by simp) (.slice fa sk.n sk.n)) (by simp; omega) (by simp; omega)
              rw [← HST.out] at hfs1
              have FS7 := Keep.mk hfs1
              clear hfs hfs1 rc rf o0 HFS
              go_wp2
              go_roundw
              case rel =>
                refine ⟨k + 1, fa', cur', _, by omega, by go_num, FS7.out, ?_, (OX6.out.below HDR.out).off HOS.out (by simp; omega), (IX6.out.below HDR.out).off HOS.out (by simp; omega), HW.out, HB6.out.trans ((HDR.out.mono HB6.out.size).trans (HOS.out.below (by have := HDR.out.size; omega) (by simp; omega)))⟩
                rw [HL6.out, List.map_append, HP6.out]
                rfl
              case measure => simp [intOf]; omega
            · obtain rfl : n = k := by omega
              have hfl : (NS.take n).sum = NS.sum := by rw [List.take_of_length_le (by have := HLN.out; omega)]
              have hpm : ps.map (·.l) = S.map (·.l) := by
                have := HP6.out
                rwa [List.take_of_length_le (by have := HSL.out; omega)] at this
              have FS7 := FS6.out
              rw [hfl] at FS7
              have FS8 := Keep.mk FS7
              have HPM := Keep.mk hpm
              have HR8 := HR6.out
              rw [Nat.sub_self, List.replicate_zero, List.append_nil] at HR8
              have HR9 := Keep.mk HR8
              clear FS7 FS6 HP6 HR8 HR6 hfl hpm hlt hk
              have hmk2 := run_make_two (P := Try.prog) 23 53 (.int .i64 0) (.slice none 0 0) 32 Try.underlying23 wr_info .i64 .i64 pn (by omega) (by omega)
              have i1 := IX6.out.cell 1 _ rfl
              have o1 := OX6.out.cell 1 _ rfl
              have of := OX6.out.fz
              go_upto_region 22 with (fail)
              clear i1 o1 of
              have HO9 : Keep (Off [w.heap.size + 1] wr ((wr.setCell ⟨w.heap.size + 1, 1, none⟩ (.slice (some ⟨wr.heap.size, 0, none⟩) pn pn)).alloc (.cells (prs (.int .i64 0) (.slice none 0 0) pn).toArray 53))) := ⟨((Off.refl _ _).setCell (by simp) _).alloc _⟩
              have OX9 := Keep.mk ((OX6.out.set (j := 1) (by simp) (.slice (some ⟨wr.heap.size, 0, none⟩) pn pn)).alloc (.cells (prs (.int .i64 0) (.slice none 0 0) pn).toArray 53))
              simp only [List.set_cons_zero, List.set_cons_succ] at OX9
              have HQ9 := Keep.mk (show Wh ((wr.setCell ⟨w.heap.size + 1, 1, none⟩ (.slice (some ⟨wr.heap.size, 0, none⟩) pn pn)).alloc (.cells (prs (.int .i64 0) (.slice none 0 0) pn).toArray 53)) wr.heap.size 53 (prs (.int .i64 0) (.slice none 0 0) pn) by simpa [World.setCell] using Wh.new (wr.setCell ⟨w.heap.size + 1, 1, none⟩ (.slice (some ⟨wr.heap.size, 0, none⟩) pn pn)) 53 (prs (.int .i64 0) (.slice none 0 0) pn))
              have HRL := HR9.out.lt
              have HFL := FS8.out.var.lt
              generalize (wr.setCell ⟨w.heap.size + 1, 1, none⟩ (.slice (some ⟨wr.heap.size, 0, none⟩) pn pn)).alloc (.cells (prs (.int .i64 0) (.slice none 0 0) pn).toArray 53) = w9 at *
              have IX9 := Keep.mk (IX6.out.off HO9.out (by simp))
              have FS9 := Keep.mk (FS8.out.off HO9.out (by simp; omega) (by simp; omega))
              have HR10 := Keep.mk (HR9.out.off HO9.out (by simp; omega))
              have HB9 := Lib.hid (HB6.out.trans (HO9.out.below (B := w.heap.size) (by omega) (by simp)))
              have hz9 := HO9.out.size
              clear IX6 FS8 HR9 HB6 OX6 HO9 hmk2
              generalize wr.heap.size = Q at *
              have i1 := IX9.out.cell 1 _ rfl
              go_wp2
              clear i1
              go_loopw [76] (fun i wr => ∃ (k : Nat) (fa : Option Addr) (cur : List Value) (qs : List Pe), k ≤ pn ∧ i = .int .i64 k ∧ Fs wr F (F + 1) T (NS.sum + (NP.take k).sum) fa cur (ps ++ qs.map (·.s)) ∧ qs.map Pe.m = (P.take k).map Pe.m ∧
                Bx wr (w.heap.size + 1) [.slice (some ⟨R, 0, none⟩) n n, .slice (some ⟨Q, 0, none⟩) pn pn, .int .i64 left, .bool down] ∧ Bx wr w.heap.size [.slice A n c, .slice pA pn pc, .int .i64 left, .bool down] ∧
                Wh wr R 26 (ps.map Sl.v) ∧ Wh wr Q 53 (qs.flatMap Pe.cells ++ prs (.int .i64 0) (.slice none 0 0) (pn - k)) ∧ Below w.heap.size w wr) (fun i _ => pn - (intOf i).toNat)
              case atStart => exact ⟨0, _, _, [], Nat.zero_le _, rfl, by simpa using FS9.out, by simp, OX9.out, IX9.out, HR10.out, HQ9.out, HB9.out⟩
              case round =>
                clear FS9 OX9 IX9 HR10 HQ9 HB9
                obtain ⟨k, fb, cur1, qs, hk, rfl, hfs, hqs, hox, hix, hrw, hqw, hb⟩ := hrel
                have FS6 := Keep.mk hfs
                have HP6 := Keep.mk hqs
                have OX6 := Keep.mk hox
                have IX6 := Keep.mk hix
                have HR6 := Keep.mk hrw
                have HQ6 := Keep.mk hqw
                have HB6 := Lib.hid hb
                have hz6 := hb.size
                have hol6 := hox.lt
                clear hfs hqs hox hix hrw hqw hb
                by_cases hlt : k < pn
                · have hkP : k < P.length := by have := HPL.out; omega
                  have hkn : (0 : Int) ≤ (k : Int) := by omega
                  have hkn1 : (k : Int) < (pn : Int) := by omega
                  obtain ⟨b, o, rfl, hbl, hck, hck1, hrb⟩ := (HP.out.below HB6.out).at_ (k := k) hkP
                  have hsum := sum_take_le NP (k + 1)
                  have hst : (NP.take (k + 1)).sum = (NP.take k).sum + P[k].s.n := by
                    rw [sum_take NP k (by have := HLP.out; omega)]
                    congr 1
                    simp only [HNP.out, List.getElem_map]
                  have hpl : qs.length = k := by
                    have := congrArg List.length HP6.out
                    simpa [Nat.min_eq_left (show k ≤ P.length by omega)] using this
                  have hTT := HT.out
                  have CT : Keep (∀ X, Below wr.heap.size wr X → Calls Try.prog 41 #[.slice P[k].s.a P[k].s.n P[k].s.c, .pointer (some ⟨F + 1, 0, none⟩)] X fun e w' =>
                      e = .returned (.slice fb P[k].s.n P[k].s.n) ∧ (∃ fa' cur', Fs w' F (F + 1) T (NS.sum + (NP.take k).sum + P[k].s.n) fa' cur' (ps ++ qs.map (·.s) ++ [⟨fb, P[k].s.n, P[k].s.n, P[k].s.l⟩])) ∧ Off [F, F + 1] X w') :=
                    ⟨fun X hX => (FS6.out.below hX).take P[k].s.a P[k].s.n P[k].s.c P[k].s.l (RB.below hrb hX) (by omega) (by omega) (by omega)⟩
                  have HL6 : Keep ((P.take (k + 1)).map Pe.m = (P.take k).map Pe.m ++ [P[k].m]) := ⟨by rw [List.take_succ_eq_append_getElem hkP, List.map_append]; simp⟩
                  have HST := Keep.mk hst
                  have HPL6 := Keep.mk hpl
                  generalize P[k] = pk at *
                  clear hrb hst hpl hTT hsum
                  go_upto_region 25 with (fail)
                  have TX := Keep.mk (Bx.new wr [.int .i64 pk.k, .slice pk.s.a pk.s.n pk.s.c] 53)
                  have HDR : Hid (Below wr.heap.size wr (wr.alloc (.cells #[.int .i64 pk.k, .slice pk.s.a pk.s.n pk.s.c] 53))) := below_alloc1 _ _
                  generalize wr.alloc (.cells #[.int .i64 pk.k, .slice pk.s.a pk.s.n pk.s.c] 53) = wa at *
                  have HDE : Hid (Below wa.heap.size wa wa.drew) := below_draws _ _ 1
                  have HDS := Lib.hid (below_next HDR.out HDE.out (Nat.le_refl _))
                  have hza := HDR.out.size
                  have hol7 := HQ6.out.lt
                  have hol8 := HR6.out.lt
                  have hol9 := FS6.out.var.lt
                  have RK : Keep ((qs.flatMap Pe.cells ++ prs (.int .i64 0) (.slice none 0 0) (pn - k))[k * 2]? = some (.int .i64 0)) := ⟨by
                    have h1 := HPL6.out
                    have h2 := flat_len pe_two qs
                    rw [List.getElem?_append_right (by omega), h2, h1, Nat.sub_self, prs_get _ _ _ _ (by omega)]
                    rfl⟩
                  have RK1 : Keep ((qs.flatMap Pe.cells ++ prs (.int .i64 0) (.slice none 0 0) (pn - k))[k * 2 + 1]? = some (.slice none 0 0)) := ⟨by
                    have h1 := HPL6.out
                    have h2 := flat_len pe_two qs
                    rw [List.getElem?_append_right (by omega), h2, h1, show k * 2 + 1 - k * 2 = 1 by omega, prs_get _ _ _ _ (by omega)]
                    rfl⟩
                  have KS : Keep (∀ X, Below wr.heap.size wr X → Bx X wr.heap.size [.int .i64 pk.k, .slice pk.s.a pk.s.n pk.s.c] → X.cell? ⟨w.heap.size + 1, 1, none⟩ = some (.slice (some ⟨Q, 0, none⟩) pn pn) ∧ X.cell? ⟨wr.heap.size, 0, none⟩ = some (.int .i64 pk.k) ∧ X.cell? ⟨wr.heap.size, 1, none⟩ = some (.slice pk.s.a pk.s.n pk.s.c)) :=
                    ⟨fun X h1 h2 => ⟨(OX6.out.below h1).cell 1 _ rfl, h2.cell 0 _ rfl, h2.cell 1 _ rfl⟩⟩
                  have KO : Keep (∀ X, Off [F, F + 1] wa.drew X → X.cell? ⟨w.heap.size + 1, 1, none⟩ = some (.slice (some ⟨Q, 0, none⟩) pn pn) ∧ X.cell? ⟨wr.heap.size, 0, none⟩ = some (.int .i64 pk.k) ∧ X.cell? ⟨wr.heap.size, 1, none⟩ = some (.slice pk.s.a pk.s.n pk.s.c)) :=
                    ⟨fun X h1 => ⟨((OX6.out.below HDS.out).off h1 (by simp; omega)).cell 1 _ rfl, ((TX.out.below HDE.out).off h1 (by simp; omega)).cell 0 _ rfl, ((TX.out.below HDE.out).off h1 (by simp; omega)).cell 1 _ rfl⟩⟩
                  have KT : Keep (∀ X u v, Off [F, F + 1] wa.drew X → ((X.setCell ⟨Q, k * 2, none⟩ u).setCell ⟨Q, k * 2 + 1, none⟩ v).cell? ⟨w.heap.size + 1, 1, none⟩ = some (.slice (some ⟨Q, 0, none⟩) pn pn) ∧ ((X.setCell ⟨Q, k * 2, none⟩ u).setCell ⟨Q, k * 2 + 1, none⟩ v).cell? ⟨wr.heap.size, 0, none⟩ = some (.int .i64 pk.k) ∧ ((X.setCell ⟨Q, k * 2, none⟩ u).setCell ⟨Q, k * 2 + 1, none⟩ v).cell? ⟨wr.heap.size, 1, none⟩ = some (.slice pk.s.a pk.s.n pk.s.c)) :=
                    ⟨fun X u v h1 => ⟨((((OX6.out.below HDS.out).off h1 (by simp; omega)).other (by simp; omega) u).other (by simp; omega) v).cell 1 _ rfl, ((((TX.out.below HDE.out).off h1 (by simp; omega)).other (by simp; omega) u).other (by simp; omega) v).cell 0 _ rfl, ((((TX.out.below HDE.out).off h1 (by simp; omega)).other (by simp; omega) u).other (by simp; omega) v).cell 1 _ rfl⟩⟩
                  have s0 := TX.out.cell 0 _ rfl
                  clear s0
                  go_region_held3 (fun X => X.cell? ⟨w.heap.size + 1, 1, none⟩ = some (.slice (some ⟨Q, 0, none⟩) pn pn) ∧ X.cell? ⟨wr.heap.size, 0, none⟩ = some (.int .i64 pk.k) ∧ X.cell? ⟨wr.heap.size, 1, none⟩ = some (.slice pk.s.a pk.s.n pk.s.c))
                    (first | exact KO.out _ (Off.refl _ _) | exact KO.out _ HO.out | exact KT.out _ _ _ HO.out)
                    (first | (go_at_call 41; ((refine (CT.out _ HDS.out).mono ?_); rintro e wn ⟨rfl, hfs, ho⟩; have HO := Keep.mk ho; have HFS := Keep.mk hfs; have hrw := (HQ6.out.below HDS.out).off ho (by simp; omega); have HRW := Keep.mk hrw; have rc := (hrw.cell (k * 2)).trans RK.out; have rc1 := (hrw.cell (k * 2 + 1)).trans RK1.out; have rf := hrw.bx.fz (k * 2); have rf1 := hrw.bx.fz (k * 2 + 1); clear hfs ho hrw)))
                  have HW : Keep (Wh ((wn.setCell ⟨Q, k * 2, none⟩ (.int .i64 pk.k)).setCell ⟨Q, k * 2 + 1, none⟩ (.slice fb pk.s.n pk.s.n)) Q 53 ((qs ++ [(⟨pk.k, ⟨fb, pk.s.n, pk.s.n, pk.s.l⟩⟩ : Pe)]).flatMap Pe.cells ++ prs (.int .i64 0) (.slice none 0 0) (pn - (k + 1)))) := ⟨by
                    have h1 := (HRW.out.set (j := k * 2) (.int .i64 pk.k)).set (j := k * 2 + 1) (.slice fb pk.s.n pk.s.n)
                    rw [show pn - k = (pn - (k + 1)) + 1 by omega, fill_two _ _ _ _ _ k _ (by rw [flat_len pe_two, HPL6.out])] at h1
                    simpa [Pe.cells, Sl.v] using h1⟩
                  have HOS : Keep (Off [F, F + 1, Q] wa.drew ((wn.setCell ⟨Q, k * 2, none⟩ (.int .i64 pk.k)).setCell ⟨Q, k * 2 + 1, none⟩ (.slice fb pk.s.n pk.s.n))) := ⟨((HO.out.sub (by simp)).setCell (by simp) _).setCell (by simp) _⟩
                  have hO9 := HFS.out
                  obtain ⟨fa', cur', hfs⟩ := hO9
                  have hfs1 := hfs.off (((Off.refl [Q] wn).setCell (p := ⟨Q, k * 2, none⟩) (by simp) (.int .i64 pk.k)).setCell (p := ⟨Q, k * 2 + 1, none⟩) (by simp) (.slice fb pk.s.n pk.s.n)) (by simp; omega) (by simp; omega)
                  rw [Nat.add_assoc, ← HST.out, List.append_assoc] at hfs1
                  have FS7 := Keep.mk hfs1
                  clear hfs hfs1 rc rc1 rf rf1 HFS
                  go_wp2
                  go_roundw
                  case rel =>
                    refine ⟨k + 1, fa', cur', qs ++ [(⟨pk.k, ⟨fb, pk.s.n, pk.s.n, pk.s.l⟩⟩ : Pe)], by omega, by go_num, by rw [List.map_append]; exact FS7.out, ?_, (OX6.out.below HDS.out).off HOS.out (by simp; omega), (IX6.out.below HDS.out).off HOS.out (by simp; omega), (HR6.out.below HDS.out).off HOS.out (by simp; omega), HW.out, HB6.out.trans ((HDS.out.mono HB6.out.size).trans (HOS.out.below (by have := HDS.out.size; omega) (by simp; omega)))⟩
                    rw [HL6.out, List.map_append, HP6.out]
                    rfl
                  case measure => simp [intOf]; omega
                · obtain rfl : pn = k := by omega
                  have hqm : qs.map Pe.m = P.map Pe.m := by
                    have := HP6.out
                    rwa [List.take_of_length_le (by have := HPL.out; omega)] at this
                  have hql : qs.length = pn := by
                    have := congrArg List.length hqm
                    simpa [HPL.out] using this
                  have hpl : ps.length = n := by
                    have := congrArg List.length HPM.out
                    simpa [HSL.out] using this
                  have HQM := Keep.mk hqm
                  have HQ9 := HQ6.out
                  rw [Nat.sub_self] at HQ9
                  have HD : Keep (∀ X, Off [w.heap.size + 1] wr X → Fq (w.heap.size + 2) X R Q F (NS.sum + (NP.take pn).sum) cur1 ps qs) := ⟨fun X hX => by
                    have hfs := FS6.out.off hX (by simp; omega) (by simp; omega)
                    exact ⟨HR6.out.off hX (by simp; omega), (by simpa [prs] using HQ9.off hX (by simp; omega)), hfs.blk, fun s hs => hfs.pc s (List.mem_append_left _ hs), fun p hp => hfs.pc p.s (List.mem_append_right _ (List.mem_map.2 ⟨p, hp, rfl⟩)), by omega, by omega, by omega, by omega, by omega, by omega⟩⟩
                  have HQL := Keep.mk hql
                  have HPL9 := Keep.mk hpl
                  have o0 := OX6.out.cell 0 _ rfl
                  have o1 := OX6.out.cell 1 _ rfl
                  have o2 := OX6.out.cell 2 _ rfl
                  have o3 := OX6.out.cell 3 _ rfl
                  have of := OX6.out.fz
                  clear hqm hql hpl HQ9 FS6
                  go_wp2
                  refine bodyPost_ret (v := .agg #[.slice (some ⟨R, 0, none⟩) n n, .slice (some ⟨Q, 0, none⟩) pn pn, .int .i64 left, .bool down]) (by simp [results, Try.results32, go_sem, o0, o1, o2, o3]) rfl ?_
                  have hoff := (((((Off.refl [w.heap.size + 1] wr).setCell (p := ⟨w.heap.size + 1, 0, none⟩) (by simp) (.slice (some ⟨R, 0, none⟩) n n)).setCell (p := ⟨w.heap.size + 1, 1, none⟩) (by simp) (.slice (some ⟨Q, 0, none⟩) pn pn)).setCell (p := ⟨w.heap.size + 1, 2, none⟩) (by simp) (.int .i64 left)).setCell (p := ⟨w.heap.size + 1, 3, none⟩) (by simp) (.bool down))
                  exact ⟨R, Q, F, _, n, pn, _, ps, qs, rfl, HD.out _ hoff, HPL9.out, HQL.out, hn1, hpn1, HPM.out, HQM.out, HB6.out.trans (hoff.below (by omega) (by simp))⟩
end Go.Proofs.Ytpekbcoclmhcnaa
