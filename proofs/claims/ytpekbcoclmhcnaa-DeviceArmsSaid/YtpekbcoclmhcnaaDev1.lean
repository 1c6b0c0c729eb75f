/- device.has, the closures of device; a piece of a great block of bytes. -/
import Derived.Test.YtpekbcoclmhcnaaDisk
import Derived.Test.YtpekbcoclmhcnaaOff
namespace Go.Proofs.Ytpekbcoclmhcnaa
open Go.RowKit Go.Joins

theorem below_next {B : Nat} {w w' w'' : World} (h : Below B w w') (hb : Below w'.heap.size w' w'') (hB : B ≤ w.heap.size) : Below B w w'' := h.trans (hb.mono (Nat.le_trans hB h.size))

/-- device.has -/
theorem has_any (A : Option Addr) (n c : Nat) (pA : Option Addr) (pn pc : Nat) (left : Int) (down : Bool) (s : Int) (w : World) :
    Calls Try.prog 33 #[.agg #[.slice A n c, .slice pA pn pc, .int .i64 left, .bool down], .int .i64 s] w fun e w' => e = .returned (.bool (Dv.has n s)) ∧ Below w.heap.size w w' := by
  by_cases h0 : 0 ≤ s
  · have h1 : decide ((0 : Int) ≤ s) = true := decide_eq_true h0
    by_cases h2 : s < (n : Int)
    · have h3 : decide (s < (n : Int)) = true := decide_eq_true h2
      have HX : Keep (Dv.has n s = true) := ⟨decide_eq_true ⟨h0, h2⟩⟩
      go_enter Try.func33, Try.ntmps33
      go_wp2
      go_ret
      exact ⟨by rw [HX.out]; rfl, below_alloc1 _ _⟩
    · have h3 : decide (s < (n : Int)) = false := decide_eq_false h2
      have HX : Keep (Dv.has n s = false) := ⟨decide_eq_false fun h => h2 h.2⟩
      go_enter Try.func33, Try.ntmps33
      go_wp2
      go_ret
      exact ⟨by rw [HX.out]; rfl, below_alloc1 _ _⟩
  · have h1 : decide ((0 : Int) ≤ s) = false := decide_eq_false h0
    have HX : Keep (Dv.has n s = false) := ⟨decide_eq_false fun h => h0 h.1⟩
    go_enter Try.func33, Try.ntmps33
    go_wp2
    go_ret
    exact ⟨by rw [HX.out]; rfl, below_alloc1 _ _⟩

theorem u8_one : (Try.prog.info? 5).map (·.size) = some 1 := by kernel_rfl
/-- The slice of what is left, behind off bytes of block F. -/
def Lft (F off rest : Nat) (fa : Option Addr) : Prop := (0 < rest → fa = some ⟨F, off, none⟩) ∧ (fa = none → rest = 0)
theorem Lft.cut {F off rest n : Nat} {fa : Option Addr} (h : Lft F off rest fa) (hn : n ≤ rest) : Lft F (off + n) (rest - n) (cutA fa n rest 1) := by
  refine ⟨fun h0 => ?_, fun h0 => ?_⟩
  · have := h.1 (by omega)
    subst this
    unfold cutA
    rw [if_neg (by omega)]
    simp [Addr.add_lit]
  · unfold cutA at h0
    split at h0
    · omega
    · cases fa with
      | none => have := h.2 rfl; omega
      | some a => simp at h0
set_option maxHeartbeats 400000 in
/-- device.fresh's closure take: the next piece of the block. -/
theorem take_any (A : Option Addr) (n c : Nat) (l : List UInt8) (V F off rest : Nat) (fa : Option Addr) (cur : List Value) (e0 : TypeId) (w : World) (hl : RB w A n c l) (hv : Bx w V [.slice fa rest rest]) (hF : Wh w F e0 cur)
    (hfa : Lft F off rest fa) (hfit : off + rest ≤ cur.length) (hn : n ≤ rest) (hr : rest ≤ 1000000000) (hne : V ≠ F) :
    Calls Try.prog 41 #[.slice A n c, .pointer (some ⟨V, 0, none⟩)] w fun e w' =>
      e = .returned (.slice fa n n) ∧ Bx w' V [.slice (cutA fa n rest 1) (rest - n) (rest - n)] ∧ Wh w' F e0 (splice cur off (l.map bv)) ∧ Off [F, V] w w' := by
  have HL := Keep.mk hl
  have HV := Keep.mk hv
  have HF := Keep.mk hF
  have HA := Keep.mk hfa
  have HN : Keep (V ≠ F) := ⟨hne⟩
  have c0 := hv.cell 0 _ rfl
  have hlen := hl.len
  have k1 := run_cut3_b fa rest rest 0 n n 0 n n rfl rfl rfl (by omega) (by omega) hn
  have k2 := run_from_b fa rest rest n n rfl hn
  rw [cutA_zero] at k1
  have K1 := Keep.mk k1
  clear hl hv hF hfa hne k1
  go_enter Try.func41, Try.ntmps41
  go_wp2_with (refine wpList_copy_off rfl (.tmp 6) (.tmp 7) 26 26 rfl 5 Try.underlying26 u8_one fa A rest rest n c rfl rfl F off cur e0 HF.out (l.map bv) HL.out hn (fun h0 => HA.out.1 (by omega)) (by omega) (bv_one l) ?_; intro w2 hF2 ho2; have HF2 := Keep.mk hF2; have HO2 := Keep.mk ho2; have HV2 := Keep.mk (HV.out.off ho2 (by simpa using HN.out)); have c2 := HV2.out.cell 0 _ rfl; have f2 := HV2.out.fz 0; clear hF2 ho2 c0)
  go_ret
  exact ⟨rfl, HV2.out.set (j := 0) (by simp) _, HF2.out.other (Ne.symm HN.out) _, (HO2.out.sub (by simp)).setCell (by simp) _⟩

/-! ### The pieces -/
/-- A slice of bytes that lies in block F before place off. -/
structure Pc (F off : Nat) (cur : List Value) (s : Sl) : Prop where
  n : s.l.length = s.n
  c : s.n ≤ s.c
  big : s.c ≤ maxLen
  nil : s.a = none → s.c = 0
  at_ : 0 < s.n → ∃ o, s.a = some ⟨F, o, none⟩ ∧ o + s.n ≤ off ∧ ∀ j u, (s.l.map bv)[j]? = some u → cur[o + j]? = some u
theorem Pc.ok {F off : Nat} {cur : List Value} {s : Sl} {w : World} {e : TypeId} (h : Pc F off cur s) (hF : Wh w F e cur) : s.Ok w := by
  refine ⟨by simp [h.n], h.c, h.big, h.nil, fun hn => ?_⟩
  obtain ⟨o, e, _, hj⟩ := h.at_ hn
  exact ⟨F, o, e, hF.lt, fun j u hu => (hF.cell _).trans (hj j u hu)⟩
theorem Pc.laid {F off off' k : Nat} {cur cs : List Value} {s : Sl} (h : Pc F off cur s) (hk : off ≤ k) (hf : k + cs.length ≤ cur.length) (h' : off ≤ off') : Pc F off' (splice cur k cs) s := by
  refine ⟨h.n, h.c, h.big, h.nil, fun hn => ?_⟩
  obtain ⟨o, e, ho, hj⟩ := h.at_ hn
  refine ⟨o, e, by omega, fun j u hu => ?_⟩
  have hl : j < s.l.length := by have := (List.getElem?_eq_some_iff.1 hu).1; simpa using this
  rw [splice_before _ _ _ hf (by have := h.n; omega)]
  exact hj j u hu
/-- What take returns. -/
theorem Pc.new {F off rest n : Nat} {cur : List Value} {fa : Option Addr} {l : List UInt8} (hfa : Lft F off rest fa) (hl : l.length = n) (hn : n ≤ rest) (hfit : off + rest ≤ cur.length) (hr : rest ≤ 1000000000) :
    Pc F (off + n) (splice cur off (l.map bv)) ⟨fa, n, n, l⟩ := by
  refine ⟨hl, Nat.le_refl _, by simp only [maxLen]; omega, fun h => by have := hfa.2 h; show n = 0; omega, fun h0 => ⟨off, hfa.1 (by simp only at h0; omega), by simp, fun j u hu => ?_⟩⟩
  have hj : j < (l.map bv).length := (List.getElem?_eq_some_iff.1 hu).1
  rw [splice_in _ _ _ (by simp; omega) hj]
  exact hu
end Go.Proofs.Ytpekbcoclmhcnaa
