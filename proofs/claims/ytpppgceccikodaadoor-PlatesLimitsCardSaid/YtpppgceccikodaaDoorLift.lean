/- From a reading of an argument to the words of YtpppgceccikodaaDoorBase. -/
import Derived.Test.YtpppgceccikodaaDoorRows
import Derived.Test.YtpppgceccikodaaDoorBase
import Derived.ProofKit
import Derived.OpenShut
import Derived.ShutString
import Derived.SizedLaws
import Derived.Carry
import Derived.ChangeOld
namespace Go.Proofs.YtpppgceccikodaaDoor
open Go.ChangeShapes Go.WideShapes Go.ChangeAt Go.RowKit Go.Joins

theorem own : ownKnob Tryd.prog.godebug = none := by kernel_rfl
theorem laidOut : laidOutB Tryd.prog = true := by kernel_rfl

section
variable {H : Type} {enc : TypeId × Value → H} {P : Program} {W : World} {t e : TypeId} {v : Value} {d : DataW H} {p : List MemPlace} {r : Reach} {b0 : Nat}

/-- What a datum of a slice says of its length. -/
def LenIs (d : DataW H) (n : Nat) : Prop := (d = .nil ∧ n = 0) ∨ ∃ es sp, d = .slice es sp ∧ es.length = n

theorem open_rd {k : IntKind} (ht : P.underlying t = some (.slice e)) (he : P.underlying e = some (.int k)) (hc : P.cellsOf e = 1) (hv : Value.okWide P W r b0 t v) (h : DataW.Trod enc P W 0 (fun _ => true) true t v d p) :
    ∃ (A : Option Addr) (n c : Nat) (zs : List Int), v = .slice A n c ∧ Rd W 1 A n c (zs.map (Value.int k)) ∧ (∀ z ∈ zs, (Lit.int k z).wf = true) ∧ LenIs d n ∧ zs.length = n := by
  obtain ⟨A, n, c, rfl⟩ := okWide_slice ht hv
  obtain ⟨fuel, hf⟩ := h
  rcases open_ints ht he hc hf with ⟨hcs, hx⟩ | ⟨a, len, cap, zs, hcs, _, hl, hm, hz, hx, hcell, hwz⟩
  · simp [Value.cells] at hcs
    obtain ⟨rfl, rfl, rfl⟩ := hcs
    simp only [Prod.mk.injEq] at hx
    exact ⟨none, 0, 0, [], rfl, Rd.none_ _ _, (fun z h => by cases h), .inl ⟨hx.1, rfl⟩, rfl⟩
  · simp [Value.cells] at hcs
    obtain ⟨rfl, rfl, rfl⟩ := hcs
    simp only [if_true] at hz
    simp only [Prod.mk.injEq] at hx
    refine ⟨some a, n, c, zs.take n, rfl, ⟨by simp; omega, hl, hm, (fun h => by cases h), fun hn => ?_⟩, fun z h => hwz z (List.mem_of_mem_take h), .inr ⟨_, _, hx.1, by simp [lits]; omega⟩, by simp; omega⟩
    obtain ⟨b, o, spot⟩ := a
    have h0 := hcell 0 (by omega)
    have hspot : spot = none := by simpa [Addr.add] using World.cell?_spot h0
    subst hspot
    refine ⟨b, o, rfl, World.block_lt_of_cell? W _ (by simpa [Addr.add] using h0), fun j u hu => ?_⟩
    rw [List.getElem?_map, List.getElem?_take] at hu
    split at hu
    · rename_i hj
      have hj' : j < zs.length := by omega
      rw [List.getElem?_eq_getElem hj'] at hu
      simp only [Option.map_some, Option.some.injEq] at hu
      subst hu
      have := hcell j hj'
      rw [Addr.add_lit] at this
      rw [this]
      simp [List.getD, List.getElem?_eq_getElem hj']
    · cases hu

theorem byte_of_wf {z : Int} (h : (Lit.int .u8 z).wf = true) : ∃ c : UInt8, z = (c.toNat : Int) := by
  have hb := bounds_u8 h
  refine ⟨UInt8.ofNat z.toNat, ?_⟩
  rw [UInt8.toNat_ofNat']
  omega
theorem bytes_of_wf : ∀ (zs : List Int), (∀ z ∈ zs, (Lit.int .u8 z).wf = true) → ∃ l : List UInt8, zs.map (Value.int .u8) = l.map bv
  | [], _ => ⟨[], rfl⟩
  | z :: zs, h => by
    obtain ⟨c, hc⟩ := byte_of_wf (h z (by simp))
    obtain ⟨l, hl⟩ := bytes_of_wf zs (fun y hy => h y (by simp [hy]))
    exact ⟨c :: l, by simp [hl, bv, hc]⟩
theorem word_of_wf {z : Int} (h : (Lit.int .u64 z).wf = true) : ∃ x : BitVec 64, z = (x.toNat : Int) := by
  have hb := bounds_u64 h
  refine ⟨BitVec.ofNat 64 z.toNat, ?_⟩
  rw [BitVec.toNat_ofNat]
  omega
/-- A slice of bytes that came in. -/
theorem open_rb (ht : P.underlying t = some (.slice e)) (he : P.underlying e = some (.int .u8)) (hc : P.cellsOf e = 1) (hv : Value.okWide P W r b0 t v) (h : DataW.Trod enc P W 0 (fun _ => true) true t v d p) :
    ∃ A n c l, v = .slice A n c ∧ RB W A n c l ∧ LenIs d n := by
  obtain ⟨A, n, c, zs, hv', hr, hw, hd, hz⟩ := open_rd ht he hc hv h
  obtain ⟨l, hl⟩ := bytes_of_wf zs hw
  exact ⟨A, n, c, l, hv', by unfold RB; rw [← hl]; exact hr, hd⟩
/-- A slice of ints that came in. -/
theorem open_ri (ht : P.underlying t = some (.slice e)) (he : P.underlying e = some (.int .i64)) (hc : P.cellsOf e = 1) (hv : Value.okWide P W r b0 t v) (h : DataW.Trod enc P W 0 (fun _ => true) true t v d p) :
    ∃ A n c l, v = .slice A n c ∧ RI W A n c l ∧ (∀ z ∈ l, (Lit.int .i64 z).wf = true) ∧ LenIs d n := by
  obtain ⟨A, n, c, zs, hv', hr, hw, hd, hz⟩ := open_rd ht he hc hv h
  exact ⟨A, n, c, zs, hv', hr, hw, hd⟩
theorem LenIs.reach {ts : List TypeId} {ds : List (DataW H)} (h : (DataW.weightsEach P ts ds).all (· ≤ reachBytes) = true) {j n : Nat} (hl : LenIs d n) (ht : ts[j]? = some t) (hd : ds[j]? = some d) (hu : P.underlying t = some (.slice e)) :
    n * P.bytesOf e ≤ 140737488351232 := by
  rcases hl with ⟨rfl, rfl⟩ | ⟨es, sp, rfl, rfl⟩
  · simp
  · have := sized_slice h ht hd hu
    unfold reachBytes at this
    rw [Nat.add_mul] at this
    omega
end
end Go.Proofs.YtpppgceccikodaaDoor
