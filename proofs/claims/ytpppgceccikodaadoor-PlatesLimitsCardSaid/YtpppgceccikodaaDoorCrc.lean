/- The plain mathematics of the checksum (CRC-32, by bits and by four bits) and of the digest (FNV-1a): no program in sight. -/
namespace Go.Proofs.YtpppgceccikodaaDoor.M

/-- One shift of the checksum's register. -/
def bit (x : BitVec 32) : BitVec 32 := (x >>> 1) ^^^ (if x.getLsbD 0 then 0xedb88320#32 else 0#32)
/-- Four shifts. -/
def nib (x : BitVec 32) : BitVec 32 := bit (bit (bit (bit x)))
/-- Eight shifts. -/
def oct (x : BitVec 32) : BitVec 32 := nib (nib x)
/-- A byte as 32 bits. -/
def ext (c : UInt8) : BitVec 32 := BitVec.ofNat 32 c.toNat

theorem bit_xor (x y : BitVec 32) : bit (x ^^^ y) = bit x ^^^ bit y := by
  unfold bit
  rw [BitVec.ushiftRight_xor_distrib, BitVec.getLsbD_xor]
  cases x.getLsbD 0 <;> cases y.getLsbD 0 <;> simp only [Bool.bne_true, Bool.bne_false, Bool.not_true, Bool.not_false, Bool.false_eq_true, if_true, if_false, BitVec.xor_zero]
  · ac_rfl
  · ac_rfl
  · have e : ∀ p q c : BitVec 32, p ^^^ c ^^^ (q ^^^ c) = p ^^^ q := by
      intro p q c
      rw [BitVec.xor_assoc, ← BitVec.xor_assoc c q c, BitVec.xor_comm c q, BitVec.xor_assoc q c c, BitVec.xor_self, BitVec.xor_zero]
    exact (e _ _ _).symm
theorem nib_xor (x y : BitVec 32) : nib (x ^^^ y) = nib x ^^^ nib y := by
  unfold nib; simp only [bit_xor]
theorem oct_xor (x y : BitVec 32) : oct (x ^^^ y) = oct x ^^^ oct y := by
  unfold oct; simp only [nib_xor]

theorem bit_shl (x : BitVec 32) (h : x.getLsbD 31 = false) : bit (x <<< 1) = x := by
  unfold bit
  have h0 : (x <<< 1).getLsbD 0 = false := by simp
  rw [h0]
  simp only [Bool.false_eq_true, if_false, BitVec.xor_zero]
  apply BitVec.eq_of_getLsbD_eq
  intro i hi
  simp only [BitVec.getLsbD_ushiftRight, BitVec.getLsbD_shiftLeft]
  by_cases h31 : i = 31
  · subst h31; rw [h]; simp
  · simp; omega

/-- The part above the lowest four bits, and the lowest four bits. -/
theorem split4 (x : BitVec 32) : x = ((x >>> 4) <<< 4) ^^^ (x &&& 15#32) := by
  apply BitVec.eq_of_getLsbD_eq
  intro i hi
  have h15 : (15#32).getLsbD i = decide (i < 4) := by
    rcases (by omega : i = 0 ∨ i = 1 ∨ i = 2 ∨ i = 3 ∨ 4 ≤ i) with h | h | h | h | h
    · subst h; decide
    · subst h; decide
    · subst h; decide
    · subst h; decide
    · rw [decide_eq_false (by omega)]
      have : (15#32) = BitVec.ofNat 32 (2 ^ 4 - 1) := by decide
      rw [this, BitVec.getLsbD_ofNat, Nat.testBit_two_pow_sub_one]
      simp; omega
  simp only [BitVec.getLsbD_xor, BitVec.getLsbD_shiftLeft, BitVec.getLsbD_ushiftRight, BitVec.getLsbD_and, h15]
  by_cases h4 : i < 4
  · simp [h4]
  · have e : 4 + (i - 4) = i := by omega
    simp [h4, hi, e]

theorem shl_shl (y : BitVec 32) : (y >>> 4) <<< 4 = (((((y >>> 4) <<< 1) <<< 1) <<< 1) <<< 1) := by
  simp only [← BitVec.shiftLeft_add]

/-- THE TABLE's STEP: four shifts are a shift by four and what the lowest four bits are combined with. -/
theorem nib_eq (x : BitVec 32) : nib x = (x >>> 4) ^^^ nib (x &&& 15#32) := by
  have h : nib ((x >>> 4) <<< 4) = x >>> 4 := by
    rw [shl_shl]
    unfold nib
    rw [bit_shl _ (by simp), bit_shl _ (by simp), bit_shl _ (by simp), bit_shl _ (by simp)]
  conv => lhs; rw [split4 x, nib_xor, h]

theorem bit_inj {x y : BitVec 32} (h : bit x = bit y) : x = y := by
  have key : ∀ z : BitVec 32, bit z = 0#32 → z = 0#32 := by
    intro z hz
    unfold bit at hz
    have h31 : ((z >>> 1) ^^^ (if z.getLsbD 0 then 0xedb88320#32 else 0#32)).getLsbD 31 = false := by rw [hz]; decide
    rw [BitVec.getLsbD_xor, BitVec.getLsbD_ushiftRight, BitVec.getLsbD_of_ge z (1 + 31) (by omega)] at h31
    cases h0 : z.getLsbD 0 with
    | true =>
      rw [h0] at h31
      simp at h31
    | false =>
      rw [h0] at hz
      simp only [Bool.false_eq_true, if_false, BitVec.xor_zero] at hz
      apply BitVec.eq_of_getLsbD_eq
      intro i hi
      cases i with
      | zero => rw [h0]; simp
      | succ i =>
        have := congrArg (fun v => BitVec.getLsbD v i) hz
        simp only [BitVec.getLsbD_ushiftRight] at this
        rw [Nat.add_comm 1 i] at this
        rw [this]; simp
  have h2 : bit (x ^^^ y) = 0#32 := by rw [bit_xor, h, BitVec.xor_self]
  have h3 := key _ h2
  have : x ^^^ y ^^^ y = 0#32 ^^^ y := by rw [h3]
  rw [BitVec.xor_assoc, BitVec.xor_self, BitVec.xor_zero, BitVec.zero_xor] at this
  exact this
theorem nib_inj {x y : BitVec 32} (h : nib x = nib y) : x = y := bit_inj (bit_inj (bit_inj (bit_inj h)))
theorem oct_inj {x y : BitVec 32} (h : oct x = oct y) : x = y := nib_inj (nib_inj h)

/-- The register behind one byte more. -/
def crcStep (r : BitVec 32) (c : UInt8) : BitVec 32 := oct (r ^^^ ext c)
/-- The register behind bytes. -/
def crcFrom (r : BitVec 32) (l : List UInt8) : BitVec 32 := l.foldl crcStep r
def crcReg (l : List UInt8) : BitVec 32 := crcFrom 0xffffffff#32 l
/-- THE CHECKSUM. -/
def crc (l : List UInt8) : BitVec 32 := ~~~ crcReg l

theorem crcFrom_snoc (r : BitVec 32) (l : List UInt8) (c : UInt8) : crcFrom r (l ++ [c]) = crcStep (crcFrom r l) c := by
  simp [crcFrom]
theorem crcFrom_append (r : BitVec 32) (l m : List UInt8) : crcFrom r (l ++ m) = crcFrom (crcFrom r l) m := by
  simp [crcFrom]
theorem crcReg_take (l : List UInt8) (k : Nat) (h : k < l.length) : crcReg (l.take (k + 1)) = crcStep (crcReg (l.take k)) l[k] := by
  unfold crcReg
  rw [List.take_succ_eq_append_getElem h, crcFrom_snoc]

/-- Byte by byte. -/
def xorL : List UInt8 → List UInt8 → List UInt8
  | a :: l, b :: m => (a ^^^ b) :: xorL l m
  | _, _ => []
theorem ext_xor (a b : UInt8) : ext (a ^^^ b) = ext a ^^^ ext b := by
  unfold ext
  apply BitVec.eq_of_toNat_eq
  have ha := a.toNat_lt
  have hb := b.toNat_lt
  have hx := (a ^^^ b).toNat_lt
  simp only [BitVec.toNat_ofNat, BitVec.toNat_xor]
  rw [Nat.mod_eq_of_lt (by omega), Nat.mod_eq_of_lt (by omega), Nat.mod_eq_of_lt (by omega), UInt8.toNat_xor]
theorem crcFrom_xor : ∀ (l m : List UInt8) (r s : BitVec 32), l.length = m.length → crcFrom (r ^^^ s) (xorL l m) = crcFrom r l ^^^ crcFrom s m
  | [], [], r, s, _ => rfl
  | a :: l, b :: m, r, s, h => by
    have h' : l.length = m.length := by simpa using h
    simp only [xorL, crcFrom, List.foldl_cons]
    have := crcFrom_xor l m (crcStep r a) (crcStep s b) h'
    unfold crcFrom at this
    rw [← this]
    congr 1
    unfold crcStep
    rw [ext_xor, ← oct_xor]
    congr 1
    ac_rfl
  | [], _ :: _, _, _, h => by simp at h
  | _ :: _, [], _, _, h => by simp at h
theorem length_xorL : ∀ (l m : List UInt8), l.length = m.length → (xorL l m).length = l.length
  | [], [], _ => rfl
  | a :: l, b :: m, h => by
    have h' : l.length = m.length := by simpa using h
    simp [xorL, length_xorL l m h']
  | [], _ :: _, h => by simp at h
  | _ :: _, [], h => by simp at h
theorem not_xor3 (x y z : BitVec 32) : ~~~ x ^^^ ~~~ y ^^^ ~~~ z = ~~~ (x ^^^ y ^^^ z) := by
  apply BitVec.eq_of_getLsbD_eq
  intro i hi
  simp only [BitVec.getLsbD_xor, BitVec.getLsbD_not, hi, decide_true, Bool.true_and]
  cases x.getLsbD i <;> cases y.getLsbD i <;> cases z.getLsbD i <;> rfl
/-- THE CHECKSUMS OF THREE STRINGS OF ONE LENGTH ADD UP. -/
theorem crc_linear (a b c : List UInt8) (h1 : a.length = b.length) (h2 : a.length = c.length) : crc a ^^^ crc b ^^^ crc c = crc (xorL (xorL a b) c) := by
  have e : (0xffffffff#32 ^^^ 0xffffffff#32 ^^^ 0xffffffff#32 : BitVec 32) = 0xffffffff#32 := by decide
  unfold crc crcReg
  rw [not_xor3, ← crcFrom_xor a b _ _ h1, ← crcFrom_xor (xorL a b) c _ _ (by rw [length_xorL a b h1, h2]), e]

theorem crcFrom_inj : ∀ (l : List UInt8) {r s : BitVec 32}, crcFrom r l = crcFrom s l → r = s
  | [], _, _, h => h
  | a :: l, r, s, h => by
    have h' := crcFrom_inj l (r := crcStep r a) (s := crcStep s a) h
    have h2 := oct_inj h'
    have h3 : r ^^^ ext a ^^^ ext a = s ^^^ ext a ^^^ ext a := by rw [h2]
    simpa [BitVec.xor_assoc] using h3
theorem ext_inj {a b : UInt8} (h : ext a = ext b) : a = b := by
  have := congrArg BitVec.toNat h
  unfold ext at this
  have ha := a.toNat_lt
  have hb := b.toNat_lt
  simp only [BitVec.toNat_ofNat] at this
  rw [Nat.mod_eq_of_lt (by omega), Nat.mod_eq_of_lt (by omega)] at this
  exact UInt8.toNat_inj.1 this
/-- A CHANGED BYTE CHANGES THE CHECKSUM. -/
theorem crc_set (l : List UInt8) (i : Nat) (hi : i < l.length) (c : UInt8) (hc : c ≠ l[i]) : crc (l.set i c) ≠ crc l := by
  intro h
  have h1 : crcReg (l.set i c) = crcReg l := by
    have := congrArg (fun v => ~~~ v) h
    simpa [crc] using this
  have e1 : l.set i c = l.take i ++ c :: l.drop (i + 1) := by rw [List.set_eq_take_append_cons_drop, if_pos hi]
  have e2 : l = l.take i ++ l[i] :: l.drop (i + 1) := by simp
  rw [e1] at h1
  unfold crcReg at h1
  rw [crcFrom_append] at h1
  conv at h1 => rhs; rw [e2, crcFrom_append]
  have h2 := crcFrom_inj (l.drop (i + 1)) (r := crcStep _ c) (s := crcStep _ l[i]) h1
  have h3 := oct_inj h2
  have h4 : ext c = ext l[i] := by
    have := congrArg (fun v => crcFrom 0xffffffff#32 (l.take i) ^^^ v) h3
    simpa [← BitVec.xor_assoc] using this
  exact hc (ext_inj h4)

/-- THE FOUR BYTES OF A CHECKSUM, the most significant one first. -/
def be4 (x : BitVec 32) : List UInt8 := [UInt8.ofNat (x.toNat / 16777216), UInt8.ofNat (x.toNat / 65536), UInt8.ofNat (x.toNat / 256), UInt8.ofNat x.toNat]
theorem length_be4 (x : BitVec 32) : (be4 x).length = 4 := rfl
theorem be4_inj {x y : BitVec 32} (h : be4 x = be4 y) : x = y := by
  unfold be4 at h
  simp only [List.cons.injEq, and_true] at h
  obtain ⟨h1, h2, h3, h4⟩ := h
  have g1 := congrArg UInt8.toNat h1
  have g2 := congrArg UInt8.toNat h2
  have g3 := congrArg UInt8.toNat h3
  have g4 := congrArg UInt8.toNat h4
  simp only [UInt8.toNat_ofNat'] at g1 g2 g3 g4
  have hx := x.isLt
  have hy := y.isLt
  apply BitVec.eq_of_toNat_eq
  omega
/-- SEALED BYTES. -/
def sealed (l : List UInt8) : List UInt8 := l ++ be4 (crc l)
theorem length_sealed (l : List UInt8) : (sealed l).length = l.length + 4 := by simp [sealed, length_be4]

/-- The digest. -/
def fnvStep (d : BitVec 64) (c : UInt8) : BitVec 64 := (d ^^^ BitVec.ofNat 64 c.toNat) * 0x100000001b3#64
def fnvFrom (d : BitVec 64) (l : List UInt8) : BitVec 64 := l.foldl fnvStep d
def fnv (l : List UInt8) : BitVec 64 := fnvFrom 0xcbf29ce484222325#64 l
theorem fnvFrom_take (d : BitVec 64) (l : List UInt8) (k : Nat) (h : k < l.length) : fnvFrom d (l.take (k + 1)) = fnvStep (fnvFrom d (l.take k)) l[k] := by
  rw [List.take_succ_eq_append_getElem h]; simp only [fnvFrom, List.foldl_append, List.foldl_cons, List.foldl_nil]
theorem fnvFrom_append (d : BitVec 64) (l m : List UInt8) : fnvFrom d (l ++ m) = fnvFrom (fnvFrom d l) m := by simp [fnvFrom]
/-- The byte number j of x, from the least significant one. -/
def byteAt (x j : Nat) : UInt8 := UInt8.ofNat (x / 256 ^ j)
/-- The lowest bytes of x, the most significant one first. -/
def beN (x : Nat) : Nat → List UInt8
  | 0 => []
  | k + 1 => byteAt x k :: beN x k
theorem length_beN (x k : Nat) : (beN x k).length = k := by induction k with | zero => rfl | succ k ih => simp [beN, ih]
theorem get_beN (x : Nat) : ∀ (k i : Nat) (h : i < (beN x k).length), (beN x k)[i] = byteAt x (k - 1 - i)
  | 0, i, h => by simp [beN] at h
  | k + 1, 0, h => by simp [beN]
  | k + 1, i + 1, h => by
    simp only [beN, List.getElem_cons_succ]
    rw [get_beN x k i (by simpa [beN] using h)]
    congr 1
    omega
/-- A hexadecimal digit. -/
def digit (j : Nat) : UInt8 := if j < 10 then UInt8.ofNat (48 + j) else UInt8.ofNat (87 + j)
/-- The digit number j of d, of 16, from the most significant one. -/
def hexAt (d j : Nat) : UInt8 := digit (d / 16 ^ (15 - j) % 16)
/-- THE 16 DIGITS. -/
def hexL (d : Nat) : List UInt8 := (List.range 16).map (hexAt d)
theorem be4_beN (x : BitVec 32) : be4 x = beN x.toNat 4 := by simp [be4, beN, byteAt]
end Go.Proofs.YtpppgceccikodaaDoor.M
