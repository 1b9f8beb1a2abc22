namespace Hd

/-- one shift of the register -/
def sh (n : UInt16) : UInt16 := if n % 2 = 1 then (n / 2) ^^^ 0x8408 else n / 2
def sh8 (n : UInt16) : UInt16 := sh (sh (sh (sh (sh (sh (sh (sh n)))))))
def crc1 (n : UInt16) (x : UInt8) : UInt16 := sh8 (n ^^^ x.toUInt16)
def crc (n : UInt16) (b : List UInt8) : UInt16 := b.foldl crc1 n
def fcs (b : List UInt8) : UInt16 := crc 0xffff b ^^^ 0xffff
def lo (n : UInt16) : UInt8 := n.toUInt8
def hi (n : UInt16) : UInt8 := (n >>> 8).toUInt8

theorem sh_bv (n : UInt16) : (sh n).toBitVec = (n.toBitVec >>> 1) ^^^ (if n.toBitVec.getLsbD 0 then 0x8408#16 else 0#16) := by
  unfold sh
  have h : (n % 2 = 1) ↔ n.toBitVec.getLsbD 0 = true := by
    rw [← UInt16.toNat_inj]
    simp [BitVec.getLsbD, Nat.testBit_zero]
  have h2 : (n / 2).toBitVec = n.toBitVec >>> 1 := by
    apply BitVec.eq_of_toNat_eq
    simp [Nat.shiftRight_eq_div_pow]
  by_cases hc : n % 2 = 1
  · rw [if_pos hc, if_pos (h.1 hc)]
    simp [h2]
  · rw [if_neg hc, if_neg (fun k => hc (h.2 k))]
    simp [h2]

theorem sh_xor (a b : UInt16) : sh (a ^^^ b) = sh a ^^^ sh b := by
  apply UInt16.toBitVec_inj.1
  rw [UInt16.toBitVec_xor, sh_bv, sh_bv, sh_bv, UInt16.toBitVec_xor, BitVec.getLsbD_xor, BitVec.ushiftRight_xor_distrib]
  generalize a.toBitVec >>> 1 = x
  generalize b.toBitVec >>> 1 = y
  cases a.toBitVec.getLsbD 0 <;> cases b.toBitVec.getLsbD 0 <;> simp
  · rw [BitVec.xor_assoc]
  · simp only [BitVec.xor_assoc, BitVec.xor_comm y]
  · apply BitVec.eq_of_getLsbD_eq
    intro i _
    simp only [BitVec.getLsbD_xor]
    cases x.getLsbD i <;> cases y.getLsbD i <;> simp
theorem sh_zero : sh 0 = 0 := by decide
theorem sh_inj {n : UInt16} (h : sh n = 0) : n = 0 := by
  unfold sh at h
  have hn : n.toNat < 65536 := n.toNat_lt
  split at h
  · have : n / 2 = 0x8408 := by
      have := congrArg (· ^^^ (0x8408 : UInt16)) h
      simpa [UInt16.xor_assoc] using this
    have := congrArg UInt16.toNat this
    simp at this
    omega
  · rename_i h2
    rw [← UInt16.toNat_inj] at h h2 ⊢
    simp at h h2 ⊢
    omega
theorem sh8_xor (a b : UInt16) : sh8 (a ^^^ b) = sh8 a ^^^ sh8 b := by simp only [sh8, sh_xor]
theorem sh8_zero : sh8 0 = 0 := by decide
theorem sh8_inj {n : UInt16} (h : sh8 n = 0) : n = 0 := sh_inj (sh_inj (sh_inj (sh_inj (sh_inj (sh_inj (sh_inj (sh_inj h)))))))
theorem xor_zero_iff {a b : UInt16} (h : a ^^^ b = 0) : a = b := by
  have := congrArg (· ^^^ b) h
  simpa [UInt16.xor_assoc] using this

theorem xor_inj {p q : UInt16} (h : p ^^^ 0xffff = q ^^^ 0xffff) : p = q := by
  have := congrArg (· ^^^ (0xffff : UInt16)) h
  simpa [UInt16.xor_assoc] using this
theorem all_u8 (p : UInt8 → Bool) (h : (List.range 256).all (fun i => p (UInt8.ofNat i)) = true) (x : UInt8) : p x = true := by
  rw [List.all_eq_true] at h
  have := h x.toNat (List.mem_range.2 x.toNat_lt)
  simpa using this

theorem sh8_hi (h : UInt8) : sh8 (h.toUInt16 <<< 8) = h.toUInt16 := by
  have := all_u8 (fun h => sh8 (h.toUInt16 <<< 8) == h.toUInt16) (by decide +kernel) h
  simpa using this
theorem sh8_lo_big (a b : UInt8) (h : sh8 a.toUInt16 = b.toUInt16) : a = 0 := by
  have := all_u8 (fun a => a == 0 || decide (256 ≤ (sh8 a.toUInt16).toNat)) (by decide +kernel) a
  simp only [Bool.or_eq_true, beq_iff_eq, decide_eq_true_eq] at this
  rcases this with h1 | h1
  · exact h1
  · rw [h] at h1
    have := b.toNat_lt
    simp at h1
    omega

theorem split16 (n : UInt16) : n = (lo n).toUInt16 ^^^ ((hi n).toUInt16 <<< 8) := by
  apply UInt16.toBitVec_inj.1
  apply BitVec.eq_of_getLsbD_eq
  intro i hi
  simp only [lo, Hd.hi, UInt16.toBitVec_xor, BitVec.getLsbD_xor, UInt16.toBitVec_shiftLeft, UInt8.toBitVec_toUInt16, UInt16.toBitVec_toUInt8, UInt16.toBitVec_shiftRight]
  simp
  by_cases h : i < 8
  · simp [h]
    omega
  · simp [h]
    rw [show 8 + (i - 8) = i from by omega]
    have : i - 8 < 8 := by omega
    simp [this, hi]
    intro; omega

theorem crc1_table (n : UInt16) (x : UInt8) : crc1 n x = sh8 ((lo n ^^^ x).toUInt16) ^^^ (n >>> 8) := by
  unfold crc1
  have h1 : n ^^^ x.toUInt16 = (lo n ^^^ x).toUInt16 ^^^ ((hi n).toUInt16 <<< 8) := by
    conv => lhs; rw [split16 n]
    rw [UInt8.toUInt16_xor]
    simp only [UInt16.xor_assoc]
    rw [UInt16.xor_comm x.toUInt16]
  rw [h1, sh8_xor, sh8_hi]
  congr 1
  apply UInt16.toNat_inj.1
  have := n.toNat_lt
  simp [hi, Nat.shiftRight_eq_div_pow]
  omega

theorem crc1_lin (n d : UInt16) (x : UInt8) : crc1 (n ^^^ d) x = crc1 n x ^^^ sh8 d := by
  unfold crc1
  rw [← sh8_xor]
  congr 1
  rw [UInt16.xor_assoc, UInt16.xor_comm d, ← UInt16.xor_assoc]
theorem crc_inj (b : List UInt8) : ∀ n d : UInt16, crc (n ^^^ d) b = crc n b → d = 0 := by
  induction b with
  | nil =>
    intro n d h
    have h : n ^^^ d = n := h
    have := congrArg (n ^^^ ·) h
    simpa [← UInt16.xor_assoc] using this
  | cons x b ih =>
    intro n d h
    unfold crc at ih h
    rw [List.foldl_cons, List.foldl_cons, crc1_lin] at h
    exact sh8_inj (ih _ _ h)
theorem crc_append (n : UInt16) (a b : List UInt8) : crc n (a ++ b) = crc (crc n a) b := List.foldl_append ..

/-- up to two neighbouring bytes turned: the sequence turns -/
theorem burst (l r : List UInt8) (x y a b : UInt8) (h : ¬ (a = 0 ∧ b = 0)) : fcs (l ++ (x ^^^ a) :: (y ^^^ b) :: r) ≠ fcs (l ++ x :: y :: r) := by
  intro he
  unfold fcs at he
  generalize hp : crc 0xffff (l ++ (x ^^^ a) :: (y ^^^ b) :: r) = p at he
  generalize hq : crc 0xffff (l ++ x :: y :: r) = q at he
  have he := xor_inj he
  rw [← hp, ← hq, crc_append, crc_append] at he
  clear hp hq
  generalize crc 0xffff l = n at he
  simp only [crc, List.foldl_cons] at he
  have e1 : crc1 n (x ^^^ a) = crc1 n x ^^^ sh8 a.toUInt16 := by
    unfold crc1; rw [← sh8_xor, UInt8.toUInt16_xor, UInt16.xor_assoc]
  have e2 : ∀ m : UInt16, crc1 m (y ^^^ b) = crc1 m y ^^^ sh8 b.toUInt16 := fun m => by
    unfold crc1; rw [← sh8_xor, UInt8.toUInt16_xor, UInt16.xor_assoc]
  rw [e2, e1, crc1_lin, UInt16.xor_assoc, ← sh8_xor] at he
  have h0 := crc_inj r _ _ he
  by_cases hd : sh8 a.toUInt16 ^^^ b.toUInt16 = 0
  · have hab := xor_zero_iff hd
    have ha := sh8_lo_big a b hab
    subst ha
    rw [show (0 : UInt8).toUInt16 = 0 from rfl, sh8_zero] at hab
    apply h
    refine ⟨rfl, ?_⟩
    apply UInt8.toNat_inj.1
    have := congrArg UInt16.toNat hab
    simpa using this.symm
  · exact hd (sh8_inj h0)

theorem residue (b : List UInt8) : fcs (b ++ [lo (fcs b), hi (fcs b)]) = 0x0f47 := by
  unfold fcs
  rw [crc_append]
  generalize crc 0xffff b = c
  simp only [crc, List.foldl_cons, List.foldl_nil]
  generalize hn : c ^^^ 0xffff = n
  have hc : c = n ^^^ 0xffff := by rw [← hn]; simp [UInt16.xor_assoc]
  subst hc
  have e1 : crc1 (n ^^^ 0xffff) (lo n) = (hi n).toUInt16 ^^^ sh8 0xffff := by
    rw [crc1_lin]
    congr 1
    unfold crc1
    conv => lhs; arg 1; arg 1; rw [split16 n]
    rw [UInt16.xor_comm, ← UInt16.xor_assoc, UInt16.xor_self, UInt16.zero_xor, sh8_hi]
  rw [e1]
  unfold crc1
  rw [UInt16.xor_comm (hi n).toUInt16, UInt16.xor_assoc, UInt16.xor_self, UInt16.xor_zero]
  decide +kernel
end Hd
