import Derived.Test.YtaoiklfkkipcaaaCrc
namespace Hd

/-! stuffing and frames -/
def special (x : UInt8) : Bool := x == 0x7e || x == 0x7d
def stuff1 (x : UInt8) : List UInt8 := if special x then [0x7d, x ^^^ 0x20] else [x]
def stuff : List UInt8 → List UInt8
  | [] => []
  | x :: r => stuff1 x ++ stuff r
def tail2 (n : UInt16) : List UInt8 := [lo n, hi n]
def sealed (p : List UInt8) (n : UInt16) : List UInt8 := 0x7e :: (stuff (p ++ tail2 n) ++ [0x7e])
def frame (p : List UInt8) : List UInt8 := sealed p (fcs p)

/-- the unstuffing machine: what has come, whether an escape stands open, what is to come -/
def uacc (acc : List UInt8) (esc : Bool) : List UInt8 → Option (List UInt8 × Bool)
  | [] => some (acc, esc)
  | x :: r => if esc then (if special (x ^^^ 0x20) then uacc (acc ++ [x ^^^ 0x20]) false r else none) else if x = 0x7d then uacc acc true r else uacc (acc ++ [x]) false r
/-- errors: 20 frame, 21 fcs -/
def check2 (w : List UInt8) : Except Nat (List UInt8) :=
  if w.length < 2 ∨ 4098 < w.length then .error 20
  else if fcs (w.take (w.length - 2)) = ((w.getD (w.length - 2) 0).toUInt16 ||| ((w.getD (w.length - 1) 0).toUInt16 <<< 8)) then .ok (w.take (w.length - 2)) else .error 21
def opened (c : List UInt8) : Except Nat (List UInt8) :=
  match uacc [] false c with
  | some (w, false) => check2 w
  | _ => .error 20

theorem stuff_append (a b : List UInt8) : stuff (a ++ b) = stuff a ++ stuff b := by
  induction a with
  | nil => rfl
  | cons x a ih => simp [stuff, ih]
theorem flip_ne (x : UInt8) : special x = true → (x ^^^ 0x20) ^^^ 0x20 = x ∧ x ^^^ 0x20 ≠ 0x7e ∧ x ^^^ 0x20 ≠ 0x7d := by
  intro h
  simp only [special, Bool.or_eq_true, beq_iff_eq] at h
  rcases h with rfl | rfl <;> decide
theorem stuff_noflag (b : List UInt8) : (0x7e : UInt8) ∉ stuff b := by
  induction b with
  | nil => simp [stuff]
  | cons x b ih =>
    simp only [stuff, List.mem_append, not_or]
    refine ⟨?_, ih⟩
    unfold stuff1
    split
    · rename_i h
      have := flip_ne x h
      simp only [List.mem_cons, List.not_mem_nil, or_false, not_or]
      exact ⟨by decide, fun e => this.2.1 e.symm⟩
    · rename_i h
      simp only [special, Bool.or_eq_true, beq_iff_eq, not_or] at h
      simp only [List.mem_cons, List.not_mem_nil, or_false]
      exact fun e => h.1 e.symm
theorem uacc_stuff (b : List UInt8) : ∀ (acc r : List UInt8), uacc acc false (stuff b ++ r) = uacc (acc ++ b) false r := by
  induction b with
  | nil => intro acc r; simp [stuff]
  | cons x b ih =>
    intro acc r
    simp only [stuff, List.append_assoc]
    unfold stuff1
    split
    · rename_i h
      have := flip_ne x h
      simp only [List.cons_append, List.nil_append]
      rw [uacc, if_neg (by simp), if_pos rfl, uacc, if_pos rfl, this.1, if_pos h, ih]
      simp
    · rename_i h
      simp only [special, Bool.or_eq_true, beq_iff_eq, not_or] at h
      simp only [List.cons_append, List.nil_append]
      rw [uacc, if_neg (by simp), if_neg h.2, ih]
      simp
theorem uacc_stuffed (b : List UInt8) : uacc [] false (stuff b) = some (b, false) := by
  have := uacc_stuff b [] []
  simpa [uacc] using this
theorem lohi (n : UInt16) : ((lo n).toUInt16 ||| ((hi n).toUInt16 <<< 8)) = n := by
  apply UInt16.toBitVec_inj.1
  apply BitVec.eq_of_getLsbD_eq
  intro i hi
  simp only [lo, Hd.hi, UInt16.toBitVec_or, BitVec.getLsbD_or, UInt16.toBitVec_shiftLeft, UInt8.toBitVec_toUInt16, UInt16.toBitVec_toUInt8, UInt16.toBitVec_shiftRight]
  simp
  by_cases h : i < 8
  · simp [h]
    omega
  · simp [h]
    rw [show 8 + (i - 8) = i from by omega]
    have : i - 8 < 8 := by omega
    simp [this, hi]
    intro; omega
theorem check2_tail (p : List UInt8) (n : UInt16) : check2 (p ++ tail2 n) = if 4096 < p.length then .error 20 else if fcs p = n then .ok p else .error 21 := by
  unfold check2
  have hl : (p ++ tail2 n).length = p.length + 2 := by simp [tail2]
  rw [hl]
  have h2 : p.length + 2 - 2 = p.length := by omega
  have h1 : p.length + 2 - 1 = p.length + 1 := by omega
  rw [h2, h1]
  have t : (p ++ tail2 n).take p.length = p := by simp
  have g0 : (p ++ tail2 n).getD p.length 0 = lo n := by simp [tail2]
  have g1 : (p ++ tail2 n).getD (p.length + 1) 0 = hi n := by simp [tail2]
  rw [t, g0, g1, lohi]
  by_cases h : 4096 < p.length
  · rw [if_pos (by omega), if_pos h]
  · rw [if_neg (by omega), if_neg h]
theorem opened_sealed (p : List UInt8) (n : UInt16) : opened (stuff (p ++ tail2 n)) = if 4096 < p.length then .error 20 else if fcs p = n then .ok p else .error 21 := by
  unfold opened
  rw [uacc_stuffed]
  exact check2_tail p n
theorem stuff_length (b : List UInt8) : b.length ≤ (stuff b).length ∧ (stuff b).length ≤ 2 * b.length := by
  induction b with
  | nil => simp [stuff]
  | cons x b ih =>
    simp only [stuff, List.length_append, List.length_cons]
    have : 1 ≤ (stuff1 x).length ∧ (stuff1 x).length ≤ 2 := by unfold stuff1; split <;> simp
    omega

/-! the scan: a machine over the bytes: none: no flag yet; some (c, at): the content since the flag at offset at -/
def scanGo (st : Option (List UInt8 × Nat)) (pos : Nat) : List UInt8 → List (List UInt8) × Nat
  | [] => ([], match st with | none => pos | some (_, at_) => at_)
  | x :: r =>
    if x = 0x7e then
      match st with
      | none => scanGo (some ([], pos)) (pos + 1) r
      | some (c, _) => match opened c with
        | .ok p => (p :: (scanGo (some ([], pos)) (pos + 1) r).1, (scanGo (some ([], pos)) (pos + 1) r).2)
        | .error _ => scanGo (some ([], pos)) (pos + 1) r
    else scanGo (st.map fun (c, a) => (c ++ [x], a)) (pos + 1) r
def scan (b : List UInt8) : List (List UInt8) × Nat := scanGo none 0 b

/-- the machine's own steps: what has come out, the state -/
def scanSt (st : Option (List UInt8 × Nat)) (pos : Nat) : List UInt8 → Option (List UInt8 × Nat)
  | [] => st
  | x :: r => scanSt (if x = 0x7e then some ([], pos) else st.map fun (c, a) => (c ++ [x], a)) (pos + 1) r
def outs (c : List UInt8) : List (List UInt8) := match opened c with | .ok p => [p] | .error _ => []
theorem scanGo_cons_flag_some (c : List UInt8) (a pos : Nat) (r : List UInt8) :
    scanGo (some (c, a)) pos (0x7e :: r) = (outs c ++ (scanGo (some ([], pos)) (pos + 1) r).1, (scanGo (some ([], pos)) (pos + 1) r).2) := by
  rw [scanGo, if_pos rfl]
  simp only [outs]
  cases opened c <;> simp
theorem scanGo_cons_flag_none (pos : Nat) (r : List UInt8) : scanGo none pos (0x7e :: r) = scanGo (some ([], pos)) (pos + 1) r := by
  rw [scanGo, if_pos rfl]
theorem scanGo_cons_other (st) (pos : Nat) (x : UInt8) (hx : x ≠ 0x7e) (r : List UInt8) : scanGo st pos (x :: r) = scanGo (st.map fun (c, a) => (c ++ [x], a)) (pos + 1) r := by
  cases st <;> simp [scanGo, hx]
theorem scanGo_append (a : List UInt8) : ∀ (st) (pos : Nat) (b : List UInt8), scanGo st pos (a ++ b) =
    ((scanGo st pos a).1 ++ (scanGo (scanSt st pos a) (pos + a.length) b).1, (scanGo (scanSt st pos a) (pos + a.length) b).2) := by
  induction a with
  | nil => intro st pos b; simp [scanGo, scanSt]
  | cons x a ih =>
    intro st pos b
    have hp : pos + (x :: a).length = pos + 1 + a.length := by simp; omega
    rw [hp, List.cons_append]
    by_cases hx : x = 0x7e
    · subst hx
      cases st with
      | none => rw [scanGo_cons_flag_none, scanGo_cons_flag_none, scanSt, if_pos rfl]; exact ih _ _ _
      | some s =>
        obtain ⟨c, o⟩ := s
        rw [scanGo_cons_flag_some, scanGo_cons_flag_some, scanSt, if_pos rfl, ih]
        simp
    · rw [scanGo_cons_other _ _ _ hx, scanGo_cons_other _ _ _ hx, scanSt, if_neg hx]
      exact ih _ _ _
theorem scanGo_noflag (c : List UInt8) (h : (0x7e : UInt8) ∉ c) : ∀ (st) (pos : Nat), scanGo st pos c = ([], match st with | none => pos + c.length | some (_, a) => a) ∧
    scanSt st pos c = st.map fun (d, a) => (d ++ c, a) := by
  induction c with
  | nil => intro st pos; cases st <;> simp [scanGo, scanSt]
  | cons x c ih =>
    intro st pos
    simp only [List.mem_cons, not_or] at h
    have hx : x ≠ 0x7e := fun e => h.1 e.symm
    have := ih h.2 (st.map fun (c, a) => (c ++ [x], a)) (pos + 1)
    rw [scanGo_cons_other _ _ _ hx, scanSt, if_neg hx, this.1, this.2]
    cases st <;> simp
    omega
/-- a content and its closing flag -/
theorem scanGo_content (c : List UInt8) (h : (0x7e : UInt8) ∉ c) (d : List UInt8) (a pos : Nat) (r : List UInt8) :
    scanGo (some (d, a)) pos (c ++ 0x7e :: r) = (outs (d ++ c) ++ (scanGo (some ([], pos + c.length)) (pos + c.length + 1) r).1, (scanGo (some ([], pos + c.length)) (pos + c.length + 1) r).2) := by
  rw [scanGo_append, (scanGo_noflag c h _ _).1, (scanGo_noflag c h _ _).2]
  simp only [Option.map_some, scanGo_cons_flag_some, List.nil_append]
/-- shifting the offsets -/
theorem scanGo_shift (k : Nat) (b : List UInt8) : ∀ (st : Option (List UInt8 × Nat)) (pos : Nat),
    scanGo (st.map fun (c, a) => (c, a + k)) (pos + k) b = ((scanGo st pos b).1, (scanGo st pos b).2 + k) := by
  induction b with
  | nil => intro st pos; cases st <;> simp [scanGo]
  | cons x b ih =>
    intro st pos
    by_cases hx : x = 0x7e
    · subst hx
      have h1 : pos + k + 1 = pos + 1 + k := by omega
      cases st with
      | none => simp only [Option.map_none, scanGo_cons_flag_none]; rw [h1]; exact ih (some ([], pos)) (pos + 1)
      | some s =>
        obtain ⟨c, o⟩ := s
        simp only [Option.map_some, scanGo_cons_flag_some]
        have := ih (some ([], pos)) (pos + 1)
        simp only [Option.map_some] at this
        rw [h1, this]
    · rw [scanGo_cons_other _ _ _ hx, scanGo_cons_other _ _ _ hx]
      have := ih (st.map fun (c, a) => (c ++ [x], a)) (pos + 1)
      rw [show pos + k + 1 = pos + 1 + k from by omega, ← this]
      cases st <;> simp
end Hd
