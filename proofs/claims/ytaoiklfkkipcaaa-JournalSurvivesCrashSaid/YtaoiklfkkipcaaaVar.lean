import Derived.Test.YtaoiklfkkipcaaaHdlc
namespace Hd

/-! the varints -/
def enc (v : Nat) : List UInt8 := if v < 128 then [UInt8.ofNat v] else UInt8.ofNat (v % 128 + 128) :: enc (v / 128)
termination_by v
decreasing_by omega
/-- what a round adds to what stands: the byte's low seven bits, moved -/
def vOr (acc k : Nat) (c : UInt8) : Nat := acc ||| ((c.toNat % 128) * 2 ^ (7 * k) % 2 ^ 64)
/-- Uint behind k bytes; errors: 10 truncated, 11 overflow, 12 encoding -/
def uintGo : List UInt8 → Nat → Nat → Except Nat (Nat × Nat)
  | l, k, acc => if 10 ≤ k then .error 11 else match l with
    | [] => .error 10
    | c :: r => if 128 ≤ c.toNat then uintGo r (k + 1) (vOr acc k c)
      else if k = 9 ∧ 1 < c.toNat then .error 11
      else if 0 < k ∧ c.toNat = 0 then .error 12
      else .ok (vOr acc k c, k + 1)
termination_by l => l.length
theorem enc_small {v : Nat} (h : v < 128) : enc v = [UInt8.ofNat v] := by unfold enc; rw [if_pos h]
theorem enc_big {v : Nat} (h : ¬ v < 128) : enc v = UInt8.ofNat (v % 128 + 128) :: enc (v / 128) := by rw [enc, if_neg h]
theorem enc_len_pos (v : Nat) : 1 ≤ (enc v).length := by
  unfold enc; split <;> simp
theorem enc_len : ∀ (n v : Nat), v < 128 ^ n → 1 ≤ n → (enc v).length ≤ n
  | 0, _, _, h => by omega
  | n + 1, v, hv, _ => by
    by_cases h : v < 128
    · rw [enc_small h]; simp
    · rw [enc_big h]
      have hn : n ≠ 0 := by
        intro e; subst e; simp at hv; omega
      have := enc_len n (v / 128) (by rw [Nat.div_lt_iff_lt_mul (by decide)]; rw [Nat.pow_succ] at hv; exact hv) (by omega)
      simp only [List.length_cons]
      omega
theorem enc_len64 {v : Nat} (h : v < 2 ^ 64) : (enc v).length ≤ 10 := enc_len 10 v (by omega) (by decide)
theorem or_add {a d m : Nat} (h : a < 2 ^ m) : a ||| (d * 2 ^ m) = a + d * 2 ^ m := by
  rw [Nat.or_comm, Nat.mul_comm, ← Nat.two_pow_add_eq_or_of_lt h]
  omega
theorem vOr_eq {acc k : Nat} {c : UInt8} (ha : acc < 2 ^ (7 * k)) (h : (c.toNat % 128) * 2 ^ (7 * k) < 2 ^ 64) : vOr acc k c = acc + (c.toNat % 128) * 2 ^ (7 * k) := by
  unfold vOr
  rw [Nat.mod_eq_of_lt h, or_add ha]
theorem p7 (k : Nat) : 2 ^ (7 * (k + 1)) = 128 * 2 ^ (7 * k) := by
  rw [show 7 * (k + 1) = 7 + 7 * k from by omega, Nat.pow_add]
theorem small_shift {d k : Nat} (hd : d < 128) (hk : k ≤ 8) : d * 2 ^ (7 * k) < 2 ^ 64 ∧ d * 2 ^ (7 * k) + 2 ^ (7 * k) ≤ 2 ^ (7 * (k + 1)) := by
  rw [p7]
  have h1 : 2 ^ (7 * k) ≤ 2 ^ 56 := Nat.pow_le_pow_right (by decide) (by omega)
  generalize 2 ^ (7 * k) = P at *
  have h2 : d * P ≤ 127 * P := Nat.mul_le_mul_right P (by omega)
  have h3 : (2 : Nat) ^ 56 = 72057594037927936 := by decide
  have h4 : (2 : Nat) ^ 64 = 18446744073709551616 := by decide
  omega
/-- decoding what was encoded -/
theorem uintGo_enc : ∀ (n v : Nat), v = n → ∀ (k acc : Nat) (r : List UInt8), acc < 2 ^ (7 * k) → k ≤ 9 → acc + v * 2 ^ (7 * k) < 2 ^ 64 → (0 < k → 0 < v) →
    uintGo (enc v ++ r) k acc = .ok (acc + v * 2 ^ (7 * k), k + (enc v).length) := by
  intro n
  induction n using Nat.strongRecOn with
  | _ n ih =>
    intro v hv k acc r ha hk hlt hpos
    by_cases h : v < 128
    · rw [enc_small h]
      have hc : (UInt8.ofNat v).toNat = v := by simp; omega
      have hm : v % 128 = v := Nat.mod_eq_of_lt h
      have h9 : ¬ (k = 9 ∧ 1 < v) := by
        rintro ⟨rfl, h1⟩
        have h2 : (2 : Nat) ^ (7 * 9) = 9223372036854775808 := by decide
        have h4 : (2 : Nat) ^ 64 = 18446744073709551616 := by decide
        rw [h2] at hlt
        omega
      simp only [List.cons_append, List.nil_append]
      rw [uintGo, if_neg (by omega)]
      simp only [hc]
      rw [if_neg (by omega), if_neg h9, if_neg (by omega), vOr_eq ha (by rw [hc, hm]; omega), hc, hm]
      simp
    · rw [enc_big h]
      have hc : (UInt8.ofNat (v % 128 + 128)).toNat = v % 128 + 128 := by simp; omega
      have hm : (v % 128 + 128) % 128 = v % 128 := by omega
      have hk8 : k ≤ 8 := by
        rcases Nat.lt_or_ge k 9 with h9 | h9
        · omega
        · have : k = 9 := by omega
          subst this
          have h2 : (2 : Nat) ^ (7 * 9) = 9223372036854775808 := by decide
          have h4 : (2 : Nat) ^ 64 = 18446744073709551616 := by decide
          rw [h2] at hlt
          omega
      obtain ⟨s1, s2⟩ := small_shift (d := v % 128) (by omega) hk8
      have hsum : v * 2 ^ (7 * k) = v % 128 * 2 ^ (7 * k) + v / 128 * 2 ^ (7 * (k + 1)) := by
        rw [p7]
        have := Nat.div_add_mod v 128
        conv => lhs; rw [← this]
        rw [Nat.add_mul]
        rw [← Nat.mul_assoc (v / 128), Nat.mul_comm (v / 128) 128]
        omega
      simp only [List.cons_append]
      rw [uintGo, if_neg (by omega)]
      simp only [hc]
      rw [if_pos (by omega), vOr_eq ha (by rw [hc, hm]; exact s1), hc, hm]
      rw [ih (v / 128) (by omega) (v / 128) rfl (k + 1) _ r (by omega) (by omega) (by omega) (by omega)]
      simp only [List.length_cons]
      congr 1
      rw [hsum]
      congr 1 <;> omega
theorem uintGo_enc0 {v : Nat} (h : v < 2 ^ 64) (r : List UInt8) : uintGo (enc v ++ r) 0 0 = .ok (v, (enc v).length) := by
  have := uintGo_enc v v rfl 0 0 r (by simp) (by omega) (by simpa using h) (by omega)
  simpa using this
/-- .. and back: what Uint takes is an encoding -/
theorem uintGo_inv : ∀ (l : List UInt8) (k acc V n : Nat), acc < 2 ^ (7 * k) → uintGo l k acc = .ok (V, n) →
    ∃ v r, l = enc v ++ r ∧ V = acc + v * 2 ^ (7 * k) ∧ n = k + (enc v).length ∧ V < 2 ^ 64 ∧ (0 < k → 0 < v) := by
  intro l
  induction l with
  | nil =>
    intro k acc V n _ h
    rw [uintGo] at h
    split at h <;> cases h
  | cons c r ih =>
    intro k acc V n ha h
    rw [uintGo] at h
    split at h
    · cases h
    · rename_i hk
      split at h
      · rename_i hc
        have hcl := c.toNat_lt
        rcases Nat.lt_or_ge k 9 with hk8 | hk9
        · obtain ⟨s1, s2⟩ := small_shift (d := c.toNat % 128) (k := k) (by omega) (by omega)
          rw [vOr_eq ha s1] at h
          obtain ⟨v, r', e1, e2, e3, e4, e5⟩ := ih (k + 1) _ V n (by omega) h
          have hv0 := e5 (by omega)
          have hv : (v * 128 + c.toNat % 128) / 128 = v := by omega
          have hvm : (v * 128 + c.toNat % 128) % 128 = c.toNat % 128 := by omega
          have henc : enc (v * 128 + c.toNat % 128) = c :: enc v := by
            rw [enc_big (by omega), hv, hvm]
            congr 1
            apply UInt8.toNat_inj.1
            simp
            omega
          refine ⟨v * 128 + c.toNat % 128, r', by rw [henc, e1]; rfl, ?_, by rw [henc, e3]; simp; omega, e4, by omega⟩
          rw [e2, p7, Nat.add_mul, Nat.mul_assoc]
          omega
        · have : k + 1 = 10 := by omega
          rw [this] at h
          cases r <;> rw [uintGo] at h <;> simp at h
      · rename_i hc
        split at h
        · cases h
        · rename_i h9
          split at h
          · cases h
          · rename_i h0
            have hm : c.toNat % 128 = c.toNat := Nat.mod_eq_of_lt (by omega)
            have hs : c.toNat % 128 * 2 ^ (7 * k) < 2 ^ 64 ∧ acc + c.toNat % 128 * 2 ^ (7 * k) < 2 ^ 64 := by
              rcases Nat.lt_or_ge k 9 with hk8 | hk9
              · obtain ⟨s1, s2⟩ := small_shift (d := c.toNat % 128) (k := k) (by omega) (by omega)
                have : 2 ^ (7 * (k + 1)) ≤ 2 ^ 64 := Nat.pow_le_pow_right (by decide) (by omega)
                omega
              · have : k = 9 := by omega
                subst this
                have h2 : (2 : Nat) ^ (7 * 9) = 9223372036854775808 := by decide
                have h4 : (2 : Nat) ^ 64 = 18446744073709551616 := by decide
                rw [h2] at ha ⊢
                rw [h4]
                omega
            rw [vOr_eq ha hs.1] at h
            simp only [Except.ok.injEq, Prod.mk.injEq] at h
            obtain ⟨rfl, rfl⟩ := h
            have he : enc c.toNat = [c] := by
              rw [enc_small (by omega)]
              congr 1
              exact UInt8.ofNat_toNat
            exact ⟨c.toNat, r, by rw [he]; rfl, by rw [hm], by rw [he]; rfl, hs.2, by omega⟩
/-- Uint at an offset -/
def uintE (l : List UInt8) (at_ : Int) : Except Nat (Nat × Nat) :=
  if at_ < 0 ∨ (l.length : Int) < at_ then .error 1 else match uintGo (l.drop at_.toNat) 0 0 with
    | .ok (v, n) => .ok (v, at_.toNat + n)
    | .error e => .error e
/-- a sequence at an offset, of at most m bytes: the bytes and the offset behind -/
def seqE (l : List UInt8) (at_ : Int) (m : Nat) : Except Nat (List UInt8 × Nat) :=
  match uintE l at_ with
  | .error e => .error e
  | .ok (n, next) => if m < n then .error 2 else if l.length - next < n then .error 10 else .ok ((l.drop next).take n, next + n)
def encB (p : List UInt8) : List UInt8 := enc p.length ++ p
theorem uintE_enc (a r : List UInt8) (v : Nat) (h : v < 2 ^ 64) : uintE (a ++ (enc v ++ r)) a.length = .ok (v, a.length + (enc v).length) := by
  unfold uintE
  rw [if_neg (by simp; omega)]
  simp only [Int.toNat_natCast, List.drop_left]
  rw [uintGo_enc0 h]
theorem seqE_enc (a p r : List UInt8) (m : Nat) (h : p.length < 2 ^ 64) (hm : p.length ≤ m) : seqE (a ++ (encB p ++ r)) a.length m = .ok (p, a.length + (encB p).length) := by
  unfold seqE encB
  rw [List.append_assoc, uintE_enc _ _ _ h]
  simp only
  have e : a ++ (enc p.length ++ (p ++ r)) = (a ++ enc p.length) ++ (p ++ r) := by simp
  rw [if_neg (by omega), if_neg (by simp; omega), e, ← List.length_append, List.drop_left]
  simp
  omega
end Hd
