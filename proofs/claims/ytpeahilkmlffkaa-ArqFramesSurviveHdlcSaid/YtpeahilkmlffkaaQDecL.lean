import Derived.Test.YtpeahilkmlffkaaQEnc
set_option linter.unusedSimpArgs false
set_option linter.unusedVariables false
namespace Go.Proofs.Ytpeahilkmlffkaa
open Go Go.RowKit Hd Go.Mem

/-- the head's first k numbers, and the offset behind them -/
def hdr (b : List UInt8) : Nat → Except Nat (List Nat × Nat)
  | 0 => .ok ([], 0)
  | k + 1 => match hdr b k with
    | .error e => .error e
    | .ok (hs, at_) => match uintE b (at_ : Int) with
      | .error e => .error e
      | .ok (v, n) => .ok (hs ++ [v], n)
def fbody (b : List UInt8) (h0 h1 h2 : Nat) (p : List UInt8) (n : Nat) : Except Nat Fr :=
  if 1 < h0 ∨ 16 ≤ max h1 h2 ∨ n ≠ b.length then .error 1
  else if okF ⟨decide (h0 = 1), h1, h2, p⟩ = true then .ok ⟨decide (h0 = 1), h1, h2, p⟩ else .error 1
/-- what Decode comes to -/
def fdec (b : List UInt8) : Except Nat Fr :=
  match hdr b 3 with
  | .error e => .error e
  | .ok (hs, n2) => if hs.getD 0 0 = 1 then match seqE b (n2 : Int) 256 with
      | .error e => .error e
      | .ok (p, n3) => fbody b (hs.getD 0 0) (hs.getD 1 0) (hs.getD 2 0) p n3
    else fbody b (hs.getD 0 0) (hs.getD 1 0) (hs.getD 2 0) [] n2
theorem uintE_inv {b : List UInt8} {a v n : Nat} (h : uintE b (a : Int) = .ok (v, n)) : ∃ r, b.drop a = enc v ++ r ∧ n = a + (enc v).length ∧ v < 2 ^ 64 ∧ a ≤ b.length ∧ n ≤ b.length := by
  unfold uintE at h
  split at h
  · cases h
  · rename_i hr
    have ha : a ≤ b.length := by omega
    rw [Int.toNat_natCast] at h
    cases h1 : uintGo (b.drop a) 0 0 with
    | error e => rw [h1] at h; cases h
    | ok q =>
      obtain ⟨V, m⟩ := q
      rw [h1] at h
      simp only [Except.ok.injEq, Prod.mk.injEq] at h
      obtain ⟨rfl, rfl⟩ := h
      obtain ⟨v', r, e1, e2, e3, e4, _⟩ := uintGo_inv _ 0 0 _ _ (by simp) h1
      have e5 : V = v' := by simpa using e2
      subst e5
      have hl := congrArg List.length e1
      simp at hl
      exact ⟨r, e1, by omega, e4, ha, by omega⟩
theorem seqE_inv {b : List UInt8} {a m n : Nat} {p : List UInt8} (h : seqE b (a : Int) m = .ok (p, n)) : ∃ r, b.drop a = encB p ++ r ∧ n = a + (encB p).length := by
  unfold seqE at h
  cases h1 : uintE b (a : Int) with
  | error e => rw [h1] at h; cases h
  | ok q =>
    obtain ⟨v, n1⟩ := q
    rw [h1] at h
    simp only at h
    split at h
    · cases h
    · split at h
      · cases h
      · rename_i hm hlen
        simp only [Except.ok.injEq, Prod.mk.injEq] at h
        obtain ⟨r, e1, e2, e3, e4, e5⟩ := uintE_inv h1
        have hr : r = b.drop n1 := by
          have := congrArg (List.drop (enc v).length) e1
          rw [List.drop_drop, List.drop_left] at this
          rw [← this, e2]
        have hp : p.length = v := by rw [← h.1]; simp; omega
        refine ⟨r.drop v, ?_, ?_⟩
        · unfold encB
          rw [e1, hp, List.append_assoc]
          congr 1
          rw [← h.1, ← hr]
          exact (List.take_append_drop v r).symm
        · have h9 := h.2
          unfold encB
          rw [List.length_append, hp]
          omega
/-- what Decode takes is an encoding -/
theorem fdec_inv {b : List UInt8} {f : Fr} (h : fdec b = .ok f) : okF f = true ∧ fencE f = b := by
  unfold fdec at h
  simp only [hdr] at h
  cases u0 : uintE b ((0 : Nat) : Int) with
  | error e => rw [u0] at h; cases h
  | ok q0 =>
    obtain ⟨h0, n0⟩ := q0
    rw [u0] at h
    simp only at h
    cases u1 : uintE b (n0 : Int) with
    | error e => rw [u1] at h; cases h
    | ok q1 =>
      obtain ⟨h1, n1⟩ := q1
      rw [u1] at h
      simp only at h
      cases u2 : uintE b (n1 : Int) with
      | error e => rw [u2] at h; cases h
      | ok q2 =>
        obtain ⟨h2, n2⟩ := q2
        rw [u2] at h
        simp only [List.nil_append, List.cons_append, List.getD_cons_zero, List.getD_cons_succ] at h
        obtain ⟨r0, e0, f0, _, _, _⟩ := uintE_inv u0
        obtain ⟨r1, e1, f1, _, _, _⟩ := uintE_inv u1
        obtain ⟨r2, e2, f2, _, _, l2⟩ := uintE_inv u2
        have g0 : b.drop n0 = r0 := by
          have := congrArg (List.drop (enc h0).length) e0
          rw [List.drop_drop, List.drop_left] at this
          rw [← this, f0]
        have g1 : b.drop n1 = r1 := by
          have := congrArg (List.drop (enc h1).length) e1
          rw [List.drop_drop, List.drop_left] at this
          rw [← this, f1]
        have g2 : b.drop n2 = r2 := by
          have := congrArg (List.drop (enc h2).length) e2
          rw [List.drop_drop, List.drop_left] at this
          rw [← this, f2]
        have hb : b = enc h0 ++ (enc h1 ++ (enc h2 ++ b.drop n2)) := by
          rw [g2, ← e2, g1, ← e1, g0, ← e0]; simp
        have hbody : ∀ p n, fbody b h0 h1 h2 p n = .ok f → n = b.length ∧ h0 ≤ 1 ∧ f = ⟨decide (h0 = 1), h1, h2, p⟩ ∧ okF f = true := by
          intro p n hf
          unfold fbody at hf
          split at hf
          · cases hf
          · rename_i hc
            split at hf
            · rename_i hok
              cases hf
              exact ⟨by omega, by omega, rfl, hok⟩
            · cases hf
        by_cases hd : h0 = 1
        · subst hd
          rw [if_pos rfl] at h
          cases us : seqE b (n2 : Int) 256 with
          | error e => rw [us] at h; cases h
          | ok q =>
            obtain ⟨p, n3⟩ := q
            rw [us] at h
            obtain ⟨k1, k2, rfl, k4⟩ := hbody _ _ h
            obtain ⟨r, s1, s2⟩ := seqE_inv us
            refine ⟨k4, ?_⟩
            have hr : r = [] := by
              have hl := congrArg List.length s1
              simp at hl
              exact List.eq_nil_of_length_eq_zero (by omega)
            rw [hr, List.append_nil] at s1
            rw [hb, s1]
            unfold fencE
            simp
        · rw [if_neg hd] at h
          obtain ⟨k1, k2, rfl, k4⟩ := hbody _ _ h
          refine ⟨k4, ?_⟩
          have h00 : h0 = 0 := by omega
          subst h00
          have hr : b.drop n2 = [] := by rw [k1]; simp
          rw [hb, hr]
          unfold fencE
          simp
end Go.Proofs.Ytpeahilkmlffkaa
