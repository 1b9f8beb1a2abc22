import Derived.Test.YtaoiklfkkipcaaaJPure
namespace Hd

/-- the records of the complete frames from an offset on, each with the offset behind its frame -/
def recsL : Nat → List UInt8 → Nat → List (Rc × Nat)
  | 0, _, _ => []
  | fuel + 1, l, k => if l.length ≤ k then [] else match decN l k with
    | .error _ => []
    | .ok (p, n) => match recE p 0 with
      | .error _ => []
      | .ok (r, e) => if e = (p.length : Int) then (r, n) :: recsL fuel l n else []
def recsP (l : List UInt8) : List (Rc × Nat) := recsL (l.length + 1) l 0
/-- the records of a part of the disk -/
def recsR (l : List UInt8) : List Rc := (recsP l).map (·.1)
def endOf (xs : List (Rc × Nat)) : Nat := match xs.getLast? with | none => 0 | some x => x.2
/-- how many bytes they take -/
def recsN (l : List UInt8) : Nat := endOf (recsP l)
theorem endOf_snoc (xs : List (Rc × Nat)) (x : Rc × Nat) : endOf (xs ++ [x]) = x.2 := by simp [endOf]
theorem recsL_end {fuel : Nat} {l : List UInt8} {k : Nat} (h : l.length ≤ k) : recsL fuel l k = [] := by
  cases fuel with
  | zero => rfl
  | succ f => unfold recsL; rw [if_pos h]
theorem recsL_bad {fuel : Nat} {l : List UInt8} {k e : Nat} (h : decN l k = .error e) : recsL fuel l k = [] := by
  cases fuel with
  | zero => rfl
  | succ f =>
    unfold recsL
    split
    · rfl
    · rw [h]
theorem recsL_rec {fuel : Nat} {l p : List UInt8} {k n e : Nat} (h : decN l k = .ok (p, n)) (h2 : recE p 0 = .error e) : recsL fuel l k = [] := by
  cases fuel with
  | zero => rfl
  | succ f =>
    unfold recsL
    split
    · rfl
    · rw [h]
      simp only [h2]
theorem recsL_tail {fuel : Nat} {l p : List UInt8} {k n : Nat} {r : Rc} {e : Int} (h : decN l k = .ok (p, n)) (h2 : recE p 0 = .ok (r, e)) (h3 : e ≠ (p.length : Int)) : recsL fuel l k = [] := by
  cases fuel with
  | zero => rfl
  | succ f =>
    unfold recsL
    split
    · rfl
    · rw [h]
      simp only [h2]
      rw [if_neg h3]
theorem recsL_step {fuel : Nat} {l p : List UInt8} {k n : Nat} {r : Rc} {e : Int} (hk : k < l.length) (h : decN l k = .ok (p, n)) (h2 : recE p 0 = .ok (r, e)) (h3 : e = (p.length : Int)) : recsL (fuel + 1) l k = (r, n) :: recsL fuel l n := by
  conv => lhs; unfold recsL
  rw [if_neg (by omega), h]
  simp only [h2]
  rw [if_pos h3]
theorem decN_next {l p : List UInt8} {k n : Nat} (h : decN l k = .ok (p, n)) : k < n ∧ n ≤ l.length := by
  unfold decN at h
  split at h
  · cases h
  · split at h
    · cases h
    · cases hx : idxFlag (l.drop (k + 1)) with
      | none => rw [hx] at h; cases h
      | some m =>
        rw [hx] at h
        have := idxFlag_some hx
        simp only at h
        split at h
        · simp only [Except.ok.injEq, Prod.mk.injEq] at h
          simp at this
          omega
        · cases h
theorem recE_err {l : List UInt8} {at_ : Int} {e : Nat} (h : recE l at_ = .error e) : e ≠ 0 := by
  unfold recE at h
  split at h
  · simp only [Except.error.injEq] at h
    rw [← h]
    assumption
  · cases h
theorem recsL_len : ∀ (fuel : Nat) (l : List UInt8) (k : Nat), (recsL fuel l k).length ≤ l.length - k
  | 0, _, _ => by simp [recsL]
  | fuel + 1, l, k => by
    unfold recsL
    split
    · simp
    · cases hd : decN l k with
      | error e => simp
      | ok x =>
        obtain ⟨p, n⟩ := x
        simp only
        cases hr : recE p 0 with
        | error e => simp
        | ok y =>
          obtain ⟨r, e⟩ := y
          simp only
          split
          · have := recsL_len fuel l n
            have := decN_next hd
            simp only [List.length_cons]
            omega
          · simp
end Hd
