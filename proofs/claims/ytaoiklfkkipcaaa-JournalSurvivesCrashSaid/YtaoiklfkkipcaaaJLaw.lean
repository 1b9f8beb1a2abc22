import Derived.Test.YtaoiklfkkipcaaaJPure2
namespace Hd

/-- a run of complete frames with records -/
def Run (l : List UInt8) : Nat → List (Rc × Nat) → Prop
  | _, [] => True
  | k, x :: xs => (∃ p, decN l k = .ok (p, x.2) ∧ recE p 0 = .ok (x.1, (p.length : Int))) ∧ Run l x.2 xs
def endAt (k : Nat) (xs : List (Rc × Nat)) : Nat := match xs.getLast? with | none => k | some x => x.2
theorem endAt_nil (k : Nat) : endAt k [] = k := rfl
theorem endAt_cons (k : Nat) (x : Rc × Nat) (xs : List (Rc × Nat)) : endAt k (x :: xs) = endAt x.2 xs := by
  unfold endAt
  cases xs with
  | nil => rfl
  | cons y t => simp [List.getLast?_cons]
theorem endOf_eq (xs : List (Rc × Nat)) : endOf xs = endAt 0 xs := rfl
theorem run_recsL : ∀ (fuel : Nat) (l : List UInt8) (k : Nat), Run l k (recsL fuel l k)
  | 0, _, _ => trivial
  | fuel + 1, l, k => by
    unfold recsL
    split
    · trivial
    · cases hd : decN l k with
      | error e => trivial
      | ok x =>
        obtain ⟨p, n⟩ := x
        simp only
        cases hr : recE p 0 with
        | error e => trivial
        | ok y =>
          obtain ⟨r, e⟩ := y
          simp only
          split
          · rename_i he
            exact ⟨⟨p, hd, by rw [hr, he]⟩, run_recsL fuel l n⟩
          · trivial
theorem run_append {l : List UInt8} : ∀ {xs ys : List (Rc × Nat)} {k : Nat}, Run l k xs → Run l (endAt k xs) ys → Run l k (xs ++ ys)
  | [], _, _, _, h => h
  | x :: xs, ys, k, h, h2 => ⟨h.1, run_append h.2 (by rw [endAt_cons] at h2; exact h2)⟩
theorem idxFlag_mono {a : List UInt8} {n : Nat} (h : idxFlag a = some n) (b : List UInt8) : idxFlag (a ++ b) = some n := by
  unfold idxFlag at h ⊢
  rw [List.findIdx?_append, h]
  rfl
theorem decN_mono {l p : List UInt8} {k n : Nat} (h : decN l k = .ok (p, n)) (b : List UInt8) : decN (l ++ b) k = .ok (p, n) := by
  unfold decN at h ⊢
  split at h
  · cases h
  · rename_i hk
    rw [if_neg (by simp; omega)]
    split at h
    · cases h
    · rename_i hx
      have e1 : (l ++ b).getD k 0 = l.getD k 0 := by
        simp only [List.getD_eq_getElem?_getD]
        rw [List.getElem?_append_left (by omega)]
      rw [e1, if_neg hx]
      have e2 : (l ++ b).drop (k + 1) = l.drop (k + 1) ++ b := List.drop_append_of_le_length (by omega)
      cases hf : idxFlag (l.drop (k + 1)) with
      | none => rw [hf] at h; cases h
      | some m =>
        rw [hf] at h
        have hm := idxFlag_some hf
        rw [e2, idxFlag_mono hf]
        simp only at h ⊢
        rw [List.take_append_of_le_length (by omega)]
        exact h
theorem run_mono {l : List UInt8} (b : List UInt8) : ∀ {xs : List (Rc × Nat)} {k : Nat}, Run l k xs → Run (l ++ b) k xs
  | [], _, _ => trivial
  | _ :: _, _, h => by
    obtain ⟨⟨p, h1, h2⟩, h3⟩ := h
    exact ⟨⟨p, decN_mono h1 b, h2⟩, run_mono b h3⟩
theorem run_full {l : List UInt8} : ∀ {xs : List (Rc × Nat)} {fuel k : Nat}, Run l k xs → endAt k xs = l.length → l.length - k < fuel → recsL fuel l k = xs
  | [], fuel, k, _, he, _ => recsL_end (by rw [endAt_nil] at he; omega)
  | x :: xs, fuel, k, h, he, hf => by
    obtain ⟨⟨p, h1, h2⟩, h3⟩ := h
    have hn := decN_next h1
    obtain ⟨f', rfl⟩ : ∃ f', fuel = f' + 1 := ⟨fuel - 1, by omega⟩
    rw [recsL_step (by omega) h1 h2 rfl, run_full h3 (by rw [endAt_cons] at he; exact he) (by omega)]
/-- one more frame -/
theorem run_frame (a b : List UInt8) (r : Rc) (hr : r.ok) (hp : r.payer.length ≤ 15) : Run (a ++ (frame (encRec r) ++ b)) a.length [(r, a.length + (frame (encRec r)).length)] := by
  have hl := encRec_len r hr (by omega)
  refine ⟨⟨encRec r, decode_frame_at a (encRec r) b (by omega), ?_⟩, trivial⟩
  have := recE_enc [] [] r hr hp
  simpa using this
theorem recsP_push {l : List UInt8} {r : Rc} (h : recsN l = l.length) (hr : r.ok) (hp : r.payer.length ≤ 15) : recsP (l ++ frame (encRec r)) = recsP l ++ [(r, l.length + (frame (encRec r)).length)] := by
  have h1 : Run l 0 (recsP l) := run_recsL _ _ _
  have h2 := run_frame l [] r hr hp
  rw [List.append_nil] at h2
  have he : endAt 0 (recsP l) = l.length := h
  refine run_full (run_append (run_mono _ h1) (by rw [he]; exact h2)) ?_ (by omega)
  unfold endAt
  simp
theorem recsR_push {l : List UInt8} {r : Rc} (h : recsN l = l.length) (hr : r.ok) (hp : r.payer.length ≤ 15) : recsR (l ++ frame (encRec r)) = recsR l ++ [r] ∧ recsN (l ++ frame (encRec r)) = (l ++ frame (encRec r)).length := by
  unfold recsR recsN
  rw [recsP_push h hr hp]
  simp [endOf]
theorem recsN_nil : recsN [] = 0 := rfl
theorem recsR_nil : recsR [] = [] := rfl
/-- two complete parts, one behind the other -/
theorem decN_shift {l : List UInt8} (a : List UInt8) (k : Nat) : decN (a ++ l) (a.length + k) = match decN l k with | .ok (p, n) => .ok (p, a.length + n) | .error e => .error e := by
  unfold decN
  by_cases h : l.length ≤ k
  · rw [if_pos h, if_pos (by simp; omega)]
  · rw [if_neg h, if_neg (by simp; omega)]
    have e1 : (a ++ l).getD (a.length + k) 0 = l.getD k 0 := by
      simp only [List.getD_eq_getElem?_getD]
      rw [List.getElem?_append_right (by omega)]
      simp
    rw [e1]
    by_cases hx : l.getD k 0 ≠ 0x7e
    · rw [if_pos hx, if_pos hx]
    · rw [if_neg hx, if_neg hx]
      have e2 : (a ++ l).drop (a.length + k + 1) = l.drop (k + 1) := by
        rw [Nat.add_assoc, List.drop_append]
        simp
      rw [e2]
      cases idxFlag (l.drop (k + 1)) with
      | none => rfl
      | some m =>
        simp only
        cases opened ((l.drop (k + 1)).take m) with
        | ok p => simp only [Except.ok.injEq, Prod.mk.injEq, true_and]; omega
        | error e => rfl
theorem run_shift (a : List UInt8) {l : List UInt8} : ∀ {xs : List (Rc × Nat)} {k : Nat}, Run l k xs → Run (a ++ l) (a.length + k) (xs.map fun x => (x.1, a.length + x.2))
  | [], _, _ => trivial
  | x :: xs, k, h => by
    obtain ⟨⟨p, h1, h2⟩, h3⟩ := h
    exact ⟨⟨p, by rw [decN_shift, h1], h2⟩, run_shift a h3⟩
theorem endAt_shift (a : Nat) (k : Nat) : ∀ (xs : List (Rc × Nat)), endAt (a + k) (xs.map fun x => (x.1, a + x.2)) = a + endAt k xs := by
  intro xs
  unfold endAt
  rw [List.getLast?_map]
  cases xs.getLast? <;> rfl
theorem recs_join {a b : List UInt8} (ha : recsN a = a.length) (hb : recsN b = b.length) : recsR (a ++ b) = recsR a ++ recsR b ∧ recsN (a ++ b) = (a ++ b).length := by
  have h1 : Run a 0 (recsP a) := run_recsL _ _ _
  have h2 : Run b 0 (recsP b) := run_recsL _ _ _
  have h3 := run_shift a h2
  have hea : endAt 0 (recsP a) = a.length := ha
  have heb : endAt 0 (recsP b) = b.length := hb
  have h4 : Run (a ++ b) 0 (recsP a ++ (recsP b).map fun x => (x.1, a.length + x.2)) := run_append (run_mono _ h1) (by rw [hea]; exact h3)
  have hend : endAt 0 (recsP a ++ (recsP b).map fun x => (x.1, a.length + x.2)) = (a ++ b).length := by
    have e1 : ∀ (xs ys : List (Rc × Nat)) (k : Nat), endAt k (xs ++ ys) = endAt (endAt k xs) ys := by
      intro xs ys
      induction xs with
      | nil => intro k; rfl
      | cons x t ih => intro k; rw [List.cons_append, endAt_cons, endAt_cons, ih]
    rw [e1, hea]
    have e2 := endAt_shift a.length 0 (recsP b)
    rw [Nat.add_zero] at e2
    rw [e2, heb, List.length_append]
  have h5 : recsP (a ++ b) = recsP a ++ (recsP b).map fun x => (x.1, a.length + x.2) := run_full h4 hend (by omega)
  refine ⟨?_, ?_⟩
  · unfold recsR
    rw [h5]
    simp
  · unfold recsN
    rw [h5, endOf_eq]
    exact hend
end Hd
