import Derived.Test.YtaoiklfkkipcaaaJLaw
import Derived.Test.YtaoiklfkkipcaaaJAct2
namespace Hd

theorem idxFlag_take {a : List UInt8} {i j : Nat} (h : idxFlag a = some i) (hj : i < j) : idxFlag (a.take j) = some i := by
  have hi := idxFlag_some h
  cases hx : idxFlag (a.take j) with
  | some i' =>
    have h2 := idxFlag_mono hx (a.drop j)
    rw [List.take_append_drop, h] at h2
    rw [← h2]
  | none =>
    exfalso
    have h2 : idxFlag (a.take j ++ a.drop j) = some i := by rw [List.take_append_drop]; exact h
    unfold idxFlag at h2 hx
    rw [List.findIdx?_append, hx] at h2
    simp only [Option.none_or, Option.map_eq_some_iff] at h2
    obtain ⟨b, _, hb⟩ := h2
    simp only [List.length_take] at hb
    omega
theorem decN_take {l p : List UInt8} {k n m : Nat} (h : decN l k = .ok (p, n)) (hm : n ≤ m) : decN (l.take m) k = .ok (p, n) := by
  have hn := decN_next h
  unfold decN at h ⊢
  split at h
  · cases h
  · rename_i hk
    rw [if_neg (by simp; omega)]
    split at h
    · cases h
    · rename_i hx
      have e1 : (l.take m).getD k 0 = l.getD k 0 := by
        simp only [List.getD_eq_getElem?_getD]
        rw [List.getElem?_take_of_lt (by omega)]
      rw [e1, if_neg hx]
      have e2 : (l.take m).drop (k + 1) = (l.drop (k + 1)).take (m - (k + 1)) := by rw [List.drop_take]
      cases hf : idxFlag (l.drop (k + 1)) with
      | none => rw [hf] at h; cases h
      | some i =>
        rw [hf] at h
        have hi := idxFlag_some hf
        have hni : n = k + i + 2 := by
          simp only at h
          split at h
          · simp only [Except.ok.injEq, Prod.mk.injEq] at h; exact h.2.symm
          · cases h
        rw [e2, idxFlag_take hf (by omega)]
        simp only at h ⊢
        rw [List.take_take, Nat.min_eq_left (by omega)]
        exact h
theorem le_endAt {l : List UInt8} : ∀ {xs : List (Rc × Nat)} {k : Nat}, Run l k xs → k ≤ endAt k xs
  | [], k, _ => Nat.le_refl _
  | x :: xs, k, h => by
    obtain ⟨⟨p, h1, _⟩, h3⟩ := h
    have := decN_next h1
    have := le_endAt h3
    rw [endAt_cons]
    omega
theorem run_take {l : List UInt8} {m : Nat} : ∀ {xs : List (Rc × Nat)} {k : Nat}, Run l k xs → endAt k xs ≤ m → Run (l.take m) k xs
  | [], _, _, _ => trivial
  | x :: xs, k, h, he => by
    obtain ⟨⟨p, h1, h2⟩, h3⟩ := h
    rw [endAt_cons] at he
    have := le_endAt h3
    exact ⟨⟨p, decN_take h1 (by omega), h2⟩, run_take h3 he⟩
theorem run_prefix {l : List UInt8} : ∀ {xs : List (Rc × Nat)} {fuel k : Nat}, Run l k xs → l.length - k < fuel → xs <+: recsL fuel l k
  | [], _, _, _, _ => List.nil_prefix
  | x :: xs, fuel, k, h, hf => by
    obtain ⟨⟨p, h1, h2⟩, h3⟩ := h
    have hn := decN_next h1
    obtain ⟨f', rfl⟩ : ∃ f', fuel = f' + 1 := ⟨fuel - 1, by omega⟩
    rw [recsL_step (by omega) h1 h2 rfl]
    obtain ⟨t, ht⟩ := run_prefix h3 (show l.length - x.2 < f' by omega)
    exact ⟨t, by rw [← ht]; rfl⟩
theorem run_recsP (l : List UInt8) : Run l 0 (recsP l) := run_recsL _ _ _
theorem endAt_append (xs ys : List (Rc × Nat)) : ∀ k, endAt k (xs ++ ys) = endAt (endAt k xs) ys := by
  induction xs with
  | nil => intro k; rfl
  | cons x t ih => intro k; rw [List.cons_append, endAt_cons, endAt_cons, ih]
theorem run_tail {l : List UInt8} : ∀ {xs ys : List (Rc × Nat)} {k : Nat}, Run l k (xs ++ ys) → Run l (endAt k xs) ys
  | [], _, _, h => h
  | x :: xs, ys, k, h => by rw [endAt_cons]; exact run_tail h.2
/-- a part is cut behind its last record -/
theorem recs_cut (l : List UInt8) : recsP (l.take (recsN l)) = recsP l ∧ recsN (l.take (recsN l)) = (l.take (recsN l)).length := by
  have hle := recsN_le l
  have h1 := run_take (run_recsP l) (Nat.le_refl (endAt 0 (recsP l)))
  have h2 : recsP (l.take (recsN l)) = recsP l := run_full h1 (by rw [List.length_take]; show recsN l = _; omega) (by omega)
  refine ⟨h2, ?_⟩
  have h3 : recsN (l.take (recsN l)) = recsN l := by
    show endOf (recsP (l.take (recsN l))) = endOf (recsP l)
    rw [h2]
  rw [h3, List.length_take]
  omega
/-- a longer part has more records -/
theorem recs_more (v : List UInt8) {m m' : Nat} (h : m ≤ m') : recsP (v.take m) <+: recsP (v.take m') ∧ recsN (v.take m) ≤ recsN (v.take m') := by
  obtain ⟨t, ht⟩ : ∃ t, v.take m' = v.take m ++ t := ⟨(v.take m').drop m, by
    have := List.take_append_drop m (v.take m')
    rw [List.take_take, Nat.min_eq_left h] at this
    exact this.symm⟩
  have h1 : Run (v.take m') 0 (recsP (v.take m)) := by rw [ht]; exact run_mono t (run_recsP _)
  have h2 : recsP (v.take m) <+: recsP (v.take m') := run_prefix h1 (by omega)
  refine ⟨h2, ?_⟩
  obtain ⟨u, hu⟩ := h2
  have h3 := run_recsP (v.take m')
  rw [← hu] at h3
  have h4 := le_endAt (run_tail h3)
  show endAt 0 (recsP (v.take m)) ≤ endAt 0 (recsP (v.take m'))
  rw [← hu, endAt_append]
  exact h4
theorem cut_take (v : List UInt8) (m : Nat) : (v.take m).take (recsN (v.take m)) = v.take (recsN (v.take m)) := by
  have := recsN_le (v.take m)
  rw [List.length_take] at this
  rw [List.take_take, Nat.min_eq_left (by omega)]
end Hd
namespace Go.Proofs.Ytaoiklfkkipcaaa
open Hd
/-- what a crash leaves -/
theorem crash_law {d : Dk} {a b : List Rc} {keep more : Int} (h : readE d = .ok (a, b)) (hk : 0 ≤ keep) (hm : 0 ≤ more) :
    ∃ x z, crashE d keep = (⟨d.dur ++ x, []⟩, 0) ∧ crashE ⟨d.dur ++ x, []⟩ more = (⟨d.dur ++ x, []⟩, 0) ∧ crashE d (keep + more) = (⟨d.dur ++ z, []⟩, 0) ∧ syncE d = (⟨d.dur ++ d.vol, []⟩, 0) ∧ x <+: z ∧ z <+: d.vol := by
  obtain ⟨hab, rfl, rfl, hd, hv⟩ := readE_ok h
  obtain ⟨m, hm1⟩ : ∃ m, min keep.toNat d.vol.length = m := ⟨_, rfl⟩
  obtain ⟨m', hm2⟩ : ∃ m', min (keep + more).toNat d.vol.length = m' := ⟨_, rfl⟩
  have hmm : m ≤ m' := by omega
  have hml : m' ≤ d.vol.length := by omega
  have hx : (keptL d keep).take (recsN (keptL d keep)) = d.vol.take (recsN (d.vol.take m)) := by unfold keptL; rw [hm1, cut_take]
  have hz : (keptL d (keep + more)).take (recsN (keptL d (keep + more))) = d.vol.take (recsN (d.vol.take m')) := by unfold keptL; rw [hm2, cut_take]
  have hr1 := recs_more d.vol hmm
  have hc := recs_cut (d.vol.take m)
  rw [cut_take] at hc
  have hall := (recs_more d.vol (show m ≤ d.vol.length by omega)).1
  rw [List.take_length] at hall
  have hjn := recs_join hd hc.2
  have hcount : (recsR (d.vol.take (recsN (d.vol.take m)))).length ≤ (recsR d.vol).length := by
    unfold recsR
    rw [hc.1, List.length_map, List.length_map]
    exact hall.length_le
  have hread : readE ⟨d.dur ++ d.vol.take (recsN (d.vol.take m)), []⟩ = .ok (recsR d.dur ++ recsR (d.vol.take (recsN (d.vol.take m))), []) := by
    unfold readE
    simp only
    rw [hjn.2, hjn.1, recsR_nil]
    rw [if_neg (by simp [recsN_nil]), if_neg (by simp; omega)]
  refine ⟨d.vol.take (recsN (d.vol.take m)), d.vol.take (recsN (d.vol.take m')), ?_, ?_, ?_, ?_, ?_, List.take_prefix _ _⟩
  · unfold crashE
    rw [h]
    simp only
    rw [if_neg (by omega), hx]
  · unfold crashE
    rw [hread]
    simp only
    rw [if_neg (by omega)]
    simp [keptL]
  · unfold crashE
    rw [h]
    simp only
    rw [if_neg (by omega), hz]
  · unfold syncE
    rw [h]
  · exact List.take_prefix_take_left hr1.2
theorem crash_law2 {d : Dk} {a b : List Rc} {keep more : Int} (h : readE d = .ok (a, b)) (hk : 0 ≤ keep) (hm : 0 ≤ more) :
    ∃ X Z S, crashE d keep = (⟨X, []⟩, 0) ∧ crashE ⟨X, []⟩ more = (⟨X, []⟩, 0) ∧ crashE d (keep + more) = (⟨Z, []⟩, 0) ∧ syncE d = (⟨S, []⟩, 0) ∧ d.dur <+: X ∧ X <+: Z ∧ Z <+: S ∧ S.length = d.dur.length + d.vol.length := by
  obtain ⟨x, z, h1, h2, h3, h4, h5, h6⟩ := crash_law h hk hm
  exact ⟨_, _, _, h1, h2, h3, h4, List.prefix_append _ _, (List.prefix_append_right_inj _).2 h5, (List.prefix_append_right_inj _).2 h6, by simp⟩
end Go.Proofs.Ytaoiklfkkipcaaa
