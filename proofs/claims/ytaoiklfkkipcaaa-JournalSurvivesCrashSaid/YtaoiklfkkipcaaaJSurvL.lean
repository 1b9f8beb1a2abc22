import Derived.Test.YtaoiklfkkipcaaaJLaw3
import Derived.Test.YtaoiklfkkipcaaaJAct2
set_option linter.unusedSimpArgs false
set_option linter.unusedVariables false
namespace Go.Proofs.Ytaoiklfkkipcaaa
open Go Go.RowKit Hd Go.Mem

/-- the written disk, all records on it -/
theorem wdisk_all {rs : List Rc} {safe : Int} (h0 : 0 ≤ safe) (hs : safe ≤ (rs.length : Int)) : wdisk rs safe rs.length = ⟨framesR (rs.take safe.toNat), framesR (rs.drop safe.toNat)⟩ := by
  unfold wdisk
  rw [List.take_length]
  by_cases h1 : 1 ≤ safe
  · rw [if_pos ⟨h1, hs⟩]
  · rw [if_neg (by omega), show safe.toNat = 0 by omega]
    rfl
/-- what Read, Crash and Read again tell of the written disk -/
theorem surv_law {rs : List Rc} {safe keep : Int} (hg : goodR rs) (hn : rs.length ≤ 10) (h0 : 0 ≤ safe) (hs : safe ≤ (rs.length : Int)) (hk : 0 ≤ keep) :
    ∃ a b X cr, readE (wdisk rs safe rs.length) = .ok (a, b) ∧ a ++ b = rs ∧ (a.length : Int) = safe ∧ crashE (wdisk rs safe rs.length) keep = (⟨X, []⟩, 0) ∧ readE ⟨X, []⟩ = .ok (cr, []) ∧ cr = rs.take cr.length ∧ safe ≤ (cr.length : Int) ∧ cr.length ≤ rs.length ∧ (((wdisk rs safe rs.length).vol.length : Int) ≤ keep → cr.length = rs.length) ∧ X.length ≤ 100000 := by
  rw [wdisk_all h0 hs]
  have hga := hg.take safe.toNat
  have hgb := hg.drop safe.toNat
  have hl1 : (rs.take safe.toNat).length = safe.toNat := by simp; omega
  have hl2 : (rs.drop safe.toNat).length = rs.length - safe.toNat := by simp
  have hrd := frames_read hga hgb (by omega)
  have hf1 := recs_frames _ hga
  have hf2 := recs_frames _ hgb
  have hn1 := framesR_len _ hga
  have hn2 := framesR_len _ hgb
  have hab : rs.take safe.toNat ++ rs.drop safe.toNat = rs := List.take_append_drop _ _
  obtain ⟨D, hD⟩ : ∃ D, framesR (rs.take safe.toNat) = D := ⟨_, rfl⟩
  obtain ⟨V, hV⟩ : ∃ V, framesR (rs.drop safe.toNat) = V := ⟨_, rfl⟩
  rw [hD, hV] at hrd ⊢
  rw [hD] at hf1 hn1
  rw [hV] at hf2 hn2
  obtain ⟨m, hm1⟩ : ∃ m, min keep.toNat V.length = m := ⟨_, rfl⟩
  have hml : m ≤ V.length := by omega
  have hkp : keptL ⟨D, V⟩ keep = V.take m := by unfold keptL; rw [hm1]
  have hc := recs_cut (V.take m)
  rw [cut_take] at hc
  have hall := (recs_more V hml).1
  rw [List.take_length] at hall
  have hjn := recs_join hf1.2 hc.2
  have hpre : recsR (V.take (recsN (V.take m))) <+: rs.drop safe.toNat := by
    rw [← hf2.1]
    unfold recsR
    rw [hc.1]
    exact hall.map _
  obtain ⟨t, ht⟩ := hpre
  have hlen : (recsR (V.take (recsN (V.take m)))).length + t.length = rs.length - safe.toNat := by rw [← hl2, ← ht, List.length_append]
  have hread : readE ⟨D ++ V.take (recsN (V.take m)), []⟩ = .ok (rs.take safe.toNat ++ recsR (V.take (recsN (V.take m))), []) := by
    unfold readE
    simp only
    rw [hjn.2, hjn.1, recsR_nil, hf1.1]
    rw [if_neg (by simp [recsN_nil]), if_neg (by simp; omega)]
  refine ⟨rs.take safe.toNat, rs.drop safe.toNat, D ++ V.take (recsN (V.take m)), rs.take safe.toNat ++ recsR (V.take (recsN (V.take m))), hrd, hab, by omega, ?_, hread, ?_, by simp; omega, by simp; omega, ?_, by simp; omega⟩
  · unfold crashE
    rw [hrd]
    simp only
    rw [if_neg (by omega), hkp, cut_take]
  · refine List.prefix_iff_eq_take.1 ⟨t, ?_⟩
    rw [List.append_assoc, ht, hab]
  · intro hv
    simp only at hv
    have hm2 : m = V.length := by omega
    subst hm2
    rw [List.take_length, hf2.2, List.take_length, hf2.1]
    simp
end Go.Proofs.Ytaoiklfkkipcaaa
